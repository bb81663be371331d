/- A part of the proof: contracts of the program's functions. Conditions: none. -/
import Derived.Carry
import Derived.Deep.MidRow
import Derived.Deep.Quiet
import Derived.Laws.IdiomRangeMap
import Derived.Laws.MakeOwn
import Derived.Laws.StructEq
import Derived.Laws.Tables
import Derived.Lib.AppendStr
import Derived.Lib.AppendZerosOnto
import Derived.Lib.OthersKept
import Derived.Lib.Overlaps
import Derived.Lib.OwnBridge
import Derived.Lib.SlicesCompact
import Derived.MapKept
import Derived.Orders
import Derived.OrdersHeld
import Derived.Scope
import Derived.SliceStrings
import Derived.Sort.Grow
import Derived.StillTail
import Derived.Test.YtgfdoognildoeaaGreatProg
import Derived.Test.YtgfdoognildoeaaGreatShelf
import Derived.WalkKit
import Derived.WalkLawsBesides
import Derived.WalkSpells
import Derived.Test.YtgfdoognildoeaaGreatMB1
import Derived.Test.YtgfdoognildoeaaGreatMB2
import Derived.Test.YtgfdoognildoeaaGreatMB3
import Derived.Test.YtgfdoognildoeaaGreatMB4
import Derived.Test.YtgfdoognildoeaaGreatMB5
import Derived.Test.YtgfdoognildoeaaGreatMB6
import Derived.Test.YtgfdoognildoeaaGreatMB7
import Derived.Test.YtgfdoognildoeaaGreatMB8
import Derived.Test.YtgfdoognildoeaaGreatMB9
import Derived.Test.YtgfdoognildoeaaGreatMB10
import Derived.Test.YtgfdoognildoeaaGreatMB11
import Derived.Test.YtgfdoognildoeaaGreatMB12
import Derived.Test.YtgfdoognildoeaaGreatMB13
import Derived.Test.YtgfdoognildoeaaGreatMB14
import Derived.Test.YtgfdoognildoeaaGreatMB15
set_option linter.unusedVariables false
set_option linter.unusedSectionVars false
set_option linter.unusedSimpArgs false
set_option maxRecDepth 100000
set_option maxHeartbeats 4000000
namespace Go.Proofs.YtgfdoognildoeaaGreat
open Go.GX Go.RowKit
attribute [local irreducible] Calls Run RunL RunQ RunD HR HL HD blkC ownC mapC Rd slicesC iterC
open Nd
theorem fn17 : IsFn Tryz.prog 17 := ⟨⟨_, _, Tryz.func17, rfl, by decide⟩⟩
theorem fn52 : IsFn Tryz.prog 52 := ⟨⟨_, _, Tryz.func52, rfl, by decide⟩⟩
theorem fn20 : IsFn Tryz.prog 20 := ⟨⟨_, _, Tryz.func20, rfl, by decide⟩⟩
theorem path_bad {l : List Nd} {src to : Int} {p : List Int} {e : Int} (h : Me.follow l src to = (p, e)) (he : e ≠ 0) : Me.path l src to = ([], false) := by rw [Me.path_of h, if_neg he]
theorem path_ok {l : List Nd} {src to : Int} {p : List Int} (h : Me.follow l src to = (p, 0)) : Me.path l src to = (p, true) := by rw [Me.path_of h, if_pos rfl]
theorem mpath_any (xs : List (NV × Nd)) (t src to : Int) (v : Value) (w : World) (h : OkL w v xs) (hg : ∀ x ∈ xs, SmN x.2) (hl : xs.length ≤ 1000) :
  Calls Tryz.prog 17 #[meV t v, .int .i64 src, .int .i64 to] w fun e w' => ∃ v', e = .returned (.tuple ⟨[v', .bool (Me.path (nds xs) src to).2]⟩) ∧ Sat (base w) [ownC v' 3 1 (Me.path (nds xs) src to).1.length (cellsOf iC (Me.path (nds xs) src to).1)] w' := by
 have cx : (cellsOf ndE2 xs).length = xs.length * 13 := cellsOf_len ndE2_len _
 refine calls_hr Tryz.func17 I (Nat.le_of_ble_eq_true I) ?_
 refine HR.sub (σ' := [(0, meV t v), (1, .int .i64 src), (2, .int .i64 to)]) ⟨I, I, I, trivial⟩ ?_
 refine HR.ctl I ?_
 refine HR.region ?_
 refine HL.box I I ?_
 intro b3
 repeat' (first | refine zh ?_ | intro (bk : Nat))
 refine HR.nilC 3 1 ?_
 refine HR.loop (ι := Nat × List Int × Int × Value) (fun x => Me.Fol (nds xs) src to x.1 x.2.1 x.2.2.1) (fun x => [(2, .int .i64 to), (3, ptr b3), (8, x.2.2.2), (9, .int .i64 x.2.2.1)]) (fun x => [ownC x.2.2.2 3 1 x.2.1.length (cellsOf iC x.2.1), meB b3 t v]) (fun x => x.1) ((nds xs).length + 2, [], src, .slice none 0 0) (Me.Fol.start _ _ _) ⟨I, I, I, I, trivial⟩ Ent.refl ?_
 rintro ⟨k, p, now, vp⟩ hF ih
 have hF : Me.Fol (nds xs) src to k p now := hF
 have hpl : p.length ≤ 1000 := by have := hF.le; rw [nds_len] at this; omega
 obtain ⟨k', hk'⟩ := hF.pos
 repeat' (first | refine zh ?_ | intro (bk : Nat))
 rcases idxV_cases xs now with ⟨e1, e2⟩ | ⟨i, ⟨V, n⟩, e1, e2, hx, hxa⟩
 ·rw [path_bad (hF.none e2) (by decide)]
  refine HL.callB (r := .int .i64 (-1)) fn34 I I (fun w1 hw1 => by rw [← e1]; exact mindex_any xs now v w1 (h.s.ext hw1.belowB) (by omega)) ?_
  repeat' (first | refine zh ?_ | intro (bk : Nat))
  refine HR.ret Tryz.func17 I [_, _] (fun _ _ => ⟨I, I, trivial⟩) ?_
  exact fun w' hw => ⟨.slice none 0 0, rfl, Sat.nilC (hw.pick [] I I) 3 1⟩
 have hil : i < xs.length := (List.getElem?_eq_some_iff.1 hx).1
 have hxm := List.mem_of_getElem? hx
 have hok : OkN w V n := h.r _ hxm
 have hsn : SmN n := hg _ hxm
 have hnt : Me.nth (nds xs) i = n := nds_nth hx
 refine HL.callB (r := .int .i64 (i : Int)) fn34 I I (fun w1 hw1 => by rw [← e1]; exact mindex_any xs now v w1 (h.s.ext hw1.belowB) (by omega)) ?_
 repeat' (first | refine zh ?_ | refine HL.callB fn49 I I (fun w1 hw1 => contI_any p now vp w1 ((Rd.own 0 rfl).at hw1) (by omega)) ?_ | intro (bk : Nat))
 refine HR.cond I (fun h2 => ?_) (fun h2 => ?_)
 ·have h2 : now ∈ p := of_decide_eq_true h2
  rw [path_bad (hF.again e2 h2) (by decide)]
  repeat' (first | refine zh ?_ | intro (bk : Nat))
  refine HR.ret Tryz.func17 I [_, _] (fun _ _ => ⟨I, I, trivial⟩) ?_
  exact fun w' hw => ⟨.slice none 0 0, rfl, Sat.nilC (hw.pick [] I I) 3 1⟩
 have h2 : now ∉ p := of_decide_eq_false h2
 repeat' (first | refine zh ?_ | intro (bk : Nat))
 refine HL.bslice elemI I I I I I (by decide) (by decide) ?_
 intro va
 refine HL.appR 1 I elemI (Rd.own 0 I) I I I I (allOne_spec I) (by show (p.length + 1) * 8 ≤ _; omega) (by show p.length + 1 ≤ _; omega) ?_
 intro vc
 refine HL.ent (H' := [ownC vc 3 1 (p ++ [now]).length (cellsOf iC (p ++ [now])), meB b3 t v]) (Ent.trans (Ent.pick [1, 2] I I) (Ent.own0 (by simp) (by rw [cellsOf_app]; rfl))) ?_
 repeat' (first | refine zh ?_ | intro (bk : Nat))
 refine HR.cond I (fun h3 => ?_) (fun h3 => ?_)
 ·have h3 : now = to := eq_of_beq h3
  rw [path_ok (hF.done e2 h2 h3)]
  repeat' (first | refine zh ?_ | intro (bk : Nat))
  refine HR.ret Tryz.func17 I [_, _] (fun _ _ => ⟨I, I, trivial⟩) ?_
  exact fun w' hw => ⟨vc, rfl, hw.pick [0] I rfl⟩
 have h3 : now ≠ to := by have h3 : (now == to) = false := h3; simpa using h3
 repeat' (first | refine zh ?_ | refine HL.idxR (Rd.arg h.s) elemNd i I I I I hil ?_ | refine HL.fieldN 3 (Rd.arg h.s) (by rw [cx]; omega) I I I I I I I ?_ | refine HL.loadI (Rd.arg h.s) I I I I (cells_get ndE2_len hx (i := 3) I) ?_ | refine HL.callB fn50 I I (fun w1 hw1 => rhop_any n.table to _ w1 (hok.ta.ext hw1.belowB) hsn.ta) ?_ | intro (bk : Nat))
 refine HR.cond I (fun h4 => ?_) (fun h4 => ?_)
 ·have h4 : (rhop n.table to).2 = false := by have h4 : (!(rhop n.table to).2) = true := h4; simpa using h4
  rw [path_bad (hF.stop e2 h2 h3 (by rw [hnt]; exact h4)) (by decide)]
  repeat' (first | refine zh ?_ | intro (bk : Nat))
  refine HR.ret Tryz.func17 I [_, _] (fun _ _ => ⟨I, I, trivial⟩) ?_
  exact fun w' hw => ⟨.slice none 0 0, rfl, Sat.nilC (hw.pick [] I I) 3 1⟩
 have h4 : (rhop n.table to).2 = true := by have h4 : (!(rhop n.table to).2) = false := h4; simpa using h4
 have hstep := hF.step e2 h2 h3 (by rw [hnt]; exact h4)
 rw [hnt] at hstep
 repeat' (first | refine zh ?_ | intro (bk : Nat))
 exact ih (k - 1, p ++ [now], (rhop n.table to).1, vc) _ _ hstep (by show k - 1 < k; omega) ⟨I, I, I, I, trivial⟩ Ent.refl
theorem mreturns_any (xs : List (NV × Nd)) (t src to : Int) (v : Value) (w : World) (h : OkL w v xs) (hg : ∀ x ∈ xs, SmN x.2) (hl : xs.length ≤ 1000) :
  Calls Tryz.prog 52 #[meV t v, .int .i64 src, .int .i64 to] w fun e w' => e = .returned (.bool ((Me.follow (nds xs) src to).2 == 2)) ∧ Below w.heap.size w w' := by
 have cx : (cellsOf ndE2 xs).length = xs.length * 13 := cellsOf_len ndE2_len _
 have no2 : ∀ {p : List Int} {e : Int}, Me.follow (nds xs) src to = (p, e) → e ≠ 2 → ((Me.follow (nds xs) src to).2 == 2) = false := fun h1 h2 => by rw [h1]; simpa using h2
 refine calls_hr Tryz.func52 I (Nat.le_of_ble_eq_true I) ?_
 refine HR.sub (σ' := [(0, meV t v), (1, .int .i64 src), (2, .int .i64 to)]) ⟨I, I, I, trivial⟩ ?_
 refine HR.ctl I ?_
 refine HR.region ?_
 refine HL.box I I ?_
 intro b3
 repeat' (first | refine zh ?_ | intro (bk : Nat))
 refine HR.nilC 3 1 ?_
 refine HR.loop (ι := Nat × List Int × Int × Value) (fun x => Me.Fol (nds xs) src to x.1 x.2.1 x.2.2.1) (fun x => [(2, .int .i64 to), (3, ptr b3), (7, x.2.2.2), (8, .int .i64 x.2.2.1)]) (fun x => [ownC x.2.2.2 3 1 x.2.1.length (cellsOf iC x.2.1), meB b3 t v]) (fun x => x.1) ((nds xs).length + 2, [], src, .slice none 0 0) (Me.Fol.start _ _ _) ⟨I, I, I, I, trivial⟩ Ent.refl ?_
 rintro ⟨k, p, now, vp⟩ hF ih
 have hF : Me.Fol (nds xs) src to k p now := hF
 have hpl : p.length ≤ 1000 := by have := hF.le; rw [nds_len] at this; omega
 obtain ⟨k', hk'⟩ := hF.pos
 repeat' (first | refine zh ?_ | intro (bk : Nat))
 refine HR.cond I (fun h3 => ?_) (fun h3 => ?_)
 rotate_left
 ·have h3 : now = to := by have h3 : (now != to) = false := h3; simpa using h3
  have e : ((Me.follow (nds xs) src to).2 == 2) = false := by have := hF.at_end h3; simpa using this
  rw [e]
  repeat' (first | refine zh ?_ | intro (bk : Nat))
  refine HR.ret Tryz.func52 I [_] (fun _ _ => ⟨I, trivial⟩) ?_
  exact fun w' hw => ⟨rfl, hw.belowB⟩
 have h3 : now ≠ to := by have h3 : (now != to) = true := h3; simpa using h3
 repeat' (first | refine zh ?_ | refine HL.callB fn49 I I (fun w1 hw1 => contI_any p now vp w1 ((Rd.own 0 rfl).at hw1) (by omega)) ?_ | intro (bk : Nat))
 refine HR.cond I (fun h2 => ?_) (fun h2 => ?_)
 ·have h2 : now ∈ p := of_decide_eq_true h2
  have e : ((Me.follow (nds xs) src to).2 == 2) = true := by rw [hF.two h2]; rfl
  rw [e]
  repeat' (first | refine zh ?_ | intro (bk : Nat))
  refine HR.ret Tryz.func52 I [_] (fun _ _ => ⟨I, trivial⟩) ?_
  exact fun w' hw => ⟨rfl, hw.belowB⟩
 have h2 : now ∉ p := of_decide_eq_false h2
 repeat' (first | refine zh ?_ | intro (bk : Nat))
 refine HL.bslice elemI I I I I I (by decide) (by decide) ?_
 intro va
 refine HL.appR 1 I elemI (Rd.own 0 I) I I I I (allOne_spec I) (by show (p.length + 1) * 8 ≤ _; omega) (by show p.length + 1 ≤ _; omega) ?_
 intro vc
 refine HL.ent (H' := [ownC vc 3 1 (p ++ [now]).length (cellsOf iC (p ++ [now])), meB b3 t v]) (Ent.trans (Ent.pick [1, 2] I I) (Ent.own0 (by simp) (by rw [cellsOf_app]; rfl))) ?_
 repeat' (first | refine zh ?_ | intro (bk : Nat))
 rcases idxV_cases xs now with ⟨e1, e2⟩ | ⟨i, ⟨V, n⟩, e1, e2, hx, hxa⟩
 ·rw [no2 (hF.none e2) (by decide)]
  refine HL.callB (r := .int .i64 (-1)) fn34 I I (fun w1 hw1 => by rw [← e1]; exact mindex_any xs now v w1 (h.s.ext hw1.belowB) (by omega)) ?_
  repeat' (first | refine zh ?_ | intro (bk : Nat))
  refine HR.ret Tryz.func52 I [_] (fun _ _ => ⟨I, trivial⟩) ?_
  exact fun w' hw => ⟨rfl, hw.belowB⟩
 have hil : i < xs.length := (List.getElem?_eq_some_iff.1 hx).1
 have hxm := List.mem_of_getElem? hx
 have hok : OkN w V n := h.r _ hxm
 have hsn : SmN n := hg _ hxm
 have hnt : Me.nth (nds xs) i = n := nds_nth hx
 refine HL.callB (r := .int .i64 (i : Int)) fn34 I I (fun w1 hw1 => by rw [← e1]; exact mindex_any xs now v w1 (h.s.ext hw1.belowB) (by omega)) ?_
 repeat' (first | refine zh ?_ | refine HL.idxR (Rd.arg h.s) elemNd i I I I I hil ?_ | refine HL.fieldN 3 (Rd.arg h.s) (by rw [cx]; omega) I I I I I I I ?_ | refine HL.loadI (Rd.arg h.s) I I I I (cells_get ndE2_len hx (i := 3) I) ?_ | refine HL.callB fn50 I I (fun w1 hw1 => rhop_any n.table to _ w1 (hok.ta.ext hw1.belowB) hsn.ta) ?_ | intro (bk : Nat))
 refine HR.cond I (fun h4 => ?_) (fun h4 => ?_)
 ·have h4 : (rhop n.table to).2 = false := by have h4 : (!(rhop n.table to).2) = true := h4; simpa using h4
  rw [no2 (hF.stop e2 h2 h3 (by rw [hnt]; exact h4)) (by decide)]
  repeat' (first | refine zh ?_ | intro (bk : Nat))
  refine HR.ret Tryz.func52 I [_] (fun _ _ => ⟨I, trivial⟩) ?_
  exact fun w' hw => ⟨rfl, hw.belowB⟩
 have h4 : (rhop n.table to).2 = true := by have h4 : (!(rhop n.table to).2) = false := h4; simpa using h4
 have hstep := hF.step e2 h2 h3 (by rw [hnt]; exact h4)
 rw [hnt] at hstep
 repeat' (first | refine zh ?_ | intro (bk : Nat))
 exact ih (k - 1, p ++ [now], (rhop n.table to).1, vc) _ _ hstep (by show k - 1 < k; omega) ⟨I, I, I, I, trivial⟩ Ent.refl
theorem any_tk {α : Type} {p : α → Bool} {l : List α} {k : Nat} {x : α} (hx : l[k]? = some x) : (l.take (k + 1)).any p = ((l.take k).any p || p x) := by rw [take_succ_get hx]; simp
theorem any_hit {α : Type} {p : α → Bool} {l : List α} {k : Nat} {x : α} (hx : l[k]? = some x) (h : p x = true) : l.any p = true := List.any_eq_true.2 ⟨x, List.mem_of_getElem? hx, h⟩
theorem mloops_any (xs : List (NV × Nd)) (t : Int) (v : Value) (w : World) (h : OkL w v xs) (hg : ∀ x ∈ xs, SmN x.2) (hl : xs.length ≤ 1000) :
  Calls Tryz.prog 20 #[meV t v] w fun e w' => e = .returned (.bool (Me.loops (nds xs))) ∧ Below w.heap.size w w' := by
 refine calls_hr Tryz.func20 I (Nat.le_of_ble_eq_true I) ?_
 refine HR.sub (σ' := [(0, meV t v)]) ⟨I, trivial⟩ ?_
 refine HR.ctl I ?_
 refine HR.region ?_
 refine HL.box I I ?_
 intro b1
 repeat' (first | refine zh ?_ | refine HL.lenR (Rd.arg h.s) I I I ?_ | intro (bk : Nat))
 obtain ⟨g, hgd⟩ : ∃ g : Nd → Ro → Bool, g = fun n r => (Me.follow (nds xs) n.addr r.dest).2 == 2 := ⟨_, rfl⟩
 have hlo : Me.loops (nds xs) = (nds xs).any fun n => n.table.any (g n) := by rw [hgd]; rfl
 refine HR.loop (ι := Nat) (fun k => k ≤ xs.length ∧ ((nds xs).take k).any (fun n => n.table.any (g n)) = false) (fun k => [(1, ptr b1), (8, v), (9, .int .i64 (xs.length : Int)), (10, .int .i64 (k : Int))]) (fun _ => [meB b1 t v]) (fun k => xs.length - k) 0 ⟨Nat.zero_le _, rfl⟩ ⟨I, I, I, I, trivial⟩ Ent.refl ?_
 rintro k ⟨hk, hno⟩ ih
 have hk : k ≤ xs.length := hk
 repeat' (first | refine zh ?_ | intro (bk : Nat))
 refine HR.cond I (fun h2 => ?_) (fun h2 => ?_)
 rotate_left
 ·have hke : k = xs.length := by have : ¬ (k : Int) < (xs.length : Int) := of_decide_eq_false h2; omega
  rw [hke, ← nds_len, List.take_length] at hno
  rw [hlo, hno]
  repeat' (first | refine zh ?_ | intro (bk : Nat))
  refine HR.ret Tryz.func20 I [_] (fun _ _ => ⟨I, trivial⟩) ?_
  exact fun w' hw => ⟨rfl, hw.belowB⟩
 have hlt : k < xs.length := by have : (k : Int) < (xs.length : Int) := of_decide_eq_true h2; omega
 obtain ⟨⟨V, n⟩, hx⟩ := getSome hlt
 have hok : OkN w V n := h.r _ (List.mem_of_getElem? hx)
 have hsn : SmN n := hg _ (List.mem_of_getElem? hx)
 have hta : n.table.length ≤ 1000 := hsn.ta
 have hat := any_tk (p := fun n : Nd => n.table.any (g n)) (nds_get hx)
 rw [hno, Bool.false_or] at hat
 repeat' (first | refine zh ?_ | refine HL.idxR (Rd.arg h.s) elemNd k I I I I hlt ?_ | refine HL.loadE (us := ndC V n) (Rd.arg h.s) I I I I (by simp) I (cellsOf_get ndE2_len hx) ?_ | intro (bk : Nat))
 refine HR.loop (ι := Nat) (fun j => j ≤ n.table.length ∧ (n.table.take j).any (g n) = false) (fun j => [(1, ptr b1), (4, ptr bk), (8, v), (9, .int .i64 (xs.length : Int)), (10, .int .i64 (k : Int)), (15, sv V.ta n.table.length), (16, .int .i64 (n.table.length : Int)), (17, .int .i64 (j : Int))]) (fun _ => [blkC bk (ndC V n) 62, meB b1 t v]) (fun j => n.table.length - j) 0 ⟨Nat.zero_le _, rfl⟩ ⟨I, I, I, I, I, I, I, I, trivial⟩ Ent.refl ?_
 rintro j ⟨hj, hno2⟩ ih2
 have hj : j ≤ n.table.length := hj
 repeat' (first | refine zh ?_ | intro (bk : Nat))
 refine HR.cond I (fun h3 => ?_) (fun h3 => ?_)
 rotate_left
 ·have hje : j = n.table.length := by have : ¬ (j : Int) < (n.table.length : Int) := of_decide_eq_false h3; omega
  rw [hje, List.take_length] at hno2
  rw [hno2] at hat
  repeat' (first | refine zh ?_ | intro (bk : Nat))
  exact ih (k + 1) _ _ ⟨hlt, hat⟩ (by show xs.length - (k + 1) < xs.length - k; omega) ⟨I, I, I, I, trivial⟩ (Ent.pick [1] I I)
 have hlt3 : j < n.table.length := by have : (j : Int) < (n.table.length : Int) := of_decide_eq_true h3; omega
 obtain ⟨r, hr⟩ := getSome hlt3
 have hat2 := any_tk (p := g n) hr
 rw [hno2, Bool.false_or] at hat2
 have hgr : g n r = ((Me.follow (nds xs) n.addr r.dest).2 == 2) := by rw [hgd]
 repeat' (first | refine zh ?_ | refine HL.idxR (Rd.arg hok.ta) elemRo j I I I I hlt3 ?_ | refine HL.loadE (us := roC r) (Rd.arg hok.ta) I I I I (by simp) I (cellsOf_get roC_len hr) ?_ | refine HL.callB fn52 I I (fun w1 hw1 => mreturns_any xs t n.addr r.dest v w1 (h.ext hw1.belowB) hg hl) ?_ | intro (bk : Nat))
 refine HR.cond I (fun h4 => ?_) (fun h4 => ?_)
 ·have h4 : g n r = true := by rw [hgr]; exact h4
  rw [hlo, any_hit (nds_get hx) (any_hit hr h4)]
  repeat' (first | refine zh ?_ | intro (bk : Nat))
  refine HR.ret Tryz.func20 I [_] (fun _ _ => ⟨I, trivial⟩) ?_
  exact fun w' hw => ⟨rfl, hw.belowB⟩
 have h4 : g n r = false := by rw [hgr]; exact h4
 rw [h4] at hat2
 repeat' (first | refine zh ?_ | intro (bk : Nat))
 exact ih2 (j + 1) _ _ ⟨hlt3, hat2⟩ (by show n.table.length - (j + 1) < n.table.length - j; omega) ⟨I, I, I, I, I, I, I, I, trivial⟩ (Ent.pick [1, 2] I I)
end Go.Proofs.YtgfdoognildoeaaGreat
namespace Go.Proofs.YtgfdoognildoeaaGreat
open Go.GX Go.RowKit
attribute [local irreducible] Calls Run RunL RunQ RunD HR HL HD blkC ownC mapC Rd slicesC iterC
open Nd
theorem fn9 : IsFn Tryz.prog 9 := ⟨⟨_, _, Tryz.func9, rfl, by decide⟩⟩
theorem okl_of {B : Base} {H : List Chunk} {w : World} {v : Value} {ys : List (NV × Nd)} {G : List Chunk} (i j : Nat) (hw : Sat B H w) (hi : nthC H i = some (cNd v ys)) (hj : nthC H j = some (groupC G)) (hO : ∀ y ∈ ys, Own y.1 G y.2) : OkL w v ys :=
 ⟨(Rd.own i hi).at hw, fun y hy => hO y hy w (Sat.grp j hw hj)⟩
theorem put_two (a b : Nd) (h : ¬ a.addr < b.addr) : Me.put (Me.put [] a) b = [b, a] := by
 have h1 : Me.put [] a = [a] := rfl
 rw [h1, put_at (l := [a]) (n := b) (j := 0) (Nat.zero_le _) (fun i x hi => absurd hi (Nat.not_lt_zero _)) (fun x hx => by simp at hx; subst hx; exact h)]
 rfl
theorem new3 : (new 3 8).addr = 3 := (Me.new_addr (a := 3) (by decide)).1
theorem new0 : (new 0 0).addr = 0 := (Me.new_addr (a := 0) (by decide)).1
theorem at0 : Me.nodeAt [3, 0] [8] 0 = new 3 8 := rfl
theorem at1 : Me.nodeAt [3, 0] [8] 1 = new 0 0 := rfl
theorem build_two : Me.build [3, 0] [8] 2 = Me.put (Me.put [] (Me.nodeAt [3, 0] [8] 0)) (Me.nodeAt [3, 0] [8] 1) := by simp only [Me.build]
theorem mNew_two' : Me.mNew [3, 0] [8] = (⟨0, Me.build [3, 0] [8] 2⟩, 0) := mNew_ok (by decide) (by decide)
theorem mNew_two : Me.mNew [3, 0] [8] = (⟨0, [new 0 0, new 3 8]⟩, 0) := by
 rw [mNew_two', build_two, at0, at1, put_two _ _ (by rw [new3, new0]; decide)]
theorem path_one {l : List Nd} {a : Int} {i : Nat} (h : Me.idx l a = some i) : Me.path l a a = ([a], true) := path_ok ((Me.Fol.start l a a).done h List.not_mem_nil I)
theorem idx_two (a b : Nd) (x : Int) (ha : a.addr ≠ x) (hb : b.addr = x) : Me.idx [a, b] x = some 1 := by
 unfold Me.idx
 rw [List.findIdx?_cons, List.findIdx?_cons]
 simp [ha, hb]
theorem mNew_bad2 : Me.mNew [1, 251] [] = (Me.mesh0, 2) := by
 have e : Me.addrBad [1, 251] 1 = 2 := by decide
 rw [mNew_err (addrs := [1, 251]) (k := 1) (by decide) (by decide) (by decide) (by decide), e]
theorem two_nds {ys : List (NV × Nd)} {a b : Nd} (h : nds ys = [a, b]) : ∃ V W, ys = [(V, a), (W, b)] := by
 obtain ⟨p, q, rfl⟩ : ∃ p q, ys = [p, q] := by
  have hl : ys.length = 2 := by rw [← nds_len, h]; rfl
  rcases ys with _ | ⟨p, _ | ⟨q, _ | ⟨r, l⟩⟩⟩
  ·simp at hl
  ·simp at hl
  ·exact ⟨p, q, rfl⟩
  ·simp at hl
 have h : [p.2, q.2] = [a, b] := h
 simp only [List.cons.injEq, and_true] at h
 exact ⟨p.1, q.1, by rw [← h.1, ← h.2]⟩
theorem lives_any (w : World) : Calls Tryz.prog 9 #[] w fun e w' => e = .returned (.bool true) ∧ Below w.heap.size w w' := by
 refine calls_hr Tryz.func9 I (Nat.le_of_ble_eq_true I) ?_
 refine HR.sub (σ' := []) trivial ?_
 refine HR.ctl I ?_
 refine HR.region ?_
 repeat' (first | refine zh ?_ | intro (bk : Nat))
 refine HL.bslice elemI I I I I I (by decide) (by decide) ?_
 intro va
 refine HL.bslice elemI I I I I I (by decide) (by decide) ?_
 intro vb
 refine HL.callX (r := fun x : SV × List (NV × Nd) × List Chunk => .tuple ⟨[meV 0 (sv x.1 x.2.1.length), .int .i64 0]⟩) (Q := fun x => MeMk x [new 0 0, new 3 8]) (G := fun x => [cNd (sv x.1 x.2.1.length) x.2.1, groupC x.2.2]) fn10 I I (fun w1 hw1 => by have := mnew_any [3, 0] [8] va vb w1 ((Rd.own 1 rfl).at hw1) ((Rd.own 0 rfl).at hw1) (by decide) (by decide); rw [mNew_two] at this; exact this) ?_
 rintro ⟨y, ys, G⟩ ⟨⟨hN, hO⟩, hG⟩
 have hN : nds ys = [new 0 0, new 3 8] := hN
 have hO : ∀ z ∈ ys, Own z.1 G z.2 := hO
 have hG : ∀ z ∈ ys, GdN z.2 := hG
 have hlp : Me.loops (nds ys) = false := by
  have := (Me.Inv.new (C := ctx0) (addrs := [3, 0]) (polls := [8]) (by rw [mNew_two])).1.no_loops
  rw [mNew_two] at this
  rw [hN]; exact this
 have hpa : Me.path (nds ys) 3 3 = ([3], true) := by
  rw [hN]
  exact path_one (idx_two _ _ 3 (by rw [new0]; decide) new3)
 obtain ⟨A, hA⟩ : ∃ A, A = new 0 0 := ⟨_, rfl⟩
 obtain ⟨Bn, hBn⟩ : ∃ A, A = new 3 8 := ⟨_, rfl⟩
 have hA0 : A.addr = 0 := by rw [hA]; exact new0
 have hB0 : Bn.addr = 3 := by rw [hBn]; exact new3
 have hB1 : Bn.poll = 8 := by rw [hBn]; rfl
 rw [← hA, ← hBn] at hN
 clear hA hBn
 obtain ⟨V, W, hys⟩ := two_nds hN
 subst hys
 have cy : (cellsOf ndE2 [(V, A), (W, Bn)]).length = 26 := rfl
 refine HL.ent (H' := [cNd (sv y 2) [(V, A), (W, Bn)], groupC G]) (Ent.pick [0, 1] I I) ?_
 repeat' (first | refine zh ?_ | intro (bk : Nat))
 refine HL.bslice elemI I I I I I (by decide) (by decide) ?_
 intro vc
 refine HL.callX (r := fun x : SV × List (NV × Nd) × List Chunk => .tuple ⟨[meV 0 (sv x.1 x.2.1.length), .int .i64 2]⟩) (Q := fun x => MeMk x []) (G := fun x => [cNd (sv x.1 x.2.1.length) x.2.1, groupC x.2.2]) fn10 I I (fun w1 hw1 => by have := mnew_any [1, 251] [] vc (.slice none 0 0) w1 ((Rd.own 0 rfl).at hw1) (Sl.nil w1) (by decide) (by decide); rw [mNew_bad2] at this; exact this) ?_
 rintro ⟨y2, ys2, G2⟩ _
 repeat' (first | refine zh ?_ | intro (bk : Nat))
 refine HL.callX (r := fun x : Value => .tuple ⟨[x, .bool true]⟩) (Q := fun _ => True) (G := fun x => [ownC x 3 1 1 (cellsOf iC [3])]) fn17 I I (fun w1 hw1 => by have := mpath_any [(V, A), (W, Bn)] 0 3 3 (sv y 2) w1 (okl_of 5 6 hw1 I I hO) (fun z hz => (hG z hz).sm) (Nat.le_of_ble_eq_true rfl); rw [hpa] at this; exact this.mono fun e w' ⟨x, e1, e2⟩ => ⟨x, e1, trivial, e2⟩) ?_
 intro vp _
 repeat' (first | refine zh ?_ | intro (bk : Nat))
 repeat' (first | refine zh ?_ | refine HL.idxR (Rd.own 6 I) elemNd 0 I I I I (Nat.le_of_ble_eq_true I) ?_ | refine HL.fieldN 0 (Rd.own 6 I) (by rw [cy]; decide) I I I I I I I ?_ | refine HL.loadI (Rd.own 6 I) I I I I (cells_get ndE2_len (l := [(V, A), (W, Bn)]) (j := 0) I (i := 0) I) ?_ | intro (bk : Nat))
 refine HL.setB 43 true I (by rw [hA0]; rfl) ?_
 repeat' (first | refine zh ?_ | refine HL.idxR (Rd.own 6 I) elemNd 1 I I I I (Nat.le_of_ble_eq_true I) ?_ | refine HL.fieldN 0 (Rd.own 6 I) (by rw [cy]; decide) I I I I I I I ?_ | refine HL.loadI (Rd.own 6 I) I I I I (cells_get ndE2_len (l := [(V, A), (W, Bn)]) (j := 1) I (i := 0) I) ?_ | intro (bk : Nat))
 refine HL.setB 51 true I (by rw [hB0]; rfl) ?_
 repeat' (first | refine zh ?_ | refine HL.idxR (Rd.own 6 I) elemNd 1 I I I I (Nat.le_of_ble_eq_true I) ?_ | refine HL.fieldN 1 (Rd.own 6 I) (by rw [cy]; decide) I I I I I I I ?_ | refine HL.loadI (Rd.own 6 I) I I I I (cells_get ndE2_len (l := [(V, A), (W, Bn)]) (j := 1) I (i := 1) I) ?_ | intro (bk : Nat))
 refine HL.setB 59 true I (by rw [hB1]; rfl) ?_
 repeat' (first | refine zh ?_ | intro (bk : Nat))
 refine HL.bslice elemI I I I I I (by decide) (by decide) ?_
 intro v7
 refine HL.callB (r := .bool true) fn19 I I (fun w1 hw1 => by have := same07I_any [3] [3] vp v7 w1 ((Rd.own 1 rfl).at hw1) ((Rd.own 0 rfl).at hw1) (by decide); simpa using this) ?_
 repeat' (first | refine zh ?_ | intro (bk : Nat))
 refine HL.callB (r := .bool false) fn20 I I (fun w1 hw1 => by have := mloops_any [(V, A), (W, Bn)] 0 (sv y 2) w1 (okl_of 7 8 hw1 I I hO) (fun z hz => (hG z hz).sm) (Nat.le_of_ble_eq_true rfl); rw [hlp] at this; exact this) ?_
 repeat' (first | refine zh ?_ | intro (bk : Nat))
 refine HL.callX (r := fun x : SV × List (NV × Nd) × List Chunk => meV 1 (sv x.1 x.2.1.length)) (Q := fun _ => True) (G := fun x => [cNd (sv x.1 x.2.1.length) x.2.1, groupC x.2.2]) fn15 I I (fun w1 hw1 => (mstep_any 0 (sv y 2) [(V, A), (W, Bn)] ⟨[], [], []⟩ (.slice none 0 0) (.slice none 0 0) (.slice none 0 0) w1 (okl_of 7 8 hw1 I I hO) hG (Nat.le_of_ble_eq_true I) (OkA.none w1)).mono fun e w' ⟨x, e1, e2, e3⟩ => ⟨x, e1, trivial, e3⟩) ?_
 intro x3 _
 repeat' (first | refine zh ?_ | intro (bk : Nat))
 refine HR.ret Tryz.func9 I [_] (fun _ _ => ⟨I, trivial⟩) ?_
 exact fun w' hw => ⟨rfl, hw.belowB⟩
end Go.Proofs.YtgfdoognildoeaaGreat
namespace Go.Proofs.YtgfdoognildoeaaGreat
open Go.GX Go.RowKit
attribute [local irreducible] Calls Run RunL RunQ RunD HR HL HD blkC ownC mapC Rd slicesC iterC
open Nd
theorem fn11 : IsFn Tryz.prog 11 := ⟨⟨_, _, Tryz.func11, rfl, by decide⟩⟩
theorem rnew19_any (addrs polls : List Int) (va vp : Value) (w : World) (ha : Sl w va (cellsOf iC addrs) addrs.length) (hp : Sl w vp (cellsOf iC polls) polls.length) (hla : addrs.length ≤ 1000000) (hlp : polls.length ≤ 1000000) :
  Calls Tryz.prog 11 #[va, vp] w fun e w' => ∃ x : SV × List (NV × Nd) × List Chunk, e = .returned (.tuple ⟨[meV 0 (sv x.1 x.2.1.length), .int .i64 (Me.mNew addrs polls).2]⟩) ∧ MkL x (Me.mNew addrs polls).1.nodes ∧ Sat (base w) [cNd (sv x.1 x.2.1.length) x.2.1, groupC x.2.2] w' := by
 refine calls_hr Tryz.func11 I (Nat.le_of_ble_eq_true I) ?_
 refine HR.sub (σ' := [(0, va), (1, vp)]) ⟨I, I, trivial⟩ ?_
 refine HR.ctl I ?_
 refine HR.region ?_
 refine HL.alloc I I ?_
 intro b4
 repeat' (first | refine zh ?_ | refine HL.lenR (Rd.arg ha) I I I ?_ | intro (bk : Nat))
 refine HR.cond I (fun h1 => ?_) (fun h1 => ?_)
 ·have h1 : addrs.length > 24 := by have : (addrs.length : Int) > 24 := of_decide_eq_true h1; omega
  rw [mNew_many h1]
  repeat' (first | refine zh ?_ | intro (bk : Nat))
  refine HR.ret Tryz.func11 I [_, _] (fun w hw => ⟨⟨_, rfl, loadVarR hw 0 I I I I rfl⟩, rfl, trivial⟩) ?_
  exact fun w' hw => ⟨((none, 0), [], []), rfl, mk_zero.1, sat_zero hw⟩
 have h24 : addrs.length ≤ 24 := by have : ¬ (addrs.length : Int) > 24 := of_decide_eq_false h1; omega
 repeat' (first | refine zh ?_ | intro (bk : Nat))
 refine HR.loop (ι := Nat) (fun i => i ≤ addrs.length ∧ firstE (Me.addrBad addrs) i = 0) (fun i => [(0, va), (1, vp), (4, ptr b4), (6, .int .i64 (i : Int))]) (fun _ => [blkC b4 meZ 26]) (fun i => addrs.length - i) 0 ⟨Nat.zero_le _, rfl⟩ ⟨I, I, I, I, trivial⟩ Ent.refl ?_
 rintro i ⟨hi, hE⟩ ih
 have hi : i ≤ addrs.length := hi
 have hE : firstE (Me.addrBad addrs) i = 0 := hE
 repeat' (first | refine zh ?_ | refine HL.lenR (Rd.arg ha) I I I ?_ | intro (bk : Nat))
 refine HR.cond I (fun h2 => ?_) (fun h2 => ?_)
 ·have hlt : i < addrs.length := by have : (i : Int) < (addrs.length : Int) := of_decide_eq_true h2; omega
  obtain ⟨a, hak⟩ := getSome hlt
  have hbad := addrBad_at hak
  repeat' (first | refine zh ?_ | refine HL.idxR (Rd.arg ha) elemI i I I I I hlt ?_ | refine HL.loadI (Rd.arg ha) I I I I (cellsOf_get1 hak) ?_ | apply zb ?_ ?_ | exact zc | (refine zi fun hb => ?_; try simp at hb) | intro (bk : Nat))
  refine HR.cond I (fun h3 => ?_) (fun h3 => ?_)
  ·have h3 : Tp.okN a = false := by have h3 : (decide (a < 0) || decide (a > 250)) = true := h3; rw [okN_no] at h3; simpa using h3
   rw [if_pos h3] at hbad
   rw [mNew_err h24 hE hlt (by rw [hbad]; decide), hbad]
   repeat' (first | refine zh ?_ | intro (bk : Nat))
   refine HR.ret Tryz.func11 I [_, _] (fun w hw => ⟨⟨_, rfl, loadVarR hw 0 I I I I rfl⟩, rfl, trivial⟩) ?_
   exact fun w' hw => ⟨((none, 0), [], []), rfl, mk_zero.1, sat_zero hw⟩
  have hok : Tp.okN a = true := by have h3 : (decide (a < 0) || decide (a > 250)) = false := h3; rw [okN_no] at h3; simpa using h3
  rw [if_neg (by rw [hok]; decide)] at hbad
  repeat' (first | refine zh ?_ | intro (bk : Nat))
  refine HR.loop (ι := Nat) (fun j => j ≤ i ∧ ∀ m b, m < j → addrs[m]? = some b → b ≠ a) (fun j => [(0, va), (1, vp), (4, ptr b4), (6, .int .i64 (i : Int)), (7, .int .i64 (j : Int))]) (fun _ => [blkC b4 meZ 26]) (fun j => i - j) 0 ⟨Nat.zero_le _, fun m b hm => absurd hm (Nat.not_lt_zero _)⟩ ⟨I, I, I, I, I, trivial⟩ Ent.refl ?_
  rintro j ⟨hj, hno⟩ ih2
  have hj : j ≤ i := hj
  have hno : ∀ m b, m < j → addrs[m]? = some b → b ≠ a := hno
  repeat' (first | refine zh ?_ | intro (bk : Nat))
  refine HR.cond I (fun h4 => ?_) (fun h4 => ?_)
  rotate_left
  ·have hje : j = i := by have : ¬ (j : Int) < (i : Int) := of_decide_eq_false h4; omega
   have hnin : a ∉ addrs.take i := fun hm => by
    obtain ⟨m, hm⟩ := List.getElem?_of_mem hm
    have hmi : m < i := by have := (List.getElem?_eq_some_iff.1 hm).1; simp at this; omega
    rw [List.getElem?_take_of_lt hmi] at hm
    exact hno m a (by omega) hm I
   rw [if_neg hnin] at hbad
   repeat' (first | refine zh ?_ | intro (bk : Nat))
   exact ih (i + 1) _ _ ⟨hlt, firstE_step hE hbad⟩ (by show addrs.length - (i + 1) < addrs.length - i; omega) ⟨I, I, I, I, trivial⟩ Ent.refl
  have hji : j < i := by have : (j : Int) < (i : Int) := of_decide_eq_true h4; omega
  obtain ⟨b, hb⟩ := getSome (show j < addrs.length by omega)
  repeat' (first | refine zh ?_ | intro (bk : Nat))
  refine HR.regionQ hmix (by kernel_rfl) ?_
  repeat' (first | refine zq ?_ | refine HQ.idxR (Rd.arg ha) elemI j I I I I (show j < addrs.length by omega) ?_ | refine HQ.loadI (Rd.arg ha) I I I I (cellsOf_get1 hb) ?_ | refine HQ.idxR (Rd.arg ha) elemI i I I I I hlt ?_ | refine HQ.loadI (Rd.arg ha) I I I I (cellsOf_get1 hak) ?_ | apply zb ?_ ?_ | exact zc | (refine zi fun hb => ?_; try simp at hb))
  refine HR.cond I (fun h5 => ?_) (fun h5 => ?_)
  ·have h5 : b = a := eq_of_beq h5
   have hin : a ∈ addrs.take i := List.mem_of_getElem? (i := j) (by rw [List.getElem?_take_of_lt hji, hb, h5])
   rw [if_pos hin] at hbad
   rw [mNew_err h24 hE hlt (by rw [hbad]; decide), hbad]
   repeat' (first | refine zh ?_ | intro (bk : Nat))
   refine HR.ret Tryz.func11 I [_, _] (fun w hw => ⟨⟨_, rfl, loadVarR hw 0 I I I I rfl⟩, rfl, trivial⟩) ?_
   exact fun w' hw => ⟨((none, 0), [], []), rfl, mk_zero.1, sat_zero hw⟩
  have h5 : b ≠ a := by have h5 : (b == a) = false := h5; simpa using h5
  repeat' (first | refine zh ?_ | intro (bk : Nat))
  refine ih2 (j + 1) _ _ ⟨hji, fun m c hm hc => ?_⟩ (by show i - (j + 1) < i - j; omega) ⟨I, I, I, I, I, trivial⟩ Ent.refl
  by_cases e : m = j
  ·subst e; rw [hb] at hc; cases hc; exact h5
  ·exact hno m c (by omega) hc
 have hie : i = addrs.length := by have : ¬ (i : Int) < (addrs.length : Int) := of_decide_eq_false h2; omega
 rw [hie] at hE
 rw [mNew_ok h24 hE, ← Me.rows_is hE]
 clear ih hi hie
 refine HR.ctl I ?_
 refine HR.region ?_
 refine HL.alloc I I ?_
 intro b8
 repeat' (first | refine zh ?_ | intro (bk : Nat))
 refine HR.nilC 62 13 ?_
 refine HR.loop (ι := Nat × SV × List (NV × Nd) × List Chunk) (fun x => x.1 ≤ 251 ∧ x.2.2.1.length ≤ x.1 * 24 ∧ MkL x.2 (Me.rows addrs polls x.1)) (fun x => [(0, va), (1, vp), (4, ptr b4), (8, ptr b8), (9, .int .i64 (x.1 : Int))]) (fun x => [meB b8 0 (sv x.2.1 x.2.2.1.length), blkC b4 meZ 26, cNd (sv x.2.1 x.2.2.1.length) x.2.2.1, groupC x.2.2.2]) (fun x => 251 - x.1) (0, (none, 0), [], []) ⟨Nat.zero_le _, Nat.zero_le _, mk_zero.1⟩ ⟨I, I, I, I, I, trivial⟩ (Ent.trans Ent.gnil (Ent.pick [2, 3, 1, 0] I I)) ?_
 rintro ⟨A, y0, ys0, G0⟩ ⟨hA, hl0, hN0, hO0⟩ ih
 have hA : A ≤ 251 := hA
 have hl0 : ys0.length ≤ A * 24 := hl0
 have hN0 : nds ys0 = Me.rows addrs polls A := hN0
 have hO0 : ∀ z ∈ ys0, Own z.1 G0 z.2 := hO0
 repeat' (first | refine zh ?_ | intro (bk : Nat))
 refine HR.cond I (fun h2 => ?_) (fun h2 => ?_)
 rotate_left
 ·have hAe : A = 251 := by have : ¬ (A : Int) ≤ 250 := of_decide_eq_false h2; omega
  repeat' (first | refine zh ?_ | intro (bk : Nat))
  refine HR.ret Tryz.func11 I [_, _] (fun w hw => ⟨⟨_, rfl, loadVarR hw 1 I I I I rfl⟩, rfl, trivial⟩) ?_
  exact fun w' hw => ⟨(y0, ys0, G0), rfl, ⟨by show nds ys0 = _; rw [hN0, hAe], hO0⟩, hw.pick [2, 3] I rfl⟩
 have hAl : A ≤ 250 := by have : (A : Int) ≤ 250 := of_decide_eq_true h2; omega
 repeat' (first | refine zh ?_ | intro (bk : Nat))
 refine HR.loop (ι := Nat × SV × List (NV × Nd) × List Chunk) (fun x => x.1 ≤ addrs.length ∧ x.2.2.1.length ≤ A * 24 + x.1 ∧ MkL x.2 (Me.rows addrs polls A ++ Me.row addrs polls A x.1)) (fun x => [(0, va), (1, vp), (4, ptr b4), (8, ptr b8), (9, .int .i64 (A : Int)), (10, .int .i64 (x.1 : Int))]) (fun x => [meB b8 0 (sv x.2.1 x.2.2.1.length), blkC b4 meZ 26, cNd (sv x.2.1 x.2.2.1.length) x.2.2.1, groupC x.2.2.2]) (fun x => addrs.length - x.1) (0, y0, ys0, G0) ⟨Nat.zero_le _, by show ys0.length ≤ _; omega, by show nds ys0 = _; rw [hN0]; exact (List.append_nil _).symm, hO0⟩ ⟨I, I, I, I, I, I, trivial⟩ Ent.refl ?_
 rintro ⟨i, y, ys, G⟩ ⟨hi, hyl, hN, hO⟩ ih2
 have hi : i ≤ addrs.length := hi
 have hyl : ys.length ≤ A * 24 + i := hyl
 have hN : nds ys = Me.rows addrs polls A ++ Me.row addrs polls A i := hN
 have hO : ∀ z ∈ ys, Own z.1 G z.2 := hO
 repeat' (first | refine zh ?_ | refine HL.lenR (Rd.arg ha) I I I ?_ | intro (bk : Nat))
 refine HR.cond I (fun h3 => ?_) (fun h3 => ?_)
 rotate_left
 ·have hie : i = addrs.length := by have : ¬ (i : Int) < (addrs.length : Int) := of_decide_eq_false h3; omega
  rw [hie] at hN
  repeat' (first | refine zh ?_ | intro (bk : Nat))
  exact ih (A + 1, y, ys, G) _ _ ⟨by show A + 1 ≤ 251; omega, by show ys.length ≤ (A + 1) * 24; omega, hN, hO⟩ (by show 251 - (A + 1) < 251 - A; omega) ⟨I, I, I, I, I, trivial⟩ Ent.refl
 have hlt : i < addrs.length := by have : (i : Int) < (addrs.length : Int) := of_decide_eq_true h3; omega
 obtain ⟨a, hak⟩ := getSome hlt
 obtain ⟨P, hP⟩ : ∃ P, P = Me.pollOf polls i := ⟨_, rfl⟩
 have hrow : Me.row addrs polls A (i + 1) = Me.row addrs polls A i ++ (if a = (A : Int) then [new A P] else []) := by
  show Me.row addrs polls A i ++ (if addrs.getD i 0 = (A : Int) then [new A (Me.pollOf polls i)] else []) = _
  rw [List.getD_eq_getElem?_getD, hak, ← hP]; rfl
 repeat' (first | refine zh ?_ | refine HL.lenR (Rd.arg hp) I I I ?_ | intro (bk : Nat))
 refine HR.join (ι := Unit) (fun _ => True) (fun _ => [(0, va), (1, vp), (4, ptr b4), (8, ptr b8), (9, .int .i64 (A : Int)), (10, .int .i64 (i : Int)), (11, .int .i64 P)]) (fun _ => [meB b8 0 (sv y ys.length), blkC b4 meZ 26, cNd (sv y ys.length) ys, groupC G]) ?_ (fun hj => ?_)
 rotate_left
 ·refine HR.cond I (fun h5 => ?_) (fun h5 => ?_)
  ·have hlt5 : i < polls.length := by have : (i : Int) < (polls.length : Int) := of_decide_eq_true h5; omega
   obtain ⟨p, hpk⟩ := getSome hlt5
   rw [pollOf_some hpk] at hP
   subst hP
   refine HR.region ?_
   repeat' (first | refine zn ?_ | refine HL.idxR (Rd.arg hp) elemI i I I I I hlt5 ?_ | refine HL.loadI (Rd.arg hp) I I I I (cellsOf_get1 hpk) ?_ | intro (bk : Nat))
   exact hj () _ _ trivial ⟨I, I, I, I, I, I, I, trivial⟩ Ent.refl
  ·have hlt5 : polls.length ≤ i := by have : ¬ (i : Int) < (polls.length : Int) := of_decide_eq_false h5; omega
   rw [pollOf_none hlt5] at hP
   subst hP
   refine HR.skip ?_
   exact hj () _ _ trivial ⟨I, I, I, I, I, I, I, trivial⟩ Ent.refl
 rintro _ _
 repeat' (first | refine zh ?_ | refine HL.idxR (Rd.arg ha) elemI i I I I I hlt ?_ | refine HL.loadI (Rd.arg ha) I I I I (cellsOf_get1 hak) ?_ | intro (bk : Nat))
 refine HR.cond I (fun h6 => ?_) (fun h6 => ?_)
 rotate_left
 ·have h6 : ¬ a = (A : Int) := by have h6 : (a == (A : Int)) = false := h6; simpa using h6
  rw [if_neg h6, List.append_nil] at hrow
  repeat' (first | refine zh ?_ | intro (bk : Nat))
  exact ih2 (i + 1, y, ys, G) _ _ ⟨hlt, by show ys.length ≤ A * 24 + (i + 1); omega, by show nds ys = Me.rows addrs polls A ++ Me.row addrs polls A (i + 1); rw [hrow]; exact hN, hO⟩ (by show addrs.length - (i + 1) < addrs.length - i; omega) ⟨I, I, I, I, I, I, trivial⟩ Ent.refl
 have h6 : a = (A : Int) := eq_of_beq h6
 rw [if_pos h6] at hrow
 repeat' (first | refine zh ?_ | intro (bk : Nat))
 refine HR.regionY [(0, true), (1, true), (2, true), (3, true), (4, false), (5, false), (6, false), (7, true)] 8 [0] I I hmix (by kernel_rfl) ?_
 repeat' (first | refine zd ?_ | fail)
 refine HD.one I ?_
 refine HL.callX (r := fun x : NV × List Chunk => .agg ⟨ndC x.1 (new A P)⟩) (Q := fun x => Own x.1 x.2 (new A P)) (G := fun x => [groupC x.2]) fn37 I I (fun w1 hw1 => (rnew17_any A P w1).mono fun e w' ⟨x, e1, e2, e3⟩ => ⟨x, e1, fun w2 hg => e2 w2 (okn0 _ _ w2) hg, e3⟩) ?_
 rintro ⟨V2, G2⟩ hO2
 have hO2 : Own V2 G2 (new A P) := hO2
 refine HL.back [1] I I ?_
 refine HD.one I ?_
 refine HL.bslice elemNd I I I I I (by decide) (by decide) ?_
 intro vx
 refine HL.back [2] I I ?_
 refine HD.one I ?_
 refine HL.appR 4 I elemNd (Rd.own 0 I) I I I I (allOne_spec I) (by show (ys.length + 1) * 232 ≤ _; omega) (by show ys.length + 1 ≤ _; omega) ?_
 intro vc
 refine HL.back [2] I I ?_
 repeat' (first | refine zd ?_ | fail)
 refine HD.last I ?_
 refine HL.shape 4 I fun ac cc hv => ?_
 subst hv
 repeat' (first | refine zn ?_ | intro (bk : Nat))
 repeat' (first | refine zh ?_ | intro (bk : Nat))
 refine ih2 (i + 1, (ac, cc), ys ++ [(V2, new A P)], [groupC G2, groupC G]) _ _ ⟨hlt, ?_, ?_, ?_⟩ (by show addrs.length - (i + 1) < addrs.length - i; omega) ⟨I, I, I, I, I, I, trivial⟩ ?_
 ·show (ys ++ [(V2, new A P)]).length ≤ A * 24 + (i + 1)
  simp; omega
 ·show nds (ys ++ [(V2, new A P)]) = Me.rows addrs polls A ++ Me.row addrs polls A (i + 1)
  rw [hrow, ← List.append_assoc, ← hN]; simp [nds]
 ·intro z hz
  have hz : z ∈ ys ++ [(V2, new A P)] := hz
  rcases List.mem_append.1 hz with hz | hz
  ·exact fun w2 hg2 => hO z hz w2 (groupC_mem hg2 (by simp))
  ·rw [List.mem_singleton.1 hz]; exact fun w2 hg2 => hO2 w2 (groupC_mem hg2 (by simp))
 ·show Ent _ _ [meB b8 0 (sv (ac, cc) (ys ++ [(V2, new A P)]).length), blkC b4 meZ 26, cNd (sv (ac, cc) (ys ++ [(V2, new A P)]).length) (ys ++ [(V2, new A P)]), groupC [groupC G2, groupC G]]
  rw [cNd_app, show (ys ++ [((V2, new A P) : NV × Nd)]).length = ys.length + 1 by simp]
  exact Ent.trans (Ent.pick (H' := [groupC G2, groupC G] ++ [meB b8 0 (sv (ac, cc) (ys.length + 1)), blkC b4 meZ 26, ownC (sv (ac, cc) (ys.length + 1)) 62 13 (ys.length + 1) (cellsOf ndE2 ys ++ ndE2 (V2, new A P))]) [1, 5, 2, 3, 4] I I) (Ent.trans Ent.group (Ent.pick [1, 2, 3, 0] I I))
theorem meshNews_any (addrs : List Int) (va : Value) (polls : List Int) (vp : Value) (w : World) (ha : Sl w va (cellsOf iC addrs) addrs.length) (hp : Sl w vp (cellsOf iC polls) polls.length) :
  Calls Tryz.prog 3 #[va, vp] w fun e w' => e = .returned (.bool true) ∧ Below w.heap.size w w' := by
 refine calls_hr Tryz.func3 I (Nat.le_of_ble_eq_true I) ?_
 refine HR.sub (σ' := [(0, va), (1, vp)]) ⟨I, I, trivial⟩ ?_
 repeat' (first | refine zh ?_ | refine HL.lenR (Rd.arg ha) I I I ?_ | refine HL.lenR (Rd.arg hp) I I I ?_ | apply zb ?_ ?_ | exact zc | (refine zi fun hb => ?_; try simp at hb) | intro (bk : Nat))
 refine HR.cond I (fun h1 => ?_) (fun h1 => ?_)
 ·repeat' (first | refine zh ?_ | refine HL.callB fn9 I I (fun w1 _ => lives_any w1) ?_ | intro (bk : Nat))
  refine HR.ret Tryz.func3 I [_] (fun _ _ => ⟨I, trivial⟩) ?_
  exact fun w' hw => ⟨rfl, hw.belowB⟩
 have h1 : (decide ((addrs.length : Int) > 60) || decide ((polls.length : Int) > 60)) = false := h1
 simp only [Bool.or_eq_false_iff, decide_eq_false_iff_not] at h1
 have hla : addrs.length ≤ 60 := by omega
 have hlp : polls.length ≤ 60 := by omega
 obtain ⟨M, hM⟩ : ∃ M, M = Me.mNew addrs polls := ⟨_, rfl⟩
 repeat' (first | refine zh ?_ | intro (bk : Nat))
 refine HL.callX (r := fun x : SV × List (NV × Nd) × List Chunk => .tuple ⟨[meV 0 (sv x.1 x.2.1.length), .int .i64 M.2]⟩) (Q := fun x => MeMk x M.1.nodes) (G := fun x => [cNd (sv x.1 x.2.1.length) x.2.1, groupC x.2.2]) fn10 I I (fun w1 hw1 => by rw [hM]; exact mnew_any addrs polls va vp w1 (ha.ext hw1.belowB) (hp.ext hw1.belowB) (by omega) (by omega)) ?_
 rintro ⟨y, ys, G⟩ ⟨⟨hN, hO⟩, hG⟩
 have hN : nds ys = M.1.nodes := hN
 have hO : ∀ z ∈ ys, Own z.1 G z.2 := hO
 have hG : ∀ z ∈ ys, GdN z.2 := hG
 repeat' (first | refine zh ?_ | intro (bk : Nat))
 refine HL.callX (r := fun x : SV × List (NV × Nd) × List Chunk => .tuple ⟨[meV 0 (sv x.1 x.2.1.length), .int .i64 M.2]⟩) (Q := fun x => MkL x M.1.nodes) (G := fun x => [cNd (sv x.1 x.2.1.length) x.2.1, groupC x.2.2]) fn11 I I (fun w1 hw1 => by rw [hM]; exact rnew19_any addrs polls va vp w1 (ha.ext hw1.belowB) (hp.ext hw1.belowB) (by omega) (by omega)) ?_
 rintro ⟨y2, ys2, G2⟩ ⟨hN2, hO2⟩
 have hN2 : nds ys2 = M.1.nodes := hN2
 have hO2 : ∀ z ∈ ys2, Own z.1 G2 z.2 := hO2
 have hyl : ys.length ≤ 1000 := by
  rw [← nds_len, hN, hM]
  by_cases h0 : (Me.mNew addrs polls).2 = 0
  ·rw [(Me.Inv.new (C := ctx0) h0).2.2]; omega
  ·rw [Me.mNew_bad h0]; exact Nat.zero_le _
 repeat' (first | refine zh ?_ | refine HL.callB (r := .bool true) fn12 I I (fun w1 hw1 => same19_any 0 (sv y ys.length) (sv y2 ys2.length) ys ys2 w1 (okl_of 4 5 hw1 I I hO) (okl_of 1 2 hw1 I I hO2) (hN.trans hN2.symm) (fun z hz => (hG z hz).sm) hyl) ?_ | refine HL.callB fn9 I I (fun w1 _ => lives_any w1) ?_ | apply zb ?_ ?_ | exact zc | (refine zi fun hb => ?_; try simp at hb) | intro (bk : Nat))
 refine HR.ret Tryz.func3 I [_] (fun _ _ => ⟨I, trivial⟩) ?_
 exact fun w' hw => ⟨by simp [resV], hw.belowB⟩
end Go.Proofs.YtgfdoognildoeaaGreat
namespace Go.GX
open Go.RowKit Go.ChangeShapes Go.WideShapes
section
variable {H : Type} {enc : TypeId × Value → H} {P : Program} {w : World}
def Opens (enc : TypeId × Value → H) (P : Program) (w : World) (t : TypeId) {α : Type} (E : α → List Value) (good : α → Prop) : Prop :=
 ∀ (fuel : Nat) (cs : List Value) (x : DataW H × List MemPlace), DataW.trod enc P w 0 (fun _ => true) true fuel t cs = some x → ∃ a, cs = E a ∧ good a
theorem Opens.int {t : TypeId} {k : IntKind} (ht : P.underlying t = some (.int k)) : Opens enc P w t (fun n : Int => [Value.int k n]) (fun n => (Lit.int k n).wf = true) := by
 intro fuel cs x h
 cases fuel with
 | zero => cases h
 | succ fuel =>
  unfold DataW.trod at h
  rw [ht] at h
  split at h
  all_goals first
   | cases h; done
   | (rename_i h1; cases h1; done)
   | skip
  rename_i k0 k' n h1
  cases h1
  split at h
  ·rename_i hk; obtain ⟨rfl, hw⟩ := hk; exact ⟨n, rfl, hw⟩
  ·cases h
theorem mapM_some {α β : Type} {f : α → Option β} : ∀ {l : List α} {r : List β}, l.mapM f = some r → ∀ a ∈ l, ∃ b, f a = some b
 | [], r, h, a, ha => by cases ha
 | x :: l, r, h, a, ha => by
  simp only [List.mapM_cons, Option.bind_eq_bind, Option.pure_def] at h
  cases hx : f x with
  | none => rw [hx] at h; cases h
  | some b =>
   rw [hx] at h
   simp only [Option.bind_some] at h
   cases hl : l.mapM f with
   | none => rw [hl] at h; cases h
   | some r' =>
    rcases List.mem_cons.1 ha with rfl | ha
    ·exact ⟨b, hx⟩
    ·exact mapM_some hl a ha
theorem cells?_get {base n : Nat} {a : Addr} {cs : List Value} (h : w.cells? base a n = some cs) : cs.length = n ∧ ∀ (j : Nat) u, cs[j]? = some u → w.cell? (a.add j) = some u := by
 unfold World.cells? at h
 split at h
 ·have key : ∀ (l : List Nat) (r : List Value), l.mapM (fun i => w.cell? (a.add i)) = some r → r.length = l.length ∧ ∀ (j : Nat) u, r[j]? = some u → ∃ i, l[j]? = some i ∧ w.cell? (a.add i) = some u := by
   intro l
   induction l with
   | nil => intro r h; simp at h; subst h; exact ⟨rfl, fun j u hu => by simp at hu⟩
   | cons i l ih =>
    intro r h
    simp only [List.mapM_cons, Option.bind_eq_bind, Option.pure_def] at h
    cases hx : w.cell? (a.add i) with
    | none => rw [hx] at h; cases h
    | some b =>
     rw [hx] at h
     simp only [Option.bind_some] at h
     cases hl : l.mapM (fun i => w.cell? (a.add i)) with
     | none => rw [hl] at h; cases h
     | some r' =>
      rw [hl] at h
      simp only [Option.bind_some, Option.some.injEq] at h
      subst h
      obtain ⟨h1, h2⟩ := ih r' hl
      refine ⟨by simp [h1], fun j u hu => ?_⟩
      cases j with
      | zero => simp at hu; subst hu; exact ⟨i, rfl, hx⟩
      | succ j => simp at hu; simpa using h2 j u hu
  obtain ⟨h1, h2⟩ := key _ _ h
  refine ⟨by simpa using h1, fun j u hu => ?_⟩
  obtain ⟨i, hi, hc⟩ := h2 j u hu
  have hj : j < n := by
   have := (List.getElem?_eq_some_iff.1 hi).1; simpa using this
  simp [hj] at hi
  subst hi; exact hc
 ·cases h
theorem Opens.slice {t e : TypeId} {α : Type} {E : α → List Value} {good : α → Prop} {sz : Nat} (ht : P.underlying t = some (.slice e)) (hc : P.cellsOf e = sz) (hpos : 0 < sz) (hE : ∀ a, (E a).length = sz) (he : Opens enc P w e E good) :
  Opens enc P w t (fun p : Value × List α => [p.1]) (fun p => Sl w p.1 (cellsOf E p.2) p.2.length ∧ p.2.length ≤ 9223372036854775807 ∧ ∀ a ∈ p.2, good a) := by
 intro fuel cs x h
 cases fuel with
 | zero => cases h
 | succ fuel =>
  unfold DataW.trod at h
  simp only [ht] at h
  split at h
  all_goals first
   | cases h; done
   | (rename_i h1; cases h1; done)
   | skip
  ·exact ⟨(.slice none 0 0, []), rfl, Sl.nil w, by simp, fun a ha => by cases ha⟩
  ·rename_i e0 a len cap h1
   cases h1
   split at h
   ·rename_i hb
    rw [hc] at h
    cases hm : (List.range len).mapM (fun i => (w.cells? 0 (a.add (i * sz)) sz).bind (DataW.trod enc P w 0 (fun _ => true) true fuel e)) with
    | none => rw [hm] at h; cases h
    | some r =>
     clear h
     have hx := mapM_some hm
     have : ∀ i, i < len → ∃ b : α, good b ∧ ∀ (j : Nat) u, (E b)[j]? = some u → w.cell? ((a.add (i * sz)).add j) = some u := by
      intro i hi
      obtain ⟨y, hy⟩ := hx i (List.mem_range.2 hi)
      cases hcs : w.cells? 0 (a.add (i * sz)) sz with
      | none => rw [hcs] at hy; cases hy
      | some cs =>
       rw [hcs] at hy
       obtain ⟨b, rfl, hg⟩ := he fuel cs y hy
       exact ⟨b, hg, (cells?_get hcs).2⟩
     have hlist : ∀ n, n ≤ len → ∃ l : List α, l.length = n ∧ (∀ b ∈ l, good b) ∧ ∀ (i : Nat) b, l[i]? = some b → ∀ (j : Nat) u, (E b)[j]? = some u → w.cell? ((a.add (i * sz)).add j) = some u := by
      intro n
      induction n with
      | zero => intro _; exact ⟨[], rfl, (fun b hb => by cases hb), fun i b hb => by simp at hb⟩
      | succ n ih =>
       intro hn
       obtain ⟨l, h1, h2, h3⟩ := ih (by omega)
       obtain ⟨b, g1, g2⟩ := this n (by omega)
       refine ⟨l ++ [b], by simp [h1], fun c hc => ?_, fun i c hc => ?_⟩
       ·rcases List.mem_append.1 hc with hc | hc
        ·exact h2 c hc
        ·simp at hc; subst hc; exact g1
       ·by_cases hi : i < l.length
        ·rw [List.getElem?_append_left hi] at hc; exact h3 i c hc
        ·have : i = n := by have := (List.getElem?_eq_some_iff.1 hc).1; simp at this; omega
         subst this
         rw [List.getElem?_append_right (by omega), h1] at hc
         simp at hc; subst hc; exact g2
     obtain ⟨l, h1, h2, h3⟩ := hlist len (Nat.le_refl _)
     refine ⟨(.slice (some a) len cap, l), rfl, ⟨?_, some a, cap, by simp [h1], by rw [h1]; exact hb.2.1⟩, by rw [h1]; have := hb.2.2; have := hb.2.1; unfold maxLen at *; omega, h2⟩
     by_cases h0 : len = 0
     ·subst h0
      have : l = [] := List.eq_nil_of_length_eq_zero h1
      subst this
      exact .inl ⟨.inr ⟨a, cap, rfl⟩, rfl, rfl⟩
     ·obtain ⟨b, off, spot⟩ := a
      obtain ⟨b0, hb0⟩ := getSome (show 0 < l.length by omega)
      obtain ⟨u0, hu0⟩ := getSome (show 0 < (E b0).length by rw [hE]; exact hpos)
      have hc0 := h3 0 b0 hb0 0 u0 hu0
      have hspot : spot = none := by simpa [Addr.add] using World.cell?_spot hc0
      subst hspot
      have hadd : ∀ b off j, (⟨b, off, none⟩ : Addr).add j = ⟨b, off + j, none⟩ := fun b off j => by unfold Addr.add; split <;> simp_all
      refine .inr ⟨b, off, cap, by simp [h1], fun j u hu => ?_⟩
      have hjl : j < (cellsOf E l).length := (List.getElem?_eq_some_iff.1 hu).1
      rw [cellsOf_len hE, h1] at hjl
      have hdiv : j / sz < len := Nat.div_lt_of_lt_mul (by rw [Nat.mul_comm]; exact hjl)
      have hmod : j % sz < sz := Nat.mod_lt _ hpos
      obtain ⟨c, hc⟩ := getSome (show j / sz < l.length by omega)
      obtain ⟨u', hu'⟩ := getSome (show j % sz < (E c).length by rw [hE]; exact hmod)
      have hj : j / sz * sz + j % sz = j := by rw [Nat.mul_comm]; exact Nat.div_add_mod j sz
      have hg := cellsOf_get hE hc (j % sz) u' hu'
      rw [hj, hu] at hg
      cases hg
      have := h3 _ c hc _ u hu'
      rw [hadd, hadd, Nat.add_assoc, hj] at this
      exact this
   ·cases h
end
end Go.GX
namespace Go.Proofs.YtgfdoognildoeaaGreat
open Go.GX Go.RowKit
attribute [local irreducible] Calls Run RunL RunQ RunD HR HL HD blkC ownC mapC Rd slicesC iterC
open Nd
variable {H : Type} {enc : TypeId × Value → H} {W : World}
theorem opT22 : Opens enc Tryz.prog W 22 (fun p : Value × List Int => [p.1]) (fun p => Sl W p.1 (cellsOf iC p.2) p.2.length ∧ p.2.length ≤ 9223372036854775807 ∧ ∀ a ∈ p.2, (Lit.int .i64 a).wf = true) :=
 Opens.slice (sz := 1) I (by kernel_rfl) (by decide) iC_len (Opens.int I)
end Go.Proofs.YtgfdoognildoeaaGreat
