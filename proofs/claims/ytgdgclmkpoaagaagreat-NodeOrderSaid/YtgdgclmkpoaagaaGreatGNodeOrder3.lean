/- A part of the proof: contracts of the program's functions. Conditions: none. -/
import Derived.Carry
import Derived.Deep.MidRow
import Derived.Deep.Quiet
import Derived.Laws.IdiomRangeMap
import Derived.Laws.MakeOwn
import Derived.Laws.StructEq
import Derived.Laws.Tables
import Derived.Lib.AppendStr
import Derived.Lib.AppendZerosOnto
import Derived.Lib.OthersKept
import Derived.Lib.Overlaps
import Derived.Lib.OwnBridge
import Derived.Lib.SlicesCompact
import Derived.MapKept
import Derived.Orders
import Derived.OrdersHeld
import Derived.Scope
import Derived.SliceStrings
import Derived.Sort.Grow
import Derived.StillTail
import Derived.Test.YtgdgclmkpoaagaaGreatProg
import Derived.Test.YtgdgclmkpoaagaaGreatShelf
import Derived.WalkKit
import Derived.WalkLawsBesides
import Derived.WalkSpells
import Derived.Test.YtgdgclmkpoaagaaGreatGB1
import Derived.Test.YtgdgclmkpoaagaaGreatGB10
import Derived.Test.YtgdgclmkpoaagaaGreatGB11
import Derived.Test.YtgdgclmkpoaagaaGreatGB2
import Derived.Test.YtgdgclmkpoaagaaGreatGB3
import Derived.Test.YtgdgclmkpoaagaaGreatGB4
import Derived.Test.YtgdgclmkpoaagaaGreatGB5
import Derived.Test.YtgdgclmkpoaagaaGreatGB6
import Derived.Test.YtgdgclmkpoaagaaGreatGB7
import Derived.Test.YtgdgclmkpoaagaaGreatGB8
import Derived.Test.YtgdgclmkpoaagaaGreatGB9
import Derived.Test.YtgdgclmkpoaagaaGreatGNodeOrder1
import Derived.Test.YtgdgclmkpoaagaaGreatGNodeOrder2
set_option linter.unusedVariables false
set_option linter.unusedSectionVars false
set_option linter.unusedSimpArgs false
set_option maxRecDepth 100000
set_option maxHeartbeats 4000000
namespace Go.Proofs.YtgdgclmkpoaagaaGreat
open Go.GX Go.RowKit
attribute [local irreducible] Calls Run RunL RunQ RunD HR HL HD blkC ownC Rd
open Nd
theorem fn36 : IsFn Tryz.prog 36 := ⟨⟨_, _, Tryz.func36, rfl, by decide⟩⟩
def kp (x y : Ro) : Bool := ((y.dest == x.dest) && ((y.sq == x.sq) && ((y.cost == x.cost) && (y.nx == x.nx)))) || ((y.dest == x.dest) && (decide (y.sq > x.sq) || ((y.sq == x.sq) && decide (y.cost < x.cost))))
theorem kept_kp {old t : List Ro} (h : Kept old t) {x : Ro} (hx : x ∈ old) : t.any (kp x) = true := by
 obtain ⟨y, hy, h1⟩ := h x hx
 refine List.any_eq_true.2 ⟨y, hy, ?_⟩
 unfold kp
 rcases h1 with rfl | ⟨e, h1⟩
 ·simp
 ·rcases h1 with h1 | ⟨h1, h2⟩
  ·simp [e, h1]
  ·simp [e, h1, h2]
theorem kept_any (old t : List Ro) (v0 v1 : Value) (w : World) (h0 : Sl w v0 (cellsOf roC old) old.length) (h1 : Sl w v1 (cellsOf roC t) t.length) (hl0 : old.length ≤ 1000) (hl1 : t.length ≤ 1000) (hk : Kept old t) :
  Calls Tryz.prog 36 #[v0, v1] w fun e w' => e = .returned (.bool true) ∧ Below w.heap.size w w' := by
 have c0 : (cellsOf roC old).length = old.length * 4 := cellsOf_len roC_len _
 refine calls_hr Tryz.func36 I (Nat.le_of_ble_eq_true I) ?_
 refine HR.sub (σ' := [(0, v0), (1, v1)]) ⟨I, I, trivial⟩ ?_
 repeat' (first | refine zh ?_ | intro (bk : Nat))
 refine HR.loop (ι := Nat) (fun i => i ≤ old.length) (fun i => [(0, v0), (1, v1), (5, .int .i64 (i : Int))]) (fun _ => []) (fun i => old.length - i) 0 (Nat.zero_le _) ⟨I, I, I, trivial⟩ Ent.refl ?_
 rintro i hi ih
 have hi : i ≤ old.length := hi
 repeat' (first | refine zh ?_ | refine HL.lenR (Rd.arg h0) I I I ?_ | intro (bk : Nat))
 refine HR.cond I (fun h2 => ?_) (fun h2 => ?_)
 rotate_left
 ·repeat' (first | refine zh ?_ | intro (bk : Nat))
  refine HR.ret Tryz.func36 I [_] (fun _ _ => ⟨I, trivial⟩) ?_
  exact fun w' hw => ⟨rfl, hw.belowB⟩
 have hlt : i < old.length := by have : (i : Int) < (old.length : Int) := of_decide_eq_true h2; omega
 obtain ⟨x, hx⟩ := getSome hlt
 have hany := kept_kp hk (List.mem_of_getElem? hx)
 repeat' (first | refine zh ?_ | intro (bk : Nat))
 refine HR.loop (ι := Nat) (fun k => k ≤ t.length) (fun k => [(0, v0), (1, v1), (5, .int .i64 (i : Int)), (6, .bool ((t.take k).any (kp x))), (7, .int .i64 (k : Int))]) (fun _ => []) (fun k => t.length - k) 0 (Nat.zero_le _) ⟨I, I, I, I, I, trivial⟩ (Ent.pick [] I I) ?_
 rintro k hkl ih2
 have hkl : k ≤ t.length := hkl
 repeat' (first | refine zh ?_ | refine HL.lenR (Rd.arg h1) I I I ?_ | intro (bk : Nat))
 refine HR.cond I (fun h3 => ?_) (fun h3 => ?_)
 ·have hkt : k < t.length := by have : (k : Int) < (t.length : Int) := of_decide_eq_true h3; omega
  obtain ⟨y, hy⟩ := getSome hkt
  have hat := any_take (p := kp x) hy
  repeat' (first | refine zh ?_ | refine HL.idxR (Rd.arg h1) elemRo k I I I I hkt ?_ | refine HL.loadE (Rd.arg h1) I I I I (by simp) I (cellsOf_get roC_len hy) ?_ | intro (bk : Nat))
  refine HR.regionQ hmix (by kernel_rfl) ?_
  repeat' (first | refine zq ?_ | refine HQ.idxR (Rd.arg h0) elemRo i I I I I hlt ?_ | refine HQ.loadE (Rd.arg h0) I I I I (by simp) I (cellsOf_get roC_len hx) ?_ | refine RunQ.eqS I (by kernel_rfl) (by kernel_rfl) I I I ?_ | refine HQ.fieldN 0 (Rd.arg h0) (by rw [c0]; omega) I I I I I I I ?_ | refine HQ.fieldN 1 (Rd.arg h0) (by rw [c0]; omega) I I I I I I I ?_ | refine HQ.fieldN 2 (Rd.arg h0) (by rw [c0]; omega) I I I I I I I ?_ | refine HQ.loadI (Rd.arg h0) I I I I (cells_get roC_len hx (i := 0) I) ?_ | refine HQ.loadI (Rd.arg h0) I I I I (cells_get roC_len hx (i := 1) I) ?_ | refine HQ.loadI (Rd.arg h0) I I I I (cells_get roC_len hx (i := 2) I) ?_ | apply zb ?_ ?_ | exact zc | (refine zi fun hb => ?_; try simp at hb))
  refine HR.cond I (fun h4 => ?_) (fun h4 => ?_)
  ·have h5 : kp x y = true := by simpa [kp] using h4
   rw [h5, Bool.or_true] at hat
   repeat' (first | refine zh ?_ | intro (bk : Nat))
   exact ih2 (k + 1) _ _ hkt (by show t.length - (k + 1) < t.length - k; omega) ⟨rfl, rfl, rfl, by rw [hat]; rfl, rfl, trivial⟩ (Ent.pick [] I I)
  ·have h5 : kp x y = false := by simpa [kp] using h4
   rw [h5, Bool.or_false] at hat
   repeat' (first | refine zh ?_ | intro (bk : Nat))
   exact ih2 (k + 1) _ _ hkt (by show t.length - (k + 1) < t.length - k; omega) ⟨rfl, rfl, rfl, by rw [hat]; rfl, rfl, trivial⟩ (Ent.pick [] I I)
 have hke : k = t.length := by have : ¬ (k : Int) < (t.length : Int) := of_decide_eq_false h3; omega
 subst hke
 refine HR.setB 6 true I (by rw [List.take_length]; exact hany) ?_
 repeat' (first | refine zh ?_ | intro (bk : Nat))
 exact ih (i + 1) _ _ hlt (by show old.length - (i + 1) < old.length - i; omega) ⟨I, I, I, trivial⟩ Ent.refl
abbrev ndE2 (p : NV × Nd) : List Value := ndC p.1 p.2
theorem ndE2_len (p : NV × Nd) : (ndE2 p).length = 13 := rfl
theorem elemNd : Elem Tryz.prog 62 31 13 232 := ⟨rfl, ⟨_, _, rfl, rfl, rfl, rfl, rfl⟩, by decide⟩
theorem nodeOrder_any (V : NV) (n : Nd) (f : Fr) (ta : Int) (ur : Bool) (te : By) (w : World) (h : OkN w V n) (hw0 : WfN n) (hfl : f.da.length ≤ 9223372036854775807) (hte : te.length ≤ 9223372036854775807) :
  Calls Tryz.prog 10 #[.agg ⟨ndC V n⟩, .agg ⟨frC f⟩, .agg ⟨leC ta ur te⟩] w fun e w' => e = .returned (.bool true) ∧ Below w.heap.size w w' := by
 refine calls_hr Tryz.func10 I (Nat.le_of_ble_eq_true I) ?_
 refine HR.sub (σ' := [(0, .agg ⟨ndC V n⟩), (1, .agg ⟨frC f⟩), (2, .agg ⟨leC ta ur te⟩)]) ⟨I, I, I, trivial⟩ ?_
 refine HR.ctl I ?_
 refine HR.region ?_
 refine HL.box I I ?_
 intro b3
 refine HL.box I I ?_
 intro b4
 refine HL.box I I ?_
 intro b5
 repeat' (first | refine zh ?_ | intro (bk : Nat))
 refine HL.callX (r := fun b : Bool => .bool b) (Q := fun b => b = false → FitN n) (G := fun _ => []) fn12 I I (fun w1 hw1 => large_any V n w1 (h.ext hw1.belowB) hw0) ?_
 intro b hb
 cases b with
 | true =>
  repeat' (first | refine zh ?_ | refine HL.callB fn13 I I (fun w1 _ => awake_any w1) ?_ | intro (bk : Nat))
  refine HR.ret Tryz.func10 I [_] (fun _ _ => ⟨I, trivial⟩) ?_
  exact fun w' hw => ⟨rfl, hw.belowB⟩
 | false =>
 have hf := hb I
 have hs := hf.sm' hw0
 repeat' (first | refine zh ?_ | refine HL.callB fn17 I I (fun w1 _ => long_any f w1 hfl) ?_ | apply zb ?_ ?_ | exact zc | (refine zi fun hb => ?_; try simp at hb) | intro (bk : Nat))
 refine HR.cond I (fun h1 => ?_) (fun h1 => ?_)
 ·repeat' (first | refine zh ?_ | refine HL.callB fn13 I I (fun w1 _ => awake_any w1) ?_ | intro (bk : Nat))
  refine HR.ret Tryz.func10 I [_] (fun _ _ => ⟨I, trivial⟩) ?_
  exact fun w' hw => ⟨rfl, hw.belowB⟩
 obtain ⟨m, hm⟩ : ∃ m, m = order n := ⟨_, rfl⟩
 have hmp : m.parts = n.parts := by rw [hm]; rfl
 have ho : Nd.Ord m := by rw [hm]; exact order_ord n
 have hpt : PtSm m.parts := by rw [hmp]; exact hs.pt
 have hsm : SmN m := ord_sm ho hpt
 have hwt : ∀ s ∈ m.out, fits .i64 s.wt := fun s hs => hw0.wt s (List.mem_of_mem_take (by rw [hm] at hs; exact hs))
 have g1 : (send m ta ur te).2 = 0 → Nd.Good m (send m ta ur te).1 := fun e => by have := send_good e; rwa [ho.eq] at this
 have g2 : Nd.Good m (talk m f.sq).1 := by have := talk_good m f.sq; rwa [ho.eq] at this
 have g3 : Nd.Good m (take m).1 := by have := take_good m; rwa [ho.eq] at this
 have g4 : Nd.Good m (tickN m f.sq) := by have := tick_good m f.sq; rwa [ho.eq] at this
 have g5 : Nd.Good m (result m f ur) := by have := result_good m f ur; rwa [ho.eq] at this
 have g6 : Nd.Good m (hear m f.sq f) := by have := hear_good m f.sq f; rwa [ho.eq] at this
 have p1 : PtSm (send m ta ur te).1.parts := send_ptsm hpt
 have p2 : PtSm (talk m f.sq).1.parts := talk_ptsm hpt
 have p3 : PtSm (take m).1.parts := hpt
 have p4 : PtSm (tickN m f.sq).parts := tick_ptsm m f.sq
 have p5 : PtSm (result m f ur).parts := result_ptsm hpt
 have p6 : PtSm (hear m f.sq f).parts := hear_ptsm hpt
 repeat' (first | refine zh ?_ | intro (bk : Nat))
 refine HL.callX (r := fun x : NV × List Chunk => .agg ⟨ndC x.1 m⟩) (Q := fun x => ROk V n x.1 x.2 m) (G := fun x => roH x.1 x.2 m) fn20 I I (fun w1 hw1 => by rw [hm]; exact rorder_any V n w1 (h.ext hw1.belowB) hs) ?_
 rintro ⟨V2, Gt⟩ hR
 have hR : ROk V n V2 Gt m := hR
 refine HL.ent (Ent.trans (Ent.group (G := roH V2 Gt m)) (Ent.pick [3, 2, 1, 0] I I)) ?_
 have okm : ∀ (w1 : World), Below w.heap.size w w1 → (groupC (roH V2 Gt m)).p w1 → OkN w1 V2 m := fun w1 hb hi => hR.okn hmp w1 (h.ext hb) hi
 obtain ⟨Gm, hGm⟩ : ∃ Gm, Gm = roH V2 Gt m := ⟨_, rfl⟩
 rw [← hGm] at okm ⊢
 obtain ⟨S, hS⟩ : ∃ S, S = send m ta ur te := ⟨_, rfl⟩
 obtain ⟨T, hT⟩ : ∃ T, T = talk m f.sq := ⟨_, rfl⟩
 obtain ⟨K, hK⟩ : ∃ K, K = take m := ⟨_, rfl⟩
 obtain ⟨D, hD⟩ : ∃ D, D = tickN m f.sq := ⟨_, rfl⟩
 obtain ⟨E, hE⟩ : ∃ E, E = result m f ur := ⟨_, rfl⟩
 obtain ⟨F, hF⟩ : ∃ F, F = hear m f.sq f := ⟨_, rfl⟩
 rw [← hS] at g1 p1
 rw [← hT] at g2 p2
 rw [← hK] at g3 p3
 rw [← hD] at g4 p4
 rw [← hE] at g5 p5
 rw [← hF] at g6 p6
 repeat' (first | refine zh ?_ | intro (bk : Nat))
 refine HL.callX (r := fun x : NV × List Chunk => .tuple ⟨[.agg ⟨ndC x.1 S.1⟩, .int .i64 S.2]⟩) (Q := fun x => Own x.1 x.2 S.1) (G := fun x => [groupC x.2]) fn14 I I (fun w1 hw1 => by rw [hS]; exact psend_any V2 m ta ur te w1 (okm w1 hw1.belowB (Sat.grp 3 hw1 I)) hsm hte) ?_
 rintro ⟨VS, GS⟩ o1
 have o1 : Own VS GS S.1 := o1
 repeat' (first | refine zh ?_ | intro (bk : Nat))
 refine HL.callX (r := fun x : NV × List Chunk => .tuple ⟨[.agg ⟨ndC x.1 T.1⟩, .agg ⟨frC T.2.1⟩, .bool T.2.2]⟩) (Q := fun x => Own x.1 x.2 T.1) (G := fun x => [groupC x.2]) fn22 I I (fun w1 hw1 => by rw [hT]; exact ptalk_any V2 m f.sq w1 (okm w1 hw1.belowB (Sat.grp 5 hw1 I)) hsm) ?_
 rintro ⟨VT, GT⟩ o2
 have o2 : Own VT GT T.1 := o2
 repeat' (first | refine zh ?_ | intro (bk : Nat))
 refine HL.callX (r := fun x : (NV × SV) × List Chunk => .tuple ⟨[.agg ⟨ndC x.1.1 K.1⟩, sv x.1.2 K.2.length]⟩) (Q := fun x => Own x.1.1 x.2 K.1 ∧ ∀ w2, (groupC x.2).p w2 → Sl w2 (sv x.1.2 K.2.length) (cellsOf deC K.2) K.2.length) (G := fun x => [groupC x.2]) fn23 I I (fun w1 hw1 => by rw [hK]; exact ptake_any V2 m w1 (okm w1 hw1.belowB (Sat.grp 8 hw1 I)) hsm) ?_
 rintro ⟨⟨VK, yK⟩, GK⟩ ⟨o3, _⟩
 have o3 : Own VK GK K.1 := o3
 repeat' (first | refine zh ?_ | intro (bk : Nat))
 refine HR.ent (H' := [blkC b3 (ndC V2 m) 31, blkC b4 (frC f) 42, blkC b5 (leC ta ur te) 33, _, _, _, groupC Gm, groupC GS, groupC GT, groupC GK]) (Ent.pick [7, 8, 9, 5, 3, 0, 10, 6, 4, 1] I I) ?_
 refine HR.regionD [(0, true), (1, true), (2, true), (3, true), (4, true), (6, true), (7, true), (8, true), (9, true), (11, true), (12, true), (13, true), (14, true), (5, false), (10, false), (15, false), (16, false), (17, true)] [0, 1, 2, 3, 4, 5, 6, 7, 8, 9] I I hmix (by kernel_rfl) ?_
 repeat' (first | refine zd ?_ | fail)
 refine HD.one I ?_
 refine HL.callX (r := fun x : NV × List Chunk => .agg ⟨ndC x.1 D⟩) (Q := fun x => Own x.1 x.2 D) (G := fun x => [groupC x.2]) fn33 I I (fun w1 hw1 => by rw [hD]; exact ptick_any V2 m f.sq w1 (okm w1 hw1.belowB (Sat.grp 6 hw1 I)) hsm hwt) ?_
 rintro ⟨VD, GD⟩ o4
 have o4 : Own VD GD D := o4
 refine HL.back [1, 2, 3, 4, 5, 6, 7, 8, 9, 10] I I ?_
 refine HD.one I ?_
 refine HL.callX (r := fun x : NV × List Chunk => .agg ⟨ndC x.1 E⟩) (Q := fun x => Own x.1 x.2 E) (G := fun x => [groupC x.2]) fn30 I I (fun w1 hw1 => by rw [hE]; exact presult_any V2 m f ur w1 (okm w1 hw1.belowB (Sat.grp 7 hw1 I)) hsm) ?_
 rintro ⟨VE, GE⟩ o5
 have o5 : Own VE GE E := o5
 refine HL.back [2, 3, 4, 5, 6, 7, 8, 9, 10, 11] I I ?_
 refine HD.one I ?_
 refine HL.callX (r := fun x : NV × List Chunk => .agg ⟨ndC x.1 F⟩) (Q := fun x => Own x.1 x.2 F) (G := fun x => [groupC x.2]) fn18 I I (fun w1 hw1 => by rw [hF]; exact phear_any V2 m f.sq f w1 (okm w1 hw1.belowB (Sat.grp 8 hw1 I)) hsm hfl) ?_
 rintro ⟨VF, GF⟩ o6
 have o6 : Own VF GF F := o6
 refine HL.back [3, 4, 5, 6, 7, 8, 9, 10, 11, 12] I I ?_
 refine HD.one I ?_
 refine HL.bslice elemNd I I I I I (by decide) (by decide) ?_
 intro va
 refine HL.back [4, 5, 6, 7, 8, 9, 10, 11, 12, 13] I I ?_
 repeat' (first | refine zd ?_ | fail)
 refine HD.nil ?_
 obtain ⟨xs, hxs⟩ : ∃ xs : List (NV × Nd), xs = [(VT, T.1), (VK, K.1), (VD, D), (VE, E), (VF, F)] := ⟨_, rfl⟩
 obtain ⟨Ga, hGa⟩ : ∃ Ga, Ga = [groupC GF, groupC GE, groupC GD, groupC Gm, groupC GS, groupC GT, groupC GK] := ⟨_, rfl⟩
 have hm5 : ∀ (V : NV) (G : List Chunk) (x : Nd), groupC G ∈ Ga → Own V G x → Own V Ga x := fun V G x hi ho w2 hg => ho w2 (groupC_mem hg hi)
 refine HR.ent (H' := [ownC va 31 13 xs.length (cellsOf ndE2 xs), blkC b3 (ndC V2 m) 31, blkC b4 (frC f) 42, blkC b5 (leC ta ur te) 33, _, groupC Ga]) (Ent.trans (Ent.pick (H' := [groupC GF, groupC GE, groupC GD, groupC Gm, groupC GS, groupC GT, groupC GK] ++ [ownC va 31 13 5 (cellsOf ndE2 [(VT, T.1), (VK, K.1), (VD, D), (VE, E), (VF, F)]), blkC b3 (ndC V2 m) 31, blkC b4 (frC f) 42, blkC b5 (leC ta ur te) 33, _]) [1, 2, 3, 10, 11, 12, 13, 0, 4, 5, 6, 7] I I) (Ent.trans Ent.group (by subst hxs; subst hGa; exact Ent.pick [1, 2, 3, 4, 5, 0] I I))) ?_
 have hall : ∀ p ∈ xs, Own p.1 Ga p.2 ∧ Nd.Good m p.2 ∧ PtSm p.2.parts := by
  subst hxs
  have mm : ∀ {c : Chunk}, c ∈ [groupC GF, groupC GE, groupC GD, groupC Gm, groupC GS, groupC GT, groupC GK] → c ∈ Ga := fun hc => by rw [hGa]; exact hc
  intro p hp
  simp only [List.mem_cons, List.not_mem_nil, or_false] at hp
  rcases hp with rfl | rfl | rfl | rfl | rfl
  ·exact ⟨hm5 _ GT _ (mm (by simp)) o2, g2, p2⟩
  ·exact ⟨hm5 _ GK _ (mm (by simp)) o3, g3, p3⟩
  ·exact ⟨hm5 _ GD _ (mm (by simp)) o4, g4, p4⟩
  ·exact ⟨hm5 _ GE _ (mm (by simp)) o5, g5, p5⟩
  ·exact ⟨hm5 _ GF _ (mm (by simp)) o6, g6, p6⟩
 have hS1 : S.2 = 0 → Own VS Ga S.1 ∧ Nd.Good m S.1 ∧ PtSm S.1.parts := fun e => ⟨hm5 _ GS _ (by rw [hGa]; simp) o1, g1 e, p1⟩
 have hokm : ∀ w1, Below w.heap.size w w1 → (groupC Ga).p w1 → OkN w1 V2 m := fun w1 hb hg => okm w1 hb (groupC_mem hg (by rw [hGa]; simp))
 have hlen : xs.length = 5 := by rw [hxs]; rfl
 clear hm5
 repeat' (first | refine zh ?_ | intro (bk : Nat))
 refine HR.join (ι := List (NV × Nd) × Value) (fun x => (∀ p ∈ x.1, Own p.1 Ga p.2 ∧ Nd.Good m p.2 ∧ PtSm p.2.parts) ∧ x.1.length ≤ 6) (fun x => [(3, ptr b3), (6, .bool false), (14, x.2)]) (fun x => [ownC x.2 31 13 x.1.length (cellsOf ndE2 x.1), blkC b3 (ndC V2 m) 31, groupC Ga]) (fun x hx => ?_) (fun hj => ?_)
 rotate_left
 ·refine HR.cond I (fun h2 => ?_) (fun h2 => ?_)
  ·have h2 : S.2 = 0 := by have h2 : (S.2 == 0) = true := h2; simpa using h2
   refine HR.region ?_
   repeat' (first | refine zn ?_ | intro (bk : Nat))
   refine HL.bslice elemNd I I I I I (by decide) (by decide) ?_
   intro vb
   refine HL.appR 1 I elemNd (Rd.own 0 I) I I I I (allOne_spec I) (by omega) (by omega) ?_
   intro vc
   repeat' (first | refine zn ?_ | intro (bk : Nat))
   refine hj (xs ++ [(VS, S.1)], vc) _ _ ⟨fun p hp => ?_, ?_⟩ ⟨I, I, I, trivial⟩ (Ent.trans (Ent.pick [1, 2, 6] I I) (Ent.own0 ?_ ?_))
   ·rcases List.mem_append.1 hp with hp | hp
    ·exact hall p hp
    ·rw [List.mem_singleton.1 hp]; exact hS1 h2
   ·show (xs ++ [(VS, S.1)]).length ≤ 6
    simp [hlen]
   ·show xs.length + 1 = (xs ++ [(VS, S.1)]).length
    simp
   ·show _ = cellsOf ndE2 (xs ++ [(VS, S.1)])
    rw [cellsOf_app]; rfl
  ·refine HR.skip ?_
   exact hj (xs, va) _ _ ⟨hall, by show xs.length ≤ 6; omega⟩ ⟨I, I, I, trivial⟩ (Ent.pick [0, 1, 5] I I)
 obtain ⟨ys, vy⟩ := x
 obtain ⟨hys, hyl⟩ := hx
 have hys : ∀ p ∈ ys, Own p.1 Ga p.2 ∧ Nd.Good m p.2 ∧ PtSm p.2.parts := hys
 have hyl : ys.length ≤ 6 := hyl
 have cy : (cellsOf ndE2 ys).length = ys.length * 13 := cellsOf_len ndE2_len _
 repeat' (first | refine zh ?_ | intro (bk : Nat))
 refine HR.loop (ι := Nat) (fun i => i ≤ ys.length) (fun i => [(3, ptr b3), (6, .bool false), (14, vy), (15, .int .i64 (i : Int))]) (fun _ => [ownC vy 31 13 ys.length (cellsOf ndE2 ys), blkC b3 (ndC V2 m) 31, groupC Ga]) (fun i => ys.length - i) 0 (Nat.zero_le _) ⟨I, I, I, I, trivial⟩ Ent.refl ?_
 rintro i hi ih
 have hi : i ≤ ys.length := hi
 repeat' (first | refine zh ?_ | refine HL.lenR (Rd.own 0 I) I I I ?_ | intro (bk : Nat))
 refine HR.cond I (fun h2 => ?_) (fun h2 => ?_)
 rotate_left
 ·repeat' (first | refine zh ?_ | refine HL.callB fn13 I I (fun w1 _ => awake_any w1) ?_ | intro (bk : Nat))
  refine HR.ret Tryz.func10 I [_] (fun _ _ => ⟨I, trivial⟩) ?_
  exact fun w' hw => ⟨rfl, hw.belowB⟩
 have hlt : i < ys.length := by have : (i : Int) < (ys.length : Int) := of_decide_eq_true h2; omega
 obtain ⟨⟨VX, X⟩, hx⟩ := getSome hlt
 obtain ⟨xo, xg, xp⟩ := hys _ (List.mem_of_getElem? hx)
 have xo : Own VX Ga X := xo
 have xg : Nd.Good m X := xg
 have xp : PtSm X.parts := xp
 have xs : SmN X := ord_sm xg.ord xp
 have xt : rchk X.table m.addr = 0 := by have := xg.ord.table.chk; rw [xg.addr] at this; exact this
 have hX1 := cells_get ndE2_len hx (i := 3) I
 repeat' (first | refine zh ?_ | intro (bk : Nat))
 refine HR.regionD [(0, true), (1, true), (2, true), (3, true), (4, true), (5, true), (6, true), (7, true), (8, false), (9, false), (10, true), (11, true), (12, true), (13, true), (14, true), (15, true), (16, true), (17, true), (18, true), (19, false), (20, true), (21, true), (22, true), (23, true), (24, true), (25, true), (26, true), (27, true), (28, true), (29, true), (30, false), (31, true), (32, true), (33, true), (34, true), (35, true), (36, true), (37, true), (38, true), (39, true), (40, true), (41, true), (42, true), (43, true), (44, true), (45, true), (46, true), (47, true), (48, true), (49, true), (50, true)] [0, 1, 2] I I hmix (by kernel_rfl) ?_
 repeat' (first | refine zd ?_ | refine HD.idxR (Rd.own 0 I) elemNd i I I I I I hlt ?_ | refine HD.loadE (Rd.own 0 I) I I I I I (by simp) I (cellsOf_get ndE2_len hx) ?_ | refine HD.fieldN 3 (Rd.own 0 I) (by rw [cy]; omega) I I I I I I I I ?_ | refine HD.fieldN 5 (Rd.own 0 I) (by rw [cy]; omega) I I I I I I I I ?_ | refine HD.fieldN 7 (Rd.own 0 I) (by rw [cy]; omega) I I I I I I I I ?_ | refine HD.loadI (Rd.own 0 I) I I I I I (cells_get ndE2_len hx (i := 3) I) ?_ | refine HD.loadI (Rd.own 0 I) I I I I I (cells_get ndE2_len hx (i := 5) I) ?_ | refine HD.loadI (Rd.own 0 I) I I I I I (cells_get ndE2_len hx (i := 7) I) ?_ | refine HD.lenR (rd_of (cs := cellsOf snC X.out) fun w hw => (xo w (Sat.grp 2 hw rfl)).ou) I I I I ?_ | refine HD.lenR (rd_of (cs := cellsOf maC X.boxes) fun w hw => (xo w (Sat.grp 2 hw rfl)).bo) I I I I ?_)
 refine HD.one I ?_
 refine HL.callX (r := fun x : NV × List Chunk => .agg ⟨ndC x.1 X⟩) (Q := fun x => ROk VX X x.1 x.2 X) (G := fun x => roH x.1 x.2 X) fn20 I I (fun w1 hw1 => by have := rorder_any VX X w1 (xo w1 (Sat.grp 2 hw1 I)) xs; rw [xg.ord.eq] at this; exact this) ?_
 rintro ⟨VO, GO⟩ hO
 have hO : ROk VX X VO GO X := hO
 refine HL.ent (Ent.group (G := roH VO GO X)) ?_
 refine HL.back [1, 2, 3] I I ?_
 refine HD.one I ?_
 refine HL.callB (r := .bool true) fn16 I I (fun w1 hw1 => same17_any VX VO X w1 (xo w1 (Sat.grp 3 hw1 I)) (hO.okn I w1 (xo w1 (Sat.grp 3 hw1 I)) (Sat.grp 0 hw1 I)) xs.bg) ?_
 refine HL.back [1, 2, 3] I I ?_
 repeat' (first | refine zd ?_ | refine HD.idxR (Rd.own 0 I) elemNd i I I I I I hlt ?_ | refine HD.loadE (Rd.own 0 I) I I I I I (by simp) I (cellsOf_get ndE2_len hx) ?_ | refine HD.fieldN 3 (Rd.own 0 I) (by rw [cy]; omega) I I I I I I I I ?_ | refine HD.fieldN 5 (Rd.own 0 I) (by rw [cy]; omega) I I I I I I I I ?_ | refine HD.fieldN 7 (Rd.own 0 I) (by rw [cy]; omega) I I I I I I I I ?_ | refine HD.loadI (Rd.own 0 I) I I I I I (cells_get ndE2_len hx (i := 3) I) ?_ | refine HD.loadI (Rd.own 0 I) I I I I I (cells_get ndE2_len hx (i := 5) I) ?_ | refine HD.loadI (Rd.own 0 I) I I I I I (cells_get ndE2_len hx (i := 7) I) ?_ | refine HD.lenR (rd_of (cs := cellsOf snC X.out) fun w hw => (xo w (Sat.grp 2 hw rfl)).ou) I I I I ?_ | refine HD.lenR (rd_of (cs := cellsOf maC X.boxes) fun w hw => (xo w (Sat.grp 2 hw rfl)).bo) I I I I ?_)
 refine HD.one I ?_
 refine HL.callB (r := .int .i64 0) fn35 I I (fun w1 hw1 => by have := rcheck_any X.table m.addr _ w1 (xo w1 (Sat.grp 3 hw1 rfl)).ta xs.ta; rw [xt] at this; exact this) ?_
 refine HL.back [1, 2, 3] I I ?_
 repeat' (first | refine zd ?_ | refine HD.idxR (Rd.own 0 I) elemNd i I I I I I hlt ?_ | refine HD.loadE (Rd.own 0 I) I I I I I (by simp) I (cellsOf_get ndE2_len hx) ?_ | refine HD.fieldN 3 (Rd.own 0 I) (by rw [cy]; omega) I I I I I I I I ?_ | refine HD.fieldN 5 (Rd.own 0 I) (by rw [cy]; omega) I I I I I I I I ?_ | refine HD.fieldN 7 (Rd.own 0 I) (by rw [cy]; omega) I I I I I I I I ?_ | refine HD.loadI (Rd.own 0 I) I I I I I (cells_get ndE2_len hx (i := 3) I) ?_ | refine HD.loadI (Rd.own 0 I) I I I I I (cells_get ndE2_len hx (i := 5) I) ?_ | refine HD.loadI (Rd.own 0 I) I I I I I (cells_get ndE2_len hx (i := 7) I) ?_ | refine HD.lenR (rd_of (cs := cellsOf snC X.out) fun w hw => (xo w (Sat.grp 2 hw rfl)).ou) I I I I ?_ | refine HD.lenR (rd_of (cs := cellsOf maC X.boxes) fun w hw => (xo w (Sat.grp 2 hw rfl)).bo) I I I I ?_)
 refine HD.one I ?_
 refine HL.callB (r := .bool true) fn36 I I (fun w1 hw1 => kept_any m.table X.table _ _ w1 (hokm w1 hw1.belowB (Sat.grp 3 hw1 rfl)).ta (xo w1 (Sat.grp 3 hw1 rfl)).ta hsm.ta xs.ta xg.kept) ?_
 refine HL.back [1, 2, 3] I I ?_
 repeat' (first | refine zd ?_ | refine HD.idxR (Rd.own 0 I) elemNd i I I I I I hlt ?_ | refine HD.loadE (Rd.own 0 I) I I I I I (by simp) I (cellsOf_get ndE2_len hx) ?_ | refine HD.fieldN 3 (Rd.own 0 I) (by rw [cy]; omega) I I I I I I I I ?_ | refine HD.fieldN 5 (Rd.own 0 I) (by rw [cy]; omega) I I I I I I I I ?_ | refine HD.fieldN 7 (Rd.own 0 I) (by rw [cy]; omega) I I I I I I I I ?_ | refine HD.loadI (Rd.own 0 I) I I I I I (cells_get ndE2_len hx (i := 3) I) ?_ | refine HD.loadI (Rd.own 0 I) I I I I I (cells_get ndE2_len hx (i := 5) I) ?_ | refine HD.loadI (Rd.own 0 I) I I I I I (cells_get ndE2_len hx (i := 7) I) ?_ | refine HD.lenR (rd_of (cs := cellsOf snC X.out) fun w hw => (xo w (Sat.grp 2 hw rfl)).ou) I I I I ?_ | refine HD.lenR (rd_of (cs := cellsOf maC X.boxes) fun w hw => (xo w (Sat.grp 2 hw rfl)).bo) I I I I ?_)
 refine HD.setB 126 false I (decide_eq_false (show ¬ ((X.out.length : Int) > 16) by have := xg.ord.out; omega)) ?_
 repeat' (first | refine zd ?_ | refine HD.idxR (Rd.own 0 I) elemNd i I I I I I hlt ?_ | refine HD.loadE (Rd.own 0 I) I I I I I (by simp) I (cellsOf_get ndE2_len hx) ?_ | refine HD.fieldN 3 (Rd.own 0 I) (by rw [cy]; omega) I I I I I I I I ?_ | refine HD.fieldN 5 (Rd.own 0 I) (by rw [cy]; omega) I I I I I I I I ?_ | refine HD.fieldN 7 (Rd.own 0 I) (by rw [cy]; omega) I I I I I I I I ?_ | refine HD.loadI (Rd.own 0 I) I I I I I (cells_get ndE2_len hx (i := 3) I) ?_ | refine HD.loadI (Rd.own 0 I) I I I I I (cells_get ndE2_len hx (i := 5) I) ?_ | refine HD.loadI (Rd.own 0 I) I I I I I (cells_get ndE2_len hx (i := 7) I) ?_ | refine HD.lenR (rd_of (cs := cellsOf snC X.out) fun w hw => (xo w (Sat.grp 2 hw rfl)).ou) I I I I ?_ | refine HD.lenR (rd_of (cs := cellsOf maC X.boxes) fun w hw => (xo w (Sat.grp 2 hw rfl)).bo) I I I I ?_)
 refine HD.nil ?_
 refine HR.cond I (fun h3 => ?_) (fun h3 => ?_)
 ·exfalso
  have h3 : decide ((X.boxes.length : Int) > 16) = true := h3
  have h3 := of_decide_eq_true h3
  have := xg.ord.boxes
  omega
 repeat' (first | refine zh ?_ | intro (bk : Nat))
 exact ih (i + 1) _ _ hlt (by show ys.length - (i + 1) < ys.length - i; omega) ⟨I, I, I, I, trivial⟩ (Ent.pick [1, 2, 3] I I)
end Go.Proofs.YtgdgclmkpoaagaaGreat
namespace Go.Proofs.YtgdgclmkpoaagaaGreat
open Go.GX Go.RowKit
attribute [local irreducible] Calls Run RunL RunQ RunD HR HL HD blkC ownC Rd
open Nd
theorem nodeOrder.nodeOrder_any (a : NdA) (f : Fr) (x : LeA) (w : World) (g : NdOk w a) (hf : f.da.length ≤ 9223372036854775807) (hx : x.2.2.length ≤ 9223372036854775807) :
  Calls Tryz.prog 10 #[.agg ⟨ndE a⟩, .agg ⟨frC f⟩, .agg ⟨leE x⟩] w fun e w' => e = .returned (.bool true) ∧ Below w.heap.size w w' := Proofs.YtgdgclmkpoaagaaGreat.nodeOrder_any a.1 a.2 f x.1 x.2.1 x.2.2 w g.ok g.wf hf hx
end Go.Proofs.YtgdgclmkpoaagaaGreat
