/- A part of the proof: contracts of the program's functions. Conditions: none. -/
import Derived.Carry
import Derived.Deep.MidRow
import Derived.Deep.Quiet
import Derived.Laws.IdiomRangeMap
import Derived.Laws.MakeOwn
import Derived.Laws.StructEq
import Derived.Laws.Tables
import Derived.Lib.AppendStr
import Derived.Lib.AppendZerosOnto
import Derived.Lib.OthersKept
import Derived.Lib.Overlaps
import Derived.Lib.OwnBridge
import Derived.Lib.SlicesCompact
import Derived.MapKept
import Derived.Orders
import Derived.OrdersHeld
import Derived.Scope
import Derived.Sort.Grow
import Derived.StillTail
import Derived.Test.YtgfdoognildoeaaGreatProg
import Derived.Test.YtgfdoognildoeaaGreatShelf
import Derived.WalkKit
import Derived.WalkLawsBesides
import Derived.WalkSpells
import Derived.Test.YtgfdoognildoeaaGreatMB1
import Derived.Test.YtgfdoognildoeaaGreatMB2
import Derived.Test.YtgfdoognildoeaaGreatMB3
import Derived.Test.YtgfdoognildoeaaGreatMB4
import Derived.Test.YtgfdoognildoeaaGreatMB5
import Derived.Test.YtgfdoognildoeaaGreatMB6
import Derived.Test.YtgfdoognildoeaaGreatMB7
import Derived.Test.YtgfdoognildoeaaGreatMB8
import Derived.Test.YtgfdoognildoeaaGreatMB9
import Derived.Test.YtgfdoognildoeaaGreatMB10
import Derived.Test.YtgfdoognildoeaaGreatMB11
import Derived.Test.YtgfdoognildoeaaGreatMB12
set_option linter.unusedVariables false
set_option linter.unusedSectionVars false
set_option linter.unusedSimpArgs false
set_option maxRecDepth 100000
set_option maxHeartbeats 4000000
namespace Me
open Go.GX Nd Tp
theorem ins_perm {α : Type} (p : α → Bool) (l : List α) (x : α) : (ins p l x).Perm (x :: l) := by
 unfold ins
 have := List.perm_middle (a := x) (l₁ := l.takeWhile p) (l₂ := l.dropWhile p)
 rwa [List.takeWhile_append_dropWhile] at this
theorem build_perm (addrs polls : List Int) : ∀ k, (build addrs polls k).Perm ((List.range k).map (nodeAt addrs polls))
 | 0 => List.Perm.refl _
 | k + 1 => by
  unfold build put
  refine (ins_perm _ _ _).trans ?_
  rw [List.range_succ, List.map_append]
  exact ((build_perm addrs polls k).cons _).trans (List.perm_append_singleton _ _).symm
theorem addrs_ok {addrs : List Int} (h : firstE (addrBad addrs) addrs.length = 0) : (∀ a ∈ addrs, okN a = true) ∧ addrs.Nodup := by
 have key : ∀ (i : Nat) (a : Int), addrs[i]? = some a → okN a = true ∧ a ∉ addrs.take i := by
  intro i a hi
  have h1 := firstE_all h i (List.getElem?_eq_some_iff.1 hi).1
  unfold addrBad at h1
  rw [hi] at h1
  simp only at h1
  split at h1
  ·cases h1
  ·rename_i h2
   split at h1
   ·cases h1
   ·rename_i h3
    exact ⟨by cases e : okN a; exact absurd e h2; rfl, h3⟩
 refine ⟨fun a ha => ?_, ?_⟩
 ·obtain ⟨i, hi⟩ := List.getElem?_of_mem ha
  exact (key i a hi).1
 ·refine List.pairwise_iff_getElem.2 fun i j hi hj hij e => ?_
  refine (key j addrs[j] (List.getElem?_eq_getElem hj)).2 ?_
  rw [← e]
  exact List.mem_of_getElem? (i := i) (by rw [List.getElem?_take_of_lt hij, List.getElem?_eq_getElem hi])
theorem dis_of {l : List Nd.Nd} (h : (l.map (·.addr)).Nodup) : ∀ (i j : Nat) (x y : Nd.Nd), l[i]? = some x → l[j]? = some y → x.addr = y.addr → i = j := by
 intro i j x y hi hj e
 have hi' : (l.map (·.addr))[i]? = some x.addr := by rw [List.getElem?_map, hi]; rfl
 have hj' : (l.map (·.addr))[j]? = some y.addr := by rw [List.getElem?_map, hj]; rfl
 exact (List.getElem?_inj (List.getElem?_eq_some_iff.1 hi').1 h).1 (by rw [hi', hj', e])
theorem build_inv {C : Ctx} {addrs polls : List Int} (h : firstE (addrBad addrs) addrs.length = 0) : Inv C (build addrs polls addrs.length) ∧ (build addrs polls addrs.length).length = addrs.length := by
 obtain ⟨h1, h2⟩ := addrs_ok h
 have hp := build_perm addrs polls addrs.length
 have hat : ∀ k, k < addrs.length → okN (addrs.getD k 0) = true := fun k hk => by
  rw [List.getD_eq_getElem?_getD, List.getElem?_eq_getElem hk]
  exact h1 _ (List.getElem_mem hk)
 have hx : ∀ x ∈ build addrs polls addrs.length, ∃ a p, okN a = true ∧ x = new a p := fun x hx => by
  obtain ⟨k, hk, rfl⟩ := List.mem_map.1 (hp.mem_iff.1 hx)
  exact ⟨_, _, hat k (List.mem_range.1 hk), rfl⟩
 have ha : ((List.range addrs.length).map (nodeAt addrs polls)).map (·.addr) = addrs := by
  refine List.ext_getElem? fun k => ?_
  rw [List.map_map, List.getElem?_map]
  by_cases hk : k < addrs.length
  ·rw [List.getElem?_range hk, List.getElem?_eq_getElem hk]
   show some (new (addrs.getD k 0) (pollOf polls k)).addr = some addrs[k]
   rw [(new_addr (hat k hk)).1, List.getD_eq_getElem?_getD, List.getElem?_eq_getElem hk]; rfl
  ·rw [List.getElem?_eq_none (by simpa using hk), List.getElem?_eq_none (by simpa using hk)]; rfl
 have hd : ((build addrs polls addrs.length).map (·.addr)).Nodup := by
  refine (hp.map (·.addr)).nodup_iff.2 ?_
  rw [ha]; exact h2
 refine ⟨⟨fun x hm => ?_, dis_of hd, fun x hm r hr hne => ?_, fun x hm s hs => ?_, fun x hm s hs => ?_, fun x hm => ?_, fun x hm s hs => ?_⟩, by rw [hp.length_eq]; simp⟩
 all_goals obtain ⟨a, p, hok, rfl⟩ := hx x hm
 all_goals obtain ⟨e1, e2, e3, e4, e5, e6⟩ := new_addr (poll := p) hok
 ·exact order_ord _
 ·rw [e6, List.mem_singleton] at hr
  subst hr
  rw [e1] at hne
  exact absurd I hne
 ·rw [e2] at hs; cases hs
 ·rw [e3] at hs; cases hs
 ·rw [e4]; exact C.hN
 ·rw [e5] at hs; cases hs
theorem Inv.new {C : Ctx} {addrs polls : List Int} (h : (mNew addrs polls).2 = 0) : Inv C (mNew addrs polls).1.nodes ∧ (mNew addrs polls).1.tick = 0 ∧ (mNew addrs polls).1.nodes.length = addrs.length := by
 unfold mNew at h ⊢
 split at h
 ·cases h
 ·rename_i h1
  rw [if_neg h1]
  split at h
  ·rename_i h2; exact absurd h h2
  ·rename_i h2
   rw [if_neg h2]
   obtain ⟨g1, g2⟩ := build_inv (C := C) (polls := polls) (Decidable.not_not.1 h2)
   exact ⟨g1, rfl, g2⟩
theorem mNew_bad {addrs polls : List Int} (h : (mNew addrs polls).2 ≠ 0) : (mNew addrs polls).1 = mesh0 := by
 unfold mNew at h ⊢
 split
 ·rfl
 ·rename_i h1
  rw [if_neg h1] at h
  split
  ·rfl
  ·rename_i h2; rw [if_neg h2] at h; exact absurd I h
end Me
namespace Go.Proofs.YtgfdoognildoeaaGreat
open Go.GX Go.RowKit
attribute [local irreducible] Calls Run RunL RunQ RunD HR HL HD blkC ownC mapC Rd slicesC iterC
open Nd Me
theorem ptsm0 : PtSm [] := ⟨Nat.zero_le _, fun p hp => by cases hp⟩
def ctx0 : Ctx where
 D f := f.da.length ≤ 1000
 K := PtSm
 M _ _ := True
 hD _ _ _ _ h := h
 hK _ _ _ _ hd he := ⟨padd_sm hd he, fun _ => trivial⟩
 hE l now life _ := pexp_sm l now life
 hN := ptsm0
end Go.Proofs.YtgfdoognildoeaaGreat
namespace Go.Proofs.YtgfdoognildoeaaGreat
open Go.GX Go.RowKit
attribute [local irreducible] Calls Run RunL RunQ RunD HR HL HD blkC ownC mapC Rd slicesC iterC
open Nd
abbrev ndE2 (p : NV × Nd) : List Value := ndC p.1 p.2
theorem ndE2_len (p : NV × Nd) : (ndE2 p).length = 13 := rfl
theorem ndE2_one (p : NV × Nd) : allOne (ndE2 p) = true := rfl
theorem elemNd : Elem Tryz.prog 24 62 13 232 := ⟨rfl, ⟨_, _, rfl, rfl, rfl, rfl, rfl⟩, by decide⟩
structure OkL (w : World) (v : Value) (xs : List (NV × Nd)) : Prop where
 s : Sl w v (cellsOf ndE2 xs) xs.length
 r : ∀ x ∈ xs, OkN w x.1 x.2
theorem OkL.ext {w w' : World} {v : Value} {xs : List (NV × Nd)} (h : OkL w v xs) (hb : Below w.heap.size w w') : OkL w' v xs := ⟨h.s.ext hb, fun x hx => (h.r x hx).ext hb⟩
abbrev nds (xs : List (NV × Nd)) : List Nd := xs.map (·.2)
end Go.Proofs.YtgfdoognildoeaaGreat
namespace Go.Proofs.YtgfdoognildoeaaGreat
open Go.GX Go.RowKit
attribute [local irreducible] Calls Run RunL RunQ RunD HR HL HD blkC ownC mapC Rd slicesC iterC
open Nd
theorem fn148 : IsFn Tryz.prog 148 := ⟨⟨_, _, Tryz.func148, rfl, by decide⟩⟩
theorem fn204 : IsFn Tryz.prog 204 := ⟨⟨_, _, Tryz.func204, rfl, by decide⟩⟩
theorem fn35 : IsFn Tryz.prog 35 := ⟨⟨_, _, Tryz.func35, rfl, by decide⟩⟩
theorem fn71 : IsFn Tryz.prog 71 := ⟨⟨_, _, Tryz.func71, rfl, by decide⟩⟩
theorem fn28 : IsFn Tryz.prog 28 := ⟨⟨_, _, Tryz.func28, rfl, by decide⟩⟩
theorem cloneI_any (l : List Int) (v : Value) (w : World) (hv : Sl w v (cellsOf iC l) l.length) (hl : l.length ≤ 1000) :
  Calls Tryz.prog 148 #[v] w fun e w' => ∃ v', e = .returned v' ∧ Sat (base w) [ownC v' 3 1 l.length (cellsOf iC l)] w' := by
 obtain ⟨a, c, rfl, _⟩ := hv.2
 refine calls_hr Tryz.func148 I (Nat.le_of_ble_eq_true I) ?_
 refine HR.sub (σ' := [(0, .slice a l.length c)]) ⟨I, trivial⟩ ?_
 repeat' (first | refine zh ?_ | refine HL.eqNil I I I I ?_ | apply zb ?_ ?_ | exact zc | (refine zi fun hb => ?_; try simp at hb) | intro (bk : Nat))
 refine HR.cond I (fun h => ?_) (fun h => ?_)
 ·have ha : a = none := by simpa using h
  have hz : l = [] := by
   subst ha
   rcases hv.1 with ⟨_, h0, _⟩ | ⟨b, off, cap, he, _⟩
   ·exact List.eq_nil_of_length_eq_zero h0
   ·cases he
  subst hz
  repeat' (first | refine zh ?_ | apply zb ?_ ?_ | exact zc | (refine zi fun hb => ?_; try simp at hb) | intro (bk : Nat))
  refine HR.nilC 3 1 ?_
  refine HR.ret Tryz.func148 I [_] (fun _ _ => ⟨I, trivial⟩) ?_
  exact fun w' hw => ⟨.slice none 0 0, rfl, hw⟩
 ·repeat' (first | refine zh ?_ | refine HL.bslice0 elemI I ?_ | apply zb ?_ ?_ | exact zc | (refine zi fun hb => ?_; try simp at hb) | intro (bk : Nat))
  intro v1
  repeat' (first | refine zh ?_ | refine HL.appR 0 I elemI (Rd.arg hv) I I I (cellsOf_len iC_len _) (one_allcells iC_one _) (by omega) (by omega) ?_ | apply zb ?_ ?_ | exact zc | (refine zi fun hb => ?_; try simp at hb) | intro (bk : Nat))
  intro v2
  repeat' (first | refine zh ?_ | apply zb ?_ ?_ | exact zc | (refine zi fun hb => ?_; try simp at hb) | intro (bk : Nat))
  refine HR.ret Tryz.func148 I [_] (fun _ _ => ⟨I, trivial⟩) ?_
  exact fun w' hw => ⟨v2, rfl, Ent.own0 (Nat.zero_add _) (List.nil_append _) w' hw⟩
theorem clonePt_any (l : List PtV) (v : Value) (w : World) (hv : Sl w v (cellsOf ptC l) l.length) (hsh : ∀ p ∈ l, ShPt p) (hl : l.length ≤ 1000) :
  Calls Tryz.prog 204 #[v] w fun e w' => ∃ v', e = .returned v' ∧ Sat (base w) [ownC v' 173 6 l.length (cellsOf ptC l)] w' := by
 obtain ⟨a, c, rfl, _⟩ := hv.2
 refine calls_hr Tryz.func204 I (Nat.le_of_ble_eq_true I) ?_
 refine HR.sub (σ' := [(0, .slice a l.length c)]) ⟨I, trivial⟩ ?_
 repeat' (first | refine zh ?_ | refine HL.eqNil I I I I ?_ | apply zb ?_ ?_ | exact zc | (refine zi fun hb => ?_; try simp at hb) | intro (bk : Nat))
 refine HR.cond I (fun h => ?_) (fun h => ?_)
 ·have ha : a = none := by simpa using h
  have hz : l = [] := by
   subst ha
   rcases hv.1 with ⟨_, h0, _⟩ | ⟨b, off, cap, he, _⟩
   ·exact List.eq_nil_of_length_eq_zero h0
   ·cases he
  subst hz
  repeat' (first | refine zh ?_ | apply zb ?_ ?_ | exact zc | (refine zi fun hb => ?_; try simp at hb) | intro (bk : Nat))
  refine HR.nilC 173 6 ?_
  refine HR.ret Tryz.func204 I [_] (fun _ _ => ⟨I, trivial⟩) ?_
  exact fun w' hw => ⟨.slice none 0 0, rfl, hw⟩
 ·repeat' (first | refine zh ?_ | refine HL.bslice0 elemPt I ?_ | apply zb ?_ ?_ | exact zc | (refine zi fun hb => ?_; try simp at hb) | intro (bk : Nat))
  intro v1
  repeat' (first | refine zh ?_ | refine HL.appR 0 I elemPt (Rd.arg hv) I I I (cellsOf_len ptC_len _) (pt_one hsh) (by omega) (by omega) ?_ | apply zb ?_ ?_ | exact zc | (refine zi fun hb => ?_; try simp at hb) | intro (bk : Nat))
  intro v2
  repeat' (first | refine zh ?_ | apply zb ?_ ?_ | exact zc | (refine zi fun hb => ?_; try simp at hb) | intro (bk : Nat))
  refine HR.ret Tryz.func204 I [_] (fun _ _ => ⟨I, trivial⟩) ?_
  exact fun w' hw => ⟨v2, rfl, Ent.own0 (Nat.zero_add _) (List.nil_append _) w' hw⟩
theorem insNd_any (l : List (NV × Nd)) (x : (NV × Nd)) (i : Nat) (v va : Value) (B0 : Base) (w : World) (hw0 : Sat B0 [ownC va 62 13 1 (ndE2 x), ownC v 62 13 l.length (cellsOf ndE2 l)] w) (hi : i ≤ l.length) (hl : l.length ≤ 1000) :
  Calls Tryz.prog 35 #[v, .int .i64 (i : Int), va] w fun e w' => ∃ r : Value, e = .returned r ∧ True ∧ Sat ⟨w, feet [ownC va 62 13 1 (ndE2 x), ownC v 62 13 l.length (cellsOf ndE2 l)]⟩ [ownC r 62 13 (l.take i ++ x :: l.drop i).length (cellsOf ndE2 (l.take i ++ x :: l.drop i))] w' := by
 obtain ⟨ga, oa, ca, rfl, hnca, hcma⟩ := Vw.row (Sat.vw hw0 (i := 0) I) (by decide)
 have hlen : (l.take i ++ x :: l.drop i).length = l.length + 1 := by simp; omega
 have hcl : (cellsOf ndE2 l).length = l.length * 13 := cellsOf_len ndE2_len l
 have hcells : cellsOf ndE2 (l.take i ++ x :: l.drop i) = (cellsOf ndE2 l).take (i * 13) ++ ndE2 x ++ (cellsOf ndE2 l).drop (i * 13) := by
  rw [cellsOf_take ndE2_len, cellsOf_drop ndE2_len, cellsOf_app, List.append_assoc]; rfl
 have ha1 : ∀ u ∈ cellsOf ndE2 l, u.oneCell' = true := one_allcells ndE2_one _
 refine calls_hrW [ownC (.slice (some ⟨ga, oa, none⟩) 1 ca) 62 13 1 (ndE2 x), ownC v 62 13 l.length (cellsOf ndE2 l)] (hw0) Tryz.func35 I (Nat.le_of_ble_eq_true I) ?_
 refine HR.sub (σ' := [(0, v), (1, .int .i64 (i : Int)), (2, .slice (some ⟨ga, oa, none⟩) 1 ca)]) ⟨I, I, I, trivial⟩ ?_
 repeat' (first | refine zh ?_ | refine HL.lenR (Rd.own 1 I) I I I ?_ | refine HL.subI (sz := 13) i l.length (Rd.own 1 I) I I I I (.inr ⟨_, _, _, rfl, rfl, rfl⟩) (.inl ⟨rfl, rfl⟩) hi (Nat.le_refl _) ?_ | apply zb ?_ ?_ | exact zc | (refine zi fun hb => ?_; try simp at hb) | intro (bk : Nat))
 refine HR.cond I (fun h => ?_) (fun h => ?_)
 ·have hil : i = l.length := by have := eq_of_beq h; omega
  repeat' (first | refine zh ?_ | refine HL.appR 1 I elemNd (Rd.own 0 I) I I I I (allOne_spec I) (by omega) (by omega) ?_ | apply zb ?_ ?_ | exact zc | (refine zi fun hb => ?_; try simp at hb) | intro (bk : Nat))
  intro v2
  repeat' (first | refine zh ?_ | apply zb ?_ ?_ | exact zc | (refine zi fun hb => ?_; try simp at hb) | intro (bk : Nat))
  refine HR.ret Tryz.func35 I [_] (fun _ _ => ⟨I, trivial⟩) ?_
  refine fun w' hw => ⟨_, rfl, trivial, Ent.own0 ?_ ?_ w' (hw.pick [1] I rfl)⟩
  ·rw [hlen]
  ·subst hil; rw [hcells, List.take_of_length_le (by omega), List.drop_eq_nil_of_le (by omega), List.append_nil]
 have hlt : i < l.length := by have h : ((i : Int) == (l.length : Int)) = false := h; simp at h; omega
 refine HR.row 1 I (by omega) fun g off c hv hnc hcm => ?_
 subst hv
 have hcm : c ≤ 9223372036854775807 := hcm
 repeat' (first | refine zh ?_ | refine HL.lenR (Rd.own 1 I) I I I ?_ | refine HL.capO I I I ?_ | apply zb ?_ ?_ | exact zc | (refine zi fun hb => ?_; try simp at hb) | intro (bk : Nat))
 refine HR.cond I (fun h2 => ?_) (fun h2 => ?_)
 ·have hc : c < l.length + 1 := by have := of_decide_eq_true h2; omega
  repeat' (first | refine zh ?_ | refine HL.subI (sz := 13) 0 i (Rd.own 1 I) I I I I (.inl ⟨rfl, rfl⟩) (.inr ⟨_, _, _, rfl, rfl, rfl⟩) (Nat.zero_le _) hi ?_ | refine HL.appGrow i (l.length + 1 - i) 1 I elemNd I I I I I (by omega) hi (by omega) hnc (by omega) (by omega) (by omega) ?_ | apply zb ?_ ?_ | exact zc | (refine zi fun hb => ?_; try simp at hb) | intro (bk : Nat))
  intro v2
  have hN : i + (l.length + 1 - i) = l.length + 1 := by omega
  rw [hN]
  refine HL.row 0 I (by omega) fun g2 o2 c2 hv2 hnc2 hcm2 => ?_
  subst hv2
  repeat' (first | refine zh ?_ | refine HL.subI (sz := 13) i (l.length + 1) (Rd.own 0 I) I I I I (.inr ⟨_, _, _, rfl, rfl, rfl⟩) (.inl ⟨rfl, rfl⟩) (by omega) (Nat.le_refl _) ?_ | refine HL.copyO i 1 0 I (Rd.own 1 I) I I I I I I (allOne_spec I) (Nat.min_eq_left (by omega)) (by decide) ?_ | apply zb ?_ ?_ | exact zc | (refine zi fun hb => ?_; try simp at hb) | intro (bk : Nat))
  refine HR.regionD [(0, true), (1, true), (2, true), (3, true), (4, true), (5, true), (6, true), (7, true), (8, false)] [] I I hmix (by kernel_rfl) ?_
  repeat' (first | refine HD.ev I I I ?_ | refine HD.evc I I I (by first | omega | (simp; done) | (simp; omega)) ?_ | refine HD.cut (sz := 13) (i + 1) (l.length + 1) c2 I I I I I (.inr ⟨_, _, rfl, rfl⟩) (.inl ⟨rfl, rfl, rfl⟩) (.inl ⟨rfl, rfl⟩) (by omega) hnc2 (Nat.le_refl _) ?_ | refine HD.cut (sz := 13) i l.length c I I I I I (.inr ⟨_, _, rfl, rfl⟩) (.inl ⟨rfl, rfl, rfl⟩) (.inl ⟨rfl, rfl⟩) hi hnc (Nat.le_refl _) ?_ | refine HD.L 0 I I I I I ?_ | refine HD.L 1 I I I I I ?_ | refine HD.L 2 I I I I I ?_ | refine HD.L 3 I I I I I ?_ | refine HD.build I I I ?_ | refine HD.field I I I ?_ | refine HD.skip I I I ?_ | refine HD.skipO I I I ?_ | (refine HD.one I ?_; first | refine HL.ev I I ?_ | refine HL.copyO (i + 1) (l.length - i) 0 I (Rd.sub (Rd.own 2 I) hcl hi (Nat.le_refl _)) I I I I I (by rw [List.length_take, List.length_drop, hcl]; omega) (fun u hu => ha1 u (List.mem_of_mem_drop (List.mem_of_mem_take (List.mem_of_mem_take hu)))) (Nat.min_eq_left (by omega)) (by omega) ?_ | (refine HL.isLoad ?_; first | refine HL.L 0 I I I I ?_ | refine HL.L 1 I I I I ?_ | refine HL.L 2 I I I I ?_ | refine HL.L 3 I I I I ?_) | (refine HL.isStore ?_; first | refine HL.S 0 I I I I I ?_ | refine HL.S 1 I I I I I ?_ | refine HL.S 2 I I I I I ?_ | refine HL.S 3 I I I I I ?_) | (refine HL.alloc I I ?_; intro bk)) | refine HL.back [] rfl rfl ?_ | refine HD.nil ?_)
  repeat' (first | refine zh ?_ | apply zb ?_ ?_ | exact zc | (refine zi fun hb => ?_; try simp at hb) | intro (bk : Nat))
  refine HR.ret Tryz.func35 I [_] (fun _ _ => ⟨I, trivial⟩) ?_
  refine fun w' hw => ⟨_, rfl, trivial, Ent.own0 ?_ ?_ w' (hw.pick [0] I rfl)⟩
  ·rw [hlen]
  ·rw [hcells, ← ins_grow (xs := cellsOf ndE2 l) (X := ndE2 x) (Z := (List.replicate (l.length + 1 - i) (ndE2 (V0, nd0))).flatten) (p := i * 13) (q := 13) (s := (l.length - i) * 13) (by rw [hcl]; omega) I (by rw [flat_rep_length]; simp; omega)]
   rw [show (i + 1) * 13 = i * 13 + 13 by omega]
   rfl
 ·have hc : l.length + 1 ≤ c := by have := of_decide_eq_false h2; omega
  repeat' (first | refine zh ?_ | refine HL.extO (sz := 13) (l.length + 1) 1 I I I I I I I (by omega) hc ?_ | apply zb ?_ ?_ | exact zc | (refine zi fun hb => ?_; try simp at hb) | intro (bk : Nat))
  intro junk hj
  repeat' (first | refine zh ?_ | refine HL.cut (sz := 13) (i + 1) (l.length + 1) c I I I I (.inr ⟨_, _, rfl, rfl⟩) (.inl ⟨rfl, rfl, rfl⟩) (.inl ⟨rfl, rfl⟩) (by omega) hc (Nat.le_refl _) ?_ | intro (bk : Nat))
  refine HL.setHd (cutV_lit (by omega)) ?_
  refine HL.ovl 0 1 I I (by decide) I I I (tS := 24) (tR := 4) I I (by omega) (by decide) I (by kernel_rfl) (by kernel_rfl) (by kernel_rfl) (by kernel_rfl) ?_
  repeat' (first | refine zh ?_ | apply zb ?_ ?_ | exact zc | (refine zi fun hb => ?_; try simp at hb) | intro (bk : Nat))
  refine HR.regionD [(0, true), (1, true), (2, true), (3, true), (4, true), (5, true), (6, true), (7, true), (8, false)] [] I I hmix (by kernel_rfl) ?_
  repeat' (first | refine HD.ev I I I ?_ | refine HD.evc I I I (by first | omega | (simp; done) | (simp; omega)) ?_ | refine HD.cut (sz := 13) (i + 1) (l.length + 1) c I I I I I (.inr ⟨_, _, rfl, rfl⟩) (.inl ⟨rfl, rfl, rfl⟩) (.inl ⟨rfl, rfl⟩) (by omega) hc (Nat.le_refl _) ?_ | refine HD.cut (sz := 13) i (l.length + 1) c I I I I I (.inr ⟨_, _, rfl, rfl⟩) (.inl ⟨rfl, rfl, rfl⟩) (.inl ⟨rfl, rfl⟩) (by omega) hc (Nat.le_refl _) ?_ | refine HD.L 0 I I I I I ?_ | refine HD.L 1 I I I I I ?_ | refine HD.L 2 I I I I I ?_ | refine HD.L 3 I I I I I ?_ | refine HD.build I I I ?_ | refine HD.field I I I ?_ | refine HD.skip I I I ?_ | refine HD.skipO I I I ?_ | (refine HD.one I ?_; first | refine HL.ev I I ?_ | refine HL.copyO (i + 1) (l.length - i) 1 I (Rd.sub (sz := 13) (l := i) (h := l.length + 1) (Rd.own 1 I) (by rw [List.length_append, hcl, hj]; omega) (by omega) (Nat.le_refl _)) I I I I I (by rw [List.length_take, List.length_drop, List.length_append, hcl, hj]; omega) (fun u hu => ha1 u (shift_mem (p := i * 13) (s := (l.length - i) * 13) (u := (l.length + 1 - i) * 13) (by rw [hcl]; omega) (by omega) hu)) (show min (l.length + 1 - i) (l.length + 1 - (i + 1)) = l.length - i by omega) (by omega) ?_ | (refine HL.isLoad ?_; first | refine HL.L 0 I I I I ?_ | refine HL.L 1 I I I I ?_ | refine HL.L 2 I I I I ?_ | refine HL.L 3 I I I I ?_) | (refine HL.isStore ?_; first | refine HL.S 0 I I I I I ?_ | refine HL.S 1 I I I I I ?_ | refine HL.S 2 I I I I I ?_ | refine HL.S 3 I I I I I ?_) | (refine HL.alloc I I ?_; intro bk)) | refine HL.back [] rfl rfl ?_ | refine HD.nil ?_)
  repeat' (first | refine zh ?_ | refine HL.subI (sz := 13) i (l.length + 1) (Rd.own 1 I) I I I I (.inr ⟨_, _, _, rfl, rfl, rfl⟩) (.inl ⟨rfl, rfl⟩) (by omega) (Nat.le_refl _) ?_ | refine HL.copyO i 1 1 I (Rd.own 0 I) I I I I I I (allOne_spec I) (Nat.min_eq_left (by omega)) (by decide) ?_ | apply zb ?_ ?_ | exact zc | (refine zi fun hb => ?_; try simp at hb) | intro (bk : Nat))
  refine HR.ret Tryz.func35 I [_] (fun _ _ => ⟨I, trivial⟩) ?_
  refine fun w' hw => ⟨_, rfl, trivial, Ent.own0 ?_ ?_ w' (hw.pick [1] I rfl)⟩
  ·rw [hlen]
  ·rw [hcells, ← ins_shift (xs := cellsOf ndE2 l) (X := ndE2 x) (J := junk) (p := i * 13) (q := 13) (s := (l.length - i) * 13) (u := (l.length + 1 - i) * 13) (by rw [hcl]; omega) I (by rw [hj]; omega) (by omega)]
   rw [show (i + 1) * 13 = i * 13 + 13 by omega]
theorem same19Ro_any (a b : List Ro) (va vb : Value) (w : World) (ha : Sl w va (cellsOf roC a) a.length) (hb : Sl w vb (cellsOf roC b) b.length) (hla : a.length ≤ 1000000) :
  Calls Tryz.prog 71 #[va, vb] w fun e' w' => e' = .returned (.bool (decide (a = b))) ∧ Below w.heap.size w w' := by
 refine calls_hr Tryz.func71 I (Nat.le_of_ble_eq_true I) ?_
 refine HR.sub (σ' := [(0, va), (1, vb)]) ⟨I, I, trivial⟩ ?_
 repeat' (first | refine zh ?_ | refine HL.lenR (Rd.arg ha) I I I ?_ | refine HL.lenR (Rd.arg hb) I I I ?_ | apply zb ?_ ?_ | exact zc | (refine zi fun hb => ?_; try simp at hb) | intro (bk : Nat))
 refine HR.cond I (fun h1 => ?_) (fun h1 => ?_)
 ·repeat' (first | refine zh ?_ | apply zb ?_ ?_ | exact zc | (refine zi fun hb => ?_; try simp at hb) | intro (bk : Nat))
  refine HR.ret Tryz.func71 I [_] (fun _ _ => ⟨I, trivial⟩) ?_
  have : a ≠ b := by rintro rfl; simp at h1
  exact fun w' hw => ⟨by simp [this, resV], hw.belowB⟩
 have hl : a.length = b.length := by have h1' : ((a.length : Int) != (b.length : Int)) = false := h1; simp at h1'; omega
 repeat' (first | refine zh ?_ | apply zb ?_ ?_ | exact zc | (refine zi fun hb => ?_; try simp at hb) | intro (bk : Nat))
 refine HR.loop (ι := Nat) (fun k => k ≤ a.length ∧ a.take k = b.take k) (fun k => [(0, va), (1, vb), (5, .int .i64 (k : Int))]) (fun _ => []) (fun k => a.length - k) 0 ⟨Nat.zero_le _, by simp⟩ ⟨I, I, I, trivial⟩ Ent.refl ?_
 rintro k ⟨hk, hg⟩ ih
 repeat' (first | refine zh ?_ | refine HL.lenR (Rd.arg ha) I I I ?_ | apply zb ?_ ?_ | exact zc | (refine zi fun hb => ?_; try simp at hb) | intro (bk : Nat))
 refine HR.cond I (fun h2 => ?_) (fun h2 => ?_)
 ·have hlt : k < a.length := by have := of_decide_eq_true h2; omega
  obtain ⟨x, hx⟩ := getSome hlt
  obtain ⟨y, hy⟩ := getSome (show k < b.length by omega)
  repeat' (first | refine zh ?_ | apply zb ?_ ?_ | exact zc | (refine zi fun hb => ?_; try simp at hb) | intro (bk : Nat))
  refine HR.regionQ hmix (by kernel_rfl) ?_
  repeat' (first | refine zq ?_ | refine HQ.idxR (Rd.arg ha) elemRo k I I I I hlt ?_ | refine HQ.idxR (Rd.arg hb) elemRo k I I I I (by omega) ?_ | refine HQ.loadE (Rd.arg ha) I I I I (by simp) I (cellsOf_get roC_len hx) ?_ | refine HQ.loadE (Rd.arg hb) I I I I (by simp) I (cellsOf_get roC_len hy) ?_ | refine RunQ.neS I (by kernel_rfl) (by kernel_rfl) I I I ?_ | apply zb ?_ ?_ | exact zc | (refine zi fun hb => ?_; try simp at hb))
  refine HR.cond I (fun h3 => ?_) (fun h3 => ?_)
  ·repeat' (first | refine zh ?_ | apply zb ?_ ?_ | exact zc | (refine zi fun hb => ?_; try simp at hb) | intro (bk : Nat))
   refine HR.ret Tryz.func71 I [_] (fun _ _ => ⟨I, trivial⟩) ?_
   have : a ≠ b := by rintro rfl; rw [hx] at hy; cases hy; simp at h3
   exact fun w' hw => ⟨by simp [this, resV], hw.belowB⟩
  ·repeat' (first | refine zh ?_ | apply zb ?_ ?_ | exact zc | (refine zi fun hb => ?_; try simp at hb) | intro (bk : Nat))
   refine ih (k + 1) _ _ ⟨hlt, ?_⟩ (by omega) ⟨I, I, I, trivial⟩ Ent.refl
   rw [take_succ_get hx, take_succ_get hy, hg]
   have hxy : x = y := by
    obtain ⟨a1, a2, a3, a4⟩ := x
    obtain ⟨b1, b2, b3, b4⟩ := y
    simp at h3
    simp [h3]
   rw [hxy]
 ·have hke : k = a.length := by have := of_decide_eq_false h2; omega
  subst hke
  repeat' (first | refine zh ?_ | apply zb ?_ ?_ | exact zc | (refine zi fun hb => ?_; try simp at hb) | intro (bk : Nat))
  refine HR.ret Tryz.func71 I [_] (fun _ _ => ⟨I, trivial⟩) ?_
  have : a = b := by rw [← List.take_length (l := a), hg, hl, List.take_length]
  exact fun w' hw => ⟨by simp [this, resV], hw.belowB⟩
theorem same19De_any (a b : List De) (va vb : Value) (w : World) (ha : Sl w va (cellsOf deC a) a.length) (hb : Sl w vb (cellsOf deC b) b.length) (hla : a.length ≤ 1000000) :
  Calls Tryz.prog 28 #[va, vb] w fun e' w' => e' = .returned (.bool (decide (a = b))) ∧ Below w.heap.size w w' := by
 refine calls_hr Tryz.func28 I (Nat.le_of_ble_eq_true I) ?_
 refine HR.sub (σ' := [(0, va), (1, vb)]) ⟨I, I, trivial⟩ ?_
 repeat' (first | refine zh ?_ | refine HL.lenR (Rd.arg ha) I I I ?_ | refine HL.lenR (Rd.arg hb) I I I ?_ | apply zb ?_ ?_ | exact zc | (refine zi fun hb => ?_; try simp at hb) | intro (bk : Nat))
 refine HR.cond I (fun h1 => ?_) (fun h1 => ?_)
 ·repeat' (first | refine zh ?_ | apply zb ?_ ?_ | exact zc | (refine zi fun hb => ?_; try simp at hb) | intro (bk : Nat))
  refine HR.ret Tryz.func28 I [_] (fun _ _ => ⟨I, trivial⟩) ?_
  have : a ≠ b := by rintro rfl; simp at h1
  exact fun w' hw => ⟨by simp [this, resV], hw.belowB⟩
 have hl : a.length = b.length := by have h1' : ((a.length : Int) != (b.length : Int)) = false := h1; simp at h1'; omega
 repeat' (first | refine zh ?_ | apply zb ?_ ?_ | exact zc | (refine zi fun hb => ?_; try simp at hb) | intro (bk : Nat))
 refine HR.loop (ι := Nat) (fun k => k ≤ a.length ∧ a.take k = b.take k) (fun k => [(0, va), (1, vb), (5, .int .i64 (k : Int))]) (fun _ => []) (fun k => a.length - k) 0 ⟨Nat.zero_le _, by simp⟩ ⟨I, I, I, trivial⟩ Ent.refl ?_
 rintro k ⟨hk, hg⟩ ih
 repeat' (first | refine zh ?_ | refine HL.lenR (Rd.arg ha) I I I ?_ | apply zb ?_ ?_ | exact zc | (refine zi fun hb => ?_; try simp at hb) | intro (bk : Nat))
 refine HR.cond I (fun h2 => ?_) (fun h2 => ?_)
 ·have hlt : k < a.length := by have := of_decide_eq_true h2; omega
  obtain ⟨x, hx⟩ := getSome hlt
  obtain ⟨y, hy⟩ := getSome (show k < b.length by omega)
  repeat' (first | refine zh ?_ | apply zb ?_ ?_ | exact zc | (refine zi fun hb => ?_; try simp at hb) | intro (bk : Nat))
  refine HR.regionQ hmix (by kernel_rfl) ?_
  repeat' (first | refine zq ?_ | refine HQ.idxR (Rd.arg ha) elemDe k I I I I hlt ?_ | refine HQ.idxR (Rd.arg hb) elemDe k I I I I (by omega) ?_ | refine HQ.loadE (Rd.arg ha) I I I I (by simp) I (cellsOf_get deC_len hx) ?_ | refine HQ.loadE (Rd.arg hb) I I I I (by simp) I (cellsOf_get deC_len hy) ?_ | refine RunQ.neS I (by kernel_rfl) (by kernel_rfl) I I I ?_ | apply zb ?_ ?_ | exact zc | (refine zi fun hb => ?_; try simp at hb))
  refine HR.cond I (fun h3 => ?_) (fun h3 => ?_)
  ·repeat' (first | refine zh ?_ | apply zb ?_ ?_ | exact zc | (refine zi fun hb => ?_; try simp at hb) | intro (bk : Nat))
   refine HR.ret Tryz.func28 I [_] (fun _ _ => ⟨I, trivial⟩) ?_
   have : a ≠ b := by rintro rfl; rw [hx] at hy; cases hy; simp at h3
   exact fun w' hw => ⟨by simp [this, resV], hw.belowB⟩
  ·repeat' (first | refine zh ?_ | apply zb ?_ ?_ | exact zc | (refine zi fun hb => ?_; try simp at hb) | intro (bk : Nat))
   refine ih (k + 1) _ _ ⟨hlt, ?_⟩ (by omega) ⟨I, I, I, trivial⟩ Ent.refl
   rw [take_succ_get hx, take_succ_get hy, hg]
   have hxy : x = y := by
    obtain ⟨a1, a2⟩ := x
    obtain ⟨b1, b2⟩ := y
    simp at h3
    simp [h3]
   rw [hxy]
 ·have hke : k = a.length := by have := of_decide_eq_false h2; omega
  subst hke
  repeat' (first | refine zh ?_ | apply zb ?_ ?_ | exact zc | (refine zi fun hb => ?_; try simp at hb) | intro (bk : Nat))
  refine HR.ret Tryz.func28 I [_] (fun _ _ => ⟨I, trivial⟩) ?_
  have : a = b := by rw [← List.take_length (l := a), hg, hl, List.take_length]
  exact fun w' hw => ⟨by simp [this, resV], hw.belowB⟩
end Go.Proofs.YtgfdoognildoeaaGreat
namespace Me
open Go.GX Nd Tp
structure WfS (s : Sn) : Prop where
 tr : Go.GX.fits .i64 s.tr
 wt : Go.GX.fits .i64 s.wt
 da : s.f.da.length ≤ 9223372036854775807
structure WfO (n : Nd.Nd) : Prop where
 out : ∀ s ∈ n.out, WfS s
 bx : ∀ b ∈ n.boxes, b.f.da.length ≤ 9223372036854775807
theorem fits0 : Go.GX.fits .i64 0 := by show (-9223372036854775808 : Int) ≤ 0 ∧ (0 : Int) ≤ 9223372036854775807; omega
section
variable {n m : Nd.Nd}
theorem WfO.of (h : WfO n) (h1 : ∀ s ∈ m.out, s ∈ n.out) (h2 : ∀ b ∈ m.boxes, b ∈ n.boxes) : WfO m := ⟨fun s hs => h.out s (h1 s hs), fun b hb => h.bx b (h2 b hb)⟩
theorem WfO.order (h : WfO n) : WfO (order n) := h.of (fun s hs => List.mem_of_mem_take hs) fun b hb => List.mem_of_mem_take hb
theorem WfO.lose (h : WfO n) : WfO (lose n) := ⟨h.out, h.bx⟩
theorem WfO.queue (h : WfO n) {f : Fr} (hf : f.da.length ≤ 9223372036854775807) : WfO (queue n f).1 := by
 have hs : ∀ s ∈ (mput n.out f).1, WfS s := fun s hs => by
  rcases qput_mem hs with hs | rfl
  ·exact h.out s hs
  ·exact ⟨fits0, fits0, hf⟩
 unfold Nd.queue
 simp only
 split
 ·exact ⟨hs, h.bx⟩
 ·exact ⟨hs, h.bx⟩
theorem WfO.box (h : WfO n) {f : Fr} (hf : f.da.length ≤ 9223372036854775807) (now : Int) : WfO (box n f now) := by
 have hs : ∀ b ∈ (bput n.boxes f now).1, b.f.da.length ≤ 9223372036854775807 := fun b hb => by
  rcases bput_mem hb with hb | e
  ·exact h.bx b hb
  ·rw [e]; exact hf
 unfold Nd.box
 simp only
 split
 ·exact ⟨h.out, hs⟩
 ·exact ⟨h.out, hs⟩
theorem WfO.deliver (h : WfO n) (d : De) : WfO (deliver n d) := by
 unfold Nd.deliver; split
 ·exact h.lose
 ·exact ⟨h.out, h.bx⟩
theorem mtries_fits (s : Sn) : 0 ≤ mtries s ∧ mtries s ≤ 8 := by unfold mtries; omega
theorem mres_wf {q : List Sn} {i : Nat} {ok : Bool} (h : ∀ s ∈ q, WfS s) : ∀ s ∈ (mres q i ok).1, WfS s := by
 have h16 : ∀ s ∈ q.take 16, WfS s := fun s hs => h s (List.mem_of_mem_take hs)
 unfold mres
 intro s hs
 split at hs
 ·exact h16 s hs
 ·rename_i t ht
  split at hs
  ·exact h16 s (List.mem_of_mem_eraseIdx hs)
  ·split at hs
   ·exact h16 s (List.mem_of_mem_eraseIdx hs)
   ·rcases List.mem_or_eq_of_mem_set hs with hs | rfl
    ·exact h16 s hs
    ·have := mtries_fits t
     refine ⟨?_, ?_, (h16 t (List.mem_of_getElem? ht)).da⟩
     ·show (-9223372036854775808 : Int) ≤ mtries t ∧ mtries t ≤ 9223372036854775807
      omega
     ·show (-9223372036854775808 : Int) ≤ (if t.f.ur then 0 else min (mtries t) 4) ∧ (if t.f.ur then 0 else min (mtries t) 4) ≤ (9223372036854775807 : Int)
      split <;> omega
theorem mtick_wf {q : List Sn} (h : ∀ s ∈ q, WfS s) : ∀ s ∈ mtick q, WfS s := by
 intro s hs
 unfold mtick at hs
 obtain ⟨t, ht, rfl⟩ := List.mem_map.1 hs
 have h1 := h t (List.mem_of_mem_take ht)
 unfold mtick1; split
 ·rename_i hw
  have h2 : (-9223372036854775808 : Int) ≤ t.wt ∧ t.wt ≤ 9223372036854775807 := h1.wt
  refine ⟨h1.tr, ?_, h1.da⟩
  show (-9223372036854775808 : Int) ≤ t.wt - 1 ∧ t.wt - 1 ≤ 9223372036854775807
  omega
 ·exact h1
theorem WfO.boxes (now : Int) : ∀ (l : List Fr) {n : Nd.Nd}, (∀ f ∈ l, f.da.length ≤ 9223372036854775807) → WfO n → WfO (l.foldl (fun n f => Nd.box n f now) n)
 | [], _, _, h => h
 | f :: l, n, hl, h => WfO.boxes now l (fun g hg => hl g (List.mem_cons_of_mem _ hg)) (h.box (hl f (List.mem_cons_self ..)) now)
theorem WfO.asleep (h : WfO n) (now : Int) : WfO (asleep n now) := by
 unfold Nd.asleep
 refine WfO.boxes now _ (fun f hf => ?_) ⟨fun s hs => h.out s (List.mem_filter.1 hs).1, h.bx⟩
 obtain ⟨s, hs, rfl⟩ := List.mem_map.1 hf
 exact (h.out s (List.mem_filter.1 hs).1).da
theorem renc_small (t : List Ro) : (renc t).length ≤ 9223372036854775807 := by
 unfold renc
 rw [renc_len]
 have : ((t.filter usable).take 24).length ≤ 24 := List.length_take_le _ _
 omega
theorem WfO.beacon (h : WfO n) : WfO (beacon n) := by
 have hb : WfO (bumped n) := ⟨h.out, h.bx⟩
 unfold Nd.beacon; split
 ·exact hb.queue (renc_small _)
 ·exact hb
theorem WfO.poll (h : WfO n) : WfO (poll n) := by
 have hb : WfO (bumped n) := ⟨h.out, h.bx⟩
 unfold Nd.poll; split
 ·exact hb.queue (Nat.zero_le _)
 ·exact hb
theorem WfO.tick (h : WfO n) (now : Int) : WfO (tickN n now) := by
 have ho := h.order
 unfold tickN
 simp only
 have h1 : WfO (Nd.asleep { Nd.order n with out := mtick (Nd.order n).out, boxes := bexp (Nd.order n).boxes (Nd.tick now) 120, parts := pexp (Nd.order n).parts (Nd.tick now) 120 } (Nd.tick now)) :=
  WfO.asleep ⟨mtick_wf ho.out, fun b hb => ho.bx b (List.mem_of_mem_take (List.mem_filter.1 hb).1)⟩ _
 generalize Nd.asleep { Nd.order n with out := mtick (Nd.order n).out, boxes := bexp (Nd.order n).boxes (Nd.tick now) 120, parts := pexp (Nd.order n).parts (Nd.tick now) 120 } (Nd.tick now) = a at h1 ⊢
 have h2 : WfO (if a.poll = 0 ∧ Nd.tick now % 8 = a.addr % 8 then Nd.beacon a else a) := by
  split
  ·exact h1.beacon
  ·exact h1
 generalize (if a.poll = 0 ∧ Nd.tick now % 8 = a.addr % 8 then Nd.beacon a else a) = b at h2 ⊢
 split
 ·exact h2.poll
 ·exact h2
theorem WfO.talks {now : Int} : ∀ (k : Nat) {n : Nd.Nd} {i : Nat}, WfO n → WfO (talks now k n i).1 ∧ (talks now k n i).2.1.da.length ≤ 9223372036854775807
 | 0, n, i, h => ⟨h, Nat.zero_le _⟩
 | k + 1, n, i, h => by
  unfold Nd.talks
  split
  ·exact ⟨h, Nat.zero_le _⟩
  ·rename_i x hx
   have hm : x ∈ n.out := List.mem_of_getElem? hx
   have hd := (h.out x hm).da
   split
   ·exact WfO.talks k h
   ·split
    ·exact ⟨h, hd⟩
    ·split
     ·exact WfO.talks k (WfO.box (n := { n with out := n.out.eraseIdx i }) (f := { x.f with dst := x.f.ta }) ⟨fun s hs => h.out s (List.mem_of_mem_eraseIdx hs), h.bx⟩ hd _)
     ·split
      ·exact ⟨h, hd⟩
      ·split
       ·exact WfO.talks k (WfO.lose (n := { n with out := (mres n.out i false).1 }) ⟨mres_wf h.out, h.bx⟩)
       ·exact WfO.talks k (n := { n with out := (mres n.out i false).1 }) ⟨mres_wf h.out, h.bx⟩
theorem WfO.talk (h : WfO n) (now : Int) : WfO (talk n now).1 ∧ (talk n now).2.1.da.length ≤ 9223372036854775807 := WfO.talks _ h.order
theorem WfO.giveUp (h : WfO n) (to : Int) : WfO (giveUp n to) := by
 unfold Nd.giveUp; split
 ·exact h.lose
 ·exact ⟨h.out, h.bx⟩
theorem WfO.result (h : WfO n) (f : Fr) (ok : Bool) : WfO (result n f ok) := by
 have ho := h.order
 unfold Nd.result
 simp only
 split
 ·exact ho
 ·rename_i i hi
  have h2 : WfO (if okN f.dst = true then { Nd.order n with out := (mres (Nd.order n).out i ok).1, links := lseen (Nd.order n).links f.dst ok } else { Nd.order n with out := (mres (Nd.order n).out i ok).1 }) := by
   split
   ·exact ⟨mres_wf ho.out, ho.bx⟩
   ·exact ⟨mres_wf ho.out, ho.bx⟩
  split
  ·exact h2.giveUp _
  ·exact h2
theorem WfO.drain {fr now : Int} : ∀ (k : Nat) {n : Nd.Nd}, WfO n → WfO (drain fr now k n)
 | 0, _, h => h
 | k + 1, n, h => by
  unfold Nd.drain
  simp only
  have h1 : WfO { n with boxes := (btake n.boxes fr now 120).2.1 } := ⟨h.out, fun b hb => h.bx b (btake_box hb)⟩
  split
  ·rename_i ht
   obtain ⟨b, hb, e⟩ := btake_fr ht
   refine WfO.drain k (h1.queue ?_)
   show (btake n.boxes fr now 120).1.da.length ≤ _
   rw [← e]; exact h.bx b hb
  ·exact h1
theorem WfO.advertised (h : WfO n) (f : Fr) : WfO (advertised n f) := by
 unfold Nd.advertised
 simp only
 split
 ·exact ⟨h.out, h.bx⟩
 ·split
  ·exact ⟨h.out, h.bx⟩
  ·exact ⟨h.out, h.bx⟩
theorem WfO.received (h : WfO n) {f : Fr} (hf : f.da.length ≤ 9223372036854775807) (now : Int) : WfO (received n f now) := by
 have h1 : WfO { n with seen := (mfresh n.seen ⟨f.so, f.sq⟩).1 } := ⟨h.out, h.bx⟩
 unfold Nd.received
 simp only
 split
 ·exact h1
 ·split
  ·split
   ·exact h1
   ·split
    ·exact WfO.deliver (n := { n with seen := (mfresh n.seen ⟨f.so, f.sq⟩).1, parts := _ }) ⟨h.out, h.bx⟩ _
    ·exact ⟨h.out, h.bx⟩
  ·split
   ·exact h1.lose
   ·exact h1.queue hf
theorem WfO.hear (h : WfO n) {f : Fr} (hf : f.da.length ≤ 9223372036854775807) (now : Int) : WfO (hear n now f) := by
  have ho := h.order
  unfold Nd.hear
  simp only
  split
  · exact ho
  · split
    · exact ho.advertised f
    · split
      · unfold Nd.polled
        exact WfO.drain _ (n := { Nd.order n with children := _, table := _ }) ⟨ho.out, ho.bx⟩
      · first
        | exact ho.received hf _
        | (split
           · exact ho.received hf _
           · exact ho)
theorem WfO.new (addr poll : Int) : WfO (new addr poll) := WfO.order (n := ⟨addr, poll, 255, [], [], [], [], [], [], [], [], 0, 0⟩) ⟨fun s hs => (List.not_mem_nil hs).elim, fun b hb => (List.not_mem_nil hb).elim⟩
end
end Me
namespace Go.Proofs.YtgfdoognildoeaaGreat
open Go.GX Go.RowKit
attribute [local irreducible] Calls Run RunL RunQ RunD HR HL HD blkC ownC mapC Rd slicesC iterC
open Nd
structure GdN (n : Nd) : Prop where
 sm : SmN n
 wf : Me.WfO n
theorem SmN.ptS {n : Nd} (h : SmN n) : PtSm n.parts := ⟨h.pa, h.sm⟩
section
variable {n : Nd}
theorem GdN.tick (h : GdN n) (now : Int) : GdN (tickN n now) := ⟨ord_sm (tick_good n now).ord (tick_ptsm n now), h.wf.tick now⟩
theorem GdN.talk (h : GdN n) (now : Int) : GdN (talk n now).1 ∧ (talk n now).2.1.da.length ≤ 9223372036854775807 := ⟨⟨ord_sm (talk_good n now).ord (talk_ptsm h.sm.ptS), (h.wf.talk now).1⟩, (h.wf.talk now).2⟩
theorem GdN.hear (h : GdN n) {f : Fr} (hf : f.da.length ≤ 9223372036854775807) (now : Int) : GdN (hear n now f) := ⟨ord_sm (hear_good n now f).ord (hear_ptsm h.sm.ptS), h.wf.hear hf now⟩
theorem GdN.result (h : GdN n) (f : Fr) (ok : Bool) : GdN (result n f ok) := ⟨ord_sm (result_good n f ok).ord (result_ptsm h.sm.ptS), h.wf.result f ok⟩
theorem GdN.new (a p : Int) : GdN (new a p) := ⟨ord_sm (order_ord _) (new_ptsm a p), Me.WfO.new a p⟩
end
theorem elemSt : Elem Tryz.prog 70 77 24 320 := ⟨rfl, ⟨_, _, rfl, rfl, rfl, rfl, rfl⟩, by decide⟩
abbrev meC (t : Int) (v : Value) : List Value := [.int .i64 t, v]
abbrev meV (t : Int) (v : Value) : Value := .agg ⟨meC t v⟩
abbrev cNd (v : Value) (xs : List (NV × Nd)) : Chunk := ownC v 62 13 xs.length (cellsOf ndE2 xs)
theorem cNd_app (v : Value) (ys : List (NV × Nd)) (x : NV × Nd) : cNd v (ys ++ [x]) = ownC v 62 13 (ys.length + 1) (cellsOf ndE2 ys ++ ndE2 x) := by
 show ownC v _ 13 (ys ++ [x]).length (cellsOf ndE2 (ys ++ [x])) = _
 rw [cellsOf_app, List.length_append, cellsOf_one]; rfl
theorem nds_len (xs : List (NV × Nd)) : (nds xs).length = xs.length := by simp [nds]
theorem nds_get {xs : List (NV × Nd)} {k : Nat} {x : NV × Nd} (h : xs[k]? = some x) : (nds xs)[k]? = some x.2 := by unfold nds; rw [List.getElem?_map, h]; rfl
theorem nds_nth {xs : List (NV × Nd)} {k : Nat} {x : NV × Nd} (h : xs[k]? = some x) : Me.nth (nds xs) k = x.2 := by unfold Me.nth; rw [List.getD_eq_getElem?_getD, nds_get h]; rfl
theorem set_same {α : Type} {l : List α} {k : Nat} {a : α} (h : l[k]? = some a) : l.set k a = l := by
 obtain ⟨hk, rfl⟩ := List.getElem?_eq_some_iff.1 h
 exact List.set_getElem_self hk
def idxV (l : List Nd) (a : Int) : Int := match Me.idx l a with
 | some i => (i : Int)
 | none => -1
theorem idxV_fidx (xs : List (NV × Nd)) (a : Int) : idxV (nds xs) a = fidx (fun x => x.2.addr == a) xs := by
 unfold idxV fidx Me.idx nds
 rw [List.findIdx?_map]; rfl
theorem idxV_cases (xs : List (NV × Nd)) (a : Int) : (idxV (nds xs) a = -1 ∧ Me.idx (nds xs) a = none) ∨ ∃ (i : Nat) (x : NV × Nd), idxV (nds xs) a = (i : Int) ∧ Me.idx (nds xs) a = some i ∧ xs[i]? = some x ∧ x.2.addr = a := by
 unfold idxV
 cases h : Me.idx (nds xs) a with
 | none => exact .inl ⟨rfl, rfl⟩
 | some i =>
  obtain ⟨h1, h2⟩ := Me.idx_some h
  have hl : i < xs.length := by have := (List.getElem?_eq_some_iff.1 h1).1; rwa [nds_len] at this
  obtain ⟨x, hx⟩ := getSome hl
  exact .inr ⟨i, x, rfl, rfl, hx, by rw [nds_nth hx] at h2; exact h2⟩
end Go.Proofs.YtgfdoognildoeaaGreat
namespace Go.GX
open Go.RowKit
section
variable {P : Program} {N : Nat} {σ : Store} {B : Base} {H : List Chunk} {ops l : List Oper} {K : Act → World → Prop}
variable {d : Nat} {ty : TypeId} {pos : String} {af : Array Edge} {gd : Option (Nat × Bool)}
theorem HL.callVX {α : Type} {r : α → Value} {Q : α → Prop} {G : α → List Chunk} {g : FuncId} {x : Operand} {args : List Operand} {a1 caps : List Value} {tys : Array TypeId} (hg : IsFn P g) (hx : lookO σ x = some (.func (.func g) #[] caps.toArray))
  (hs : stat N ops ⟨some d, .call ⟨.value x, args.toArray, tys⟩, ty, pos, af, gd⟩ σ = true) (ha : vals σ args = some a1)
  (hc : ∀ w, Sat B H w → Calls P g ((a1 ++ caps).toArray) w fun e w' => ∃ x, e = .returned (r x) ∧ Q x ∧ Sat (base w) (G x) w')
  (h : ∀ x, Q x → HL P N ops l ((d, r x) :: σ) B (G x ++ H) K) : HL P N ops (⟨some d, .call ⟨.value x, args.toArray, tys⟩, ty, pos, af, gd⟩ :: l) σ B H K :=
 fun w hw => RunL.enter hs (hx_callV hg hx ha) ((hc w hw).mono fun e w' ⟨x, h1, h2, h3⟩ => ⟨r x, h1, h x h2 w' (hw.join h3)⟩)
theorem HR.seq {f : FuncId} {k : List Item} {R : Ending → World → Prop} {x y : Code} (h : HR P f N (.code x :: .code y :: k) σ B H R) : HR P f N (.code (.seq x y) :: k) σ B H R := fun w hw => Run.seq (h w hw)
end
end Go.GX
namespace Go.Proofs.YtgfdoognildoeaaGreat
open Go.GX Go.RowKit
attribute [local irreducible] Calls Run RunL RunQ RunD HR HL HD blkC ownC mapC Rd slicesC iterC
open Nd
theorem fn76 : IsFn Tryz.prog 76 := ⟨⟨_, _, Tryz.func76, rfl, by decide⟩⟩
theorem fn38 : IsFn Tryz.prog 38 := ⟨⟨_, _, Tryz.func38, rfl, by decide⟩⟩
theorem fn12 : IsFn Tryz.prog 12 := ⟨⟨_, _, Tryz.func12, rfl, by decide⟩⟩
theorem rdPt_lit {w : World} {p : PtV} (h : RdPt w p) : ∃ aa ca ab cb, p = ⟨.slice aa p.pt.hv.length ca, .slice ab p.pt.da.length cb, p.pt⟩ := by
 obtain ⟨vh, vd, q⟩ := p
 obtain ⟨aa, ca, e1, _⟩ := h.h.2
 obtain ⟨ab, cb, e2, _⟩ := h.d.2
 have e1 : vh = .slice aa q.hv.length ca := e1
 have e2 : vd = .slice ab q.da.length cb := e2
 exact ⟨aa, ca, ab, cb, by rw [e1, e2]⟩
theorem sameParts_any (La Lb : List PtV) (va vb : Value) (w : World) (ha : RdPts w va La) (hb : RdPts w vb Lb) (he : pts La = pts Lb) (hs : ∀ p ∈ La, SmPt p.pt) (hl : La.length ≤ 1000) :
  Calls Tryz.prog 76 #[va, vb] w fun e w' => e = .returned (.bool true) ∧ Below w.heap.size w w' := by
 have hlen : Lb.length = La.length := by rw [← pts_len, ← he, pts_len]
 refine calls_hr Tryz.func76 I (Nat.le_of_ble_eq_true I) ?_
 refine HR.sub (σ' := [(0, va), (1, vb)]) ⟨I, I, trivial⟩ ?_
 repeat' (first | refine zh ?_ | refine HL.lenR (Rd.arg ha.s) I I I ?_ | refine HL.lenR (Rd.arg hb.s) I I I ?_ | intro (bk : Nat))
 refine HR.setB 13 false I (by rw [hlen]; simp) ?_
 repeat' (first | refine zh ?_ | intro (bk : Nat))
 refine HR.loop (ι := Nat) (fun k => k ≤ La.length) (fun k => [(0, va), (1, vb), (5, .int .i64 (k : Int))]) (fun _ => []) (fun k => La.length - k) 0 (Nat.zero_le _) ⟨I, I, I, trivial⟩ Ent.refl ?_
 rintro k hk ih
 have hk : k ≤ La.length := hk
 repeat' (first | refine zh ?_ | refine HL.lenR (Rd.arg ha.s) I I I ?_ | intro (bk : Nat))
 refine HR.cond I (fun h2 => ?_) (fun h2 => ?_)
 rotate_left
 ·repeat' (first | refine zh ?_ | intro (bk : Nat))
  refine HR.ret Tryz.func76 I [_] (fun _ _ => ⟨I, trivial⟩) ?_
  exact fun w' hw => ⟨rfl, hw.belowB⟩
 have hlt : k < La.length := by have : (k : Int) < (La.length : Int) := of_decide_eq_true h2; omega
 obtain ⟨p, hp⟩ := getSome hlt
 obtain ⟨p', hp'⟩ := getSome (show k < Lb.length by omega)
 have hpp : p'.pt = p.pt := by
  have e1 := pts_get hp
  have e2 := pts_get hp'
  rw [he, e2] at e1
  exact Option.some.inj e1
 have hr1 := ha.r p (List.mem_of_getElem? hp)
 have hr2 := hb.r p' (List.mem_of_getElem? hp')
 have hsp := hs p (List.mem_of_getElem? hp)
 obtain ⟨aa, ca, ab, cb, ex⟩ := rdPt_lit hr1
 obtain ⟨aa', ca', ab', cb', ex'⟩ := rdPt_lit hr2
 obtain ⟨q, hq⟩ : ∃ q, q = p.pt := ⟨_, rfl⟩
 rw [hpp] at ex'
 rw [← hq] at ex ex' hsp
 subst ex
 subst ex'
 have hh : Sl w (.slice aa q.hv.length ca) (cellsOf bC q.hv) q.hv.length := hr1.h
 have hd : Sl w (.slice ab q.da.length cb) (cellsOf sC q.da) q.da.length := hr1.d
 have hh' : Sl w (.slice aa' q.hv.length ca') (cellsOf bC q.hv) q.hv.length := hr2.h
 have hd' : Sl w (.slice ab' q.da.length cb') (cellsOf sC q.da) q.da.length := hr2.d
 have hs1 : q.hv.length ≤ 140737488355328 := hsp.1
 have hs2 : q.da.length ≤ 8796093022208 := hsp.2.1
 clear hr1 hr2 hsp
 repeat' (first | refine zh ?_ | intro (bk : Nat))
 refine HR.join (ι := Nat × Nat) (fun _ => True) (fun x => [(0, va), (1, vb), (5, .int .i64 (k : Int)), (6, ptr x.1), (7, ptr x.2)]) (fun x => [blkC x.1 (ptC ⟨.slice aa q.hv.length ca, .slice ab q.da.length cb, q⟩) 173, blkC x.2 (ptC ⟨.slice aa' q.hv.length ca', .slice ab' q.da.length cb', q⟩) 173]) ?_ (fun hj => ?_)
 rotate_left
 ·refine HR.regionA [] I I hmix ?_
  refine za 0 ?_
  refine za 1 ?_
  refine HA.rd 2 (by kernel_rfl) I I (hx_idx (Rd.arg ha.s) elemPt k I I I hlt) ?_
  refine HA.rd 3 (by kernel_rfl) I I (hx_loadE (us := ptC ⟨.slice aa q.hv.length ca, .slice ab q.da.length cb, q⟩) (Rd.arg ha.s) I I I (by simp) I (cellsOf_get ptC_len hp)) ?_
  refine za 4 ?_
  refine za 5 ?_
  refine HA.rd 6 (by kernel_rfl) I I (hx_idx (Rd.arg hb.s) elemPt k I I I (by omega)) ?_
  refine HA.rd 7 (by kernel_rfl) I I (hx_loadE (us := ptC ⟨.slice aa' q.hv.length ca', .slice ab' q.da.length cb', q⟩) (Rd.arg hb.s) I I I (by simp) I (cellsOf_get ptC_len hp')) ?_
  refine HA.two 8 9 (by kernel_rfl) I I ?_ ?_
  ·refine HL.alloc I I ?_
   intro b6
   refine HL.backA [] I I ?_
   refine HA.one 9 (by kernel_rfl) I ?_
   refine HL.alloc I I ?_
   intro b7
   refine HL.backA [] I I ?_
   refine HA.one 10 (by kernel_rfl) I ?_
   repeat' (first | refine zn ?_ | intro (bk : Nat))
   refine HL.backA [] I I ?_
   refine HA.one 11 (by kernel_rfl) I ?_
   repeat' (first | refine zn ?_ | intro (bk : Nat))
   refine HL.backA [] I I ?_
   refine HA.done (by kernel_rfl) ?_
   exact hj (b6, b7) _ _ trivial ⟨I, I, I, I, I, trivial⟩ (Ent.pick [1, 0] I I)
  ·refine HL.alloc I I ?_
   intro b7
   refine HL.backA [] I I ?_
   refine HA.one 8 (by kernel_rfl) I ?_
   refine HL.alloc I I ?_
   intro b6
   refine HL.backA [] I I ?_
   refine HA.one 10 (by kernel_rfl) I ?_
   repeat' (first | refine zn ?_ | intro (bk : Nat))
   refine HL.backA [] I I ?_
   refine HA.one 11 (by kernel_rfl) I ?_
   repeat' (first | refine zn ?_ | intro (bk : Nat))
   refine HL.backA [] I I ?_
   refine HA.done (by kernel_rfl) ?_
   exact hj (b6, b7) _ _ trivial ⟨I, I, I, I, I, trivial⟩ (Ent.pick [0, 1] I I)
 rintro ⟨b6, b7⟩ _
 repeat' (first | refine zh ?_ | refine HL.lenR (Rd.arg hh) I I I ?_ | refine HL.lenR (Rd.arg hh') I I I ?_ | refine HL.callB fn146 I I (fun w1 hw1 => same04S_any q.da q.da _ _ w1 ((Rd.arg hd).at hw1) ((Rd.arg hd').at hw1) hs2) ?_ | apply zb ?_ ?_ | exact zc | (refine zi fun hb => ?_; try simp at hb) | intro (bk : Nat))
 refine HR.cond I (fun h3 => ?_) (fun h3 => ?_)
 ·simp at h3
 repeat' (first | refine zh ?_ | intro (bk : Nat))
 refine HR.loop (ι := Nat) (fun j => j ≤ q.hv.length) (fun j => [(0, va), (1, vb), (5, .int .i64 (k : Int)), (6, ptr b6), (7, ptr b7), (8, .int .i64 (j : Int))]) (fun _ => [blkC b6 (ptC ⟨.slice aa q.hv.length ca, .slice ab q.da.length cb, q⟩) 173, blkC b7 (ptC ⟨.slice aa' q.hv.length ca', .slice ab' q.da.length cb', q⟩) 173]) (fun j => q.hv.length - j) 0 (Nat.zero_le _) ⟨I, I, I, I, I, I, trivial⟩ Ent.refl ?_
 rintro j hj2 ih2
 have hj2 : j ≤ q.hv.length := hj2
 repeat' (first | refine zh ?_ | refine HL.lenR (Rd.arg hh) I I I ?_ | intro (bk : Nat))
 refine HR.cond I (fun h4 => ?_) (fun h4 => ?_)
 rotate_left
 ·repeat' (first | refine zh ?_ | intro (bk : Nat))
  exact ih (k + 1) _ _ hlt (by show La.length - (k + 1) < La.length - k; omega) ⟨I, I, I, trivial⟩ (Ent.pick [] I I)
 have hjl : j < q.hv.length := by have : (j : Int) < (q.hv.length : Int) := of_decide_eq_true h4; omega
 obtain ⟨b, hbj⟩ := getSome hjl
 repeat' (first | refine zh ?_ | intro (bk : Nat))
 refine HR.regionQ hmix (by kernel_rfl) ?_
 repeat' (first | refine zq ?_ | refine HQ.idxR (Rd.arg hh) elemB j I I I I hjl ?_ | refine HQ.loadI (Rd.arg hh) I I I I (cellsOf_get1 hbj) ?_ | refine HQ.idxR (Rd.arg hh') elemB j I I I I hjl ?_ | refine HQ.loadI (Rd.arg hh') I I I I (cellsOf_get1 hbj) ?_ | apply zb ?_ ?_ | exact zc | (refine zi fun hb => ?_; try simp at hb))
 refine HR.cond I (fun h5 => ?_) (fun h5 => ?_)
 ·cases b <;> cases h5
 repeat' (first | refine zh ?_ | intro (bk : Nat))
 exact ih2 (j + 1) _ _ hjl (by show q.hv.length - (j + 1) < q.hv.length - j; omega) ⟨I, I, I, I, I, I, trivial⟩ Ent.refl
theorem sameNode_any (Va Vb : NV) (n : Nd) (w : World) (ha : OkN w Va n) (hc : OkN w Vb n) (hs : SmN n) :
  Calls Tryz.prog 38 #[.agg ⟨ndC Va n⟩, .agg ⟨ndC Vb n⟩] w fun e w' => e = .returned (.bool true) ∧ Below w.heap.size w w' := by
 have t1 := hs.ta
 have t2 := hs.li
 have t3 := hs.ou
 have t4 := hs.ch
 have t5 := hs.bo
 have t6 := hs.se
 have t7 := hs.ib
 refine calls_hr Tryz.func38 I (Nat.le_of_ble_eq_true I) ?_
 refine HR.sub (σ' := [(0, .agg ⟨ndC Va n⟩), (1, .agg ⟨ndC Vb n⟩)]) ⟨I, I, trivial⟩ ?_
 repeat' (first | refine zh ?_ | refine HL.callB fn71 I I (fun w1 hw1 => same19Ro_any n.table n.table _ _ w1 ((Rd.arg ha.ta).at hw1) ((Rd.arg hc.ta).at hw1) (by omega)) ?_ | refine HL.callB fn72 I I (fun w1 hw1 => sameLi_any n.links n.links _ _ w1 ((Rd.arg ha.li).at hw1) ((Rd.arg hc.li).at hw1) (by omega)) ?_ | refine HL.callB fn73 I I (fun w1 hw1 => sameSn_any n.out n.out _ _ w1 ((Rd.arg ha.ou).at hw1) ((Rd.arg hc.ou).at hw1) (by omega)) ?_ | refine HL.callB fn19 I I (fun w1 hw1 => same07I_any n.children n.children _ _ w1 ((Rd.arg ha.ch).at hw1) ((Rd.arg hc.ch).at hw1) (by omega)) ?_ | refine HL.callB fn74 I I (fun w1 hw1 => sameMa_any n.boxes n.boxes _ _ w1 ((Rd.arg ha.bo).at hw1) ((Rd.arg hc.bo).at hw1) (by omega)) ?_ | refine HL.callB fn75 I I (fun w1 hw1 => samePr_any n.seen n.seen _ _ w1 ((Rd.arg ha.se).at hw1) ((Rd.arg hc.se).at hw1) (by omega)) ?_ | refine HL.callB fn76 I I (fun w1 hw1 => sameParts_any Va.ps Vb.ps _ _ w1 (ha.pa.ext hw1.belowB) (hc.pa.ext hw1.belowB) (ha.eq.trans hc.eq.symm) (fun p hp => hs.sm p.pt (by rw [← ha.eq]; exact List.mem_map.2 ⟨p, hp, rfl⟩)) (by rw [← pts_len, ha.eq]; exact hs.pa)) ?_ | refine HL.callB fn28 I I (fun w1 hw1 => same19De_any n.inbox n.inbox _ _ w1 ((Rd.arg ha.ib).at hw1) ((Rd.arg hc.ib).at hw1) (by omega)) ?_ | apply zb ?_ ?_ | exact zc | (refine zi fun hb => ?_; try simp at hb) | intro (bk : Nat))
 refine HR.ret Tryz.func38 I [_] (fun _ _ => ⟨I, trivial⟩) ?_
 exact fun w' hw => ⟨by simp [resV], hw.belowB⟩
theorem same19_any (t : Int) (va vb : Value) (xs ys : List (NV × Nd)) (w : World) (ha : OkL w va xs) (hc : OkL w vb ys) (he : nds xs = nds ys) (hs : ∀ x ∈ xs, SmN x.2) (hl : xs.length ≤ 1000) :
  Calls Tryz.prog 12 #[meV t va, meV t vb] w fun e w' => e = .returned (.bool true) ∧ Below w.heap.size w w' := by
 have hlen : ys.length = xs.length := by rw [← nds_len, ← he, nds_len]
 refine calls_hr Tryz.func12 I (Nat.le_of_ble_eq_true I) ?_
 refine HR.sub (σ' := [(0, meV t va), (1, meV t vb)]) ⟨I, I, trivial⟩ ?_
 refine HR.ctl I ?_
 refine HR.region ?_
 refine HL.box I I ?_
 intro b2
 refine HL.box I I ?_
 intro b3
 repeat' (first | refine zh ?_ | refine HL.lenR (Rd.arg ha.s) I I I ?_ | refine HL.lenR (Rd.arg hc.s) I I I ?_ | apply zb ?_ ?_ | exact zc | (refine zi fun hb => ?_; try simp at hb) | intro (bk : Nat))
 refine HR.cond I (fun h1 => ?_) (fun h1 => ?_)
 ·rw [hlen] at h1; simp at h1
 repeat' (first | refine zh ?_ | intro (bk : Nat))
 refine HR.loop (ι := Nat) (fun k => k ≤ xs.length) (fun k => [(2, ptr b2), (3, ptr b3), (5, .int .i64 (k : Int))]) (fun _ => [blkC b3 (meC t vb) 26, blkC b2 (meC t va) 26]) (fun k => xs.length - k) 0 (Nat.zero_le _) ⟨I, I, I, trivial⟩ Ent.refl ?_
 rintro k hk ih
 have hk : k ≤ xs.length := hk
 repeat' (first | refine zh ?_ | refine HL.lenR (Rd.arg ha.s) I I I ?_ | intro (bk : Nat))
 refine HR.cond I (fun h2 => ?_) (fun h2 => ?_)
 rotate_left
 ·repeat' (first | refine zh ?_ | intro (bk : Nat))
  refine HR.ret Tryz.func12 I [_] (fun _ _ => ⟨I, trivial⟩) ?_
  exact fun w' hw => ⟨rfl, hw.belowB⟩
 have hlt : k < xs.length := by have : (k : Int) < (xs.length : Int) := of_decide_eq_true h2; omega
 obtain ⟨⟨V, n⟩, hx⟩ := getSome hlt
 obtain ⟨⟨W, m⟩, hy⟩ := getSome (show k < ys.length by omega)
 have hnm : m = n := by
  have e1 := nds_get hx
  have e2 := nds_get hy
  rw [he, e2] at e1
  exact Option.some.inj e1
 subst hnm
 have hV : OkN w V m := ha.r _ (List.mem_of_getElem? hx)
 have hW : OkN w W m := hc.r _ (List.mem_of_getElem? hy)
 have hsn : SmN m := hs _ (List.mem_of_getElem? hx)
 repeat' (first | refine zh ?_ | intro (bk : Nat))
 refine HR.regionD [(0, true), (1, true), (2, true), (3, true), (4, true), (5, true), (6, true), (7, true), (8, true), (9, true), (10, false), (11, true)] [0, 1] I I hmix (by kernel_rfl) ?_
 repeat' (first | refine zd ?_ | refine HD.idxR (Rd.arg ha.s) elemNd k I I I I I hlt ?_ | refine HD.loadE (us := ndC V m) (Rd.arg ha.s) I I I I I (by simp) I (cellsOf_get ndE2_len hx) ?_ | refine HD.idxR (Rd.arg hc.s) elemNd k I I I I I (by omega) ?_ | refine HD.loadE (us := ndC W m) (Rd.arg hc.s) I I I I I (by simp) I (cellsOf_get ndE2_len hy) ?_)
 refine HD.one I ?_
 refine HL.callB (r := .bool true) fn38 I I (fun w1 hw1 => sameNode_any V W m w1 (hV.ext hw1.belowB) (hW.ext hw1.belowB) hsn) ?_
 refine HL.back [0, 1] I I ?_
 repeat' (first | refine zd ?_ | fail)
 refine HD.nil ?_
 repeat' (first | refine zh ?_ | intro (bk : Nat))
 exact ih (k + 1) _ _ hlt (by show xs.length - (k + 1) < xs.length - k; omega) ⟨I, I, I, trivial⟩ Ent.refl
end Go.Proofs.YtgfdoognildoeaaGreat
namespace Go.Proofs.YtgfdoognildoeaaGreat
open Go.GX Go.RowKit
attribute [local irreducible] Calls Run RunL RunQ RunD HR HL HD blkC ownC mapC Rd slicesC iterC
open Nd
theorem fn64 : IsFn Tryz.prog 64 := ⟨⟨_, _, Tryz.func64, rfl, by decide⟩⟩
theorem fn65 : IsFn Tryz.prog 65 := ⟨⟨_, _, Tryz.func65, rfl, by decide⟩⟩
theorem fn34 : IsFn Tryz.prog 34 := ⟨⟨_, _, Tryz.func34, rfl, by decide⟩⟩
theorem fn149 : IsFn Tryz.prog 149 := ⟨⟨_, _, Tryz.func149, rfl, by decide⟩⟩
theorem fn78 : IsFn Tryz.prog 78 := ⟨⟨_, _, Tryz.func78, rfl, by decide⟩⟩
theorem indexFNd_any (l : List (NV × Nd)) (p : NV × Nd → Bool) (g : FuncId) (caps : List Value) (v : Value) (w : World) (hg : IsFn Tryz.prog g) (hp : Asks Tryz.prog g caps (fun a => .agg ⟨ndE2 a⟩) p l w) (hv : Sl w v (cellsOf ndE2 l) l.length) (hl : l.length ≤ 1000000) :
  Calls Tryz.prog 64 #[v, .func (.func g) #[] caps.toArray] w fun e w' => e = .returned (.int .i64 (fidx p l)) ∧ Below w.heap.size w w' := by
 refine calls_hr Tryz.func64 I (Nat.le_of_ble_eq_true I) ?_
 refine HR.sub (σ' := [(0, v), (1, .func (.func g) #[] caps.toArray)]) ⟨I, I, trivial⟩ ?_
 repeat' (first | refine zh ?_ | refine HL.lenR (Rd.arg hv) I I I ?_ | intro (bk : Nat))
 refine HR.loop (ι := Nat) (fun k => k ≤ l.length ∧ ∀ j b, j < k → l[j]? = some b → p b = false) (fun k => [(0, v), (1, .func (.func g) #[] caps.toArray), (7, .int .i64 (l.length : Int)), (8, .int .i64 (k : Int))]) (fun _ => []) (fun k => l.length - k) 0 ⟨Nat.zero_le _, fun j b hj => absurd hj (Nat.not_lt_zero _)⟩ ⟨I, I, I, I, trivial⟩ Ent.refl ?_
 rintro k ⟨hk, hno⟩ ih
 repeat' (first | refine zh ?_ | intro (bk : Nat))
 refine HR.cond I (fun h2 => ?_) (fun h2 => ?_)
 ·have hlt : k < l.length := by have := of_decide_eq_true h2; omega
  obtain ⟨x, hx⟩ := getSome hlt
  repeat' (first | refine zh ?_ | refine HL.idxR (Rd.arg hv) elemNd k I I I I hlt ?_ | refine HL.loadE (Rd.arg hv) I I I I (by simp) I (cellsOf_get ndE2_len hx) ?_ | refine HL.callV (caps := caps) hg I I I (fun w' hw => hp x (List.mem_of_getElem? hx) w' hw.belowB) ?_ | intro (bk : Nat))
  refine HR.cond I (fun h3 => ?_) (fun h3 => ?_)
  ·have h3 : p x = true := h3
   repeat' (first | refine zh ?_ | intro (bk : Nat))
   refine HR.ret Tryz.func64 I [_] (fun _ _ => ⟨I, trivial⟩) ?_
   rw [fidx_at hx h3 hno]
   exact fun w' hw => ⟨rfl, hw.belowB⟩
  ·have h3 : p x = false := h3
   repeat' (first | refine zh ?_ | intro (bk : Nat))
   refine ih (k + 1) _ _ ⟨hlt, fun j b hj hb => ?_⟩ (by omega) ⟨I, I, I, I, trivial⟩ Ent.refl
   by_cases e : j = k
   ·subst e; rw [hx] at hb; cases hb; exact h3
   ·exact hno j b (by omega) hb
 ·have hke : k = l.length := by have := of_decide_eq_false h2; omega
  subst hke
  rw [fidx_none hno]
  repeat' (first | refine zh ?_ | intro (bk : Nat))
  refine HR.ret Tryz.func64 I [_] (fun _ _ => ⟨I, trivial⟩) ?_
  exact fun w' hw => ⟨rfl, hw.belowB⟩
theorem mindex1_any (bt : Nat) (k : Int) (x : NV × Nd) (w : World) (hb : Sl w (.slice (some ⟨bt, 0, none⟩) 1 1) [.int .i64 k] 1) : Calls Tryz.prog 65 #[.agg ⟨ndE2 x⟩, .pointer (some ⟨bt, 0, none⟩)] w fun e w' => e = .returned (.bool (x.2.addr == k)) ∧ Below w.heap.size w w' := by
 refine calls_hr Tryz.func65 I (Nat.le_of_ble_eq_true I) ?_
 refine HR.sub (σ' := [(0, .agg ⟨ndE2 x⟩), (1, .pointer (some ⟨bt, 0, none⟩))]) ⟨I, I, trivial⟩ ?_
 repeat' (first | refine zh ?_ | refine HL.loadI (j := 0) (Rd.arg hb) I I I I I ?_ | intro (bk : Nat))
 refine HR.ret Tryz.func65 I [_] (fun _ _ => ⟨I, trivial⟩) ?_
 exact fun w' hw => ⟨rfl, hw.belowB⟩
theorem mindex_any (xs : List (NV × Nd)) (a : Int) (v : Value) (w : World) (h : Sl w v (cellsOf ndE2 xs) xs.length) (hl : xs.length ≤ 1000000) :
  Calls Tryz.prog 34 #[v, .int .i64 a] w fun e w' => e = .returned (.int .i64 (idxV (nds xs) a)) ∧ Below w.heap.size w w' := by
 rw [idxV_fidx]
 refine calls_hr Tryz.func34 I (Nat.le_of_ble_eq_true I) ?_
 refine HR.sub (σ' := [(0, v), (1, .int .i64 a)]) ⟨I, I, trivial⟩ ?_
 repeat' (first | refine zh ?_ | refine HL.mkF (g := 65) (caps := [_]) I I ?_ | refine HL.callB fn64 I I (fun w1 hw1 => indexFNd_any xs (fun x => x.2.addr == a) 65 [.pointer (some ⟨bk, 0, none⟩)] v w1 fn65 (fun x hx w2 hb => mindex1_any bk a x w2 (((Rd.blk (n := 1) 0 rfl).at hw1).ext hb)) ((Rd.arg h).at hw1) hl) ?_ | intro (bk : Nat))
 refine HR.ret Tryz.func34 I [_] (fun _ _ => ⟨I, trivial⟩) ?_
 exact fun w' hw => ⟨rfl, hw.belowB⟩
theorem drop_at {α : Type} {l m : List α} {k : Nat} {x : α} (h : l.drop k = m.drop k) (hx : m[k]? = some x) : l[k]? = some x := by
 have e : (l.drop k)[0]? = (m.drop k)[0]? := by rw [h]
 rw [List.getElem?_drop, List.getElem?_drop, Nat.add_zero, hx] at e
 exact e
theorem cloneParts_any (L : List PtV) (v : Value) (w : World) (hv : RdPts w v L) (hs : ∀ p ∈ L, SmPt p.pt) (hl : L.length ≤ 1000) :
  Calls Tryz.prog 149 #[v] w fun e w' => ∃ x : Value × List PtV, e = .returned x.1 ∧ GdPts x (pts L) ∧ Sat (base w) (ptsC x) w' := by
 have hsh : ∀ p ∈ L, ShPt p := fun p hp => (hv.r p hp).sh
 have cL : (cellsOf ptC L).length = L.length * 6 := cellsOf_len ptC_len _
 refine calls_hr Tryz.func149 I (Nat.le_of_ble_eq_true I) ?_
 refine HR.sub (σ' := [(0, v)]) ⟨I, trivial⟩ ?_
 repeat' (first | refine zh ?_ | refine HL.callO fn204 I I (fun w1 hw1 => clonePt_any L v w1 ((Rd.arg hv.s).at hw1) hsh hl) ?_ | intro (bk : Nat))
 intro v1
 repeat' (first | refine zh ?_ | refine HL.lenR (Rd.own 0 I) I I I ?_ | intro (bk : Nat))
 refine HR.loop2 (α := Nat) (β := List PtV) (fun k M => k ≤ L.length ∧ pts M = pts L ∧ M.drop k = L.drop k ∧ ∀ p ∈ M, ShPt p) (fun k M => [(0, v), (3, v1), (8, .int .i64 (L.length : Int)), (9, .int .i64 (k : Int))]) (fun k M => [ownC v1 173 6 M.length (cellsOf ptC M), groupC (ptG (M.take k))]) (fun k _ => L.length - k) 0 L ⟨Nat.zero_le _, rfl, rfl, hsh⟩ ⟨I, I, I, I, trivial⟩ (Ent.trans Ent.gnil (Ent.pick [1, 0] I I)) ?_
 rintro k M ⟨hk, hpM, hdr, hshM⟩ ih
 have hk : k ≤ L.length := hk
 have hML : M.length = L.length := by rw [← pts_len, hpM, pts_len]
 have cM : (cellsOf ptC M).length = M.length * 6 := cellsOf_len ptC_len _
 repeat' (first | refine zh ?_ | intro (bk : Nat))
 refine HR.cond I (fun h2 => ?_) (fun h2 => ?_)
 ·have hlt : k < L.length := by have : (k : Int) < (L.length : Int) := of_decide_eq_true h2; omega
  obtain ⟨p, hp⟩ := getSome hlt
  have hpm := drop_at hdr hp
  have hrp := hv.r p (List.mem_of_getElem? hp)
  have hsp := hs p (List.mem_of_getElem? hp)
  obtain ⟨aa, na, ca, ab, nb, cb, ex⟩ := hrp.sh.lit
  obtain ⟨q, hq⟩ : ∃ q, q = p.pt := ⟨_, rfl⟩
  rw [← hq] at ex hsp
  subst ex
  have hh : Sl w (.slice aa na ca) (cellsOf bC q.hv) q.hv.length := hrp.h
  have hd : Sl w (.slice ab nb cb) (cellsOf sC q.da) q.da.length := hrp.d
  have hs1 : q.hv.length ≤ 140737488355328 := hsp.1
  have hs2 : q.da.length ≤ 8796093022208 := hsp.2.1
  repeat' (first | refine zh ?_ | refine HL.idxR (Rd.arg hv.s) elemPt k I I I I hlt ?_ | refine HL.fieldN 4 (Rd.arg hv.s) (by rw [cL]; omega) I I I I I I I ?_ | refine HL.loadI (Rd.arg hv.s) I I I I (cells_get ptC_len hp (i := 4) I) ?_ | refine HL.callO fn138 I I (fun w1 hw1 => cloneB_any q.hv _ w1 ((Rd.arg hh).at hw1) hs1) ?_ | intro (bk : Nat))
  intro u1
  refine HL.shape 0 I fun a1 c1 hu => ?_
  subst hu
  repeat' (first | refine zh ?_ | refine HL.idxR (Rd.own 1 I) elemPt k I I I I (by omega) ?_ | refine HL.fieldN 4 (Rd.own 1 I) (by rw [cM]; omega) I I I I I I I ?_ | refine HL.storeE (j := k * 6 + 4) 1 I I I I I I I (by rw [cM]; omega) ?_ | intro (bk : Nat))
  obtain ⟨M1, hM1⟩ : ∃ M1, M1 = M.set k ⟨.slice a1 q.hv.length c1, .slice ab nb cb, q⟩ := ⟨_, rfl⟩
  have hg1 : M1[k]? = some ⟨.slice a1 q.hv.length c1, .slice ab nb cb, q⟩ := by rw [hM1]; simp [hML, hlt]
  have hl1 : M1.length = M.length := by rw [hM1]; exact List.length_set
  have cM1 : (cellsOf ptC M1).length = M1.length * 6 := cellsOf_len ptC_len _
  refine HL.ent (H' := [ownC v1 173 6 M1.length (cellsOf ptC M1), ownC (.slice a1 q.hv.length c1) 4 1 q.hv.length (cellsOf bC q.hv), groupC (ptG (M.take k))]) (Ent.trans (Ent.pick [1, 0, 2] I I) (Ent.own0 hl1.symm (by rw [hM1]; exact cells_set1 (i := 4) ptC_len hpm I (by decide)))) ?_
  repeat' (first | refine zh ?_ | refine HL.idxR (Rd.arg hv.s) elemPt k I I I I hlt ?_ | refine HL.fieldN 5 (Rd.arg hv.s) (by rw [cL]; omega) I I I I I I I ?_ | refine HL.loadI (Rd.arg hv.s) I I I I (cells_get ptC_len hp (i := 5) I) ?_ | refine HL.callO fn139 I I (fun w1 hw1 => cloneS_any q.da _ w1 ((Rd.arg hd).at hw1) hs2) ?_ | intro (bk : Nat))
  intro u2
  refine HL.shape 0 I fun a2 c2 hu => ?_
  subst hu
  repeat' (first | refine zh ?_ | refine HL.idxR (Rd.own 1 I) elemPt k I I I I (by omega) ?_ | refine HL.fieldN 5 (Rd.own 1 I) (by rw [cM1]; omega) I I I I I I I ?_ | refine HL.storeE (j := k * 6 + 5) 1 I I I I I I I (by rw [cM1]; omega) ?_ | intro (bk : Nat))
  obtain ⟨Q, hQ⟩ : ∃ Q : PtV, Q = ⟨.slice a1 q.hv.length c1, .slice a2 q.da.length c2, q⟩ := ⟨_, rfl⟩
  have hms : M1.set k Q = M.set k Q := by rw [hM1, List.set_set]
  have htk : (M.set k Q).take (k + 1) = M.take k ++ [Q] := by
   rw [take_succ_get (show (M.set k Q)[k]? = some Q by simp [hML, hlt]), List.take_set_of_le (Nat.le_refl k)]
  refine ih (k + 1) (M.set k Q) _ _ ⟨hlt, ?_, ?_, ?_⟩ (by show L.length - (k + 1) < L.length - k; omega) ⟨I, I, I, I, trivial⟩ ?_
  ·unfold pts
   rw [List.map_set, hQ]
   show (pts M).set k q = pts L
   have hqk : (pts M)[k]? = some q := pts_get hpm
   rw [set_same hqk]; exact hpM
  ·rw [List.drop_set_of_lt (Nat.lt_succ_self k)]
   have := congrArg (List.drop 1) hdr
   rwa [List.drop_drop, List.drop_drop] at this
  ·intro x hx
   rcases List.mem_or_eq_of_mem_set hx with hx | rfl
   ·exact hshM x hx
   ·rw [hQ]; exact ⟨⟨_, _, _, rfl⟩, ⟨_, _, _, rfl⟩⟩
  ·show Ent _ _ [ownC v1 173 6 (M.set k Q).length (cellsOf ptC (M.set k Q)), groupC (ptG ((M.set k Q).take (k + 1)))]
   rw [htk, ptG_app, ptG_one, hQ]
   refine Ent.trans (Ent.pick (H' := [ptH ⟨.slice a1 q.hv.length c1, .slice a2 q.da.length c2, q⟩, ptD ⟨.slice a1 q.hv.length c1, .slice a2 q.da.length c2, q⟩, groupC (ptG (M.take k)), _]) [2, 0, 3, 1] I I) (Ent.trans (Ent.group (G := [ptH _, ptD _])) (Ent.trans Ent.gjoin (Ent.trans (Ent.pick [1, 0] I I) (Ent.own0 (by rw [hl1, List.length_set]) ?_))))
   rw [← hQ, ← hms, hQ]
   exact cells_set1 (i := 5) ptC_len hg1 I (by decide)
 ·have hke : k = L.length := by have : ¬ (k : Int) < (L.length : Int) := of_decide_eq_false h2; omega
  subst hke
  repeat' (first | refine zh ?_ | intro (bk : Nat))
  refine HR.ret Tryz.func149 I [_] (fun _ _ => ⟨I, trivial⟩) ?_
  refine fun w' hw => ⟨(v1, M), rfl, ⟨hpM, hshM⟩, ?_⟩
  rw [← hML, List.take_length] at hw
  exact hw
theorem mclone_any (V : NV) (n : Nd) (w : World) (h : OkN w V n) (hs : SmN n) :
  Calls Tryz.prog 78 #[.agg ⟨ndC V n⟩] w fun e w' => ∃ x : NV × List Chunk, e = .returned (.agg ⟨ndC x.1 n⟩) ∧ Own x.1 x.2 n ∧ Sat (base w) [groupC x.2] w' := by
 refine calls_hr Tryz.func78 I (Nat.le_of_ble_eq_true I) ?_
 refine HR.sub (σ' := [(0, .agg ⟨ndC V n⟩)]) ⟨I, trivial⟩ ?_
 repeat' (first | refine zh ?_ | refine HL.callO fn61 I I (fun w1 hw1 => cloneRo_any n.table _ w1 ((Rd.arg h.ta).at hw1) hs.ta) ?_ | intro (bk : Nat))
 intro v1
 refine HL.shape 0 I fun a1 c1 hv => ?_
 subst hv
 repeat' (first | refine zh ?_ | refine HL.callO fn131 I I (fun w1 hw1 => cloneLi_any n.links _ w1 ((Rd.arg h.li).at hw1) hs.li) ?_ | intro (bk : Nat))
 intro v2
 refine HL.shape 0 I fun a2 c2 hv => ?_
 subst hv
 repeat' (first | refine zh ?_ | refine HL.callO fn133 I I (fun w1 hw1 => cloneSn_any n.out _ w1 ((Rd.arg h.ou).at hw1) hs.ou) ?_ | intro (bk : Nat))
 intro v3
 refine HL.shape 0 I fun a3 c3 hv => ?_
 subst hv
 repeat' (first | refine zh ?_ | refine HL.callO fn148 I I (fun w1 hw1 => cloneI_any n.children _ w1 ((Rd.arg h.ch).at hw1) hs.ch) ?_ | intro (bk : Nat))
 intro v4
 refine HL.shape 0 I fun a4 c4 hv => ?_
 subst hv
 repeat' (first | refine zh ?_ | refine HL.callO fn134 I I (fun w1 hw1 => cloneMa_any n.boxes _ w1 ((Rd.arg h.bo).at hw1) hs.bo) ?_ | intro (bk : Nat))
 intro v5
 refine HL.shape 0 I fun a5 c5 hv => ?_
 subst hv
 refine HL.ent (Ent.pick [6, 0, 1, 2, 3, 4, 5] I I) ?_
 repeat' (first | refine zh ?_ | refine HL.callO fn137 I I (fun w1 hw1 => clonePr_any n.seen _ w1 ((Rd.arg h.se).at hw1) hs.se) ?_ | intro (bk : Nat))
 intro v6
 refine HL.shape 0 I fun a6 c6 hv => ?_
 subst hv
 repeat' (first | refine zh ?_ | intro (bk : Nat))
 refine HL.callX (r := fun x : Value × List PtV => x.1) (Q := fun x => GdPts x (pts V.ps)) (G := fun x => ptsC x) fn149 I I (fun w1 hw1 => cloneParts_any V.ps _ w1 (h.pa.ext hw1.belowB) (fun p hp => hs.sm p.pt (by rw [← h.eq]; exact List.mem_map.2 ⟨p, hp, rfl⟩)) (by rw [← pts_len, h.eq]; exact hs.pa)) ?_
 rintro ⟨v7, L7⟩ ⟨hp7, hsh7⟩
 have hp7 : pts L7 = pts V.ps := hp7
 refine HL.ent (H' := ownC v7 173 6 L7.length (cellsOf ptC L7) :: groupC (ptG L7) :: _) Ent.refl ?_
 refine HL.shape 0 I fun a7 c7 hv => ?_
 subst hv
 repeat' (first | refine zh ?_ | refine HL.callO fn59 I I (fun w1 hw1 => cloneDe_any n.inbox _ w1 ((Rd.arg h.ib).at hw1) hs.ib) ?_ | intro (bk : Nat))
 intro v8
 refine HL.shape 0 I fun a8 c8 hv => ?_
 subst hv
 refine HL.ent (Ent.pick [10, 4, 0, 1, 2, 3, 5, 6, 7, 8, 9] I I) ?_
 repeat' (first | refine zh ?_ | intro (bk : Nat))
 refine HR.ret Tryz.func78 I [_] (fun w hw => ⟨⟨_, rfl, loadVarR hw 0 I I I I rfl⟩, trivial⟩) ?_
 refine fun w' hw => ⟨(⟨(a1, c1), (a2, c2), (a3, c3), (a4, c4), (a5, c5), (a6, c6), (a7, c7), (a8, c8), L7⟩, ndH ⟨(a1, c1), (a2, c2), (a3, c3), (a4, c4), (a5, c5), (a6, c6), (a7, c7), (a8, c8), L7⟩ n), rfl, Pts.own ⟨by rw [← h.eq]; exact hp7, hsh7⟩, sat_grp (hw.pick [10, 9, 8, 7, 6, 5, 3, 4, 2] I rfl)⟩
end Go.Proofs.YtgfdoognildoeaaGreat
namespace Go.Proofs.YtgfdoognildoeaaGreat
open Go.GX Go.RowKit
attribute [local irreducible] Calls Run RunL RunQ RunD HR HL HD blkC ownC mapC Rd slicesC iterC
open Nd
abbrev meZ : List Value := [.int .i64 0, .slice none 0 0]
abbrev meB (b : Nat) (t : Int) (v : Value) : Chunk := blkC b (meC t v) 26
abbrev MkL (x : SV × List (NV × Nd) × List Chunk) (l : List Nd) : Prop := nds x.2.1 = l ∧ ∀ y ∈ x.2.1, Own y.1 x.2.2 y.2
end Go.Proofs.YtgfdoognildoeaaGreat
namespace Me
open Go.GX Nd Tp
theorem asc_ext {α : Type} {key : α → Int} : ∀ {l m : List α}, Asc key l → Asc key m → (∀ x, x ∈ l ↔ x ∈ m) → l = m
 | [], [], _, _, _ => rfl
 | [], b :: m, _, _, h => absurd ((h b).2 (List.mem_cons_self ..)) List.not_mem_nil
 | a :: l, [], _, _, h => absurd ((h a).1 (List.mem_cons_self ..)) List.not_mem_nil
 | a :: l, b :: m, hl, hm, h => by
  obtain ⟨l1, l2⟩ := List.pairwise_cons.1 hl
  obtain ⟨m1, m2⟩ := List.pairwise_cons.1 hm
  have e : a = b := by
   rcases List.mem_cons.1 ((h a).1 (List.mem_cons_self ..)) with e | ha
   ·exact e
   ·rcases List.mem_cons.1 ((h b).2 (List.mem_cons_self ..)) with e | hb
    ·exact e.symm
    ·have := l1 b hb
     have := m1 a ha
     omega
  subst e
  have h2 : ∀ x, x ∈ l ↔ x ∈ m := fun x => by
   constructor
   ·intro hx
    rcases List.mem_cons.1 ((h x).1 (List.mem_cons_of_mem _ hx)) with e | hx'
    ·subst e; have := l1 x hx; omega
    ·exact hx'
   ·intro hx
    rcases List.mem_cons.1 ((h x).2 (List.mem_cons_of_mem _ hx)) with e | hx'
    ·subst e; have := m1 x hx; omega
    ·exact hx'
  rw [asc_ext l2 m2 h2]
theorem put_mem {l : List Nd.Nd} {n x : Nd.Nd} : x ∈ put l n ↔ x = n ∨ x ∈ l := by
 unfold put
 rw [(ins_perm _ l n).mem_iff, List.mem_cons]
theorem put_asc {n : Nd.Nd} : ∀ {l : List Nd.Nd}, Asc (·.addr) l → (∀ x ∈ l, x.addr ≠ n.addr) → Asc (·.addr) (put l n)
 | [], _, _ => List.pairwise_singleton _ _
 | a :: l, h, hn => by
  obtain ⟨h1, h2⟩ := List.pairwise_cons.1 h
  have hr := put_asc h2 fun x hx => hn x (List.mem_cons_of_mem _ hx)
  by_cases ha : a.addr < n.addr
  ·have e : put (a :: l) n = a :: put l n := by
    unfold put ins
    rw [List.takeWhile_cons_of_pos (by simpa using ha), List.dropWhile_cons_of_pos (by simpa using ha)]
    rfl
   rw [e]
   refine List.pairwise_cons.2 ⟨fun x hx => ?_, hr⟩
   rcases put_mem.1 hx with rfl | hx
   ·exact ha
   ·exact h1 x hx
  ·have e : put (a :: l) n = n :: a :: l := by
    unfold put ins
    rw [List.takeWhile_cons_of_neg (by simpa using ha), List.dropWhile_cons_of_neg (by simpa using ha)]
    rfl
   rw [e]
   have hna := hn a (List.mem_cons_self ..)
   refine List.pairwise_cons.2 ⟨fun x hx => ?_, h⟩
   show n.addr < x.addr
   rcases List.mem_cons.1 hx with rfl | hx
   ·omega
   ·have : a.addr < x.addr := h1 x hx
    omega
section
variable {addrs polls : List Int}
theorem build_mem {k : Nat} {x : Nd.Nd} : x ∈ build addrs polls k ↔ ∃ i, i < k ∧ nodeAt addrs polls i = x := by
 rw [(build_perm addrs polls k).mem_iff, List.mem_map]
 constructor
 ·rintro ⟨i, hi, e⟩; exact ⟨i, List.mem_range.1 hi, e⟩
 ·rintro ⟨i, hi, e⟩; exact ⟨i, List.mem_range.2 hi, e⟩
theorem build_len (k : Nat) : (build addrs polls k).length = k := by rw [(build_perm addrs polls k).length_eq]; simp
theorem firstE_le {f : Nat → Int} {n k : Nat} (h : firstE f n = 0) (hk : k ≤ n) : firstE f k = 0 := firstE_none fun i hi => firstE_all h i (by omega)
theorem addrs_at {k : Nat} (h : firstE (addrBad addrs) k = 0) {i : Nat} (hi : i < k) (hl : k ≤ addrs.length) : okN (addrs.getD i 0) = true ∧ ∀ j, j < i → addrs.getD j 0 ≠ addrs.getD i 0 := by
 have h1 := firstE_all h i hi
 unfold addrBad at h1
 have hil : i < addrs.length := by omega
 rw [List.getElem?_eq_getElem hil] at h1
 have e : addrs.getD i 0 = addrs[i] := by rw [List.getD_eq_getElem?_getD, List.getElem?_eq_getElem hil]; rfl
 simp only at h1
 split at h1
 ·cases h1
 ·rename_i h2
  split at h1
  ·cases h1
  ·rename_i h3
   refine ⟨by rw [e]; cases g : okN addrs[i]; exact absurd g h2; rfl, fun j hj e2 => h3 ?_⟩
   rw [e, List.getD_eq_getElem?_getD, List.getElem?_eq_getElem (show j < addrs.length by omega)] at e2
   rw [← e2]
   exact List.mem_of_getElem? (i := j) (by rw [List.getElem?_take_of_lt hj, List.getElem?_eq_getElem (show j < addrs.length by omega)]; rfl)
theorem build_addr {k : Nat} (h : firstE (addrBad addrs) k = 0) (hl : k ≤ addrs.length) {x : Nd.Nd} (hx : x ∈ build addrs polls k) : ∃ i, i < k ∧ x.addr = addrs.getD i 0 := by
 obtain ⟨i, hi, rfl⟩ := build_mem.1 hx
 refine ⟨i, hi, ?_⟩
 unfold nodeAt
 exact (new_addr (addrs_at h hi hl).1).1
theorem build_asc : ∀ {k : Nat}, firstE (addrBad addrs) k = 0 → k ≤ addrs.length → Asc (·.addr) (build addrs polls k)
 | 0, _, _ => List.Pairwise.nil
 | k + 1, h, hl => by
  have h0 := firstE_le h (Nat.le_succ k)
  refine put_asc (build_asc h0 (by omega)) fun x hx e => ?_
  obtain ⟨i, hi, e2⟩ := build_addr h0 (by omega) hx
  obtain ⟨g1, g2⟩ := addrs_at h (Nat.lt_succ_self k) hl
  have e3 : (nodeAt addrs polls k).addr = addrs.getD k 0 := (new_addr g1).1
  exact g2 i hi (by rw [← e2, e, e3])
theorem build_has {k : Nat} (h : firstE (addrBad addrs) k = 0) (hl : k ≤ addrs.length) (a : Int) : (idx (build addrs polls k) a).isSome = decide (a ∈ addrs.take k) := by
 have hiff : (∃ x ∈ build addrs polls k, x.addr = a) ↔ a ∈ addrs.take k := by
  constructor
  ·rintro ⟨x, hx, e⟩
   obtain ⟨i, hi, e2⟩ := build_addr h hl hx
   refine List.mem_of_getElem? (i := i) ?_
   rw [List.getElem?_take_of_lt hi, List.getElem?_eq_getElem (show i < addrs.length by omega), ← e, e2, List.getD_eq_getElem?_getD, List.getElem?_eq_getElem (show i < addrs.length by omega)]
   rfl
  ·intro ha
   obtain ⟨i, hi⟩ := List.getElem?_of_mem ha
   have hik : i < k := by have := (List.getElem?_eq_some_iff.1 hi).1; simp at this; omega
   rw [List.getElem?_take_of_lt hik] at hi
   refine ⟨nodeAt addrs polls i, build_mem.2 ⟨i, hik, rfl⟩, ?_⟩
   unfold nodeAt
   rw [(new_addr (addrs_at h hik hl).1).1, List.getD_eq_getElem?_getD, hi]; rfl
 by_cases ha : a ∈ addrs.take k
 ·rw [decide_eq_true ha]
  obtain ⟨x, hx, e⟩ := hiff.2 ha
  obtain ⟨i, hi⟩ := idx_mem hx
  rw [e] at hi
  rw [hi]; rfl
 ·rw [decide_eq_false ha]
  cases hi : idx (build addrs polls k) a with
  | none => rfl
  | some i =>
   obtain ⟨h1, h2⟩ := idx_some hi
   exact absurd (hiff.1 ⟨_, List.mem_of_getElem? h1, h2⟩) ha
def row (addrs polls : List Int) (a : Int) : Nat → List Nd.Nd
 | 0 => []
 | i + 1 => row addrs polls a i ++ (if addrs.getD i 0 = a then [new a (pollOf polls i)] else [])
def rows (addrs polls : List Int) : Nat → List Nd.Nd
 | 0 => []
 | a + 1 => rows addrs polls a ++ row addrs polls a addrs.length
theorem row_mem {a : Int} : ∀ {k : Nat} {x : Nd.Nd}, x ∈ row addrs polls a k ↔ ∃ i, i < k ∧ addrs.getD i 0 = a ∧ nodeAt addrs polls i = x
 | 0, x => ⟨fun h => (List.not_mem_nil h).elim, fun ⟨i, hi, _⟩ => absurd hi (Nat.not_lt_zero _)⟩
 | k + 1, x => by
  unfold row
  rw [List.mem_append, row_mem]
  constructor
  ·rintro (⟨i, hi, h1, h2⟩ | h)
   ·exact ⟨i, by omega, h1, h2⟩
   ·split at h
    ·rename_i e
     rw [List.mem_singleton] at h
     exact ⟨k, by omega, e, by rw [h]; unfold nodeAt; rw [e]⟩
    ·cases h
  ·rintro ⟨i, hi, h1, h2⟩
   by_cases hik : i = k
   ·subst hik
    refine .inr ?_
    rw [if_pos h1, List.mem_singleton, ← h2]; unfold nodeAt; rw [h1]
   ·exact .inl ⟨i, by omega, h1, h2⟩
theorem row_one {a : Int} (h : firstE (addrBad addrs) addrs.length = 0) : ∀ {k : Nat}, k ≤ addrs.length → Asc (·.addr) (row addrs polls a k)
 | 0, _ => List.Pairwise.nil
 | k + 1, hk => by
  have ih := row_one h (k := k) (a := a) (by omega)
  unfold row
  split
  ·rename_i e
   have h0 : row addrs polls a k = [] := by
    cases hr : row addrs polls a k with
    | nil => rfl
    | cons y ys =>
     have hy : y ∈ row addrs polls a k := by rw [hr]; exact List.mem_cons_self ..
     obtain ⟨i, hi, h1, _⟩ := row_mem.1 hy
     exact absurd (h1.trans e.symm) ((addrs_at h (show k < addrs.length by omega) (Nat.le_refl _)).2 i hi)
   rw [h0]
   exact List.pairwise_singleton _ _
  ·rw [List.append_nil]; exact ih
theorem rows_mem {k : Nat} {x : Nd.Nd} : x ∈ rows addrs polls k ↔ ∃ a : Nat, a < k ∧ x ∈ row addrs polls a addrs.length := by
 induction k with
 | zero => exact ⟨fun h => (List.not_mem_nil h).elim, fun ⟨i, hi, _⟩ => absurd hi (Nat.not_lt_zero _)⟩
 | succ k ih =>
  unfold rows
  rw [List.mem_append, ih]
  constructor
  ·rintro (⟨a, ha, h⟩ | h)
   ·exact ⟨a, by omega, h⟩
   ·exact ⟨k, by omega, h⟩
  ·rintro ⟨a, ha, h⟩
   by_cases hak : a = k
   ·subst hak; exact .inr h
   ·exact .inl ⟨a, by omega, h⟩
theorem row_addr {a : Int} (h : firstE (addrBad addrs) addrs.length = 0) {x : Nd.Nd} (hx : x ∈ row addrs polls a addrs.length) : x.addr = a := by
 obtain ⟨i, hi, h1, h2⟩ := row_mem.1 hx
 rw [← h2, ← h1]
 unfold nodeAt
 exact (new_addr (addrs_at h hi (Nat.le_refl _)).1).1
theorem rows_asc (h : firstE (addrBad addrs) addrs.length = 0) : ∀ k, Asc (·.addr) (rows addrs polls k)
 | 0 => List.Pairwise.nil
 | k + 1 => by
  unfold rows
  refine List.pairwise_append.2 ⟨rows_asc h k, row_one h (Nat.le_refl _), fun x hx y hy => ?_⟩
  obtain ⟨a, ha, hxa⟩ := rows_mem.1 hx
  have e1 := row_addr h hxa
  have e2 := row_addr h hy
  show x.addr < y.addr
  omega
theorem rows_is (h : firstE (addrBad addrs) addrs.length = 0) : rows addrs polls 251 = build addrs polls addrs.length := by
 refine asc_ext (rows_asc h 251) (build_asc h (Nat.le_refl _)) fun x => ?_
 rw [rows_mem, build_mem]
 constructor
 ·rintro ⟨a, ha, hx⟩
  obtain ⟨i, hi, _, h2⟩ := row_mem.1 hx
  exact ⟨i, hi, h2⟩
 ·rintro ⟨i, hi, e⟩
  obtain ⟨g1, _⟩ := addrs_at h hi (Nat.le_refl _)
  rw [okN_iff] at g1
  refine ⟨(addrs.getD i 0).toNat, by omega, row_mem.2 ⟨i, hi, ?_, e⟩⟩
  omega
end
end Me
namespace Go.Proofs.YtgfdoognildoeaaGreat
open Go.GX Go.RowKit
attribute [local irreducible] Calls Run RunL RunQ RunD HR HL HD blkC ownC mapC Rd slicesC iterC
open Nd
theorem fn10 : IsFn Tryz.prog 10 := ⟨⟨_, _, Tryz.func10, rfl, by decide⟩⟩
theorem put_at {l : List Nd} {n : Nd} {j : Nat} (hj : j ≤ l.length) (h1 : ∀ i x, i < j → l[i]? = some x → x.addr < n.addr) (h2 : ∀ x, l[j]? = some x → ¬ x.addr < n.addr) : Me.put l n = l.take j ++ n :: l.drop j := by
 obtain ⟨e1, e2⟩ := Nd.tw_at (p := fun x : Nd => decide (x.addr < n.addr)) hj (fun i x hi hx => decide_eq_true (h1 i x hi hx)) (fun x hx => decide_eq_false (h2 x hx))
 unfold Me.put Nd.ins
 rw [e1, e2]
theorem idx_none_iff {xs : List (NV × Nd)} {a : Int} : (Me.idx (nds xs) a).isSome = decide (idxV (nds xs) a ≥ 0) := by
 unfold idxV
 cases Me.idx (nds xs) a with
 | none => rfl
 | some i => simp
theorem addrBad_at {l : List Int} {k : Nat} {a : Int} (h : l[k]? = some a) : Me.addrBad l k = if Tp.okN a = false then 2 else if a ∈ l.take k then 9 else 0 := by unfold Me.addrBad; rw [h]
theorem mNew_err {addrs polls : List Int} {k : Nat} (hl : addrs.length ≤ 24) (h0 : firstE (Me.addrBad addrs) k = 0) (hk : k < addrs.length) (h1 : Me.addrBad addrs k ≠ 0) : Me.mNew addrs polls = (Me.mesh0, Me.addrBad addrs k) := by
 have e := firstE_at h0 h1 hk
 unfold Me.mNew
 rw [if_neg (by omega), if_pos (by rw [e]; exact h1), e]
theorem mNew_ok {addrs polls : List Int} (hl : addrs.length ≤ 24) (h0 : firstE (Me.addrBad addrs) addrs.length = 0) : Me.mNew addrs polls = (⟨0, Me.build addrs polls addrs.length⟩, 0) := by
 unfold Me.mNew
 rw [if_neg (by omega), if_neg (by rw [h0]; decide)]
theorem mNew_many {addrs polls : List Int} (hl : addrs.length > 24) : Me.mNew addrs polls = (Me.mesh0, 3) := by unfold Me.mNew; rw [if_pos hl]
theorem pollOf_some {polls : List Int} {k : Nat} {p : Int} (h : polls[k]? = some p) : Me.pollOf polls k = p := by unfold Me.pollOf; rw [List.getD_eq_getElem?_getD, h]; rfl
theorem pollOf_none {polls : List Int} {k : Nat} (h : polls.length ≤ k) : Me.pollOf polls k = 0 := by unfold Me.pollOf; rw [List.getD_eq_getElem?_getD, List.getElem?_eq_none h]; rfl
theorem okN_no {a : Int} : (decide (a < 0) || decide (a > 250)) = !Tp.okN a := by
 cases h : Tp.okN a with
 | true => rw [Nd.okN_iff] at h; simp; omega
 | false =>
  have : ¬ Tp.okN a = true := by rw [h]; decide
  rw [Nd.okN_iff] at this; simp; omega
abbrev MeMk (x : SV × List (NV × Nd) × List Chunk) (l : List Nd) : Prop := MkL x l ∧ ∀ y ∈ x.2.1, GdN y.2
theorem mk_zero : MeMk ((none, 0), [], []) [] := ⟨⟨rfl, fun y hy => (List.not_mem_nil hy).elim⟩, fun y hy => (List.not_mem_nil hy).elim⟩
theorem sat_zero {B : Base} {H : List Chunk} {w : World} (h : Sat B H w) : Sat B [cNd (sv (none, 0) 0) [], groupC []] w :=
 Ent.trans (Ent.gnil (H := [cNd (sv (none, 0) 0) []])) (Ent.pick [1, 0] I I) w (Sat.nilC (h.pick [] I I) 62 13)
theorem mnew_any (addrs polls : List Int) (va vp : Value) (w : World) (ha : Sl w va (cellsOf iC addrs) addrs.length) (hp : Sl w vp (cellsOf iC polls) polls.length) (hla : addrs.length ≤ 1000000) (hlp : polls.length ≤ 1000000) :
  Calls Tryz.prog 10 #[va, vp] w fun e w' => ∃ x : SV × List (NV × Nd) × List Chunk, e = .returned (.tuple ⟨[meV 0 (sv x.1 x.2.1.length), .int .i64 (Me.mNew addrs polls).2]⟩) ∧ MeMk x (Me.mNew addrs polls).1.nodes ∧ Sat (base w) [cNd (sv x.1 x.2.1.length) x.2.1, groupC x.2.2] w' := by
 refine calls_hr Tryz.func10 I (Nat.le_of_ble_eq_true I) ?_
 refine HR.sub (σ' := [(0, va), (1, vp)]) ⟨I, I, trivial⟩ ?_
 refine HR.ctl I ?_
 refine HR.region ?_
 refine HL.alloc I I ?_
 intro b4
 repeat' (first | refine zh ?_ | refine HL.lenR (Rd.arg ha) I I I ?_ | intro (bk : Nat))
 refine HR.cond I (fun h1 => ?_) (fun h1 => ?_)
 ·have h1 : addrs.length > 24 := by have : (addrs.length : Int) > 24 := of_decide_eq_true h1; omega
  rw [mNew_many h1]
  repeat' (first | refine zh ?_ | intro (bk : Nat))
  refine HR.ret Tryz.func10 I [_, _] (fun w hw => ⟨⟨_, rfl, loadVarR hw 0 I I I I rfl⟩, rfl, trivial⟩) ?_
  exact fun w' hw => ⟨((none, 0), [], []), rfl, mk_zero, sat_zero hw⟩
 have h24 : addrs.length ≤ 24 := by have : ¬ (addrs.length : Int) > 24 := of_decide_eq_false h1; omega
 refine HR.ctl I ?_
 refine HR.region ?_
 refine HL.alloc I I ?_
 intro b6
 repeat' (first | refine zh ?_ | refine HL.lenR (Rd.arg ha) I I I ?_ | intro (bk : Nat))
 refine HR.nilC 62 13 ?_
 refine HR.loop (ι := Nat × SV × List (NV × Nd) × List Chunk) (fun x => x.1 ≤ addrs.length ∧ firstE (Me.addrBad addrs) x.1 = 0 ∧ MeMk x.2 (Me.build addrs polls x.1)) (fun x => [(0, va), (1, vp), (4, ptr b4), (6, ptr b6), (15, va), (16, .int .i64 (addrs.length : Int)), (17, .int .i64 (x.1 : Int))]) (fun x => [meB b6 0 (sv x.2.1 x.2.2.1.length), blkC b4 meZ 26, cNd (sv x.2.1 x.2.2.1.length) x.2.2.1, groupC x.2.2.2]) (fun x => addrs.length - x.1) (0, (none, 0), [], []) ⟨Nat.zero_le _, rfl, mk_zero⟩ ⟨I, I, I, I, I, I, I, trivial⟩ (Ent.trans Ent.gnil (Ent.pick [2, 3, 1, 0] I I)) ?_
 rintro ⟨k, y, ys, G⟩ ⟨hk, hE, ⟨hN, hO⟩, hG⟩ ih
 have hk : k ≤ addrs.length := hk
 have hE : firstE (Me.addrBad addrs) k = 0 := hE
 have hN : nds ys = Me.build addrs polls k := hN
 have hO : ∀ z ∈ ys, Own z.1 G z.2 := hO
 have hG : ∀ z ∈ ys, GdN z.2 := hG
 have hyl : ys.length = k := by rw [← nds_len, hN, Me.build_len]
 have cy : (cellsOf ndE2 ys).length = ys.length * 13 := cellsOf_len ndE2_len _
 repeat' (first | refine zh ?_ | intro (bk : Nat))
 refine HR.cond I (fun h2 => ?_) (fun h2 => ?_)
 rotate_left
 ·have hke : k = addrs.length := by have : ¬ (k : Int) < (addrs.length : Int) := of_decide_eq_false h2; omega
  subst hke
  rw [mNew_ok h24 hE]
  repeat' (first | refine zh ?_ | intro (bk : Nat))
  refine HR.ret Tryz.func10 I [_, _] (fun w hw => ⟨⟨_, rfl, loadVarR hw 1 I I I I rfl⟩, rfl, trivial⟩) ?_
  exact fun w' hw => ⟨(y, ys, G), rfl, ⟨⟨hN, hO⟩, hG⟩, hw.pick [2, 3] I rfl⟩
 have hlt : k < addrs.length := by have : (k : Int) < (addrs.length : Int) := of_decide_eq_true h2; omega
 obtain ⟨a, hak⟩ := getSome hlt
 have hbad := addrBad_at hak
 repeat' (first | refine zh ?_ | refine HL.idxR (Rd.arg ha) elemI k I I I I hlt ?_ | refine HL.loadI (Rd.arg ha) I I I I (cellsOf_get1 hak) ?_ | apply zb ?_ ?_ | exact zc | (refine zi fun hb => ?_; try simp at hb) | intro (bk : Nat))
 refine HR.cond I (fun h3 => ?_) (fun h3 => ?_)
 ·have h3 : Tp.okN a = false := by have h3 : (decide (a < 0) || decide (a > 250)) = true := h3; rw [okN_no] at h3; simpa using h3
  rw [if_pos h3] at hbad
  rw [mNew_err h24 hE hlt (by rw [hbad]; decide), hbad]
  repeat' (first | refine zh ?_ | intro (bk : Nat))
  refine HR.ret Tryz.func10 I [_, _] (fun w hw => ⟨⟨_, rfl, loadVarR hw 1 I I I I rfl⟩, rfl, trivial⟩) ?_
  exact fun w' hw => ⟨((none, 0), [], []), rfl, mk_zero, sat_zero hw⟩
 have hok : Tp.okN a = true := by have h3 : (decide (a < 0) || decide (a > 250)) = false := h3; rw [okN_no] at h3; simpa using h3
 rw [if_neg (by rw [hok]; decide)] at hbad
 have hhas := Me.build_has (polls := polls) hE hk a
 rw [← hN, idx_none_iff] at hhas
 repeat' (first | refine zh ?_ | refine HL.callB fn34 I I (fun w1 hw1 => mindex_any ys a _ w1 ((Rd.own 2 rfl).at hw1) (by omega)) ?_ | intro (bk : Nat))
 refine HR.cond I (fun h4 => ?_) (fun h4 => ?_)
 ·have h4 : decide (idxV (nds ys) a ≥ 0) = true := h4
  rw [h4] at hhas
  rw [if_pos (of_decide_eq_true hhas.symm)] at hbad
  rw [mNew_err h24 hE hlt (by rw [hbad]; decide), hbad]
  repeat' (first | refine zh ?_ | intro (bk : Nat))
  refine HR.ret Tryz.func10 I [_, _] (fun w hw => ⟨⟨_, rfl, loadVarR hw 1 I I I I rfl⟩, rfl, trivial⟩) ?_
  exact fun w' hw => ⟨((none, 0), [], []), rfl, mk_zero, sat_zero hw⟩
 have h4 : decide (idxV (nds ys) a ≥ 0) = false := h4
 rw [h4] at hhas
 rw [if_neg (of_decide_eq_false hhas.symm)] at hbad
 have hE1 : firstE (Me.addrBad addrs) (k + 1) = 0 := firstE_step hE hbad
 obtain ⟨P, hP⟩ : ∃ P, P = Me.pollOf polls k := ⟨_, rfl⟩
 have hna : Me.nodeAt addrs polls k = new a P := by unfold Me.nodeAt; rw [List.getD_eq_getElem?_getD, hak, ← hP]; rfl
 have hnaa : (new a P).addr = a := (Me.new_addr hok).1
 repeat' (first | refine zh ?_ | refine HL.lenR (Rd.arg hp) I I I ?_ | intro (bk : Nat))
 refine HR.join (ι := Unit) (fun _ => True) (fun _ => [(0, va), (1, vp), (4, ptr b4), (6, ptr b6), (8, .int .i64 a), (9, .int .i64 P), (15, va), (16, .int .i64 (addrs.length : Int)), (17, .int .i64 (k : Int))]) (fun _ => [meB b6 0 (sv y ys.length), blkC b4 meZ 26, cNd (sv y ys.length) ys, groupC G]) ?_ (fun hj => ?_)
 rotate_left
 ·refine HR.cond I (fun h5 => ?_) (fun h5 => ?_)
  ·have hlt5 : k < polls.length := by have : (k : Int) < (polls.length : Int) := of_decide_eq_true h5; omega
   obtain ⟨p, hpk⟩ := getSome hlt5
   rw [pollOf_some hpk] at hP
   subst hP
   refine HR.region ?_
   repeat' (first | refine zn ?_ | refine HL.idxR (Rd.arg hp) elemI k I I I I hlt5 ?_ | refine HL.loadI (Rd.arg hp) I I I I (cellsOf_get1 hpk) ?_ | intro (bk : Nat))
   exact hj () _ _ trivial ⟨I, I, I, I, I, I, I, I, I, trivial⟩ Ent.refl
  ·have hlt5 : polls.length ≤ k := by have : ¬ (k : Int) < (polls.length : Int) := of_decide_eq_false h5; omega
   rw [pollOf_none hlt5] at hP
   subst hP
   refine HR.skip ?_
   exact hj () _ _ trivial ⟨I, I, I, I, I, I, I, I, I, trivial⟩ Ent.refl
 rintro _ _
 refine HR.ctl I ?_
 refine HR.region ?_
 repeat' (first | refine zn ?_ | apply zb ?_ ?_ | exact zc | (refine zi fun hb => ?_; try simp at hb) | intro (bk : Nat))
 refine HR.seq ?_
 refine HR.join (ι := Nat) (fun j => j ≤ ys.length ∧ (∀ i x, i < j → ys[i]? = some x → x.2.addr < a) ∧ ∀ x, ys[j]? = some x → ¬ x.2.addr < a) (fun j => [(0, va), (1, vp), (4, ptr b4), (6, ptr b6), (8, .int .i64 a), (9, .int .i64 P), (10, .int .i64 (j : Int)), (15, va), (16, .int .i64 (addrs.length : Int)), (17, .int .i64 (k : Int))]) (fun _ => [meB b6 0 (sv y ys.length), blkC b4 meZ 26, cNd (sv y ys.length) ys, groupC G]) ?_ (fun hjn => ?_)
 rotate_left
 ·refine HR.ctl I ?_
  refine HR.loop (ι := Nat) (fun j => j ≤ ys.length ∧ ∀ i x, i < j → ys[i]? = some x → x.2.addr < a) (fun j => [(0, va), (1, vp), (4, ptr b4), (6, ptr b6), (8, .int .i64 a), (9, .int .i64 P), (10, .int .i64 (j : Int)), (15, va), (16, .int .i64 (addrs.length : Int)), (17, .int .i64 (k : Int))]) (fun _ => [meB b6 0 (sv y ys.length), blkC b4 meZ 26, cNd (sv y ys.length) ys, groupC G]) (fun j => ys.length - j) 0 ⟨Nat.zero_le _, fun i x hi => absurd hi (Nat.not_lt_zero _)⟩ ⟨I, I, I, I, I, I, I, I, I, I, trivial⟩ Ent.refl ?_
  rintro j ⟨hj, hlo⟩ ih2
  have hj : j ≤ ys.length := hj
  have hlo : ∀ i x, i < j → ys[i]? = some x → x.2.addr < a := hlo
  repeat' (first | refine zh ?_ | refine HL.lenR (Rd.own 2 I) I I I ?_ | intro (bk : Nat))
  by_cases hjl : j < ys.length
  ·obtain ⟨x, hx⟩ := getSome hjl
   refine HL.setB 48 true I (decide_eq_true (by omega)) ?_
   repeat' (first | refine zh ?_ | refine HL.idxR (Rd.own 2 I) elemNd j I I I I hjl ?_ | refine HL.fieldN 0 (Rd.own 2 I) (by rw [cy]; omega) I I I I I I I ?_ | refine HL.loadI (Rd.own 2 I) I I I I (cells_get ndE2_len hx (i := 0) I) ?_ | intro (bk : Nat))
   refine HR.cond I (fun h6 => ?_) (fun h6 => ?_)
   ·have h6 : x.2.addr < a := of_decide_eq_true h6
    repeat' (first | refine zh ?_ | intro (bk : Nat))
    refine ih2 (j + 1) _ _ ⟨hjl, fun i z hi hz => ?_⟩ (by show ys.length - (j + 1) < ys.length - j; omega) ⟨I, I, I, I, I, I, I, I, I, I, trivial⟩ Ent.refl
    by_cases e : i = j
    ·subst e; rw [hx] at hz; cases hz; exact h6
    ·exact hlo i z (by omega) hz
   ·have h6 : ¬ x.2.addr < a := of_decide_eq_false h6
    refine HR.exit I ?_
    exact hjn j _ _ ⟨hj, hlo, fun z hz => by rw [hx] at hz; cases hz; exact h6⟩ ⟨I, I, I, I, I, I, I, I, I, I, trivial⟩ Ent.refl
  ·refine HL.setB 48 false I (decide_eq_false (by omega)) ?_
   repeat' (first | refine zn ?_ | apply zb ?_ ?_ | exact zc | (refine zi fun hb => ?_; try simp at hb) | intro (bk : Nat))
   refine HR.condF I ?_
   refine HR.exit I ?_
   exact hjn j _ _ ⟨hj, hlo, fun z hz => by rw [List.getElem?_eq_none (by omega)] at hz; cases hz⟩ ⟨I, I, I, I, I, I, I, I, I, I, trivial⟩ Ent.refl
 rintro j ⟨hj, hlo, hhi⟩
 have hj : j ≤ ys.length := hj
 have hput : Me.put (nds ys) (new a P) = (nds ys).take j ++ new a P :: (nds ys).drop j := by
  refine put_at (by rw [nds_len]; exact hj) (fun i x hi hx => ?_) (fun x hx => ?_)
  ·rw [hnaa]
   obtain ⟨z, hz⟩ := getSome (show i < ys.length by omega)
   rw [nds_get hz] at hx; cases hx
   exact hlo i z hi hz
  ·rw [hnaa]
   have hjl : j < ys.length := by have := (List.getElem?_eq_some_iff.1 hx).1; rwa [nds_len] at this
   obtain ⟨z, hz⟩ := getSome hjl
   rw [nds_get hz] at hx; cases hx
   exact hhi z hz
 repeat' (first | refine zh ?_ | intro (bk : Nat))
 refine HR.regionY [(0, true), (1, true), (2, true), (3, true), (4, true), (5, false), (6, false), (7, false), (8, true)] 9 [0] I I hmix (by kernel_rfl) ?_
 repeat' (first | refine zd ?_ | fail)
 refine HD.one I ?_
 refine HL.callX (r := fun x : NV × List Chunk => .agg ⟨ndC x.1 (new a P)⟩) (Q := fun x => Own x.1 x.2 (new a P)) (G := fun x => [groupC x.2]) fn36 I I (fun w1 hw1 => pnew_any a P w1) ?_
 rintro ⟨V2, G2⟩ hO2
 have hO2 : Own V2 G2 (new a P) := hO2
 refine HL.back [1] I I ?_
 refine HD.one I ?_
 refine HL.bslice elemNd I I I I I (by decide) (by decide) ?_
 intro vx
 refine HL.back [2] I I ?_
 refine HD.one I ?_
 obtain ⟨zs, hzs⟩ : ∃ zs, zs = ys.take j ++ (V2, new a P) :: ys.drop j := ⟨_, rfl⟩
 refine HL.ent (H' := [ownC vx 62 13 1 (ndE2 (V2, new a P)), cNd (sv y ys.length) ys] ++ [groupC G2, meB b6 0 (sv y ys.length), blkC b4 meZ 26, groupC G]) (Ent.pick [0, 4, 1, 2, 3, 5] I I) ?_
 refine HL.callW (r := fun x : Value => x) (Q := fun _ => True) (G := fun r => [ownC r 62 13 zs.length (cellsOf ndE2 zs)]) fn35 I I I (fun w1 hw1 => by rw [hzs]; exact insNd_any ys (V2, new a P) j _ vx _ w1 (hw1.pick [0, 1] I I) hj (by omega)) ?_
 intro r _
 refine HL.back [2] I I ?_
 repeat' (first | refine zd ?_ | fail)
 refine HD.last I ?_
 refine HL.shape 0 I fun ar cr hv => ?_
 subst hv
 repeat' (first | refine zn ?_ | intro (bk : Nat))
 repeat' (first | refine zh ?_ | intro (bk : Nat))
 have hmem : ∀ z ∈ zs, z ∈ ys ∨ z = (V2, new a P) := fun z hz => by
  rw [hzs] at hz
  rcases List.mem_append.1 hz with hz | hz
  ·exact .inl (List.mem_of_mem_take hz)
  ·rcases List.mem_cons.1 hz with hz | hz
   ·exact .inr hz
   ·exact .inl (List.mem_of_mem_drop hz)
 refine ih (k + 1, (ar, cr), zs, [groupC G2, groupC G]) _ _ ⟨hlt, hE1, ⟨?_, ?_⟩, ?_⟩ (by show addrs.length - (k + 1) < addrs.length - k; omega) ⟨I, I, I, I, I, I, I, trivial⟩ ?_
 ·show nds zs = Me.put (Me.build addrs polls k) (Me.nodeAt addrs polls k)
  rw [hna, ← hN, hput, hzs]
  unfold nds
  rw [List.map_append, List.map_cons, List.map_take, List.map_drop]
 ·intro z hz
  rcases hmem z hz with hz | rfl
  ·exact fun w2 hg2 => hO z hz w2 (groupC_mem hg2 (by simp))
  ·exact fun w2 hg2 => hO2 w2 (groupC_mem hg2 (by simp))
 ·intro z hz
  rcases hmem z hz with hz | rfl
  ·exact hG z hz
  ·exact GdN.new a P
 ·show Ent _ _ [meB b6 0 (sv (ar, cr) zs.length), blkC b4 meZ 26, cNd (sv (ar, cr) zs.length) zs, groupC [groupC G2, groupC G]]
  exact Ent.trans (Ent.pick (H' := [groupC G2, groupC G] ++ [meB b6 0 (sv (ar, cr) zs.length), blkC b4 meZ 26, cNd (sv (ar, cr) zs.length) zs]) [1, 4, 2, 3, 0] I I) (Ent.trans Ent.group (Ent.pick [1, 2, 3, 0] I I))
end Go.Proofs.YtgfdoognildoeaaGreat
namespace Go.Proofs.YtgfdoognildoeaaGreat
open Go.GX Go.RowKit
attribute [local irreducible] Calls Run RunL RunQ RunD HR HL HD blkC ownC mapC Rd slicesC iterC
theorem elemE : Elem Tryz.prog 32 206 2 16 := ⟨rfl, ⟨_, _, rfl, rfl, rfl, rfl, rfl⟩, by decide⟩
theorem keyI : KeyK Tryz.prog 3 (fun z : Int => Value.int .i64 z) := key_int I
theorem fn258 : IsFn Tryz.prog 258 := ⟨⟨_, _, Tryz.func258, rfl, by decide⟩⟩
theorem fn202 : IsFn Tryz.prog 202 := ⟨⟨_, _, Tryz.func202, rfl, by decide⟩⟩
theorem fn203 : IsFn Tryz.prog 203 := ⟨⟨_, _, Tryz.func203, rfl, by decide⟩⟩
theorem fn147 : IsFn Tryz.prog 147 := ⟨⟨_, _, Tryz.func147, rfl, by decide⟩⟩
theorem node_any (n : Int) (w : World) : Calls Tryz.prog 258 #[.int .i64 n] w fun e w' => e = .returned (.bool (Tp.okN n)) ∧ Below w.heap.size w w' := by
 refine calls_hr Tryz.func258 I (Nat.le_of_ble_eq_true I) ?_
 refine HR.sub (σ' := [(0, .int .i64 n)]) ⟨I, trivial⟩ ?_
 repeat' (first | (refine HL.isOp ?_; first | refine HL.ev I I ?_ | refine HL.evc I I (by first | omega | (simp; done) | (simp; omega)) ?_ | (refine HL.isLoad ?_; first | refine HL.L 0 I I I I ?_ | refine HL.L 1 I I I I ?_ | refine HL.L 2 I I I I ?_ | refine HL.L 3 I I I I ?_) | (refine HL.isStore ?_; first | refine HL.S 0 I I I I I ?_ | refine HL.S 1 I I I I I ?_ | refine HL.S 2 I I I I I ?_ | refine HL.S 3 I I I I I ?_) | refine HL.build I I ?_ | refine HL.field I I ?_ | (refine HL.box I I ?_; intro bk) | (refine HL.alloc I I ?_; intro bk) | refine HL.skip rfl rfl ?_ | refine HL.skip0 rfl ?_ | apply HL.andB rfl rfl rfl rfl rfl rfl rfl rfl | apply HL.orB rfl rfl rfl rfl rfl rfl rfl rfl) | refine HL.nil ?_ | refine HR.ctl rfl ?_ | refine HR.region ?_ | refine HR.condT rfl ?_ | refine HR.condF rfl ?_ | exact HL.blkEnd rfl rfl Ent.refl | (refine fun (hb : (_ : Bool) = _) => ?_; try simp at hb))
 refine HR.ret Tryz.func258 I [_] (fun _ _ => ⟨I, trivial⟩) ?_
 exact fun w' hw => ⟨rfl, hw.belowB⟩
theorem valid_any (e : Ed) (w : World) : Calls Tryz.prog 202 #[.agg ⟨edC e⟩] w fun e' w' => e' = .returned (.bool (Tp.okE e)) ∧ Below w.heap.size w w' := by
 refine calls_hr Tryz.func202 I (Nat.le_of_ble_eq_true I) ?_
 refine HR.sub (σ' := [(0, .agg ⟨edC e⟩)]) ⟨I, trivial⟩ ?_
 repeat' (first | (refine HL.isOp ?_; first | refine HL.ev I I ?_ | refine HL.evc I I (by first | omega | (simp; done) | (simp; omega)) ?_ | refine HL.callB fn258 I I (fun w _ => node_any _ w) ?_ | (refine HL.isLoad ?_; first | refine HL.L 0 I I I I ?_ | refine HL.L 1 I I I I ?_ | refine HL.L 2 I I I I ?_ | refine HL.L 3 I I I I ?_) | (refine HL.isStore ?_; first | refine HL.S 0 I I I I I ?_ | refine HL.S 1 I I I I I ?_ | refine HL.S 2 I I I I I ?_ | refine HL.S 3 I I I I I ?_) | refine HL.build I I ?_ | refine HL.field I I ?_ | (refine HL.box I I ?_; intro bk) | (refine HL.alloc I I ?_; intro bk) | refine HL.skip rfl rfl ?_ | refine HL.skip0 rfl ?_ | apply HL.andB rfl rfl rfl rfl rfl rfl rfl rfl | apply HL.orB rfl rfl rfl rfl rfl rfl rfl rfl) | refine HL.nil ?_ | refine HR.ctl rfl ?_ | refine HR.region ?_ | refine HR.condT rfl ?_ | refine HR.condF rfl ?_ | exact HL.blkEnd rfl rfl Ent.refl | (refine fun (hb : (_ : Bool) = _) => ?_; try simp at hb))
 refine HR.ret Tryz.func202 I [_] (fun _ _ => ⟨I, trivial⟩) ?_
 exact fun w' hw => ⟨rfl, hw.belowB⟩
theorem link_any (e : Ed) (w : World) : Calls Tryz.prog 203 #[.agg ⟨edC e⟩] w fun e' w' => e' = .returned (.agg ⟨edC (Tp.link e)⟩) ∧ Below w.heap.size w w' := by
 refine calls_hr Tryz.func203 I (Nat.le_of_ble_eq_true I) ?_
 refine HR.sub (σ' := [(0, .agg ⟨edC e⟩)]) ⟨I, trivial⟩ ?_
 repeat' (first | (refine HL.isOp ?_; first | refine HL.ev I I ?_ | refine HL.evc I I (by first | omega | (simp; done) | (simp; omega)) ?_ | (refine HL.isLoad ?_; first | refine HL.L 0 I I I I ?_ | refine HL.L 1 I I I I ?_ | refine HL.L 2 I I I I ?_ | refine HL.L 3 I I I I ?_) | (refine HL.isStore ?_; first | refine HL.S 0 I I I I I ?_ | refine HL.S 1 I I I I I ?_ | refine HL.S 2 I I I I I ?_ | refine HL.S 3 I I I I I ?_) | refine HL.build I I ?_ | refine HL.field I I ?_ | (refine HL.box I I ?_; intro bk) | (refine HL.alloc I I ?_; intro bk) | refine HL.skip rfl rfl ?_ | refine HL.skip0 rfl ?_ | apply HL.andB rfl rfl rfl rfl rfl rfl rfl rfl | apply HL.orB rfl rfl rfl rfl rfl rfl rfl rfl) | refine HL.nil ?_ | refine HR.ctl rfl ?_ | refine HR.region ?_ | refine HR.condT rfl ?_ | refine HR.condF rfl ?_ | exact HL.blkEnd rfl rfl Ent.refl | (refine fun (hb : (_ : Bool) = _) => ?_; try simp at hb))
 refine HR.ret Tryz.func203 I [_] (fun w hw => ⟨⟨_, rfl, loadVarR hw 0 I I I I rfl⟩, trivial⟩) ?_
 exact fun w' hw => ⟨rfl, hw.belowB⟩
end Go.Proofs.YtgfdoognildoeaaGreat
