/- A part of the proof: contracts of the program's functions. Conditions: none. -/
import Derived.Carry
import Derived.Deep.MidRow
import Derived.Deep.Quiet
import Derived.Laws.IdiomRangeMap
import Derived.Laws.MakeOwn
import Derived.Laws.StructEq
import Derived.Laws.Tables
import Derived.Lib.AppendStr
import Derived.Lib.AppendZerosOnto
import Derived.Lib.OthersKept
import Derived.Lib.Overlaps
import Derived.Lib.OwnBridge
import Derived.Lib.SlicesCompact
import Derived.MapKept
import Derived.Orders
import Derived.OrdersHeld
import Derived.Scope
import Derived.SliceStrings
import Derived.Sort.Grow
import Derived.StillTail
import Derived.Test.YtgdgclmkpoaagaaGreatProg
import Derived.Test.YtgdgclmkpoaagaaGreatShelf
import Derived.WalkKit
import Derived.WalkLawsBesides
import Derived.WalkSpells
import Derived.Test.YtgdgclmkpoaagaaGreatGB1
import Derived.Test.YtgdgclmkpoaagaaGreatGB10
import Derived.Test.YtgdgclmkpoaagaaGreatGB11
import Derived.Test.YtgdgclmkpoaagaaGreatGB2
import Derived.Test.YtgdgclmkpoaagaaGreatGB3
import Derived.Test.YtgdgclmkpoaagaaGreatGB4
import Derived.Test.YtgdgclmkpoaagaaGreatGB5
import Derived.Test.YtgdgclmkpoaagaaGreatGB6
import Derived.Test.YtgdgclmkpoaagaaGreatGB7
import Derived.Test.YtgdgclmkpoaagaaGreatGB8
import Derived.Test.YtgdgclmkpoaagaaGreatGB9
set_option linter.unusedVariables false
set_option linter.unusedSectionVars false
set_option linter.unusedSimpArgs false
set_option maxRecDepth 100000
set_option maxHeartbeats 4000000
namespace Nd
open Go.GX Tp
theorem last_id {α : Type} {n : Nat} {l : List α} (h : l.length ≤ n) : last n l = l := by
 unfold last; rw [show l.length - n = 0 by omega]; rfl
end Nd
namespace Nd
open Go.GX Tp
theorem Ord.eq {n : Nd} (h : Ord n) : order n = n := by
 have e1 : clamp n.addr 0 250 = n.addr := by have := h.addr; rw [okN_iff] at this; unfold clamp; omega
 have e2 : (if n.poll < 1 then (0 : Int) else max n.poll 4) = n.poll := by have := h.poll; split <;> omega
 have e3 : (if okN n.parent = false ∨ n.parent = n.addr then (255 : Int) else n.parent) = n.parent := by
  rcases h.parent with e | ⟨h1, h2⟩
  ·split
   ·exact e.symm
   ·rfl
  ·rw [if_neg]
   rintro (h3 | h3)
   ·rw [h1] at h3; cases h3
   ·exact h2 h3
 have e4 : (if rchk n.table n.addr = 0 then n.table else [rown n.addr]) = n.table := if_pos h.table.chk
 have e5 : lval n.links = n.links := if_pos h.links
 have e6 : n.out.take 16 = n.out := List.take_of_length_le h.out
 have e7 : Nd.kids n.addr n.children = n.children := by
  refine asc_ext (kids_asc _ _).1 h.kids fun x => ?_
  rw [(kids_asc _ _).2 x]
  exact ⟨fun h => h.1, fun hx => ⟨hx, h.kid x hx⟩⟩
 have e8 : n.boxes.take 16 = n.boxes := List.take_of_length_le h.boxes
 have e9 : last 32 n.seen = n.seen := last_id h.seen
 have e10 : n.inbox.take 256 = n.inbox := List.take_of_length_le h.inbox
 have e11 : (if n.seq < 0 ∨ n.seq > 65535 then (0 : Int) else n.seq) = n.seq := by have := h.seq; split <;> omega
 have e12 : clamp n.lost 0 maxTick = n.lost := by have := h.lost; unfold clamp; omega
 unfold order
 simp only [e1, e2, e3, e4, e5, e6, e7, e8, e9, e10, e11, e12]
theorem Ord.setTable {n : Nd} (h : Ord n) {t : List Ro} (ht : Tab n.addr t) : Ord { n with table := t } := { h with table := ht }
theorem Ord.setLinks {n : Nd} (h : Ord n) {t : List Li} (ht : lchk t = 0) : Ord { n with links := t } := { h with links := ht }
theorem Ord.deliver {n : Nd} (h : Ord n) (d : De) : Ord (deliver n d) := by
 unfold Nd.deliver
 split
 ·exact h.lose
 ·exact { h with inbox := by show (n.inbox ++ [d]).length ≤ 256; simp; omega }
theorem deliver_table (n : Nd) (d : De) : (deliver n d).table = n.table ∧ (deliver n d).addr = n.addr := by
 unfold deliver; split <;> exact ⟨rfl, rfl⟩
theorem Good.refl {n : Nd} (h : Ord n) : Good n n := ⟨h, rfl, Kept.refl _⟩
theorem Good.trans {a b c : Nd} (h : Good a b) (h' : Good b c) : Good a c := ⟨h'.ord, h'.addr.trans h.addr, h.kept.trans h'.kept⟩
theorem Good.of_eq {n m : Nd} (h : Ord m) (h1 : m.table = n.table) (h2 : m.addr = n.addr) : Good n m := ⟨h, h2, by rw [h1]; exact Kept.refl _⟩
theorem Good.lose {n m : Nd} (h : Good n m) : Good n (lose m) := ⟨h.ord.lose, h.addr, h.kept⟩
theorem Good.queue {n m : Nd} (h : Good n m) (f : Fr) : Good n (queue m f).1 := h.trans (.of_eq (h.ord.queue f) (queue_table m f).1 (queue_table m f).2)
theorem Good.deliver {n m : Nd} (h : Good n m) (d : De) : Good n (deliver m d) := h.trans (.of_eq (h.ord.deliver d) (deliver_table m d).1 (deliver_table m d).2)
theorem advertised_good {n m : Nd} {f : Fr} (h : Good n m) (hf : okN f.fr = true) (hne : f.fr ≠ m.addr) : Good n (advertised m f) := by
 unfold advertised
 simp only
 have k1 : ∀ a : Nd, Good n a → a.addr = m.addr → Good n (if a.poll > 0 ∧ a.parent = 255 ∧ (rhop (rdec f.da).1 0).2 = true then { a with parent := f.fr } else a) := by
  intro a h2 e2
  split
  ·exact ⟨{ h2.ord with parent := .inr ⟨hf, fun e => hne (e.trans e2)⟩ }, h2.addr, h2.kept⟩
  ·exact h2
 have k2 : ∀ a : Nd, Good n a → a.addr = m.addr → Good n { a with table := rupd a.table a.addr f.fr (lcost a.links f.fr) (rdec f.da).1 } := by
  intro a h1 e1
  obtain ⟨g1, g2⟩ := rupd_tab (fr := f.fr) (cost := lcost a.links f.fr) (adv := (rdec f.da).1) h1.ord.table
  exact ⟨h1.ord.setTable g1, h1.addr, h1.kept.trans g2⟩
 have h1 : Good n { m with links := lseen m.links f.fr true } := ⟨h.ord.setLinks (lseen_ok _ _ _), h.addr, h.kept⟩
 split
 ·exact h1
 ·exact k1 _ (k2 _ h1 I) I
theorem drain_good {n : Nd} {fr now : Int} : ∀ (k : Nat) {m : Nd}, Good n m → Good n (drain fr now k m)
 | 0, _, h => h
 | k + 1, m, h => by
  unfold drain
  simp only
  have hb := (btake_len m.boxes fr now 120).1
  split
  ·exact drain_good k (Good.queue (m := { m with boxes := (btake m.boxes fr now 120).2.1 }) ⟨h.ord.setBoxes hb, h.addr, h.kept⟩ _)
  ·exact ⟨h.ord.setBoxes hb, h.addr, h.kept⟩
theorem polled_good {n m : Nd} {f : Fr} {now : Int} (h : Good n m) (hf : okN f.fr = true) (hne : f.fr ≠ m.addr) : Good n (polled m f now) := by
 unfold polled
 refine drain_good _ ?_
 obtain ⟨g1, g2⟩ := rupd_tab (fr := f.fr) (cost := 10) (adv := [⟨f.fr, f.sq, 0, 0⟩]) h.ord.table
 obtain ⟨c1, c2⟩ := child_asc h.ord.kids f.fr
 refine ⟨{ h.ord with table := g1, kids := c1, kid := fun x hx => ?_ }, h.addr, h.kept.trans g2⟩
 rcases (c2 x).1 hx with rfl | hx
 ·exact ⟨hf, hne⟩
 ·exact h.ord.kid x hx
theorem received_good {n m : Nd} {f : Fr} {now : Int} (h : Good n m) : Good n (received m f now) := by
 unfold received
 simp only
 have h1 : Good n { m with seen := (mfresh m.seen ⟨f.so, f.sq⟩).1 } := ⟨{ h.ord with seen := mfresh_len _ _ }, h.addr, h.kept⟩
 have hp : ∀ q, Good n { m with seen := (mfresh m.seen ⟨f.so, f.sq⟩).1, parts := q } := fun q => ⟨h1.ord.setParts q, h1.addr, h1.kept⟩
 split
 ·exact h1
 ·split
  ·split
   ·exact h1
   ·split
    ·exact (hp _).deliver _
    ·exact hp _
  ·split
   ·exact h1.lose
   ·exact h1.queue _
theorem hear_good (n : Nd) (now : Int) (f : Fr) : Good (order n) (hear n now f) := by
 have ho := Good.refl (order_ord n)
 unfold hear
 simp only
 split
 ·exact ho
 ·rename_i h1
  have hc : fchk f = 0 := by
   rcases Int.lt_trichotomy (fchk f) 0 with h | h | h
   ·exact absurd (Or.inl (by omega)) h1
   ·exact h
   ·exact absurd (Or.inl (by omega)) h1
  have hf := (fchk_fr hc).1
  have hne : f.fr ≠ (order n).addr := fun e => h1 (.inr (.inl e))
  split
  ·exact advertised_good ho hf hne
  ·split
   ·exact polled_good ho hf hne
   ·split
    ·exact received_good ho
    ·exact ho
theorem mfresh_mem (l : List Pr) (p : Pr) : p ∈ (mfresh l p).1 := by
 unfold mfresh
 split
 ·assumption
 ·show p ∈ last 32 (last 32 l ++ [p])
  unfold last
  rw [List.drop_append_of_le_length (by simp)]
  simp
theorem received_twice {m : Nd} {f : Fr} {now : Int} (h : Ord m) (hs : ⟨f.so, f.sq⟩ ∈ m.seen) : received m f now = m := by
 have e : mfresh m.seen ⟨f.so, f.sq⟩ = (m.seen, false) := by
  unfold mfresh
  rw [last_id h.seen, if_pos hs]
 unfold received
 simp only
 rw [e]
 simp
theorem received_seen (m : Nd) (f : Fr) (now : Int) : (received m f now).seen = (mfresh m.seen ⟨f.so, f.sq⟩).1 ∧ (received m f now).addr = m.addr := by
 unfold received
 simp only
 have hq : ∀ (n : Nd) (f : Fr), (queue n f).1.seen = n.seen ∧ (queue n f).1.addr = n.addr := by
  intro n f; unfold queue; simp only; split <;> exact ⟨rfl, rfl⟩
 have hd : ∀ (n : Nd) (d : De), (deliver n d).seen = n.seen ∧ (deliver n d).addr = n.addr := by
  intro n d; unfold deliver; split <;> exact ⟨rfl, rfl⟩
 split
 ·exact ⟨rfl, rfl⟩
 ·split
  ·split
   ·exact ⟨rfl, rfl⟩
   ·split
    ·exact hd _ _
    ·exact ⟨rfl, rfl⟩
  ·split
   ·exact ⟨rfl, rfl⟩
   ·exact hq _ _
theorem hear_twice (n : Nd) (now : Int) (f : Fr) (hk : f.kd = 2) : hear (hear n now f) now f = hear n now f := by
 have hg := hear_good n now f
 have he := hg.ord.eq
 have h1 : hear (hear n now f) now f = if fchk f ≠ 0 ∨ f.fr = (order n).addr ∨ (f.dst ≠ (order n).addr ∧ f.dst ≠ 255) then hear n now f else if f.dst = (order n).addr then received (hear n now f) f (tick now) else hear n now f := by
  conv => lhs; unfold hear
  simp only
  rw [show order (if fchk f ≠ 0 ∨ f.fr = (order n).addr ∨ f.dst ≠ (order n).addr ∧ f.dst ≠ 255 then order n else if f.kd = 1 then advertised (order n) f else if f.kd = 3 ∧ f.dst = (order n).addr ∧ (order n).poll = 0 then polled (order n) f (tick now) else if f.kd = 2 ∧ f.dst = (order n).addr then received (order n) f (tick now) else order n) = hear n now f from he]
  rw [hg.addr, hk]
  simp
 rw [h1]
 split
 ·rfl
 ·rename_i hc
  split
  ·rename_i hd
   have hr : hear n now f = received (order n) f (tick now) := by
    unfold hear
    simp only
    rw [if_neg hc, if_neg (by omega), if_neg (by omega), if_pos ⟨hk, hd⟩]
   rw [hr] at hg ⊢
   refine received_twice hg.ord ?_
   rw [(received_seen _ _ _).1]
   exact mfresh_mem _ _
  ·rfl
end Nd
namespace Go.Proofs.YtgdgclmkpoaagaaGreat
open Go.GX Go.RowKit
attribute [local irreducible] Calls Run RunL RunQ RunD HR HL HD blkC ownC Rd
open Nd
theorem pvalid_smp {p : Pt} (h : pvalid p = true) : SmPt p := by
 have H := phead_is (pvalid_head h)
 have h1 := H.hv
 have h2 := H.da
 have h3 := H.ct1
 exact ⟨by omega, by omega, fun s hs => by have := pvalid_sm h s hs; omega⟩
theorem porder_sm (l : List Pt) : ∀ p ∈ porder l, SmPt p := fun p hp => pvalid_smp (porder_valid p hp)
theorem pdrop_mem {l : List Pt} {s id c : Int} {p : Pt} (h : p ∈ (pdrop l s id c).1) : p ∈ l := by
 unfold pdrop at h
 split at h
 ·split at h
  ·exact h
  ·exact List.mem_of_mem_eraseIdx h
 ·exact h
theorem pmark_sm {p : Pt} {i : Nat} {d : By} (h : SmPt p) (hd : d.length ≤ 1000) : SmPt (pmark p i d) := by
 unfold pmark
 split
 ·exact h
 ·refine ⟨?_, ?_, fun s hs => ?_⟩
  ·show (p.hv.set i true).length ≤ 1000
   rw [List.length_set]; exact h.1
  ·show (p.da.set i d).length ≤ 1000
   rw [List.length_set]; exact h.2.1
  ·rcases List.mem_or_eq_of_mem_set hs with hs | rfl
   ·exact h.2.2 s hs
   ·omega
theorem padd_sm {l : List Pt} {s now : Int} {x : By} (hx : x.length ≤ 1000) (he : (padd l s now x).e = 0) : PtSm (padd l s now x).l := by
 unfold padd at he ⊢
 split
 ·exact ⟨Nat.zero_le _, fun p hp => by cases hp⟩
 ·rename_i hc
  have hc : pchk x = 0 := Decidable.not_not.1 hc
  obtain ⟨c1, c2, c3, c4, c5, c6, c7, c8⟩ := pchk_spec hc
  have ho8 := porder_len l
  split
  ·exact ⟨Nat.le_trans (pdrop_len ho8 s (b8 x 0) 1) (by decide), fun p hp => porder_sm l p (pdrop_mem hp)⟩
  ·rename_i h1
   have hd8 := pdrop_len ho8 s (b8 x 0) (b8 x 2)
   have hm : ∀ p ∈ (pdrop (porder l) s (b8 x 0) (b8 x 2)).1, SmPt p := fun p hp => porder_sm l p (pdrop_mem hp)
   have hnew : (∀ p ∈ (pnew (pdrop (porder l) s (b8 x 0) (b8 x 2)) s (b8 x 0) (b8 x 2) now).1, SmPt p) ∧ (pnew (pdrop (porder l) s (b8 x 0) (b8 x 2)) s (b8 x 0) (b8 x 2) now).1.length ≤ 8 := by
    unfold pnew
    split
    ·exact ⟨hm, hd8⟩
    ·have hr := proom_len hd8
     refine ⟨fun p hp => ?_, by rw [List.length_append]; simp; omega⟩
     rcases List.mem_append.1 hp with hp | hp
     ·unfold proom at hp
      split at hp
      ·exact hm p (List.mem_of_mem_eraseIdx hp)
      ·exact hm p hp
     ·rw [List.mem_singleton.1 hp]
      refine ⟨?_, ?_, fun s hs => ?_⟩
      ·show (List.replicate (b8 x 2).toNat false).length ≤ 1000
       rw [List.length_replicate]; omega
      ·show (List.replicate (b8 x 2).toNat ([] : By)).length ≤ 1000
       rw [List.length_replicate]; omega
      ·have hs : s ∈ List.replicate (b8 x 2).toNat ([] : By) := hs
       rw [(List.mem_replicate.1 hs).2]; simp
   generalize pnew (pdrop (porder l) s (b8 x 0) (b8 x 2)) s (b8 x 0) (b8 x 2) now = o at hnew ⊢
   obtain ⟨n1, n2⟩ := hnew
   have hz : SmPt pz := ⟨by decide, by decide, fun s hs => by cases hs⟩
   have hg : SmPt (o.1.getD o.2 pz) := by
    rw [List.getD_eq_getElem?_getD]
    cases hq : o.1[o.2]? with
    | none => exact hz
    | some q => exact n1 q (List.mem_of_getElem? hq)
   have hdl : (x.drop 3).length ≤ 1000 := by rw [List.length_drop]; omega
   unfold pput
   split
   ·exact ⟨Nat.le_trans (List.length_eraseIdx_le _ _) (by omega), fun p hp => n1 p (List.mem_of_mem_eraseIdx hp)⟩
   ·refine ⟨by rw [List.length_set]; omega, fun p hp => ?_⟩
    rcases List.mem_or_eq_of_mem_set hp with hp | rfl
    ·exact n1 p hp
    ·exact pmark_sm hg hdl
theorem hear_ptsm {n : Nd} {now : Int} {f : Fr} (h : PtSm n.parts) : PtSm (hear n now f).parts := by
 unfold hear
 simp only
 split
 ·exact h
 ·rename_i h1
  have hc : fchk f = 0 := Decidable.not_not.1 fun e => h1 (.inl e)
  have hl := (fchk_fr hc).2.2.2.2.2.2
  split
  ·rw [advertised_parts]; exact h
  ·split
   ·rw [polled_parts]; exact h
   ·split
    ·unfold received
     simp only
     split
     ·exact h
     ·split
      ·split
       ·exact h
       ·rename_i he
        have hp : PtSm (padd (order n).parts f.so (tick now) f.da).l := padd_sm (by omega) (Decidable.not_not.1 he)
        split
        ·rw [deliver_parts]; exact hp
        ·exact hp
      ·split
       ·exact h
       ·rw [queue_parts]; exact h
    ·exact h
end Go.Proofs.YtgdgclmkpoaagaaGreat
namespace Go.Proofs.YtgdgclmkpoaagaaGreat
open Go.GX Go.RowKit
attribute [local irreducible] Calls Run RunL RunQ RunD HR HL HD blkC ownC Rd
open Nd
theorem nodeOnce_any (V : NV) (n : Nd) (now : Int) (f : Fr) (w : World) (h : OkN w V n) (hw0 : WfN n) (hfl : f.da.length ≤ 9223372036854775807) :
  Calls Tryz.prog 5 #[.agg ⟨ndC V n⟩, .int .i64 now, .agg ⟨frC f⟩] w fun e w' => e = .returned (.bool true) ∧ Below w.heap.size w w' := by
 refine calls_hr Tryz.func5 I (Nat.le_of_ble_eq_true I) ?_
 refine HR.sub (σ' := [(0, .agg ⟨ndC V n⟩), (1, .int .i64 now), (2, .agg ⟨frC f⟩)]) ⟨I, I, I, trivial⟩ ?_
 refine HR.ctl I ?_
 refine HR.region ?_
 refine HL.box I I ?_
 intro b3
 refine HL.box I I ?_
 intro b5
 repeat' (first | refine zh ?_ | intro (bk : Nat))
 refine HL.callX (r := fun b : Bool => .bool b) (Q := fun b => b = false → FitN n) (G := fun _ => []) fn12 I I (fun w1 hw1 => large_any V n w1 (h.ext hw1.belowB) hw0) ?_
 intro b hb
 cases b with
 | true =>
  repeat' (first | refine zh ?_ | refine HL.callB fn13 I I (fun w1 _ => awake_any w1) ?_ | intro (bk : Nat))
  refine HR.ret Tryz.func5 I [_] (fun _ _ => ⟨I, trivial⟩) ?_
  exact fun w' hw => ⟨rfl, hw.belowB⟩
 | false =>
 have hf := hb I
 have hs := hf.sm' hw0
 repeat' (first | refine zh ?_ | refine HL.callB fn17 I I (fun w1 _ => long_any f w1 hfl) ?_ | apply zb ?_ ?_ | exact zc | (refine zi fun hb => ?_; try simp at hb) | intro (bk : Nat))
 refine HR.cond I (fun h1 => ?_) (fun h1 => ?_)
 ·repeat' (first | refine zh ?_ | refine HL.callB fn13 I I (fun w1 _ => awake_any w1) ?_ | intro (bk : Nat))
  refine HR.ret Tryz.func5 I [_] (fun _ _ => ⟨I, trivial⟩) ?_
  exact fun w' hw => ⟨rfl, hw.belowB⟩
 have h1 : (decide ((f.da.length : Int) > 200) || !(f.kd == 2)) = false := h1
 have hk : f.kd = 2 := by simp at h1; exact h1.2
 have hs2 := ord_sm (hear_good n now f).ord (hear_ptsm (now := now) (f := f) hs.pt)
 have htw := hear_twice n now f hk
 obtain ⟨A, hA⟩ : ∃ A, A = hear n now f := ⟨_, rfl⟩
 rw [← hA] at hs2 htw
 repeat' (first | refine zh ?_ | intro (bk : Nat))
 refine HL.callX (r := fun x : NV × List Chunk => .agg ⟨ndC x.1 A⟩) (Q := fun x => Own x.1 x.2 A) (G := fun x => [groupC x.2]) fn18 I I (fun w1 hw1 => by rw [hA]; exact phear_any V n now f w1 (h.ext hw1.belowB) hs hfl) ?_
 rintro ⟨V1, G1⟩ h2
 have h2 : Own V1 G1 A := h2
 repeat' (first | refine zh ?_ | intro (bk : Nat))
 refine HR.regionD [(0, true), (1, true), (2, true), (4, true), (3, false), (5, false), (6, true), (7, false), (8, true), (9, true)] [0, 2] I I hmix (by kernel_rfl) ?_
 repeat' (first | refine zd ?_ | fail)
 refine HD.one I ?_
 refine HL.callX (r := fun x : NV × List Chunk => .agg ⟨ndC x.1 A⟩) (Q := fun x => Own x.1 x.2 A) (G := fun x => [groupC x.2]) fn18 I I (fun w1 hw1 => by have := phear_any V1 A now f w1 (h2 w1 (Sat.grp 1 hw1 I)) hs2 hfl; rw [htw] at this; exact this) ?_
 rintro ⟨V2, G2⟩ h3
 refine HL.back [1, 3] I I ?_
 refine HD.one I ?_
 refine HL.callB (r := .bool true) fn16 I I (fun w1 hw1 => same17_any V2 V1 A w1 (h3 w1 (Sat.grp 0 hw1 I)) (h2 w1 (Sat.grp 2 hw1 I)) hs2.bg) ?_
 refine HL.back [1, 3] I I ?_
 repeat' (first | refine zd ?_ | fail)
 refine HD.one I ?_
 refine HL.callB fn13 I I (fun w1 _ => awake_any w1) ?_
 refine HL.back [1, 3] I I ?_
 repeat' (first | refine zd ?_ | fail)
 refine HD.nil ?_
 repeat' (first | refine zh ?_ | intro (bk : Nat))
 refine HR.ret Tryz.func5 I [_] (fun _ _ => ⟨I, trivial⟩) ?_
 exact fun w' hw => ⟨rfl, hw.belowB⟩
end Go.Proofs.YtgdgclmkpoaagaaGreat
namespace Go.Proofs.YtgdgclmkpoaagaaGreat
open Go.GX Go.RowKit
attribute [local irreducible] Calls Run RunL RunQ RunD HR HL HD blkC ownC Rd
open Nd
variable {H : Type} {enc : TypeId × Value → H} {W : World}
theorem nodeOnce.nodeOnce_any (a : NdA) (now : Int) (f : Fr) (w : World) (g : NdOk w a) (_ : (Lit.int .i64 now).wf = true) (hf : f.da.length ≤ 9223372036854775807) :
  Calls Tryz.prog 5 #[.agg ⟨ndE a⟩, .int .i64 now, .agg ⟨frC f⟩] w fun e w' => e = .returned (.bool true) ∧ Below w.heap.size w w' := Proofs.YtgdgclmkpoaagaaGreat.nodeOnce_any a.1 a.2 now f w g.ok g.wf hf
end Go.Proofs.YtgdgclmkpoaagaaGreat
