/- A part of the proof: contracts of the program's functions. Conditions: none. -/
import Derived.Test.YtmjhhmilgebbbaaNm17
import Derived.Test.YtmjhhmilgebbbaaNmSort
import Derived.Test.YtmjhhmilgebbbaaGxDraw
namespace Go.Proofs.Ytmjhhmilgebbbaa
open Go.GX Go.RowKit
attribute [local irreducible] Calls Run RunL RunQ RunD
set_option linter.unusedVariables false
set_option maxRecDepth 100000

theorem fn51 : IsFn Try.prog 51 := ⟨⟨_, _, Try.func51, rfl, by decide⟩⟩
theorem fn46 : IsFn Try.prog 46 := ⟨⟨_, _, Try.func46, rfl, by decide⟩⟩
theorem fn47 : IsFn Try.prog 47 := ⟨⟨_, _, Try.func47, rfl, by decide⟩⟩
theorem fn38 : IsFn Try.prog 38 := ⟨⟨_, _, Try.func38, rfl, by decide⟩⟩
theorem fn37 : IsFn Try.prog 37 := ⟨⟨_, _, Try.func37, rfl, by decide⟩⟩
theorem fn39 : IsFn Try.prog 39 := ⟨⟨_, _, Try.func39, rfl, by decide⟩⟩
theorem fn24 : IsFn Try.prog 24 := ⟨⟨_, _, Try.func24, rfl, by decide⟩⟩
theorem fn27 : IsFn Try.prog 27 := ⟨⟨_, _, Try.func27, rfl, by decide⟩⟩

theorem insNil_any (w : World) :
    Calls Try.prog 51 #[.slice none 0 0, .int .i64 0, .int .i64 0] w fun e w' => e = .returned (.tuple #[]) ∧ w' = w := by
  refine calls_of_run Try.func51 rfl (Nat.le_of_ble_eq_true rfl) ?_
  refine Run.sub (σ' := [(0, .slice none 0 0), (1, .int .i64 0), (2, .int .i64 0)]) ⟨rfl, rfl, rfl, trivial⟩ ?_
  repeat' (first | refine RunL.ev rfl rfl ?_ | refine RunL.evc rfl rfl (by first | omega | (simp; done) | (simp; omega) | exact List.length_pos_iff.2 (by assumption)) ?_ | refine RunL.nil ?_ | refine Run.ctl rfl ?_ | refine Run.region ?_ | refine Run.condT rfl ?_ | refine Run.condF rfl ?_ | refine RunL.skip rfl rfl ?_ | refine RunL.skip0 rfl ?_ | exact RunL.blkEnd rfl rfl | apply RunL.andB rfl rfl rfl rfl rfl rfl rfl rfl | apply RunL.orB rfl rfl rfl rfl rfl rfl rfl rfl | (refine fun (hb : (_ : Bool) = _) => ?_; try simp at hb))
  refine Run.loop (ι := Unit) (fun _ w' => w' = w) (fun _ => [(2, .int .i64 0), (6, .int .i64 1)]) (fun _ => 0) () rfl ⟨rfl, rfl, trivial⟩ ?_
  rintro _ w2 e ih
  subst w2
  repeat' (first | refine RunL.ev rfl rfl ?_ | refine RunL.evc rfl rfl (by first | omega | (simp; done) | (simp; omega) | exact List.length_pos_iff.2 (by assumption)) ?_ | refine RunL.nil ?_ | refine Run.ctl rfl ?_ | refine Run.region ?_ | refine Run.condT rfl ?_ | refine Run.condF rfl ?_ | refine RunL.skip rfl rfl ?_ | refine RunL.skip0 rfl ?_ | exact RunL.blkEnd rfl rfl | apply RunL.andB rfl rfl rfl rfl rfl rfl rfl rfl | apply RunL.orB rfl rfl rfl rfl rfl rfl rfl rfl | (refine fun (hb : (_ : Bool) = _) => ?_; try simp at hb))
  refine Run.fin Try.func51 rfl [] trivial ?_
  exact ⟨rfl, rfl⟩

theorem pdqNil_any (w : World) :
    Calls Try.prog 46 #[.slice none 0 0, .int .i64 0, .int .i64 0, .int .i64 0] w fun e w' => e = .returned (.tuple #[]) ∧ w' = w := by
  refine calls_of_run Try.func46 rfl (Nat.le_of_ble_eq_true rfl) ?_
  refine Run.sub (σ' := [(0, .slice none 0 0), (1, .int .i64 0), (2, .int .i64 0), (3, .int .i64 0)]) ⟨rfl, rfl, rfl, rfl, trivial⟩ ?_
  repeat' (first | refine RunL.ev rfl rfl ?_ | refine RunL.evc rfl rfl (by first | omega | (simp; done) | (simp; omega) | exact List.length_pos_iff.2 (by assumption)) ?_ | refine RunL.nil ?_ | refine Run.ctl rfl ?_ | refine Run.region ?_ | refine Run.condT rfl ?_ | refine Run.condF rfl ?_ | refine RunL.skip rfl rfl ?_ | refine RunL.skip0 rfl ?_ | exact RunL.blkEnd rfl rfl | apply RunL.andB rfl rfl rfl rfl rfl rfl rfl rfl | apply RunL.orB rfl rfl rfl rfl rfl rfl rfl rfl | (refine fun (hb : (_ : Bool) = _) => ?_; try simp at hb))
  refine Run.loop (ι := Unit) (fun _ w' => w' = w) (fun _ => [(0, .slice none 0 0), (1, .int .i64 0), (2, .int .i64 0)]) (fun _ => 0) () rfl ⟨rfl, rfl, rfl, trivial⟩ ?_
  rintro _ w2 e ih
  subst w2
  repeat' (first | refine RunL.ev rfl rfl ?_ | refine RunL.evc rfl rfl (by first | omega | (simp; done) | (simp; omega) | exact List.length_pos_iff.2 (by assumption)) ?_ | refine RunL.callP fn51 rfl rfl (insNil_any _) ?_ | refine RunL.nil ?_ | refine Run.ctl rfl ?_ | refine Run.region ?_ | refine Run.condT rfl ?_ | refine Run.condF rfl ?_ | refine RunL.skip rfl rfl ?_ | refine RunL.skip0 rfl ?_ | exact RunL.blkEnd rfl rfl | apply RunL.andB rfl rfl rfl rfl rfl rfl rfl rfl | apply RunL.orB rfl rfl rfl rfl rfl rfl rfl rfl | (refine fun (hb : (_ : Bool) = _) => ?_; try simp at hb))
  refine Run.ret Try.func46 rfl [] trivial ?_
  exact ⟨rfl, rfl⟩

theorem sortNil_any (w : World) :
    Calls Try.prog 38 #[.slice none 0 0] w fun e w' => e = .returned (.tuple #[]) ∧ w' = w := by
  refine calls_of_run Try.func38 rfl (Nat.le_of_ble_eq_true rfl) ?_
  refine Run.sub (σ' := [(0, .slice none 0 0)]) ⟨rfl, trivial⟩ ?_
  have hb := Try.bits_Len 0 w (by decide) (by decide)
  repeat' (first | refine RunL.ev rfl rfl ?_ | refine RunL.evc rfl rfl (by first | omega | (simp; done) | (simp; omega) | exact List.length_pos_iff.2 (by assumption)) ?_ | refine RunL.callP fn47 rfl rfl hb ?_ | refine RunL.callP fn46 rfl rfl (pdqNil_any _) ?_ | refine RunL.nil ?_ | refine Run.ctl rfl ?_ | refine Run.region ?_ | refine Run.condT rfl ?_ | refine Run.condF rfl ?_ | refine RunL.skip rfl rfl ?_ | refine RunL.skip0 rfl ?_ | exact RunL.blkEnd rfl rfl | apply RunL.andB rfl rfl rfl rfl rfl rfl rfl rfl | apply RunL.orB rfl rfl rfl rfl rfl rfl rfl rfl | (refine fun (hb : (_ : Bool) = _) => ?_; try simp at hb))
  refine Run.fin Try.func38 rfl [] trivial ?_
  exact ⟨rfl, rfl⟩

theorem sorted_any (l : List (List UInt8)) (v : Value) (w : World) (hv : IsSl w v (scells l) l.length) (hl : l.length ≤ 1000000000) :
    Calls Try.prog 24 #[v] w fun e w' => ∃ u, e = .returned u ∧ IsSl w' u (scells (Nm.sorted l)) (Nm.sorted l).length ∧ Below w.heap.size w w' := by
  refine calls_of_run Try.func24 rfl (Nat.le_of_ble_eq_true rfl) ?_
  refine Run.sub (σ' := [(0, v)]) ⟨rfl, trivial⟩ ?_
  by_cases hnil : v = .slice none 0 0
  · subst hnil
    have h0 : l = [] := by
      rcases hv with ⟨_, h0, _⟩ | ⟨b, off, cap, e, _⟩
      · exact List.eq_nil_of_length_eq_zero h0
      · cases e
    subst h0
    have h1 := Try.slices_Clone_string_nil 0 0 w
    have h3 := Try.slices_Compact_string_empty none 0 w
    repeat' (first | refine RunL.ev rfl rfl ?_ | refine RunL.evc rfl rfl (by first | omega | (simp; done) | (simp; omega) | exact List.length_pos_iff.2 (by assumption)) ?_ | refine RunL.callP fn37 rfl rfl h1 ?_ | refine RunL.callP fn38 rfl rfl (sortNil_any _) ?_ | refine RunL.callP fn39 rfl rfl h3 ?_ | refine RunL.nil ?_ | refine Run.ctl rfl ?_ | refine Run.region ?_ | refine Run.condT rfl ?_ | refine Run.condF rfl ?_ | refine RunL.skip rfl rfl ?_ | refine RunL.skip0 rfl ?_ | exact RunL.blkEnd rfl rfl | apply RunL.andB rfl rfl rfl rfl rfl rfl rfl rfl | apply RunL.orB rfl rfl rfl rfl rfl rfl rfl rfl | (refine fun (hb : (_ : Bool) = _) => ?_; try simp at hb))
    refine Run.ret Try.func24 rfl [_] ⟨rfl, trivial⟩ ?_
    rw [Nm.sorted_nil]
    exact ⟨_, rfl, IsSl.nil _, Below.refl _ _⟩
  · have hcl : Calls Try.prog 37 #[v] w fun e w' => ∃ v', e = .returned v' ∧ w'.ownsRow w.heap.size 9 1 v' l.length (scells l) ∧ v' ≠ .slice none 0 0 ∧ Below w.heap.size w w' := by
      rcases hv with ⟨h | ⟨a, c, rfl⟩, h0, _⟩ | ⟨b, off, cap, rfl, hc⟩
      · exact absurd h hnil
      · have h0' : l = [] := List.eq_nil_of_length_eq_zero h0
        subst h0'
        exact Try.slices_Clone_string_zero a c w
      · have h1 := Try.slices_Clone_string b off l.length cap (l.map Nm.bs) w (by simp) (by omega) (fun j hj => by
          rw [List.length_map] at hj
          rw [List.getD_eq_getElem?_getD, List.getElem?_map, List.getElem?_eq_getElem hj]
          exact hc j _ (by rw [scells, List.getElem?_map, List.getElem?_eq_getElem hj]; rfl))
        rw [List.take_of_length_le (by simp), List.map_map] at h1
        exact h1
    repeat' (first | refine RunL.ev rfl rfl ?_ | refine RunL.evc rfl rfl (by first | omega | (simp; done) | (simp; omega) | exact List.length_pos_iff.2 (by assumption)) ?_ | refine RunL.nil ?_ | refine Run.ctl rfl ?_ | refine Run.region ?_ | refine Run.condT rfl ?_ | refine Run.condF rfl ?_ | refine RunL.skip rfl rfl ?_ | refine RunL.skip0 rfl ?_ | exact RunL.blkEnd rfl rfl | apply RunL.andB rfl rfl rfl rfl rfl rfl rfl rfl | apply RunL.orB rfl rfl rfl rfl rfl rfl rfl rfl | (refine fun (hb : (_ : Bool) = _) => ?_; try simp at hb))
    refine RunL.call fn37 rfl rfl (hcl.mono ?_)
    rintro e w1 ⟨v1, rfl, ho, hn1, hb1⟩
    refine ⟨_, rfl, ?_⟩
    obtain ⟨g, cap, rfl, hBg, hglt, hnc, hcm, _, hH⟩ := Lib.holds_of_ownsRow (enc := Go.Proofs.encStr) (zs := l) ho hn1
    repeat' (first | refine RunL.ev rfl rfl ?_ | refine RunL.evc rfl rfl (by first | omega | (simp; done) | (simp; omega) | exact List.length_pos_iff.2 (by assumption)) ?_ | refine RunL.nil ?_ | refine Run.ctl rfl ?_ | refine Run.region ?_ | refine Run.condT rfl ?_ | refine Run.condF rfl ?_ | refine RunL.skip rfl rfl ?_ | refine RunL.skip0 rfl ?_ | exact RunL.blkEnd rfl rfl | apply RunL.andB rfl rfl rfl rfl rfl rfl rfl rfl | apply RunL.orB rfl rfl rfl rfl rfl rfl rfl rfl | (refine fun (hb : (_ : Bool) = _) => ?_; try simp at hb))
    refine RunL.call fn38 rfl rfl ((Try.slices_Sort_string g 0 cap l w1 hH hglt (by omega)).mono ?_)
    rintro e w2 ⟨rfl, n, os, rfl⟩
    refine ⟨_, rfl, ?_⟩
    refine RunL.nil ?_
    generalize hz : (l.mergeSort fun x y => decide (x ≤ y)) = zs
    have hlen : zs.length = l.length := by rw [← hz]; simp
    have ho2 := Lib.ownsRow_putRow (enc := Go.Proofs.encStr) (q := n) (k := l.length) (zs := l) (ys := zs) ho hlen (Nat.le_refl _)
    rw [List.take_of_length_le (by omega)] at ho2
    have hb2 := Nm.below_grow os (Lib.below_putRow (enc := Go.Proofs.encStr) (q := n) (d := zs.toArray) hb1 hBg)
    have ho3 : (Sort.grow (Sort.putRow Go.Proofs.encStr (Sort.ahead w1 n) g 0 zs.toArray) os).ownsRow w.heap.size 9 1 (Value.slice (some ⟨g, 0, none⟩) l.length cap) l.length (zs.map Go.Proofs.encStr) := Lib.ownsRow_grow ho2 0 os
    generalize Sort.grow (Sort.putRow Go.Proofs.encStr (Sort.ahead w1 n) g 0 zs.toArray) os = w2 at hb2 ho3 ⊢
    obtain ⟨g', cap', e', _, _, _, _, _, hH2⟩ := Lib.holds_of_ownsRow (enc := Go.Proofs.encStr) (zs := zs) ho3 hn1
    cases e'
    have h3 := Try.slices_Compact_string g 0 cap zs w2 hH2 (by omega) (by omega)
    rw [hlen] at h3
    repeat' (first | refine RunL.ev rfl rfl ?_ | refine RunL.evc rfl rfl (by first | omega | (simp; done) | (simp; omega) | exact List.length_pos_iff.2 (by assumption)) ?_ | refine RunL.nil ?_ | refine Run.ctl rfl ?_ | refine Run.region ?_ | refine Run.condT rfl ?_ | refine Run.condF rfl ?_ | refine RunL.skip rfl rfl ?_ | refine RunL.skip0 rfl ?_ | exact RunL.blkEnd rfl rfl | apply RunL.andB rfl rfl rfl rfl rfl rfl rfl rfl | apply RunL.orB rfl rfl rfl rfl rfl rfl rfl rfl | (refine fun (hb : (_ : Bool) = _) => ?_; try simp at hb))
    refine RunL.call fn39 rfl rfl (h3.mono ?_)
    rintro e w3 ⟨rfl, q, rfl⟩
    refine ⟨_, rfl, ?_⟩
    have hcl2 := Lib.compact_length_le zs
    have ho4 := Lib.ownsRow_putRow (enc := Go.Proofs.encStr) (q := q) (k := (Lib.compact zs).length) (zs := zs) (ys := Lib.compact zs ++ List.replicate (l.length - (Lib.compact zs).length) []) ho3 (by simp; omega) (by omega)
    rw [List.take_left'  rfl] at ho4
    repeat' (first | refine RunL.ev rfl rfl ?_ | refine RunL.evc rfl rfl (by first | omega | (simp; done) | (simp; omega) | exact List.length_pos_iff.2 (by assumption)) ?_ | refine RunL.nil ?_ | refine Run.ctl rfl ?_ | refine Run.region ?_ | refine Run.condT rfl ?_ | refine Run.condF rfl ?_ | refine RunL.skip rfl rfl ?_ | refine RunL.skip0 rfl ?_ | exact RunL.blkEnd rfl rfl | apply RunL.andB rfl rfl rfl rfl rfl rfl rfl rfl | apply RunL.orB rfl rfl rfl rfl rfl rfl rfl rfl | (refine fun (hb : (_ : Bool) = _) => ?_; try simp at hb))
    refine Run.ret Try.func24 rfl [_] ⟨rfl, trivial⟩ ?_
    have hs : Nm.sorted l = Lib.compact zs := by rw [Nm.sorted, hz]
    rw [hs]
    exact ⟨_, rfl, IsSl_own ho4, Lib.below_putRow hb2 hBg⟩
end Go.Proofs.Ytmjhhmilgebbbaa
