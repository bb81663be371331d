/- A part of the proof: contracts of the program's functions. Conditions: none. -/
import Derived.Test.YtmjhhmilgebbbaaNm2
import Derived.Lib.Builder
import Derived.Test.YtmjhhmilgebbbaaShelf
import Derived.Test.YtmjhhmilgebbbaaGxDraw
namespace Go.Proofs.Ytmjhhmilgebbbaa
open Go.GX Go.RowKit
attribute [local irreducible] Calls Run RunL RunQ RunD
set_option linter.unusedVariables false
set_option maxRecDepth 100000

theorem fn45 : IsFn Try.prog 45 := ⟨⟨_, _, Try.func45, rfl, by decide⟩⟩
theorem fn32 : IsFn Try.prog 32 := ⟨⟨_, _, Try.func32, rfl, by decide⟩⟩
theorem fn42 : IsFn Try.prog 42 := ⟨⟨_, _, Try.func42, rfl, by decide⟩⟩
theorem fn34 : IsFn Try.prog 34 := ⟨⟨_, _, Try.func34, rfl, by decide⟩⟩

set_option maxHeartbeats 1000000 in
theorem copyCheck_used (b : Nat) (w : World) (h0 : w.cell? ⟨b, 0, none⟩ = some (.pointer (some ⟨b, 0, none⟩))) :
    Calls Try.prog 45 #[.pointer (some ⟨b, 0, none⟩)] w fun e w' => e = .returned (.tuple #[]) ∧ w' = w := by
  obtain ⟨j, hj⟩ : ∃ j, Try.prog.info? 46 = some j := ⟨_, rfl⟩
  go_enter Try.func45, Try.ntmps45
  go_wp2
  rw [Lib.run_neq_ptr_same w _ Try.underlying43 hj]
  go_wp2
  go_end0
  exact ⟨rfl, rfl⟩

theorem info46 : ∃ j, Try.prog.info? 46 = some j ∧ j.size = 2 := ⟨_, rfl, rfl⟩

set_option maxHeartbeats 1000000 in
theorem copyCheck_fresh (b : Nat) (w : World) (h0 : w.cell? ⟨b, 0, none⟩ = some (.pointer none)) (hsh : w.shape? b = some (46, 2)) (hfz : w.frozen? ⟨b, 0, none⟩ = false) :
    Calls Try.prog 45 #[.pointer (some ⟨b, 0, none⟩)] w fun e w' => e = .returned (.tuple #[]) ∧ w' = w.setCell ⟨b, 0, none⟩ (.pointer (some ⟨b, 0, none⟩)) := by
  obtain ⟨j, hj, hjs⟩ := info46
  go_enter Try.func45, Try.ntmps45
  go_wp2
  rw [Lib.run_to_unsafe w ⟨b, 0, none⟩ Try.underlying43 Try.underlying65 hj (by rw [hjs]; decide) hsh (Nat.zero_lt_succ 1)]
  simp only [Result.andThen]
  rw [Oper.upon_value]
  go_wp2
  rw [run_callFunc_extern Try.func50 (by kernel_rfl) (by kernel_rfl) (by kernel_rfl) (e := Extern.AbiNoEscape.same) (by kernel_rfl)]
  rw [Lib.run_noEscape]
  simp only [Result.andThen]
  rw [Oper.upon_value]
  go_wp2
  rw [Lib.run_from_unsafe w ⟨b, 0, none⟩ Try.underlying65 Try.underlying43 hj hsh (by kernel_rfl)]
  simp only [Result.andThen]
  rw [Oper.upon_value]
  go_wp2
  go_end0
  exact ⟨rfl, rfl⟩

/-- A builder of the call's own. -/
abbrev IsB (w0 : World) (b : Nat) (l : List UInt8) (w : World) : Prop := Lib.IsBuilder 46 5 w0.heap.size b (bcells l) w

theorem copyCheck_any (w0 : World) (b : Nat) (l : List UInt8) (w : World) (h : IsB w0 b l w) :
    Calls Try.prog 45 #[.pointer (some ⟨b, 0, none⟩)] w fun e w' => e = .returned (.tuple #[]) ∧ Lib.BuilderAt 46 5 w0.heap.size b (.pointer (some ⟨b, 0, none⟩)) (bcells l) w' ∧ Below w0.heap.size w w' := by
  rcases h with h | h
  · refine (copyCheck_fresh b w h.cell0 h.shape h.frozen0).mono ?_
    rintro e w' ⟨rfl, rfl⟩
    exact ⟨rfl, h.used _, (Below.refl _ w).setCell (p := ⟨b, 0, none⟩) h.1 _⟩
  · refine (copyCheck_used b w h.cell0).mono ?_
    rintro e w' ⟨rfl, rfl⟩
    exact ⟨rfl, h, Below.refl _ _⟩

theorem writeByte_any (w0 : World) (b : Nat) (l : List UInt8) (c : UInt8) (w : World) (h : IsB w0 b l w) (hb0 : Below w0.heap.size w0 w) (hl : l.length ≤ 100000000000) :
    Calls Try.prog 42 #[.pointer (some ⟨b, 0, none⟩), .int .u8 (c.toNat : Int)] w fun e w' => e = .returned .nilIface ∧ IsB w0 b (l ++ [c]) w' ∧ Below w0.heap.size w0 w' := by
  refine calls_of_run Try.func42 rfl (Nat.le_of_ble_eq_true rfl) ?_
  refine Run.sub (σ' := [(0, .pointer (some ⟨b, 0, none⟩)), (1, .int .u8 (c.toNat : Int))]) ⟨rfl, rfl, trivial⟩ ?_
  repeat' (first | refine RunL.ev rfl rfl ?_ | refine RunL.evc rfl rfl (by first | omega | (simp; done) | (simp; omega) | exact List.length_pos_iff.2 (by assumption)) ?_ | refine RunL.nil ?_ | refine Run.ctl rfl ?_ | refine Run.region ?_ | refine Run.condT rfl ?_ | refine Run.condF rfl ?_ | refine RunL.skip rfl rfl ?_ | refine RunL.skip0 rfl ?_ | exact RunL.blkEnd rfl rfl | apply RunL.andB rfl rfl rfl rfl rfl rfl rfl rfl | apply RunL.orB rfl rfl rfl rfl rfl rfl rfl rfl | (refine fun (hb : (_ : Bool) = _) => ?_; try simp at hb))
  refine RunL.call fn45 rfl rfl ((copyCheck_any w0 b l w h).mono ?_)
  rintro e w1 ⟨rfl, ⟨hB, v, hbk, hown, hne⟩, hb1⟩
  refine ⟨_, rfl, ?_⟩
  have hB1 : Blk w1 b [.pointer (some ⟨b, 0, none⟩), v] 46 := hbk
  have ho : OwnS w0 w1 5 1 v l.length (bcells l) := ⟨hb0.trans hb1, by simpa [bcells] using hown⟩
  repeat' (first | refine RunL.ev rfl rfl ?_ | refine RunL.evc rfl rfl (by first | omega | (simp; done) | (simp; omega) | exact List.length_pos_iff.2 (by assumption)) ?_ | refine RunL.loadB hB1 rfl rfl rfl rfl rfl ?_ | refine RunL.nil ?_ | refine Run.ctl rfl ?_ | refine Run.region ?_ | refine Run.condT rfl ?_ | refine Run.condF rfl ?_ | refine RunL.skip rfl rfl ?_ | refine RunL.skip0 rfl ?_ | exact RunL.blkEnd rfl rfl | apply RunL.andB rfl rfl rfl rfl rfl rfl rfl rfl | apply RunL.orB rfl rfl rfl rfl rfl rfl rfl rfl | (refine fun (hb : (_ : Bool) = _) => ?_; try simp at hb))
  refine RunL.appB elem44 ho rfl rfl rfl rfl rfl rfl rfl rfl (by decide) (by simp [Value.oneCell']) (by decide) (by omega) (by omega) ?_
  intro v2 w2 ho2 hg2
  have hB2 := hB1.kept hg2 (fun e => hne e.symm)
  have hne2 := ho2.ne_blk hB2 (by decide)
  repeat' (first | refine RunL.ev rfl rfl ?_ | refine RunL.evc rfl rfl (by first | omega | (simp; done) | (simp; omega) | exact List.length_pos_iff.2 (by assumption)) ?_ | refine RunL.nil ?_ | refine Run.ctl rfl ?_ | refine Run.region ?_ | refine Run.condT rfl ?_ | refine Run.condF rfl ?_ | refine RunL.skip rfl rfl ?_ | refine RunL.skip0 rfl ?_ | exact RunL.blkEnd rfl rfl | apply RunL.andB rfl rfl rfl rfl rfl rfl rfl rfl | apply RunL.orB rfl rfl rfl rfl rfl rfl rfl rfl | (refine fun (hb : (_ : Bool) = _) => ?_; try simp at hb))
  obtain ⟨a2, c2, rfl⟩ := ho2.isSl.head
  refine RunL.storeB hB2 rfl rfl rfl rfl rfl rfl (Nat.le_of_ble_eq_true rfl) ?_
  intro w3 hB3 hg3 _
  have ho3 := ho2.kept hg3 (fun k hk => by cases hk; exact hB) (.inr hne2)
  repeat' (first | refine RunL.ev rfl rfl ?_ | refine RunL.evc rfl rfl (by first | omega | (simp; done) | (simp; omega) | exact List.length_pos_iff.2 (by assumption)) ?_ | refine RunL.nil ?_ | refine Run.ctl rfl ?_ | refine Run.region ?_ | refine Run.condT rfl ?_ | refine Run.condF rfl ?_ | refine RunL.skip rfl rfl ?_ | refine RunL.skip0 rfl ?_ | exact RunL.blkEnd rfl rfl | apply RunL.andB rfl rfl rfl rfl rfl rfl rfl rfl | apply RunL.orB rfl rfl rfl rfl rfl rfl rfl rfl | (refine fun (hb : (_ : Bool) = _) => ?_; try simp at hb))
  refine Run.ret Try.func42 rfl [_] ⟨rfl, trivial⟩ ?_
  refine ⟨rfl, .inr ⟨hB, _, hB3, ?_, hne2⟩, ho3.below⟩
  have := ho3.own
  have e1 : (bcells (l ++ [c])) = bcells l ++ [.int .u8 (c.toNat : Int)] := by rw [bcells_append]; rfl
  rw [e1]
  simpa [bcells] using this

theorem writeString_any (w0 : World) (b : Nat) (l s : List UInt8) (w : World) (h : IsB w0 b l w) (hb0 : Below w0.heap.size w0 w) (hl : l.length ≤ 100000000000) (hs : s.length ≤ 10000000000) :
    Calls Try.prog 32 #[.pointer (some ⟨b, 0, none⟩), str s] w fun e w' => e = .returned (.tuple #[.int .i64 (s.length : Int), .nilIface]) ∧ IsB w0 b (l ++ s) w' ∧ Below w0.heap.size w0 w' := by
  refine calls_of_run Try.func32 rfl (Nat.le_of_ble_eq_true rfl) ?_
  refine Run.sub (σ' := [(0, .pointer (some ⟨b, 0, none⟩)), (1, str s)]) ⟨rfl, rfl, trivial⟩ ?_
  repeat' (first | refine RunL.ev rfl rfl ?_ | refine RunL.evc rfl rfl (by first | omega | (simp; done) | (simp; omega) | exact List.length_pos_iff.2 (by assumption)) ?_ | refine RunL.nil ?_ | refine Run.ctl rfl ?_ | refine Run.region ?_ | refine Run.condT rfl ?_ | refine Run.condF rfl ?_ | refine RunL.skip rfl rfl ?_ | refine RunL.skip0 rfl ?_ | exact RunL.blkEnd rfl rfl | apply RunL.andB rfl rfl rfl rfl rfl rfl rfl rfl | apply RunL.orB rfl rfl rfl rfl rfl rfl rfl rfl | (refine fun (hb : (_ : Bool) = _) => ?_; try simp at hb))
  refine RunL.call fn45 rfl rfl ((copyCheck_any w0 b l w h).mono ?_)
  rintro e w1 ⟨rfl, ⟨hB, v, hbk, hown, hne⟩, hb1⟩
  refine ⟨_, rfl, ?_⟩
  have hB1 : Blk w1 b [.pointer (some ⟨b, 0, none⟩), v] 46 := hbk
  have ho : OwnS w0 w1 5 1 v l.length (bcells l) := ⟨hb0.trans hb1, by simpa [bcells] using hown⟩
  repeat' (first | refine RunL.ev rfl rfl ?_ | refine RunL.evc rfl rfl (by first | omega | (simp; done) | (simp; omega) | exact List.length_pos_iff.2 (by assumption)) ?_ | refine RunL.loadB hB1 rfl rfl rfl rfl rfl ?_ | refine RunL.nil ?_ | refine Run.ctl rfl ?_ | refine Run.region ?_ | refine Run.condT rfl ?_ | refine Run.condF rfl ?_ | refine RunL.skip rfl rfl ?_ | refine RunL.skip0 rfl ?_ | exact RunL.blkEnd rfl rfl | apply RunL.andB rfl rfl rfl rfl rfl rfl rfl rfl | apply RunL.orB rfl rfl rfl rfl rfl rfl rfl rfl | (refine fun (hb : (_ : Bool) = _) => ?_; try simp at hb))
  refine RunL.appS rfl rfl ⟨_, rfl, rfl, rfl, rfl⟩ ho rfl rfl rfl (by omega) ?_
  intro v2 w2 ho2 hg2
  have hB2 := hB1.kept hg2 (fun e => hne e.symm)
  have hne2 := ho2.ne_blk hB2 (by decide)
  repeat' (first | refine RunL.ev rfl rfl ?_ | refine RunL.evc rfl rfl (by first | omega | (simp; done) | (simp; omega) | exact List.length_pos_iff.2 (by assumption)) ?_ | refine RunL.nil ?_ | refine Run.ctl rfl ?_ | refine Run.region ?_ | refine Run.condT rfl ?_ | refine Run.condF rfl ?_ | refine RunL.skip rfl rfl ?_ | refine RunL.skip0 rfl ?_ | exact RunL.blkEnd rfl rfl | apply RunL.andB rfl rfl rfl rfl rfl rfl rfl rfl | apply RunL.orB rfl rfl rfl rfl rfl rfl rfl rfl | (refine fun (hb : (_ : Bool) = _) => ?_; try simp at hb))
  obtain ⟨a2, c2, rfl⟩ := ho2.isSl.head
  refine RunL.storeB hB2 rfl rfl rfl rfl rfl rfl (Nat.le_of_ble_eq_true rfl) ?_
  intro w3 hB3 hg3 _
  have ho3 := ho2.kept hg3 (fun k hk => by cases hk; exact hB) (.inr hne2)
  repeat' (first | refine RunL.ev rfl rfl ?_ | refine RunL.evc rfl rfl (by first | omega | (simp; done) | (simp; omega) | exact List.length_pos_iff.2 (by assumption)) ?_ | refine RunL.nil ?_ | refine Run.ctl rfl ?_ | refine Run.region ?_ | refine Run.condT rfl ?_ | refine Run.condF rfl ?_ | refine RunL.skip rfl rfl ?_ | refine RunL.skip0 rfl ?_ | exact RunL.blkEnd rfl rfl | apply RunL.andB rfl rfl rfl rfl rfl rfl rfl rfl | apply RunL.orB rfl rfl rfl rfl rfl rfl rfl rfl | (refine fun (hb : (_ : Bool) = _) => ?_; try simp at hb))
  refine Run.ret Try.func32 rfl [_, _] ⟨rfl, rfl, trivial⟩ ?_
  refine ⟨rfl, .inr ⟨hB, _, hB3, ?_, hne2⟩, ho3.below⟩
  have := ho3.own
  rw [bcells_append]
  simpa [bcells] using this

theorem builderString_any (w0 : World) (b : Nat) (l : List UInt8) (w : World) (h : IsB w0 b l w) (hb0 : Below w0.heap.size w0 w) :
    Calls Try.prog 34 #[.pointer (some ⟨b, 0, none⟩)] w fun e w' => e = .returned (str l) ∧ Below w0.heap.size w0 w' :=
  (Try.Builder_String_any w0.heap.size b l w h hb0.size).mono fun _ _ ⟨h1, h2⟩ => ⟨h1, hb0.trans h2⟩

/-- A builder stays one when the world grows. -/
theorem isB_ext {w0 : World} {b : Nat} {l : List UInt8} {w w' : World} (h : IsB w0 b l w) (h0 : Below w0.heap.size w0 w) (hb : Below w.heap.size w w') : IsB w0 b l w' := by
  have one : ∀ p, Lib.BuilderAt 46 5 w0.heap.size b p (bcells l) w → Lib.BuilderAt 46 5 w0.heap.size b p (bcells l) w' := by
    rintro p ⟨h1, v, h2, h3, h4⟩
    have hB : Blk w b [p, v] 46 := h2
    exact ⟨h1, v, hB.ext hb, h3.kept (row := none) (grown_below hb) (by cases hv : v.ownBlock <;> simp), h4⟩
  rcases h with h | h
  · exact .inl (one _ h)
  · exact .inr (one _ h)

theorem fresh_IsB (w : World) (w' : World) (h : Blk w' w.heap.size [.pointer none, .slice none 0 0] 46) : IsB w w.heap.size [] w' :=
  .inl ⟨Nat.le_refl _, .slice none 0 0, h, World.ownsRow_nil _ _ _ _, by simp [Value.ownBlock]⟩
end Go.Proofs.Ytmjhhmilgebbbaa
