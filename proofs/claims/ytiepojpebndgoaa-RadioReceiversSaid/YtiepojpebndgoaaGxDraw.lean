/- Regions that draw their order, walked along a plan: what can be moved is taken first, the rest comes up alone. Conditions: none. -/
import Derived.Test.YtiepojpebndgoaaGxMem
import Derived.OrdersHeld
namespace Go.GX
open Go.RowKit
set_option linter.unusedVariables false
set_option linter.unusedSectionVars false
set_option linter.unusedSimpArgs false

theorem Below.seq {w w1 w2 : World} (h1 : Below w.heap.size w w1) (h2 : Below w1.heap.size w1 w2) : Below w.heap.size w w2 := h1.trans (h2.mono h1.size)

def planB (ops : Array Oper) : List (Nat × Bool) → Array Bool → Bool
  | [], listed => (Region.ready .any ops listed).isEmpty
  | (i, true) :: p, listed => (Region.ready .any ops listed).contains i && Region.free .any ops listed i && planB ops p (listed.setIfInBounds i true)
  | (i, false) :: p, listed => decide (Region.ready .any ops listed = [i]) && planB ops p (listed.setIfInBounds i true)

def planOk (ops : Array Oper) (p : List (Nat × Bool)) : Bool := Region.noSelect ops && Nat.beq p.length ops.size && planB ops p (Array.replicate ops.size false)

section
variable {P : Program} {S : World → Prop}

def QN (K : Act → World → Prop) : Exit → Act → World → Prop := fun e a w => e = .normal ∧ K a w

def wpPlan (P : Program) (ops : Array Oper) (S : World → Prop) (K : Act → World → Prop) : List (Nat × Bool) → Act → World → Prop
  | [], a, w => K a w
  | (i, true) :: p, a, w => ∃ o v, ops[i]? = some o ∧ YieldsIf P ops S o v a ∧ wpPlan P ops S K p (a.put o.dst v) w
  | (i, false) :: p, a, w => wpOp P ops (QN K) i (fun a' w' => S w' ∧ wpPlan P ops S K p a' w') a w

theorem wpAnyH_of_plan {ops : Array Oper} {K : Act → World → Prop} (hn : Region.noSelect ops = true) : ∀ (p : List (Nat × Bool)) (listed : Array Bool) (a : Act) (w : World), S w →
    planB ops p listed = true → wpPlan P ops S K p a w → wpAnyH P .any ops (QN K) S p.length listed a w
  | [], listed, a, w, hS, hB, h => ⟨by simpa [planB] using hB, rfl, h⟩
  | (i, true) :: p, listed, a, w, hS, hB, h => by
    obtain ⟨o, v, ho, hy, h⟩ := h
    simp only [planB, Bool.and_eq_true] at hB
    exact wpAnyH_take ho hn hB.1.2 hB.1.1 (fun c a w h => absurd h.1 (by nofun)) hy hS (wpAnyH_of_plan hn p _ _ _ hS hB.2 h)
  | (i, false) :: p, listed, a, w, hS, hB, h => by
    simp only [planB, Bool.and_eq_true, decide_eq_true_eq] at hB
    refine wpAnyH_all hB.1 (by simp) fun j hj => ?_
    have : j = i := by simpa using hj
    subst this
    exact wpOp_mono (fun a' w' h' => ⟨h'.1, wpAnyH_of_plan hn p _ _ _ h'.1 hB.2 h'.2⟩) h

def RunD (P : Program) (N : Nat) (S : World → Prop) (ops : List Oper) (p : List (Nat × Bool)) (σ : Store) (w : World) (K : Act → World → Prop) : Prop :=
  S w → ∀ a, Agr N σ a → wpPlan P ops.toArray S K p a w

variable {f : FuncId} {N : Nat} {k : List Item} {σ : Store} {w w' : World} {R : Ending → World → Prop} {ops l : List Oper} {o : Oper} {K : Act → World → Prop} {p : List (Nat × Bool)} {i : Nat}
  {v : Value} {d : Nat} {op : Op} {ty : TypeId} {pos : String} {af : Array Edge} {gd : Option (Nat × Bool)}

theorem Run.regionDS (p : List (Nat × Bool)) (S : World → Prop) {id : Nat} (hm : P.follows .mixedOrders = true) (hB : planOk ops.toArray p = true)
    (h : ∀ w1, Below w.heap.size w w1 → w1.heap = w.heap → S w1 ∧ RunD P N S ops p σ w1 (CRun P f k R)) : Run P f N (.code (.region id ops.toArray true) :: k) σ w R := by
  intro a ha
  refine CRun.of_wp (wp_region_held (S := S) hm ?_)
  simp only [planOk, Bool.and_eq_true] at hB
  rw [show ops.toArray.size = p.length from (Nat.eq_of_beq_eq_true hB.1.2).symm]
  obtain ⟨hS, h⟩ := h { w with drawn := w.drawn + 1 } ⟨rfl, rfl, rfl, Nat.le_refl _, fun _ _ => rfl⟩ rfl
  have h2 := hB.2
  rw [show ops.toArray.size = p.length from (Nat.eq_of_beq_eq_true hB.1.2).symm] at h2
  exact wpAnyH_of_plan hB.1.1 p _ _ _ hS h2 (h hS a ha)

/-- What is taken first yields in whatever world. -/
theorem Run.regionD (p : List (Nat × Bool)) {id : Nat} (hm : P.follows .mixedOrders = true) (hB : planOk ops.toArray p = true)
    (h : ∀ w1, Below w.heap.size w w1 → w1.heap = w.heap → RunD P N (fun _ => True) ops p σ w1 (CRun P f k R)) : Run P f N (.code (.region id ops.toArray true) :: k) σ w R :=
  Run.regionDS p (fun _ => True) hm hB fun w1 h1 h2 => ⟨trivial, h w1 h1 h2⟩

/-- What is taken first yields in whatever world that has grown from the region's first. -/
theorem Run.regionDB (p : List (Nat × Bool)) {id : Nat} (hm : P.follows .mixedOrders = true) (hB : planOk ops.toArray p = true)
    (h : ∀ w1, Below w.heap.size w w1 → w1.heap = w.heap → RunD P N (fun w' => Below w.heap.size w w') ops p σ w1 (CRun P f k R)) : Run P f N (.code (.region id ops.toArray true) :: k) σ w R :=
  Run.regionDS p _ hm hB fun w1 h1 h2 => ⟨h1, h w1 h1 h2⟩

theorem RunD.nil (h : Run P f N k σ w R) : RunD P N S ops [] σ w (CRun P f k R) := fun _ a ha => h a ha

theorem RunD.rd (ho : ops[i]? = some ⟨some d, op, ty, pos, af, gd⟩) (hs : stat N ops ⟨some d, op, ty, pos, af, gd⟩ σ = true)
    (hr : ∀ w, S w → (execOp (evO σ) ⟨some d, op, ty, pos, af, gd⟩).run P w = .ok (.value v) w) (h : RunD P N S ops p ((d, v) :: σ) w K) : RunD P N S ops ((i, true) :: p) σ w K := by
  intro hS a ha
  obtain ⟨h1, h2, h3, h4⟩ := stat_spec hs
  refine ⟨_, v, by simpa using ho, .inl ⟨wantedS_wanted ha h4, fun w hw => ?_⟩, h hS _ (ha.put (some d) v h3)⟩
  rw [evalAt ha _ h1 h2]
  exact hr w hw

theorem RunD.ev (ho : ops[i]? = some ⟨some d, op, ty, pos, af, gd⟩) (hs : stat N ops ⟨some d, op, ty, pos, af, gd⟩ σ = true) (he : evOp P σ op = some v) (h : RunD P N S ops p ((d, v) :: σ) w K) :
    RunD P N S ops ((i, true) :: p) σ w K := RunD.rd ho hs (fun _ _ => evOp_run he) h
theorem RunD.evc {c : Prop} (ho : ops[i]? = some ⟨some d, op, ty, pos, af, gd⟩) (hs : stat N ops ⟨some d, op, ty, pos, af, gd⟩ σ = true) (he : evC P σ op = some (v, c)) (hc : c) (h : RunD P N S ops p ((d, v) :: σ) w K) :
    RunD P N S ops ((i, true) :: p) σ w K := RunD.rd ho hs (fun _ _ => evC_run he hc) h
theorem RunD.skip (ho : ops[i]? = some ⟨some d, op, ty, pos, af, gd⟩) (hw : wantedS ops gd σ = some false) (hd : dstOk N (some d) = true) (h : RunD P N S ops p ((d, undef) :: σ) w K) : RunD P N S ops ((i, true) :: p) σ w K := by
  intro hS a ha
  exact ⟨_, undef, by simpa using ho, .inr ⟨wantedS_wanted ha (o := ⟨some d, op, ty, pos, af, gd⟩) hw, rfl⟩, h hS _ (ha.put (some d) undef hd)⟩
theorem RunD.skipO (ho : ops[i]? = some ⟨some d, op, ty, pos, af, gd⟩) (hw : wantedS ops gd σ = some false) (hd : dstOk N (some d) = true) (h : RunD P N S ops p ((d, undef) :: σ) w K) : RunD P N S ops ((i, false) :: p) σ w K := by
  intro hS a ha
  have hw' := wantedS_wanted ha (o := ⟨some d, op, ty, pos, af, gd⟩) hw
  simp only [wpPlan, wpOp, show ops.toArray[i]? = some _ by simpa using ho, hw', Bool.false_eq_true, if_false]
  exact ⟨hS, h hS _ (ha.put (some d) undef hd)⟩
/-- A guard that is not known as a literal: both ways. -/
theorem RunD.split {t : Nat} {b : Bool} (hl : look σ t = some (.bool b)) (h1 : b = true → RunD P N S ops p ((t, .bool true) :: σ) w K) (h2 : b = false → RunD P N S ops p ((t, .bool false) :: σ) w K) : RunD P N S ops p σ w K := by
  intro hS a ha
  cases b with
  | true => exact h1 rfl hS a (ha.weaken fun t' v hv => by
      rw [look_cons] at hv; split at hv
      · rename_i e; subst e; cases hv; exact hl
      · exact hv)
  | false => exact h2 rfl hS a (ha.weaken fun t' v hv => by
      rw [look_cons] at hv; split at hv
      · rename_i e; subst e; cases hv; exact hl
      · exact hv)

def DK (P : Program) (S : World → Prop) (ops : List Oper) (p : List (Nat × Bool)) (K : Act → World → Prop) : Act → World → Prop := fun a' w' => S w' ∧ wpPlan P ops.toArray S K p a' w'

theorem QN_noOut {K : Act → World → Prop} (h : LetsOut (QN K)) : False := by
  obtain ⟨a, w, h, _⟩ := h
  cases h

theorem wp_QN {K' K2 : Act → World → Prop} {a : Act} {next : Act → World → Prop} (h : o.wp P a w next (QN K')) : o.wp P a w next (QN K2) := by
  unfold Oper.wp at *
  generalize (execOp a.eval o).run P w = r at *
  cases r with
  | ok n w' =>
    cases n <;> simp only [Oper.upon] at h ⊢
    case value u => exact h
    case skip => exact h
    case defer d => exact h
    case enter f args =>
      refine Calls.mono h fun e w'' he => ?_
      cases e with
      | returned u => exact he
      | panicked c => exact absurd he.1 (by nofun)
      | outgrown => exact (QN_noOut he).elim
    case row row args => exact h
  | halt x w' =>
    cases x <;> simp only [Oper.upon] at h ⊢
    case panic u => exact absurd h.1 (by nofun)

/-- An operation that comes up alone. -/
theorem RunD.one (ho : ops[i]? = some o) (h : RunL P N ops [o] σ w (DK P S ops p K)) : RunD P N S ops ((i, false) :: p) σ w K := by
  intro hS a ha
  replace h := h a ha
  simp only [wpPlan, wpOp, show ops.toArray[i]? = some o by simpa using ho]
  unfold wpList at h
  split
  · rename_i hw
    rw [if_pos hw] at h
    rcases h with h | h
    · left
      have h2 : o.wp P a w (fun a' w' => (QN (DK P S ops p K)) .normal a' w') (QN (DK P S ops p K)) := h
      exact Oper.wp_mono (fun a' w' h' => h'.2) (wp_QN h2)
    · exact (QN_noOut (K := DK P S ops p K) h.2).elim
  · rename_i hw
    rw [if_neg hw] at h
    exact h.2
theorem RunL.back (hS : S w) (h : RunD P N S ops p σ w K) : RunL P N ops [] σ w (DK P S ops p K) := fun a ha => wpList_nil ⟨rfl, hS, h hS a ha⟩

def opsAt (ops : List Oper) : List (Nat × Bool) → Option (List Oper)
  | [] => some []
  | (i, b) :: p => match b, ops[i]?, opsAt ops p with
    | false, some o, some l => some (o :: l)
    | _, _, _ => none

/-- The rest comes up one by one. -/
theorem RunD.tail (hl : opsAt ops p = some l) (h : RunL P N ops l σ w K) : RunD P N (fun _ => True) ops p σ w K := by
  intro _ a ha
  replace h := h a ha
  clear ha
  induction p generalizing l a w with
  | nil => cases hl; exact h.2
  | cons x p ih =>
    obtain ⟨i, b⟩ := x
    unfold opsAt at hl
    split at hl
    · rename_i o l' ho hl'
      cases hl
      simp only [wpPlan, wpOp, show ops.toArray[i]? = some o by simpa using ho]
      simp only [wpList] at h
      split
      · rename_i hw
        rw [if_pos hw] at h
        rcases h with h | h
        · exact .inl (Oper.wp_mono (fun a' w' h' => ⟨trivial, ih hl' a' h'⟩) h)
        · exact .inr h
      · rename_i hw
        rw [if_neg hw] at h
        exact ⟨trivial, ih hl' _ h⟩
    · cases hl
end
end Go.GX
