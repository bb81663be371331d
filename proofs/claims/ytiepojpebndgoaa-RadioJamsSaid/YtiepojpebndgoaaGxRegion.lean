/- The rules for regions: operations in a row, a guarded block behind and, or; regions that draw their order but only read. Conditions: none. -/
import Derived.Test.YtiepojpebndgoaaGxCore
namespace Go.GX
open Go.RowKit
set_option linter.unusedVariables false
set_option linter.unusedSectionVars false
set_option linter.unusedSimpArgs false

def RunL (P : Program) (N : Nat) (ops l : List Oper) (σ : Store) (w : World) (K : Act → World → Prop) : Prop :=
  ∀ a, Agr N σ a → wpList P ops.toArray (fun e a' w' => e = .normal ∧ K a' w') l a w

/-- What can be seen of an operation ahead of its run: its operands are known, its slot is one of the frame's, it is wanted. -/
def stat (N : Nat) (ops : List Oper) (o : Oper) (σ : Store) : Bool :=
  match notSelect o.op, allKnown σ (opsL o.op), dstOk N o.dst, wantedS ops o.guard σ with
  | true, true, true, some true => true
  | _, _, _, _ => false

theorem stat_spec {N : Nat} {ops : List Oper} {o : Oper} {σ : Store} (h : stat N ops o σ = true) : notSelect o.op = true ∧ allKnown σ (opsL o.op) = true ∧ dstOk N o.dst = true ∧ wantedS ops o.guard σ = some true := by
  unfold stat at h
  split at h
  · exact ⟨by assumption, by assumption, by assumption, by assumption⟩
  · cases h

section
variable {P : Program} {f : FuncId} {N : Nat} {k : List Item} {σ : Store} {w w' : World} {R : Ending → World → Prop} {ops l : List Oper} {o : Oper} {K : Act → World → Prop}

theorem CRun.of_wp {c : Code} {a : Act} (h : c.wp P (fun e a' w' => e = .normal ∧ CRun P f k R a' w') a w) : CRun P f (.code c :: k) R a w := by
  intro b cs hb hk
  obtain ⟨e, a', w', ⟨rfl, hq⟩, harr⟩ := h b k cs
  obtain ⟨e, w'', fr, hR, hc, hf, hl⟩ := hq b cs hb hk
  exact ⟨e, w'', fr, hR, Comes.of_steps harr hc, hf, hl⟩

theorem Run.region {id : Nat} (h : RunL P N ops ops σ w (CRun P f k R)) : Run P f N (.code (.region id ops.toArray false) :: k) σ w R :=
  fun a ha => CRun.of_wp (wp_region_lit (h a ha))

theorem RunL.nil (h : Run P f N k σ w R) : RunL P N ops [] σ w (CRun P f k R) := fun a ha => wpList_nil ⟨rfl, h a ha⟩

/-- One operation that yields a value. -/
theorem RunL.opG {v : Value} (hs : stat N ops o σ = true) (hr : (execOp (evO σ) o).run P w = .ok (.value v) w') (h : RunL P N ops l (putS σ o.dst v) w' K) : RunL P N ops (o :: l) σ w K := by
  intro a ha
  obtain ⟨h1, h2, h3, h4⟩ := stat_spec hs
  refine wpList_step fun K' hK' => ?_
  rw [if_pos (wantedS_wanted ha h4)]
  unfold Oper.wp
  rw [evalAt ha o h1 h2, hr]
  exact hK' _ _ (h _ (ha.put o.dst v h3))

theorem RunL.op {v : Value} {d : Nat} {op : Op} {ty : TypeId} {pos : String} {af : Array Edge} {gd : Option (Nat × Bool)} (hs : stat N ops ⟨some d, op, ty, pos, af, gd⟩ σ = true)
    (hr : (execOp (evO σ) ⟨some d, op, ty, pos, af, gd⟩).run P w = .ok (.value v) w') (h : RunL P N ops l ((d, v) :: σ) w' K) : RunL P N ops (⟨some d, op, ty, pos, af, gd⟩ :: l) σ w K :=
  RunL.opG hs hr h

theorem RunL.op0 {v : Value} {op : Op} {ty : TypeId} {pos : String} {af : Array Edge} {gd : Option (Nat × Bool)} (hs : stat N ops ⟨none, op, ty, pos, af, gd⟩ σ = true)
    (hr : (execOp (evO σ) ⟨none, op, ty, pos, af, gd⟩).run P w = .ok (.value v) w') (h : RunL P N ops l σ w' K) : RunL P N ops (⟨none, op, ty, pos, af, gd⟩ :: l) σ w K :=
  RunL.opG hs hr h

/-- An operand's value, taken out of the store. -/
def lookO (σ : Store) : Operand → Option Value
  | .tmp t => look σ t
  | .const v => some v
  | .global g => some (.pointer (some ⟨g, 0, none⟩))
  | .func f => some (.func (.func f) #[] #[])

theorem evO_of_lookO {x : Operand} {v : Value} (h : lookO σ x = some v) : evO σ x = v := by
  cases x <;> simp_all [lookO, evO]

theorem RunL.mv {v : Value} {d : Nat} {x : Operand} {ty : TypeId} {pos : String} {af : Array Edge} {gd : Option (Nat × Bool)} (hs : stat N ops ⟨some d, .move x, ty, pos, af, gd⟩ σ = true)
    (hx : lookO σ x = some v) (h : RunL P N ops l ((d, v) :: σ) w K) : RunL P N ops (⟨some d, .move x, ty, pos, af, gd⟩ :: l) σ w K :=
  RunL.opG (w' := w) hs (by simp [execOp, evO_of_lookO hx]) h

theorem RunL.asg {v : Value} {d : Nat} {x : Operand} {ty : TypeId} {pos : String} {af : Array Edge} {gd : Option (Nat × Bool)} (hs : stat N ops ⟨some d, .assign x, ty, pos, af, gd⟩ σ = true)
    (hx : lookO σ x = some v) (h : RunL P N ops l ((d, v) :: σ) w K) : RunL P N ops (⟨some d, .assign x, ty, pos, af, gd⟩ :: l) σ w K :=
  RunL.opG (w' := w) hs (by simp [execOp, evO_of_lookO hx]) h

theorem RunL.pickT {v : Value} {d : Nat} {c x y : Operand} {ty : TypeId} {pos : String} {af : Array Edge} {gd : Option (Nat × Bool)} (hs : stat N ops ⟨some d, .pick c x y, ty, pos, af, gd⟩ σ = true)
    (hc : lookO σ c = some (.bool true)) (hx : lookO σ x = some v) (h : RunL P N ops l ((d, v) :: σ) w K) : RunL P N ops (⟨some d, .pick c x y, ty, pos, af, gd⟩ :: l) σ w K :=
  RunL.opG (w' := w) hs (by simp [execOp, evO_of_lookO hx, evO_of_lookO hc, asBool]) h

theorem RunL.pickF {v : Value} {d : Nat} {c x y : Operand} {ty : TypeId} {pos : String} {af : Array Edge} {gd : Option (Nat × Bool)} (hs : stat N ops ⟨some d, .pick c x y, ty, pos, af, gd⟩ σ = true)
    (hc : lookO σ c = some (.bool false)) (hx : lookO σ y = some v) (h : RunL P N ops l ((d, v) :: σ) w K) : RunL P N ops (⟨some d, .pick c x y, ty, pos, af, gd⟩ :: l) σ w K :=
  RunL.opG (w' := w) hs (by simp [execOp, evO_of_lookO hx, evO_of_lookO hc, asBool]) h

/-- One operation that yields none (a store). -/
theorem RunL.opU {op : Op} {ty : TypeId} {pos : String} {af : Array Edge} {gd : Option (Nat × Bool)} (hs : stat N ops ⟨none, op, ty, pos, af, gd⟩ σ = true)
    (hr : (execOp (evO σ) ⟨none, op, ty, pos, af, gd⟩).run P w = .ok .skip w') (h : RunL P N ops l σ w' K) : RunL P N ops (⟨none, op, ty, pos, af, gd⟩ :: l) σ w K := by
  intro a ha
  obtain ⟨h1, h2, h3, h4⟩ := stat_spec hs
  refine wpList_step fun K' hK' => ?_
  rw [if_pos (wantedS_wanted ha h4)]
  unfold Oper.wp
  rw [evalAt ha _ h1 h2, hr]
  exact hK' _ _ (h _ (ha.put none undef h3))

/-- An operation that is not wanted. -/
theorem RunL.skip {d : Nat} {op : Op} {ty : TypeId} {pos : String} {af : Array Edge} {gd : Option (Nat × Bool)} (hw : wantedS ops gd σ = some false) (hd : dstOk N (some d) = true)
    (h : RunL P N ops l ((d, undef) :: σ) w K) : RunL P N ops (⟨some d, op, ty, pos, af, gd⟩ :: l) σ w K := by
  intro a ha
  refine wpList_step fun K' hK' => ?_
  rw [wantedS_wanted ha (o := ⟨some d, op, ty, pos, af, gd⟩) hw]
  exact hK' _ _ (h _ (ha.put (some d) undef hd))

theorem RunL.skip0 {op : Op} {ty : TypeId} {pos : String} {af : Array Edge} {gd : Option (Nat × Bool)} (hw : wantedS ops gd σ = some false)
    (h : RunL P N ops l σ w K) : RunL P N ops (⟨none, op, ty, pos, af, gd⟩ :: l) σ w K := by
  intro a ha
  refine wpList_step fun K' hK' => ?_
  rw [wantedS_wanted ha (o := ⟨none, op, ty, pos, af, gd⟩) hw]
  exact hK' _ _ (h _ ha)

/-- A call of a function, met by its contract. -/
theorem RunL.enter {g : FuncId} {args : Array Value} (hs : stat N ops o σ = true) (hr : (execOp (evO σ) o).run P w = .ok (.enter g args) w)
    (h : Calls P g args w fun e w' => ∃ v, e = .returned v ∧ RunL P N ops l (putS σ o.dst v) w' K) : RunL P N ops (o :: l) σ w K := by
  intro a ha
  obtain ⟨h1, h2, h3, h4⟩ := stat_spec hs
  refine wpList_step fun K' hK' => ?_
  rw [if_pos (wantedS_wanted ha h4)]
  unfold Oper.wp
  rw [evalAt ha o h1 h2, hr]
  refine h.mono fun e w'' ⟨v, he, hv⟩ => ?_
  subst he
  exact hK' _ _ (hv _ (ha.put o.dst v h3))

theorem run_call {g : FuncId} {fn : Func} {c : Code} (ρ : Operand → Value) {d : Option Tmp} {args : List Operand} {tys : Array TypeId} {ty : TypeId} {pos : String} {af : Array Edge} {gd : Option (Nat × Bool)}
    (hf : P.funcs[g]? = some fn) (hb : fn.body = some c) (hn : (fn.name == "runtime.NumGoroutine") = false) :
    (execOp ρ ⟨d, .call ⟨.value (.func g), args.toArray, tys⟩, ty, pos, af, gd⟩).run P w = .ok (.enter g ((args.map ρ).toArray)) w ∨ ρ (.func g) ≠ .func (.func g) #[] #[] := by
  by_cases h : ρ (.func g) = .func (.func g) #[] #[]
  · left
    have hn' : ¬ fn.name = "runtime.NumGoroutine" := by simpa using hn
    simp [execOp, resolve, h, Deferred.ofValue, invoke, callFunc, hf, hn', hb]
  · exact .inr h

def vals (σ : Store) : List Operand → Option (List Value)
  | [] => some []
  | x :: r => match lookO σ x with
    | some v => match vals σ r with
      | some vs => some (v :: vs)
      | none => none
    | none => none

theorem vals_eq {l : List Operand} {vs : List Value} (h : vals σ l = some vs) : l.map (evO σ) = vs := by
  induction l generalizing vs with
  | nil => simp [vals] at h; simp [h]
  | cons x r ih =>
    simp only [vals] at h
    split at h
    · rename_i v hv
      split at h
      · rename_i us hu
        cases h
        simp [evO_of_lookO hv, ih hu]
      · cases h
    · cases h

/-- A function that has a body. -/
structure IsFn (P : Program) (g : FuncId) : Prop where
  out : ∃ fn c, P.funcs[g]? = some fn ∧ fn.body = some c ∧ (fn.name == "runtime.NumGoroutine") = false

theorem RunL.call {g : FuncId} {d : Nat} {args : List Operand} {a1 : List Value} {tys : Array TypeId} {ty : TypeId} {pos : String} {af : Array Edge} {gd : Option (Nat × Bool)} (hg : IsFn P g)
    (hs : stat N ops ⟨some d, .call ⟨.value (.func g), args.toArray, tys⟩, ty, pos, af, gd⟩ σ = true) (ha : vals σ args = some a1)
    (h : Calls P g a1.toArray w fun e w' => ∃ v, e = .returned v ∧ RunL P N ops l ((d, v) :: σ) w' K) : RunL P N ops (⟨some d, .call ⟨.value (.func g), args.toArray, tys⟩, ty, pos, af, gd⟩ :: l) σ w K := by
  obtain ⟨fn, c, hf, hb, hn⟩ := hg.out
  have := (run_call (P := P) (w := w) (d := some d) (tys := tys) (ty := ty) (pos := pos) (af := af) (gd := gd) (args := args) (evO σ) hf hb hn).resolve_right (fun h => h rfl)
  rw [vals_eq ha] at this
  exact RunL.enter hs this h

/-- A call whose result goes nowhere. -/
theorem RunL.call0 {g : FuncId} {args : List Operand} {a1 : List Value} {tys : Array TypeId} {ty : TypeId} {pos : String} {af : Array Edge} {gd : Option (Nat × Bool)} (hg : IsFn P g)
    (hs : stat N ops ⟨none, .call ⟨.value (.func g), args.toArray, tys⟩, ty, pos, af, gd⟩ σ = true) (ha : vals σ args = some a1)
    (h : Calls P g a1.toArray w fun e w' => ∃ v, e = .returned v ∧ RunL P N ops l σ w' K) : RunL P N ops (⟨none, .call ⟨.value (.func g), args.toArray, tys⟩, ty, pos, af, gd⟩ :: l) σ w K := by
  obtain ⟨fn, c, hf, hb, hn⟩ := hg.out
  have := (run_call (P := P) (w := w) (d := none) (tys := tys) (ty := ty) (pos := pos) (af := af) (gd := gd) (args := args) (evO σ) hf hb hn).resolve_right (fun h => h rfl)
  rw [vals_eq ha] at this
  exact RunL.enter hs this h

/-! ### and, or: the guarded block -/

/-- How many operations stand ahead of the 'pick' on slot tj. -/
def cutPick (tj : Nat) : List Oper → Option Nat
  | [] => none
  | o :: r => match o.op with
    | .pick (.tmp t) _ _ => match Nat.beq t tj with
      | true => some 0
      | false => match cutPick tj r with
        | some n => some (n + 1)
        | none => none
    | _ => match cutPick tj r with
      | some n => some (n + 1)
      | none => none

def natIn (x : Nat) : List Nat → Bool
  | [] => false
  | y :: r => match Nat.beq x y with
    | true => true
    | false => natIn x r

theorem natIn_mem {x : Nat} {l : List Nat} (h : natIn x l = true) : x ∈ l := by
  induction l with
  | nil => cases h
  | cons y r ih =>
    unfold natIn at h
    split at h
    · rename_i e; rw [Nat.eq_of_beq_eq_true e]; exact List.mem_cons_self ..
    · exact List.mem_cons_of_mem _ (ih h)

/-- Each operation of the block is guarded: by operation j as it is not, or by one of the block's own ('from' on: their slots). 'T': the slots that hold no truth value for sure. -/
def allOff (ops : List Oper) (tj : Nat) (want : Bool) : List Oper → List Nat → Bool
  | [], _ => true
  | o :: r, T => match o.guard, o.dst with
    | some (j, wt), some d => match nth ops j with
      | some oj => match oj.dst with
        | some t => match (Nat.beq t tj && (wt == want)) || natIn t T, Nat.beq d tj with
          | true, false => allOff ops tj want r (d :: T)
          | _, _ => false
        | none => false
      | none => false
    | _, _ => false

/-- The slots that a block writes are new to the store. -/
def newTo (σ : Store) : List Oper → Bool
  | [] => true
  | o :: r => match o.dst with
    | some d => match look σ d with
      | none => newTo σ r
      | some _ => false
    | none => newTo σ r

theorem wpList_append {l₁ l₂ : List Oper} {a : Act} {ops : Array Oper} {K : Act → World → Prop}
    (h : wpList P ops (fun e a' w' => e = .normal ∧ wpList P ops (fun e a' w' => e = .normal ∧ K a' w') l₂ a' w') l₁ a w) :
    wpList P ops (fun e a' w' => e = .normal ∧ K a' w') (l₁ ++ l₂) a w := by
  have nolet : ∀ (K : Act → World → Prop), ¬ LetsOut (fun e a' w' => e = .normal ∧ K a' w') := fun K ⟨_, _, h, _⟩ => by cases h
  induction l₁ generalizing a w with
  | nil => exact h.2
  | cons o l ih =>
    simp only [wpList, List.cons_append] at h ⊢
    split
    · rename_i hw
      rw [if_pos hw] at h
      rcases h with h | h
      · left
        unfold Oper.wp at h ⊢
        generalize (execOp a.eval o).run P w = r at *
        cases r with
        | ok n w' =>
          cases n <;> simp only [Oper.upon] at h ⊢
          case value v => exact ih h
          case skip => exact ih h
          case defer => exact ih h
          case enter g args =>
            refine Calls.mono h fun e w'' he => ?_
            cases e with
            | returned v => exact ih he
            | panicked c => exact absurd he.1 (by simp)
            | outgrown => exact absurd he (nolet _)
          case row r args => exact Rows.mono h fun _ _ he => ih he
        | halt x w' =>
          cases x <;> simp only [Oper.upon] at h
          exact absurd h.1 (by simp)
      · exact absurd h.2 (nolet _)
    · rename_i hw
      rw [if_neg hw] at h
      exact ih h

/-- A block that is off leaves the world, and every slot that it does not write. -/
theorem wpList_off {tj : Nat} {want b : Bool} (hb : b ≠ want) {Q : Exit → Act → World → Prop} : ∀ (l : List Oper) (T : List Nat) (σ : Store) (a : Act), Agr N σ a → look σ tj = some (.bool b) →
    (∀ t ∈ T, a.tmps[t]? = some undef) → allOff ops tj want l T = true → newTo σ l = true → (∀ o ∈ l, dstOk N o.dst = true) →
    (∀ a', Agr N σ a' → Q .normal a' w) → wpList P ops.toArray Q l a w := by
  intro l
  induction l with
  | nil => intro T σ a ha _ _ _ _ _ h; exact h a ha
  | cons o l ih =>
    intro T σ a ha hl hT hoff hnew hN h
    simp only [allOff] at hoff
    have hNo := hN o (List.mem_cons_self ..)
    split at hoff
    · rename_i j wt d hg hd
      split at hoff
      · rename_i oj hoj
        split at hoff
        · rename_i t ht
          split at hoff
          · rename_i h1 h2
            have hne : d ≠ tj := by intro e; subst e; simp at h2
            have hnw : Region.wanted o (yielded ops.toArray a.tmps) = false := by
              unfold Region.wanted
              rw [hg]
              simp only [yielded]
              rw [nth_eq] at hoj
              simp only [Bool.or_eq_true, Bool.and_eq_true] at h1
              rcases h1 with ⟨e1, e2⟩ | e1
              · have e3 := Nat.eq_of_beq_eq_true e1
                have e4 := eq_of_beq e2
                subst e3; subst e4
                simp [hoj, ht, ha.slot t _ hl, hb]
              · have := hT t (natIn_mem e1)
                simp [hoj, ht, this, undef]
            simp only [wpList, hnw]
            simp only [newTo, hd] at hnew
            split at hnew
            · rename_i hlk
              have hdl : d < N := by rw [hd] at hNo; exact Nat.le_of_ble_eq_true hNo
              have hput : Agr N σ (a.put o.dst undef) := by
                refine ⟨by rw [hd]; exact ha.defers, by rw [hd]; simp [Act.put, ha.size], fun t' u hu => ?_⟩
                have : d ≠ t' := by intro e; subst e; rw [hlk] at hu; cases hu
                rw [hd]; simp only [Act.put]; rw [Array.getElem?_setIfInBounds_ne this]; exact ha.slot t' u hu
              refine ih (d :: T) σ _ hput hl ?_ hoff hnew (fun o ho => hN o (List.mem_cons_of_mem _ ho)) h
              intro t' ht'
              rw [hd]; simp only [Act.put]
              by_cases e : d = t'
              · subst e; simp [ha.size, hdl]
              · rw [Array.getElem?_setIfInBounds_ne e]
                rcases List.mem_cons.1 ht' with e' | ht'
                · exact absurd e'.symm e
                · exact hT t' ht'
            · cases hnew
          · cases hoff
        · cases hoff
      · cases hoff
    · cases hoff

def dstsOk (N : Nat) : List Oper → Bool
  | [] => true
  | o :: r => match dstOk N o.dst with
    | true => dstsOk N r
    | false => false

theorem dstsOk_spec {l : List Oper} (h : dstsOk N l = true) : ∀ o ∈ l, dstOk N o.dst = true := by
  induction l with
  | nil => intro o ho; cases ho
  | cons x l ih =>
    unfold dstsOk at h
    split at h
    · rename_i hx
      intro o ho
      rcases List.mem_cons.1 ho with rfl | ho
      · exact hx
      · exact ih h o ho
    · cases h

/-- The slot, the truth value and the wish of the first operation's guard. -/
def gslot (ops : List Oper) (o : Oper) : Option (Nat × Bool) :=
  match o.guard with
  | some (j, want) => match nth ops j with
    | some oj => match oj.dst with
      | some t => some (t, want)
      | none => none
    | none => none
  | none => none

/-- What the block and the 'pick' behind it must look like. -/
def blkOk (N : Nat) (ops : List Oper) (tj : Nat) (want : Bool) (n : Nat) (σ : Store) (l : List Oper) : Bool :=
  match allOff ops tj want (l.take n) [], newTo σ (l.take n), dstsOk N (l.take n) with
  | true, true, true => true
  | _, _, _ => false

theorem blkOk_spec {tj n : Nat} {want : Bool} (h : blkOk N ops tj want n σ l = true) : allOff ops tj want (l.take n) [] = true ∧ newTo σ (l.take n) = true ∧ dstsOk N (l.take n) = true := by
  unfold blkOk at h
  split at h
  · exact ⟨by assumption, by assumption, by assumption⟩
  · cases h

theorem wpListN_mono {l : List Oper} {a : Act} {ops : Array Oper} {K K' : Act → World → Prop} (hK : ∀ a w, K a w → K' a w)
    (h : wpList P ops (fun e a' w' => e = .normal ∧ K a' w') l a w) : wpList P ops (fun e a' w' => e = .normal ∧ K' a' w') l a w := by
  have nolet : ∀ (K : Act → World → Prop), ¬ LetsOut (fun e a' w' => e = .normal ∧ K a' w') := fun K ⟨_, _, h, _⟩ => by cases h
  induction l generalizing a w with
  | nil => exact ⟨rfl, hK _ _ h.2⟩
  | cons o l ih =>
    unfold wpList at h ⊢
    split
    · rename_i hw
      rw [if_pos hw] at h
      rcases h with h | h
      · left
        unfold Oper.wp at h ⊢
        generalize (execOp a.eval o).run P w = r at *
        cases r with
        | ok n w' =>
          cases n <;> simp only [Oper.upon] at h ⊢
          case value v => exact ih h
          case skip => exact ih h
          case defer => exact ih h
          case enter g args =>
            refine Calls.mono h fun e w'' he => ?_
            cases e with
            | returned v => exact ih he
            | panicked c => exact absurd he.1 (by simp)
            | outgrown => exact absurd he (nolet _)
          case row r args => exact Rows.mono h fun _ _ he => ih he
        | halt x w' =>
          cases x <;> simp only [Oper.upon] at h
          exact absurd h.1 (by simp)
      · exact absurd h.2 (nolet _)
    · rename_i hw
      rw [if_neg hw] at h
      exact ih h

/-- What a block of 'and' | 'or' comes to, in one lemma: 'want': the truth value of a at which the block runs. C: the worlds that it may leave. -/
theorem RunL.blk {tj te n dp : Nat} {want b e : Bool} {rest : List Oper} {ty : TypeId} {pos : String} {af : Array Edge} {gd : Option (Nat × Bool)} {x y : Operand} {C : World → Prop} (hC : C w)
    (hl : look σ tj = some (.bool b)) (hte : look σ te = none)
    (hd : (o :: l).drop n = ⟨some dp, .pick (.tmp tj) x y, ty, pos, af, gd⟩ :: rest)
    (hgd : wantedS ops gd σ = some true)
    (hxy : want = true ∧ x = .tmp te ∧ y = .const (.bool false) ∨ want = false ∧ x = .const (.bool true) ∧ y = .tmp te)
    (hok : blkOk N ops tj want n σ (o :: l) = true) (hdp : dstOk N (some dp) = true)
    (h1 : b = want → RunL P N ops ((o :: l).take n) ((tj, .bool want) :: σ) w (fun a' w' => C w' ∧ Agr N ((te, .bool e) :: (tj, .bool want) :: σ) a'))
    (h2 : ∀ w', C w' → RunL P N ops rest ((dp, .bool (if want then (b && e) else (b || e))) :: σ) w' K) : RunL P N ops (o :: l) σ w K := by
  intro a ha
  obtain ⟨c1, c2, c3⟩ := blkOk_spec hok
  rw [← List.take_append_drop n (o :: l), hd]
  refine wpList_append ?_
  have tail : ∀ a' w', C w' → Agr N σ a' → (b = want → a'.tmps[te]? = some (.bool e)) → wpList P ops.toArray (fun e a' w' => e = .normal ∧ K a' w') (⟨some dp, .pick (.tmp tj) x y, ty, pos, af, gd⟩ :: rest) a' w' := by
    intro a' w' hw' ha' hte
    refine wpList_step fun K' hK' => ?_
    rw [if_pos (wantedS_wanted ha' (o := ⟨some dp, .pick (.tmp tj) x y, ty, pos, af, gd⟩) hgd)]
    have e1 : a'.eval (.tmp tj) = .bool b := by simp [Act.eval, Array.getD_eq_getD_getElem?, ha'.slot _ _ hl]
    have e2 : (if b = true then a'.eval x else a'.eval y) = .bool (if want then (b && e) else (b || e)) := by
      rcases hxy with ⟨rfl, rfl, rfl⟩ | ⟨rfl, rfl, rfl⟩
      · cases b
        · rfl
        · simp [Act.eval, Array.getD_eq_getD_getElem?, hte rfl]
      · cases b
        · simp [Act.eval, Array.getD_eq_getD_getElem?, hte rfl]
        · rfl
    unfold Oper.wp
    simp only [execOp, e1, asBool, Sem.run_bind, Sem.run_pure, Result.andThen_ok, e2, Oper.upon]
    exact hK' _ _ (h2 w' hw' _ (ha'.put (some dp) _ hdp))
  by_cases hb : b = want
  · have h3 := h1 hb a (ha.weaken (fun t v hv => by
      rw [look_cons] at hv
      split at hv
      · rename_i e; subst e; rw [hl, hb]; exact hv
      · exact hv))
    refine wpListN_mono (fun a' w' hq => ?_) h3
    obtain ⟨hq2, hq3⟩ := hq
    have hne : te ≠ tj := by intro e; subst e; rw [hl] at hte; cases hte
    refine tail a' w' hq2 (hq3.weaken (fun t v hv => ?_)) (fun _ => hq3.slot te _ (by simp [look_cons]))
    simp only [look_cons]
    by_cases e' : te = t
    · subst e'; rw [hte] at hv; cases hv
    · rw [if_neg e']
      by_cases e'' : tj = t
      · subst e''; rw [hl] at hv; cases hv; simp [hb]
      · rw [if_neg e'']; exact hv
  · exact wpList_off (b := b) hb _ [] σ a ha hl (fun _ h => by cases h) c1 c2 (dstsOk_spec c3) (fun a' ha' => ⟨rfl, tail a' w hC ha' (fun h => absurd h hb)⟩)

/-- 'a && b': the block of b runs if a holds. The world stays. -/
theorem RunL.andB {tj te n dp : Nat} {b e : Bool} {rest : List Oper} {ty : TypeId} {pos : String} {af : Array Edge} {gd : Option (Nat × Bool)}
    (hg : gslot ops o = some (tj, true)) (hl : look σ tj = some (.bool b)) (hn : cutPick tj (o :: l) = some n)
    (hd : (o :: l).drop n = ⟨some dp, .pick (.tmp tj) (.tmp te) (.const (.bool false)), ty, pos, af, gd⟩ :: rest)
    (hgd : wantedS ops gd σ = some true) (hte : look σ te = none) (hok : blkOk N ops tj true n σ (o :: l) = true) (hdp : dstOk N (some dp) = true)
    (h1 : b = true → RunL P N ops ((o :: l).take n) ((tj, .bool true) :: σ) w (fun a' w' => w' = w ∧ Agr N ((te, .bool e) :: (tj, .bool true) :: σ) a'))
    (h2 : RunL P N ops rest ((dp, .bool (b && e)) :: σ) w K) : RunL P N ops (o :: l) σ w K :=
  RunL.blk (want := true) (C := fun w' => w' = w) rfl hl hte hd hgd (.inl ⟨rfl, rfl, rfl⟩) hok hdp h1 (fun _ hw => by subst hw; exact h2)

/-- 'a || b'. -/
theorem RunL.orB {tj te n dp : Nat} {b e : Bool} {rest : List Oper} {ty : TypeId} {pos : String} {af : Array Edge} {gd : Option (Nat × Bool)}
    (hg : gslot ops o = some (tj, false)) (hl : look σ tj = some (.bool b)) (hn : cutPick tj (o :: l) = some n)
    (hd : (o :: l).drop n = ⟨some dp, .pick (.tmp tj) (.const (.bool true)) (.tmp te), ty, pos, af, gd⟩ :: rest)
    (hgd : wantedS ops gd σ = some true) (hte : look σ te = none) (hok : blkOk N ops tj false n σ (o :: l) = true) (hdp : dstOk N (some dp) = true)
    (h1 : b = false → RunL P N ops ((o :: l).take n) ((tj, .bool false) :: σ) w (fun a' w' => w' = w ∧ Agr N ((te, .bool e) :: (tj, .bool false) :: σ) a'))
    (h2 : RunL P N ops rest ((dp, .bool (b || e)) :: σ) w K) : RunL P N ops (o :: l) σ w K :=
  RunL.blk (want := false) (C := fun w' => w' = w) rfl hl hte hd hgd (.inr ⟨rfl, rfl, rfl⟩) hok hdp h1 (fun _ hw => by subst hw; exact h2)

/-- 'a && b' where b calls: the world may have grown. -/
theorem RunL.andE {tj te n dp : Nat} {b e : Bool} {rest : List Oper} {ty : TypeId} {pos : String} {af : Array Edge} {gd : Option (Nat × Bool)}
    (hg : gslot ops o = some (tj, true)) (hl : look σ tj = some (.bool b)) (hn : cutPick tj (o :: l) = some n)
    (hd : (o :: l).drop n = ⟨some dp, .pick (.tmp tj) (.tmp te) (.const (.bool false)), ty, pos, af, gd⟩ :: rest)
    (hgd : wantedS ops gd σ = some true) (hte : look σ te = none) (hok : blkOk N ops tj true n σ (o :: l) = true) (hdp : dstOk N (some dp) = true)
    (h1 : b = true → RunL P N ops ((o :: l).take n) ((tj, .bool true) :: σ) w (fun a' w' => Below w.heap.size w w' ∧ Agr N ((te, .bool e) :: (tj, .bool true) :: σ) a'))
    (h2 : ∀ w', Below w.heap.size w w' → RunL P N ops rest ((dp, .bool (b && e)) :: σ) w' K) : RunL P N ops (o :: l) σ w K :=
  RunL.blk (want := true) (C := fun w' => Below w.heap.size w w') (Below.refl _ _) hl hte hd hgd (.inl ⟨rfl, rfl, rfl⟩) hok hdp h1 h2

theorem RunL.orE {tj te n dp : Nat} {b e : Bool} {rest : List Oper} {ty : TypeId} {pos : String} {af : Array Edge} {gd : Option (Nat × Bool)}
    (hg : gslot ops o = some (tj, false)) (hl : look σ tj = some (.bool b)) (hn : cutPick tj (o :: l) = some n)
    (hd : (o :: l).drop n = ⟨some dp, .pick (.tmp tj) (.const (.bool true)) (.tmp te), ty, pos, af, gd⟩ :: rest)
    (hgd : wantedS ops gd σ = some true) (hte : look σ te = none) (hok : blkOk N ops tj false n σ (o :: l) = true) (hdp : dstOk N (some dp) = true)
    (h1 : b = false → RunL P N ops ((o :: l).take n) ((tj, .bool false) :: σ) w (fun a' w' => Below w.heap.size w w' ∧ Agr N ((te, .bool e) :: (tj, .bool false) :: σ) a'))
    (h2 : ∀ w', Below w.heap.size w w' → RunL P N ops rest ((dp, .bool (b || e)) :: σ) w' K) : RunL P N ops (o :: l) σ w K :=
  RunL.blk (want := false) (C := fun w' => Below w.heap.size w w') (Below.refl _ _) hl hte hd hgd (.inr ⟨rfl, rfl, rfl⟩) hok hdp h1 h2

/-- Behind a block: strike what it wrote down to the store that it began with. -/
def popTo : Nat → Store → Option Store
  | 0, σ => some σ
  | n + 1, (t, _) :: σ => match look σ t with
    | none => popTo n σ
    | some _ => none
  | _ + 1, [] => none

theorem popTo_spec : ∀ {n : Nat} {σ σ' : Store}, popTo n σ = some σ' → ∀ t v, look σ' t = some v → look σ t = some v
  | 0, σ, σ', h, t, v, hv => by simp [popTo] at h; subst h; exact hv
  | n + 1, (u, x) :: σ, σ', h, t, v, hv => by
    simp only [popTo] at h
    split at h
    · rename_i hn
      have := popTo_spec h t v hv
      rw [look_cons]
      split
      · rename_i e; subst e; rw [hn] at this; cases this
      · exact this
    · cases h
  | _ + 1, [], _, h, _, _, _ => by simp [popTo] at h

def lenS : Store → Nat
  | [] => 0
  | _ :: r => lenS r + 1

theorem RunL.blkEnd {te : Nat} {e : Bool} {σ₀ : Store} (he : look σ te = some (.bool e)) (hp : popTo (lenS σ - lenS σ₀) σ = some σ₀) : RunL P N ops [] σ w (fun a' w' => w' = w ∧ Agr N ((te, .bool e) :: σ₀) a') :=
  fun a ha => wpList_nil ⟨rfl, rfl, ha.weaken (fun t v hv => by
    rw [look_cons] at hv
    split at hv
    · rename_i e'; subst e'; cases hv; exact he
    · exact popTo_spec hp t v hv)⟩

theorem RunL.blkEndE {te : Nat} {e : Bool} {σ₀ : Store} {w₀ : World} (he : look σ te = some (.bool e)) (hp : popTo (lenS σ - lenS σ₀) σ = some σ₀) (hb : Below w₀.heap.size w₀ w) : RunL P N ops [] σ w (fun a' w' => Below w₀.heap.size w₀ w' ∧ Agr N ((te, .bool e) :: σ₀) a') :=
  fun a ha => wpList_nil ⟨rfl, hb, ha.weaken (fun t v hv => by
    rw [look_cons] at hv
    split at hv
    · rename_i e'; subst e'; cases hv; exact he
    · exact popTo_spec hp t v hv)⟩

/-! ### Regions that draw their order: each operation yields one value in every world of a class -/
def RunQ (P : Program) (N : Nat) (C : World → Prop) (ops l : List Oper) (σ : Store) (K : Act → Prop) : Prop :=
  ∀ a, Agr N σ a → wpQuiet P ops.toArray C K l a

theorem Run.regionQ {id : Nat} (hm : P.follows .mixedOrders = true) (hB : Region.lexB .any ops.toArray = true)
    (h : RunQ P N (fun w' => Below w.heap.size w w') ops ops σ (fun a' => ∀ w', Below w.heap.size w w' → CRun P f k R a' w')) : Run P f N (.code (.region id ops.toArray true) :: k) σ w R := by
  intro a ha
  refine CRun.of_wp (wp_region_quiet (C := fun w' => Below w.heap.size w w') hm hB ⟨rfl, rfl, rfl, Nat.le_refl _, fun _ _ => rfl⟩ ?_)
  have := h a ha
  have mono : ∀ {l : List Oper} {a : Act} {K K' : Act → Prop}, (∀ a, K a → K' a) → wpQuiet P ops.toArray (fun w' => Below w.heap.size w w') K l a → wpQuiet P ops.toArray (fun w' => Below w.heap.size w w') K' l a := by
    intro l
    induction l with
    | nil => intro a K K' hK h; exact hK _ h
    | cons o l ih =>
      intro a K K' hK h
      unfold wpQuiet at h ⊢
      split
      · rename_i hw; rw [if_pos hw] at h
        exact Oper.quiet_mono (fun a h => ih hK h) h
      · rename_i hw; rw [if_neg hw] at h
        exact ih hK h
  exact mono (fun a' h w' hw' => ⟨rfl, h w' hw'⟩) this

section
variable {C : World → Prop} {KQ : Act → Prop}
theorem RunQ.nil {w : World} (h : ∀ w', Below w.heap.size w w' → Run P f N k σ w' R) : RunQ P N C ops [] σ (fun a' => ∀ w', Below w.heap.size w w' → CRun P f k R a' w') :=
  fun a ha w' hw' => h w' hw' a ha

theorem RunQ.opG {v : Value} (hs : stat N ops o σ = true) (hr : ∀ w, C w → (execOp (evO σ) o).run P w = .ok (.value v) w) (h : RunQ P N C ops l (putS σ o.dst v) KQ) : RunQ P N C ops (o :: l) σ KQ := by
  intro a ha
  obtain ⟨h1, h2, h3, h4⟩ := stat_spec hs
  refine wpQuiet_step fun K' hK' => ?_
  rw [if_pos (wantedS_wanted ha h4)]
  refine ⟨v, fun w hw => ?_, hK' _ (h _ (ha.put o.dst v h3))⟩
  unfold Oper.quietAt
  rw [evalAt ha o h1 h2, hr w hw]
  exact ⟨rfl, rfl⟩

theorem RunQ.op {v : Value} {d : Nat} {op : Op} {ty : TypeId} {pos : String} {af : Array Edge} {gd : Option (Nat × Bool)} (hs : stat N ops ⟨some d, op, ty, pos, af, gd⟩ σ = true)
    (hr : ∀ w, C w → (execOp (evO σ) ⟨some d, op, ty, pos, af, gd⟩).run P w = .ok (.value v) w) (h : RunQ P N C ops l ((d, v) :: σ) KQ) : RunQ P N C ops (⟨some d, op, ty, pos, af, gd⟩ :: l) σ KQ :=
  RunQ.opG hs hr h

theorem RunQ.skip {d : Nat} {op : Op} {ty : TypeId} {pos : String} {af : Array Edge} {gd : Option (Nat × Bool)} (hw : wantedS ops gd σ = some false) (hd : dstOk N (some d) = true)
    (h : RunQ P N C ops l ((d, undef) :: σ) KQ) : RunQ P N C ops (⟨some d, op, ty, pos, af, gd⟩ :: l) σ KQ := by
  intro a ha
  refine wpQuiet_step fun K' hK' => ?_
  rw [wantedS_wanted ha (o := ⟨some d, op, ty, pos, af, gd⟩) hw]
  exact hK' _ (h _ (ha.put (some d) undef hd))

/-- A call that hands back one value, whatever world of the class it is made in. -/
theorem RunQ.call {g : FuncId} {d : Nat} {v : Value} {args : List Operand} {a1 : List Value} {tys : Array TypeId} {ty : TypeId} {pos : String} {af : Array Edge} {gd : Option (Nat × Bool)} (hg : IsFn P g)
    (hs : stat N ops ⟨some d, .call ⟨.value (.func g), args.toArray, tys⟩, ty, pos, af, gd⟩ σ = true) (ha : vals σ args = some a1)
    (hc : ∀ w, C w → Calls P g a1.toArray w fun e w' => e = .returned v ∧ C w')
    (h : RunQ P N C ops l ((d, v) :: σ) KQ) : RunQ P N C ops (⟨some d, .call ⟨.value (.func g), args.toArray, tys⟩, ty, pos, af, gd⟩ :: l) σ KQ := by
  intro a hag
  obtain ⟨h1, h2, h3, h4⟩ := stat_spec hs
  obtain ⟨fn, c, hf, hb, hn⟩ := hg.out
  refine wpQuiet_step fun K' hK' => ?_
  rw [if_pos (wantedS_wanted hag h4)]
  refine ⟨v, fun w hw => ?_, hK' _ (h _ (hag.put (some d) v h3))⟩
  unfold Oper.quietAt
  have := (run_call (P := P) (w := w) (d := some d) (tys := tys) (ty := ty) (pos := pos) (af := af) (gd := gd) (args := args) (evO σ) hf hb hn).resolve_right (fun h => h rfl)
  rw [vals_eq ha] at this
  rw [evalAt hag _ h1 h2, this]
  exact ⟨rfl, hc w hw⟩

theorem wpQuiet_append {l₁ l₂ : List Oper} {a : Act} (h : wpQuiet P ops.toArray C (fun a' => wpQuiet P ops.toArray C KQ l₂ a') l₁ a) : wpQuiet P ops.toArray C KQ (l₁ ++ l₂) a := by
  induction l₁ generalizing a with
  | nil => exact h
  | cons o l ih =>
    rw [List.cons_append]
    unfold wpQuiet at h ⊢
    split
    · rename_i hw; rw [if_pos hw] at h
      exact Oper.quiet_mono (fun a h => ih h) h
    · rename_i hw; rw [if_neg hw] at h
      exact ih h

theorem wpQuiet_mono {l : List Oper} {a : Act} {K K' : Act → Prop} (hK : ∀ a, K a → K' a) (h : wpQuiet P ops.toArray C K l a) : wpQuiet P ops.toArray C K' l a := by
  induction l generalizing a with
  | nil => exact hK _ h
  | cons o l ih =>
    unfold wpQuiet at h ⊢
    split
    · rename_i hw; rw [if_pos hw] at h
      exact Oper.quiet_mono (fun a h => ih h) h
    · rename_i hw; rw [if_neg hw] at h
      exact ih h

theorem wpQuiet_off {tj : Nat} {want b : Bool} (hb : b ≠ want) {Q : Act → Prop} : ∀ (l : List Oper) (T : List Nat) (σ : Store) (a : Act), Agr N σ a → look σ tj = some (.bool b) →
    (∀ t ∈ T, a.tmps[t]? = some undef) → allOff ops tj want l T = true → newTo σ l = true → (∀ o ∈ l, dstOk N o.dst = true) →
    (∀ a', Agr N σ a' → Q a') → wpQuiet P ops.toArray C Q l a := by
  intro l
  induction l with
  | nil => intro T σ a ha _ _ _ _ _ h; exact h a ha
  | cons o l ih =>
    intro T σ a ha hl hT hoff hnew hN h
    simp only [allOff] at hoff
    have hNo := hN o (List.mem_cons_self ..)
    split at hoff
    · rename_i j wt d hg hd
      split at hoff
      · rename_i oj hoj
        split at hoff
        · rename_i t ht
          split at hoff
          · rename_i h1 h2
            have hnw : Region.wanted o (yielded ops.toArray a.tmps) = false := by
              unfold Region.wanted
              rw [hg]
              simp only [yielded]
              rw [nth_eq] at hoj
              simp only [Bool.or_eq_true, Bool.and_eq_true] at h1
              rcases h1 with ⟨e1, e2⟩ | e1
              · have e3 := Nat.eq_of_beq_eq_true e1
                have e4 := eq_of_beq e2
                subst e3; subst e4
                simp [hoj, ht, ha.slot t _ hl, hb]
              · have := hT t (natIn_mem e1)
                simp [hoj, ht, this, undef]
            simp only [wpQuiet, hnw]
            simp only [newTo, hd] at hnew
            split at hnew
            · rename_i hlk
              have hdl : d < N := by rw [hd] at hNo; exact Nat.le_of_ble_eq_true hNo
              have hput : Agr N σ (a.put o.dst undef) := by
                refine ⟨by rw [hd]; exact ha.defers, by rw [hd]; simp [Act.put, ha.size], fun t' u hu => ?_⟩
                have : d ≠ t' := by intro e; subst e; rw [hlk] at hu; cases hu
                rw [hd]; simp only [Act.put]; rw [Array.getElem?_setIfInBounds_ne this]; exact ha.slot t' u hu
              refine ih (d :: T) σ _ hput hl ?_ hoff hnew (fun o ho => hN o (List.mem_cons_of_mem _ ho)) h
              intro t' ht'
              rw [hd]; simp only [Act.put]
              by_cases e : d = t'
              · subst e; simp [ha.size, hdl]
              · rw [Array.getElem?_setIfInBounds_ne e]
                rcases List.mem_cons.1 ht' with e' | ht'
                · exact absurd e'.symm e
                · exact hT t' ht'
            · cases hnew
          · cases hoff
        · cases hoff
      · cases hoff
    · cases hoff

theorem RunQ.blk {tj te n dp : Nat} {want b e : Bool} {rest : List Oper} {ty : TypeId} {pos : String} {af : Array Edge} {gd : Option (Nat × Bool)} {x y : Operand}
    (hl : look σ tj = some (.bool b)) (hte : look σ te = none)
    (hd : (o :: l).drop n = ⟨some dp, .pick (.tmp tj) x y, ty, pos, af, gd⟩ :: rest)
    (hgd : wantedS ops gd σ = some true)
    (hxy : want = true ∧ x = .tmp te ∧ y = .const (.bool false) ∨ want = false ∧ x = .const (.bool true) ∧ y = .tmp te)
    (hok : blkOk N ops tj want n σ (o :: l) = true) (hdp : dstOk N (some dp) = true)
    (h1 : b = want → RunQ P N C ops ((o :: l).take n) ((tj, .bool want) :: σ) (fun a' => Agr N ((te, .bool e) :: (tj, .bool want) :: σ) a'))
    (h2 : RunQ P N C ops rest ((dp, .bool (if want then (b && e) else (b || e))) :: σ) KQ) : RunQ P N C ops (o :: l) σ KQ := by
  intro a ha
  obtain ⟨c1, c2, c3⟩ := blkOk_spec hok
  rw [← List.take_append_drop n (o :: l), hd]
  refine wpQuiet_append ?_
  have tail : ∀ a', Agr N σ a' → (b = want → a'.tmps[te]? = some (.bool e)) → wpQuiet P ops.toArray C KQ (⟨some dp, .pick (.tmp tj) x y, ty, pos, af, gd⟩ :: rest) a' := by
    intro a' ha' hte
    refine wpQuiet_step fun K' hK' => ?_
    rw [if_pos (wantedS_wanted ha' (o := ⟨some dp, .pick (.tmp tj) x y, ty, pos, af, gd⟩) hgd)]
    have e1 : a'.eval (.tmp tj) = .bool b := by simp [Act.eval, Array.getD_eq_getD_getElem?, ha'.slot _ _ hl]
    have e2 : (if b = true then a'.eval x else a'.eval y) = .bool (if want then (b && e) else (b || e)) := by
      rcases hxy with ⟨rfl, rfl, rfl⟩ | ⟨rfl, rfl, rfl⟩
      · cases b
        · rfl
        · simp [Act.eval, Array.getD_eq_getD_getElem?, hte rfl]
      · cases b
        · simp [Act.eval, Array.getD_eq_getD_getElem?, hte rfl]
        · rfl
    refine ⟨_, fun w _ => ?_, hK' _ (h2 _ (ha'.put (some dp) _ hdp))⟩
    unfold Oper.quietAt
    simp only [execOp, e1, asBool, Sem.run_bind, Sem.run_pure, Result.andThen_ok, e2, Oper.quietUpon]
    exact ⟨trivial, trivial⟩
  by_cases hb : b = want
  · have h3 := h1 hb a (ha.weaken (fun t v hv => by
      rw [look_cons] at hv
      split at hv
      · rename_i e; subst e; rw [hl, hb]; exact hv
      · exact hv))
    refine wpQuiet_mono (fun a' hq3 => ?_) h3
    have hne : te ≠ tj := by intro e; subst e; rw [hl] at hte; cases hte
    refine tail a' (hq3.weaken (fun t v hv => ?_)) (fun _ => hq3.slot te _ (by simp [look_cons]))
    simp only [look_cons]
    by_cases e' : te = t
    · subst e'; rw [hte] at hv; cases hv
    · rw [if_neg e']
      by_cases e'' : tj = t
      · subst e''; rw [hl] at hv; cases hv; simp [hb]
      · rw [if_neg e'']; exact hv
  · exact wpQuiet_off (b := b) hb _ [] σ a ha hl (fun _ h => by cases h) c1 c2 (dstsOk_spec c3) (fun a' ha' => tail a' ha' (fun h => absurd h hb))

theorem RunQ.andB {tj te n dp : Nat} {b e : Bool} {rest : List Oper} {ty : TypeId} {pos : String} {af : Array Edge} {gd : Option (Nat × Bool)}
    (hg : gslot ops o = some (tj, true)) (hl : look σ tj = some (.bool b)) (hn : cutPick tj (o :: l) = some n)
    (hd : (o :: l).drop n = ⟨some dp, .pick (.tmp tj) (.tmp te) (.const (.bool false)), ty, pos, af, gd⟩ :: rest)
    (hgd : wantedS ops gd σ = some true) (hte : look σ te = none) (hok : blkOk N ops tj true n σ (o :: l) = true) (hdp : dstOk N (some dp) = true)
    (h1 : b = true → RunQ P N C ops ((o :: l).take n) ((tj, .bool true) :: σ) (fun a' => Agr N ((te, .bool e) :: (tj, .bool true) :: σ) a'))
    (h2 : RunQ P N C ops rest ((dp, .bool (b && e)) :: σ) KQ) : RunQ P N C ops (o :: l) σ KQ :=
  RunQ.blk (want := true) hl hte hd hgd (.inl ⟨rfl, rfl, rfl⟩) hok hdp h1 h2

theorem RunQ.orB {tj te n dp : Nat} {b e : Bool} {rest : List Oper} {ty : TypeId} {pos : String} {af : Array Edge} {gd : Option (Nat × Bool)}
    (hg : gslot ops o = some (tj, false)) (hl : look σ tj = some (.bool b)) (hn : cutPick tj (o :: l) = some n)
    (hd : (o :: l).drop n = ⟨some dp, .pick (.tmp tj) (.const (.bool true)) (.tmp te), ty, pos, af, gd⟩ :: rest)
    (hgd : wantedS ops gd σ = some true) (hte : look σ te = none) (hok : blkOk N ops tj false n σ (o :: l) = true) (hdp : dstOk N (some dp) = true)
    (h1 : b = false → RunQ P N C ops ((o :: l).take n) ((tj, .bool false) :: σ) (fun a' => Agr N ((te, .bool e) :: (tj, .bool false) :: σ) a'))
    (h2 : RunQ P N C ops rest ((dp, .bool (b || e)) :: σ) KQ) : RunQ P N C ops (o :: l) σ KQ :=
  RunQ.blk (want := false) hl hte hd hgd (.inr ⟨rfl, rfl, rfl⟩) hok hdp h1 h2

theorem RunQ.blkEnd {te : Nat} {e : Bool} {σ₀ : Store} (he : look σ te = some (.bool e)) (hp : popTo (lenS σ - lenS σ₀) σ = some σ₀) : RunQ P N C ops [] σ (fun a' => Agr N ((te, .bool e) :: σ₀) a') :=
  fun a ha => ha.weaken (fun t v hv => by
    rw [look_cons] at hv
    split at hv
    · rename_i e'; subst e'; cases hv; exact he
    · exact popTo_spec hp t v hv)

/-! ### Regions that draw their order: reads and calls that leave the world alone, then a tail that all of them feed -/
theorem wpStill_of_quiet {w1 : World} {KQ : Act → Prop} : ∀ {l : List Oper} {a : Act}, wpQuiet P ops.toArray (fun w' => w' = w1) KQ l a → wpStill P ops.toArray w1 KQ l a
  | [], _, h => h
  | o :: l, a, h => by
    unfold wpQuiet at h
    unfold wpStill
    split
    · rename_i hw; rw [if_pos hw] at h
      obtain ⟨v, h1, h2⟩ := h
      have h3 := h1 w1 rfl
      unfold Oper.quietAt at h3
      unfold Oper.still
      generalize (execOp a.eval o).run P w1 = r at *
      cases r with
      | ok n w' =>
        cases n <;> simp only [Oper.quietUpon] at h3 <;> simp only [Oper.stillUpon]
        case value u => obtain ⟨e1, e2⟩ := h3; rw [e2]; exact ⟨e1, wpStill_of_quiet h2⟩
        case skip => obtain ⟨e1, e2⟩ := h3; rw [← e2]; exact ⟨e1, wpStill_of_quiet h2⟩
        case enter f args => obtain ⟨e1, hc⟩ := h3; exact ⟨e1, v, hc, wpStill_of_quiet h2⟩
      | halt x w' => simp only [Oper.quietUpon] at h3
    · rename_i hw; rw [if_neg hw] at h
      exact wpStill_of_quiet h

theorem Run.regionT (n : Nat) {id : Nat} (hm : P.follows .mixedOrders = true) (hB : Region.lexTailB .any ops.toArray n = true)
    (h : ∀ w1, Below w.heap.size w w1 → w1.heap = w.heap → RunQ P N (fun w' => w' = w1) ops (ops.take n) σ (fun a' => wpList P ops.toArray (fun e a' w' => e = .normal ∧ CRun P f k R a' w') (ops.drop n) a' w1)) : Run P f N (.code (.region id ops.toArray true) :: k) σ w R := by
  intro a ha
  refine CRun.of_wp (wp_region_still_tail n hm hB (wpStill_of_quiet ?_))
  exact h { w with drawn := w.drawn + 1 } ⟨rfl, rfl, rfl, Nat.le_refl _, fun _ _ => rfl⟩ rfl a ha

theorem RunQ.tail {w1 : World} {l' : List Oper} (h : RunL P N ops l' σ w1 K) : RunQ P N C ops [] σ (fun a' => wpList P ops.toArray (fun e a' w' => e = .normal ∧ K a' w') l' a' w1) :=
  fun a ha => h a ha
end
end
end Go.GX
