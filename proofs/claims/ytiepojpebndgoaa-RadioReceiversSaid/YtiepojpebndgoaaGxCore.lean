/- A small machine of rules for running a translated function: a store of known slots, a list of things still to do, one rule a construct. Conditions: none. -/
import Derived.WalkKit
import Derived.WalkSpells
import Derived.WalkLawsBesides
import Derived.Orders
import Derived.Deep.Quiet
import Derived.StillTail
namespace Go.GX
set_option linter.unusedVariables false
set_option linter.unusedSectionVars false
set_option linter.unusedSimpArgs false
open Go.RowKit

abbrev Store := List (Nat × Value)

def look : Store → Nat → Option Value
  | [], _ => none
  | (t, v) :: r, x => match Nat.beq t x with
    | true => some v
    | false => look r x

def evO (σ : Store) : Operand → Value
  | .tmp t => match look σ t with
    | some v => v
    | none => undef
  | .const v => v
  | .global g => .pointer (some ⟨g, 0, none⟩)
  | .func f => .func (.func f) #[] #[]

def knows (σ : Store) : Operand → Bool
  | .tmp t => match look σ t with
    | some _ => true
    | none => false
  | _ => true

/-- The frame holds what the store says. -/
structure Agr (N : Nat) (σ : Store) (a : Act) : Prop where
  defers : a.defers = []
  size : a.tmps.size = N
  slot : ∀ t v, look σ t = some v → a.tmps[t]? = some v

def putS (σ : Store) (d : Option Tmp) (v : Value) : Store :=
  match d with
  | some d => (d, v) :: σ
  | none => σ

def dstOk (N : Nat) : Option Tmp → Bool
  | some d => Nat.blt d N
  | none => true

theorem look_cons (t : Nat) (v : Value) (σ : Store) (x : Nat) : look ((t, v) :: σ) x = if t = x then some v else look σ x := by
  conv => lhs; unfold look
  by_cases h : t = x
  · subst h; simp [Nat.beq_refl]
  · have : Nat.beq t x = false := by rw [← Bool.not_eq_true]; intro h'; exact h (Nat.eq_of_beq_eq_true h')
    simp only [this, if_neg h]

theorem Agr.put {N : Nat} {σ : Store} {a : Act} (h : Agr N σ a) (d : Option Tmp) (v : Value) (hd : dstOk N d = true) : Agr N (putS σ d v) (a.put d v) := by
  cases d with
  | none => exact h
  | some d =>
    refine ⟨h.defers, by simp [Act.put, h.size], fun t u hu => ?_⟩
    simp only [putS, look_cons] at hu
    have hlt : d < a.tmps.size := by rw [h.size]; exact Nat.le_of_ble_eq_true hd
    split at hu
    · rename_i e; subst e; cases hu; simp [Act.put, hlt]
    · rename_i ne; simp only [Act.put]; rw [Array.getElem?_setIfInBounds_ne ne]; exact h.slot t u hu

theorem Agr.eval {N : Nat} {σ : Store} {a : Act} (h : Agr N σ a) (x : Operand) (hk : knows σ x = true) : a.eval x = evO σ x := by
  cases x with
  | tmp t =>
    simp only [knows] at hk
    simp only [evO, Act.eval]
    cases hl : look σ t with
    | none => simp [hl] at hk
    | some v => simp [Array.getD_eq_getD_getElem?, h.slot t v hl]
  | const v => rfl
  | global g => rfl
  | func f => rfl

theorem Agr.weaken {N : Nat} {σ σ' : Store} {a : Act} (h : Agr N σ a) (hs : ∀ t v, look σ' t = some v → look σ t = some v) : Agr N σ' a :=
  ⟨h.defers, h.size, fun t v hv => h.slot t v (hs t v hv)⟩

/-- The operands of an operation, as a list that reduces. -/
def opsL : Op → List Operand
  | .alloc _ | .ready _ | .waits _ => []
  | .move x | .assign x | .box _ x | .load _ x | .nilCheck x | .unOp _ _ x | .convert _ _ x | .sliceToArrayPointer _ x | .makeInterface _ x
  | .makeChan _ x | .fieldAddr _ x _ | .field _ x _ | .range _ x | .next x _ | .entry x | .typeAssert x _ _ _ | .extract x _ | .panic x | .recv _ x _ => [x]
  | .pick c a b => [c, a, b]
  | .build _ ps | .buildSlice _ _ ps => ps.toList.map (·.2)
  | .store _ a v | .binOp _ _ a v _ | .makeSlice _ a v | .indexAddr _ a v | .index _ a v | .lookup _ a v _ | .mapEntry _ a v | .send a v => [a, v]
  | .makeFunc _ first captured => first.toList ++ captured.toList
  | .makeMap _ r => r.toList
  | .slice _ x l h m => [x] ++ l.toList ++ h.toList ++ m.toList
  | .mapUpdate _ m k v | .entryStore _ m k v | .insert _ m k v => [m, k, v]
  | .call c | .go c | .defer c => (match c.callee with | .value f => [f] | .invoke r _ => [r] | .builtin _ => []) ++ c.args.toList
  | .select _ _ => []

def notSelect : Op → Bool
  | .select _ _ => false
  | _ => true

def allKnown (σ : Store) : List Operand → Bool
  | [] => true
  | x :: r => match knows σ x with
    | true => allKnown σ r
    | false => false

theorem allKnown_mem {σ : Store} {l : List Operand} (h : allKnown σ l = true) : ∀ x ∈ l, knows σ x = true := by
  induction l with
  | nil => intro x hx; cases hx
  | cons y l ih =>
    intro x hx
    unfold allKnown at h
    split at h
    · rename_i hy
      rcases List.mem_cons.1 hx with rfl | hx
      · exact hy
      · exact ih h x hx
    · cases h

theorem opsL_mem (o : Op) (hs : notSelect o = true) : ∀ x ∈ o.operands, x ∈ opsL o := by
  intro x hx
  cases o <;> simp_all [Op.operands, opsL, Call.operands, notSelect] <;> grind

theorem evalAt {N : Nat} {σ : Store} {a : Act} (h : Agr N σ a) (o : Oper) (hs : notSelect o.op = true) (hk : allKnown σ (opsL o.op) = true) : execOp a.eval o = execOp (evO σ) o := by
  refine execOp_congr o (fun cs b e => by rw [e] at hs; cases hs) fun x hx => ?_
  exact h.eval x (allKnown_mem hk x (opsL_mem o.op hs x hx))

def nth : List Oper → Nat → Option Oper
  | [], _ => none
  | o :: _, 0 => some o
  | _ :: r, n + 1 => nth r n

theorem nth_eq (l : List Oper) (n : Nat) : nth l n = l[n]? := by
  induction l generalizing n with
  | nil => simp [nth]
  | cons o l ih => cases n <;> simp [nth, ih]

/-- Is the operation to be carried out? 'none': it is not known. -/
def wantedS (ops : List Oper) (g : Option (Nat × Bool)) (σ : Store) : Option Bool :=
  match g with
  | none => some true
  | some (j, want) => match nth ops j with
    | some o => match o.dst with
      | some t => match look σ t with
        | some (.bool b) => match b, want with
          | true, true => some true
          | false, false => some true
          | true, false => some false
          | false, true => some false
        | some (.tuple _) => some false
        | _ => none
      | none => none
    | none => none

theorem wantedS_wanted {N : Nat} {ops : List Oper} {o : Oper} {σ : Store} {a : Act} (h : Agr N σ a) {b : Bool} (hw : wantedS ops o.guard σ = some b) : Region.wanted o (yielded ops.toArray a.tmps) = b := by
  unfold Region.wanted
  cases hg : o.guard with
  | none => rw [hg] at hw; simpa [wantedS] using hw
  | some gw =>
    obtain ⟨j, want⟩ := gw
    rw [hg] at hw
    simp only [wantedS, nth_eq] at hw
    simp only [yielded]
    cases ho : ops[j]? with
    | none => simp [ho] at hw
    | some oj =>
      simp only [ho] at hw
      cases hd : oj.dst with
      | none => simp [hd] at hw
      | some t =>
        simp only [hd] at hw
        cases hl : look σ t with
        | none => simp [hl] at hw
        | some v =>
          simp only [hl] at hw
          have := h.slot t _ hl
          cases v <;> simp at hw
          · simp [ho, hd, this]
            rename_i c
            cases c <;> cases want <;> simp_all
          · simp [ho, hd, this]
            exact hw

/-! ### Runs -/

/-- The rest of the function's work, 'k', from a frame's state 'a' and a world 'w' on, ends in 'R'. -/
def CRun (P : Program) (f : FuncId) (k : List Item) (R : Ending → World → Prop) (a : Act) (w : World) : Prop :=
  ∀ (b : Frame) (cs : List Frame), b.fn = f → b.kind = .normal → ∃ e w' fr, R e w' ∧ Comes P (lone (b.at a k) cs w) (lone fr cs w') e ∧ fr.fn = f ∧ fr.leaving P w' e

def Run (P : Program) (f : FuncId) (N : Nat) (k : List Item) (σ : Store) (w : World) (R : Ending → World → Prop) : Prop :=
  ∀ a, Agr N σ a → CRun P f k R a w

section
variable {P : Program} {f : FuncId} {N : Nat} {k : List Item} {σ : Store} {w : World} {R : Ending → World → Prop}

theorem CRun.of_steps {a a' : Act} {w' : World} {k' : List Item} (hs : ∀ (b : Frame) (cs : List Frame), Steps P (lone (b.at a k) cs w) (lone (b.at a' k') cs w')) (h : CRun P f k' R a' w') : CRun P f k R a w := by
  intro b cs hb hk
  obtain ⟨e, w'', fr, hR, hc, hf, hl⟩ := h b cs hb hk
  exact ⟨e, w'', fr, hR, Comes.of_steps (hs b cs) hc, hf, hl⟩

theorem calls_of_run {fn : Func} {c : Code} {args : Array Value} (hf : P.funcs[f]? = some fn) (hb : fn.body = some c) (hN : args.size ≤ fn.ntmps)
    (h : Run P f fn.ntmps [.code c] (args.toList.zipIdx.map fun (v, i) => (i, v)) w R) : Calls P f args w R := by
  intro cs
  let b : Frame := { (default : Frame) with fn := f, kind := .normal }
  have henter : Frame.enter P f args .normal = b.at { tmps := args ++ Array.replicate (fn.ntmps - args.size) undef, defers := [] } [.code c] := by
    simp [Frame.enter, Frame.at, hf, hb, b]
  rw [henter]
  have lk : ∀ (l : List Value) (s t : Nat) (v : Value), look ((l.zipIdx s).map fun (v, i) => (i, v)) t = some v → s ≤ t ∧ l[t - s]? = some v := by
    intro l
    induction l with
    | nil => intro s t v h; simp [look] at h
    | cons u l ih =>
      intro s t v h
      simp only [List.zipIdx_cons, List.map_cons, look_cons] at h
      split at h
      · rename_i e; subst e; cases h; simp
      · rename_i ne
        obtain ⟨h1, h2⟩ := ih (s + 1) t v h
        refine ⟨by omega, ?_⟩
        have : t - s = (t - (s + 1)) + 1 := by omega
        rw [this, List.getElem?_cons_succ]; exact h2
  refine h _ ⟨rfl, by simp; omega, fun t v hv => ?_⟩ b cs rfl rfl
  obtain ⟨_, h2⟩ := lk args.toList 0 t v hv
  simp only [Nat.sub_zero, Array.getElem?_toList] at h2
  have hlt : t < args.size := (Array.getElem?_eq_some_iff.1 h2).1
  rw [Array.getElem?_append_left hlt]; exact h2

theorem Run.seq {x y : Code} (h : Run P f N (.code x :: .code y :: k) σ w R) : Run P f N (.code (.seq x y) :: k) σ w R :=
  fun a ha => .of_steps (fun _ _ => .one step_seq) (h a ha)
theorem Run.skip (h : Run P f N k σ w R) : Run P f N (.code .skip :: k) σ w R := fun a ha => .of_steps (fun _ _ => .one step_skip) (h a ha)
theorem Run.inBlock {id : Nat} (h : Run P f N k σ w R) : Run P f N (.inBlock id :: k) σ w R := fun a ha => .of_steps (fun _ _ => .one step_inBlock) (h a ha)
theorem Run.block {id : Nat} {c : Code} (h : Run P f N (.code c :: .inBlock id :: k) σ w R) : Run P f N (.code (.block id c) :: k) σ w R :=
  fun a ha => .of_steps (fun _ _ => .one step_block) (h a ha)
theorem Run.exit {id : Nat} {k' : List Item} (he : exitTo id k = some k') (h : Run P f N k' σ w R) : Run P f N (.code (.exit id) :: k) σ w R :=
  fun a ha => .of_steps (fun _ _ => .one (step_exit he)) (h a ha)
theorem Run.cond {t : Nat} {b : Bool} {x y : Code} (hl : look σ t = some (.bool b)) (ht : b = true → Run P f N (.code x :: k) σ w R) (hf : b = false → Run P f N (.code y :: k) σ w R) :
    Run P f N (.code (.cond (.tmp t) x y) :: k) σ w R := by
  intro a ha
  have hv : a.eval (.tmp t) = .bool b := by rw [ha.eval (.tmp t) (by simp [knows, hl])]; simp [evO, hl]
  refine .of_steps (fun _ _ => .one (step_cond hv)) ?_
  cases b
  · exact hf rfl a ha
  · exact ht rfl a ha
theorem Run.condT {t : Nat} {x y : Code} (hl : look σ t = some (.bool true)) (h : Run P f N (.code x :: k) σ w R) : Run P f N (.code (.cond (.tmp t) x y) :: k) σ w R :=
  Run.cond hl (fun _ => h) (fun e => by cases e)
theorem Run.condF {t : Nat} {x y : Code} (hl : look σ t = some (.bool false)) (h : Run P f N (.code y :: k) σ w R) : Run P f N (.code (.cond (.tmp t) x y) :: k) σ w R :=
  Run.cond hl (fun e => by cases e) (fun _ => h)

/-- Keep fewer slots, or the same with their values written otherwise. -/
def Sub : Store → Store → Prop
  | [], _ => True
  | (t, v) :: r, σ => look σ t = some v ∧ Sub r σ

theorem Sub.spec : ∀ {σ' σ : Store}, Sub σ' σ → ∀ t v, look σ' t = some v → look σ t = some v
  | [], _, _, t, v, h => by simp [look] at h
  | (t', v') :: r, σ, hs, t, v, h => by
    rw [look_cons] at h
    split at h
    · rename_i e; subst e; cases h; exact hs.1
    · exact Sub.spec hs.2 t v h

theorem Run.sub {σ' : Store} (hs : Sub σ' σ) (h : Run P f N k σ' w R) : Run P f N k σ w R := fun a ha => h a (ha.weaken hs.spec)

/-- Both ways come together behind it: what follows is walked once. -/
theorem Run.condJ {t : Nat} {b : Bool} {x y : Code} {ι : Type} (Inv : ι → World → Prop) (st : ι → Store) (hl : look σ t = some (.bool b))
    (hj : ∀ i w', Inv i w' → Run P f N k (st i) w' R)
    (ht : b = true → (∀ i w' σ', Inv i w' → Sub (st i) σ' → Run P f N k σ' w' R) → Run P f N (.code x :: k) σ w R)
    (hf : b = false → (∀ i w' σ', Inv i w' → Sub (st i) σ' → Run P f N k σ' w' R) → Run P f N (.code y :: k) σ w R) : Run P f N (.code (.cond (.tmp t) x y) :: k) σ w R :=
  Run.cond hl (fun h => ht h fun i w' _ h1 h2 => Run.sub h2 (hj i w' h1)) (fun h => hf h fun i w' _ h1 h2 => Run.sub h2 (hj i w' h1))

theorem Run.loop {c : Code} {ι : Type} (Inv : ι → World → Prop) (st : ι → Store) (μ : ι → Nat) (i0 : ι) (h0 : Inv i0 w) (hσ : Sub (st i0) σ)
    (round : ∀ i w, Inv i w → (∀ i' w' σ', Inv i' w' → μ i' < μ i → Sub (st i') σ' → Run P f N (.inLoop c :: k) σ' w' R) → Run P f N (.code c :: .inLoop c :: k) (st i) w R) :
    Run P f N (.code (.loop c) :: k) σ w R := by
  have key : ∀ n i w, μ i = n → Inv i w → Run P f N (.code c :: .inLoop c :: k) (st i) w R := by
    intro n
    induction n using Nat.strongRecOn with
    | _ n ih =>
      intro i w hn hI
      refine round i w hI fun i' w' σ' hI' hlt hsub => ?_
      have := ih (μ i') (by omega) i' w' rfl hI'
      exact fun a ha => .of_steps (fun _ _ => .one step_inLoop) (this a (ha.weaken hsub.spec))
  exact fun a ha => .of_steps (fun _ _ => .one step_loop) (key _ i0 w rfl h0 a (ha.weaken hσ.spec))

theorem Run.loop2 {c : Code} {α β : Type} (Inv : α → β → World → Prop) (st : α → β → Store) (μ : α → β → Nat) (a0 : α) (b0 : β) (h0 : Inv a0 b0 w) (hσ : Sub (st a0 b0) σ)
    (round : ∀ a b w, Inv a b w → (∀ a' b' w' σ', Inv a' b' w' → μ a' b' < μ a b → Sub (st a' b') σ' → Run P f N (.inLoop c :: k) σ' w' R) → Run P f N (.code c :: .inLoop c :: k) (st a b) w R) :
    Run P f N (.code (.loop c) :: k) σ w R :=
  Run.loop (ι := α × β) (fun i w => Inv i.1 i.2 w) (fun i => st i.1 i.2) (fun i => μ i.1 i.2) (a0, b0) h0 hσ (fun i w hI ih => round i.1 i.2 w hI fun a' b' w' σ' => ih (a', b') w' σ')

theorem Run.loop3 {c : Code} {α β γ : Type} (Inv : α → β → γ → World → Prop) (st : α → β → γ → Store) (μ : α → β → γ → Nat) (a0 : α) (b0 : β) (c0 : γ) (h0 : Inv a0 b0 c0 w) (hσ : Sub (st a0 b0 c0) σ)
    (round : ∀ a b g w, Inv a b g w → (∀ a' b' g' w' σ', Inv a' b' g' w' → μ a' b' g' < μ a b g → Sub (st a' b' g') σ' → Run P f N (.inLoop c :: k) σ' w' R) → Run P f N (.code c :: .inLoop c :: k) (st a b g) w R) :
    Run P f N (.code (.loop c) :: k) σ w R :=
  Run.loop (ι := α × β × γ) (fun i w => Inv i.1 i.2.1 i.2.2 w) (fun i => st i.1 i.2.1 i.2.2) (fun i => μ i.1 i.2.1 i.2.2) (a0, b0, c0) h0 hσ (fun i w hI ih => round i.1 i.2.1 i.2.2 w hI fun a' b' c' w' σ' => ih (a', b', c') w' σ')

/-! ### The end -/
/-- The results: slots, or places in memory. -/
def ResR (P : Program) (w : World) (σ : Store) : List ResultVar → List Value → Prop
  | [], [] => True
  | .tmp t :: r, v :: vs => look σ t = some v ∧ ResR P w σ r vs
  | .cell a t :: r, v :: vs => (∃ p, look σ a = some (.pointer (some p)) ∧ (loadVar t p).run P w = .ok v w) ∧ ResR P w σ r vs
  | _, _ => False

def resV : List Value → Value
  | [v] => v
  | vs => .tuple vs.toArray

theorem results_run {fn : Func} {a : Act} (ha : Agr N σ a) {l : List ResultVar} (hl : fn.results = l.toArray) {vs : List Value} (h : ResR P w σ l vs) : (results fn a.tmps).run P w = .ok (resV vs) w := by
  have key : ∀ (g : ResultVar → Sem Value), (∀ t, g (.tmp t) = pure (a.tmps.getD t undef)) → (∀ b t, g (.cell b t) = (do loadVar t (← asAddr (a.tmps.getD b undef)))) →
      ∀ (l : List ResultVar) (vs : List Value), ResR P w σ l vs → (l.mapM g).run P w = .ok vs w := by
    intro g hg1 hg2 l
    induction l with
    | nil => intro vs h; cases vs <;> simp_all [ResR]
    | cons x l ih =>
      intro vs h
      cases vs with
      | nil => cases x <;> simp [ResR] at h
      | cons v vs =>
        cases x with
        | tmp t =>
          obtain ⟨h1, h2⟩ := h
          have e : a.tmps.getD t undef = v := by rw [Array.getD_eq_getD_getElem?, ha.slot t v h1]; rfl
          rw [List.mapM_cons, hg1 t, e]
          simp [ih vs h2]
        | cell b t =>
          obtain ⟨⟨p, h1, h2⟩, h3⟩ := h
          have e : a.tmps.getD b undef = .pointer (some p) := by rw [Array.getD_eq_getD_getElem?, ha.slot b _ h1]; rfl
          rw [List.mapM_cons, hg2 b t, e]
          simp [ih vs h3, asAddr, h2]
  unfold results
  rw [hl, List.mapM_toArray]
  rw [Sem.run_bind, Sem.run_map, key _ ?_ ?_ l vs h]
  · rcases vs with _ | ⟨v, _ | ⟨u, vs⟩⟩ <;> simp [resV]
  · intro _; rfl
  · intro _ _; rfl

theorem CRun.of_results {fn : Func} {a : Act} {v : Value} (hf : P.funcs[f]? = some fn) (hd : a.defers = []) (hr : (results fn a.tmps).run P w = .ok v w) (hR : R (.returned v) w) : CRun P f (.code .ret :: k) R a w := by
  intro b cs hb hk
  exact ⟨.returned v, w, _, hR, .one step_ret, hb, rfl, hd, hk, fn, by simpa [Frame.at, hb] using hf, hr⟩

theorem CRun.of_end {fn : Func} {a : Act} {v : Value} (hf : P.funcs[f]? = some fn) (hd : a.defers = []) (hr : (results fn a.tmps).run P w = .ok v w) (hR : R (.returned v) w) : CRun P f [] R a w := by
  intro b cs hb hk
  exact ⟨.returned v, w, _, hR, .one step_end, hb, rfl, hd, hk, fn, by simpa [Frame.at, hb] using hf, hr⟩

theorem Run.ret {fn : Func} {l : List ResultVar} (hf : P.funcs[f]? = some fn) (hl : fn.results = l.toArray) (vs : List Value) (hr : ResR P w σ l vs) (hR : R (.returned (resV vs)) w) : Run P f N (.code .ret :: k) σ w R :=
  fun _ ha => CRun.of_results hf ha.defers (results_run ha hl hr) hR
theorem Run.fin {fn : Func} {l : List ResultVar} (hf : P.funcs[f]? = some fn) (hl : fn.results = l.toArray) (vs : List Value) (hr : ResR P w σ l vs) (hR : R (.returned (resV vs)) w) : Run P f N [] σ w R :=
  fun _ ha => CRun.of_end hf ha.defers (results_run ha hl hr) hR
end
end Go.GX
