/- Maps over the symbolic heap. Conditions: as each says. -/
import Derived.Test.YtiepojpebndgoaaGxHp3
import Derived.Laws.IdiomRangeMap
namespace Go.GX
open Go.RowKit
set_option linter.unusedVariables false
set_option linter.unusedSectionVars false
set_option linter.unusedSimpArgs false

section
variable {K : Type} [DecidableEq K] {P : Program} {kt : TypeId} {enc : K → Value}
/-- Keys whose equality the machine asks for field by field. -/
theorem key_struct {fl : List Field} (ht : P.underlying kt = some (.struct ⟨fl⟩)) (heq : ∀ (a b : K) (w : World), (Op.equal kt (enc a) (enc b)).run P w = .ok (decide (a = b)) w)
    (hc : ∀ (e : Bool) (k : K) (w : World), (Instr.checkKey e 10000 kt (enc k)).run P w = .ok () w) (hs : ∀ (k : K) (w : World), (Instr.keyThatStays (enc k) (enc k)).run P w = .ok (enc k) w) (hi : ∀ a b : K, enc a = enc b → a = b) : KeyK P kt enc := by
  refine ⟨fun k m es w h => ?_, hc, hs, hi⟩
  have ask : ∀ (m : List (K × Value)) (es : List MapEntry) (i : Nat), es.map (fun e => (e.key, e.val)) = m.map (fun p => (enc p.1, p.2)) → (Instr.findAsking kt (enc k) es i).run P w = .ok (fndL k m i) w := by
    intro m
    induction m with
    | nil => intro es i h; have : es = [] := by simpa using h
             subst this; rfl
    | cons p m ih =>
      intro es i h
      obtain ⟨a, v⟩ := p
      cases es with
      | nil => simp at h
      | cons e es =>
        simp only [List.map_cons, List.cons.injEq, Prod.mk.injEq] at h
        obtain ⟨⟨h1, h2⟩, h3⟩ := h
        unfold Instr.findAsking fndL
        rw [Sem.run_bind, h1, heq]
        by_cases e : k = a
        · subst e; simp [h2]
        · simp [e, ih es (i + 1) h3]
  unfold Instr.findKey
  rw [Sem.run_bind, run_underlying ht]
  simp only [Result.andThen_ok]
  have fn : Instr.findNow (.struct ⟨fl⟩) (enc k) es 0 = none ∨ (es = [] ∧ Instr.findNow (.struct ⟨fl⟩) (enc k) es 0 = some none) := by
    cases es with
    | nil => exact .inr ⟨rfl, rfl⟩
    | cons e es => left; unfold Instr.findNow Instr.sameNow; rfl
  rcases fn with fn | ⟨he, fn⟩
  · rw [fn]; exact ask m es 0 h
  · rw [fn]
    subst he
    have : m = [] := by
      have h' := h.symm
      simpa using h'
    subst this
    rfl

/-- A struct of plain fields is a key. -/
def plainKeyFs (P : Program) (cs : List Value) : List Field → Bool
  | [] => true
  | f :: fs => match P.underlying f.type, nthV cs f.offset with
    | some (.int _), some _ | some .string, some _ | some .bool, some _ => plainKeyFs P cs fs
    | _, _ => false
theorem checkKey_struct {fl : List Field} {cs : List Value} (ht : P.underlying kt = some (.struct ⟨fl⟩)) (h : plainKeyFs P cs fl = true) (e : Bool) (n : Nat) (w : World) : (Instr.checkKey e (n + 2) kt (.agg ⟨cs⟩)).run P w = .ok () w := by
  unfold Instr.checkKey
  rw [Sem.run_bind, run_underlying ht]
  simp only [Result.andThen_ok]
  rw [← Array.forIn_toList]
  clear ht
  induction fl with
  | nil => simp
  | cons f fs ih =>
    unfold plainKeyFs at h
    have go : ∀ td v, P.underlying f.type = some td → plainT td = true → nthV cs f.offset = some v → (∀ x, td ≠ .interface x) → plainKeyFs P cs fs = true → (do
        for f in (f :: fs) do
          if f.name ≠ "_" then Instr.checkKey e (n + 1) f.type (← part f.type ⟨cs⟩ f.offset)
        : Sem Unit).run P w = .ok () w := by
      intro td v h1 h2 h3 h4 h5
      have hp : (part f.type ⟨cs⟩ f.offset).run P w = .ok v w := partE_run (by simp [partE, h1, h2, h3]) w
      have hc : (Instr.checkKey e (n + 1) f.type v).run P w = .ok () w := by
        unfold Instr.checkKey
        rw [Sem.run_bind, run_underlying h1]
        simp only [Result.andThen_ok]
        cases td <;> first | (simp; done) | (exact absurd rfl (h4 _)) | (simp [plainT] at h2)
      have ih' := ih h5
      simp only [List.forIn_cons]
      by_cases hn : f.name ≠ "_"
      · simp only [hn, ne_eq, not_false_eq_true, if_true, Sem.run_bind, hp, Result.andThen_ok, hc, Sem.run_pure]
        simp at ih'
        simp [ih']
      · simp only [hn, if_false, Sem.run_bind, Sem.run_pure, Result.andThen_ok]
        simp at ih'
        simp [ih']
    split at h
    · rename_i h1 h3; exact go _ _ h1 rfl h3 (by nofun) h
    · rename_i h1 h3; exact go _ _ h1 rfl h3 (by nofun) h
    · rename_i h1 h3; exact go _ _ h1 rfl h3 (by nofun) h
    · cases h
theorem stays_plain {cs : List Value} (h : ∀ v ∈ cs, Instr.sameBits 9999 v v = true) (w : World) : (Instr.keyThatStays (.agg ⟨cs⟩) (.agg ⟨cs⟩)).run P w = .ok (.agg ⟨cs⟩) w := by
  have : Instr.sameBits 10000 (.agg ⟨cs⟩) (.agg ⟨cs⟩) = true := by
    show ((_ == _) && ((cs.zip cs).all fun (x, y) => Instr.sameBits 9999 x y)) = true
    simp only [beq_self_eq_true, Bool.true_and, List.all_eq_true]
    intro p hp
    have : p.1 = p.2 ∧ p.1 ∈ cs := by
      clear h
      induction cs with
      | nil => simp at hp
      | cons c cs ih =>
        simp only [List.zip_cons_cons, List.mem_cons] at hp
        rcases hp with rfl | hp
        · exact ⟨rfl, List.mem_cons_self ..⟩
        · exact ⟨(ih hp).1, List.mem_cons_of_mem _ (ih hp).2⟩
    rw [← this.1]
    exact h _ this.2
  unfold Instr.keyThatStays
  rw [if_pos this]
  rfl
theorem getM_setM (k k' : K) (v : Value) : ∀ (m : List (K × Value)), getM k (setM k' v m) = if k = k' then some v else getM k m
  | [] => by simp [setM, getM]
  | (a, u) :: m => by
    unfold setM
    by_cases h1 : k' = a
    · subst h1
      simp only [if_true, getM]
      split
      · rfl
      · rfl
    · rw [if_neg h1]
      simp only [getM, getM_setM k k' v m]
      by_cases h2 : k = a
      · subst h2; rw [if_pos rfl, if_neg (fun e => h1 e.symm), if_pos rfl]
      · simp [h2]
/-- No key twice. -/
def NodupM (m : List (K × Value)) : Prop := (m.map (·.1)).Nodup
theorem getM_delM {k k' : K} : ∀ {m : List (K × Value)}, NodupM m → getM k (delM k' m) = if k = k' then none else getM k m
  | [], _ => by simp [delM, getM]
  | (a, u) :: m, hn => by
    have hn' : a ∉ m.map (·.1) ∧ (m.map (·.1)).Nodup := by simpa [NodupM] using hn
    unfold delM
    by_cases h1 : k' = a
    · subst h1
      simp only [if_true, getM]
      by_cases h2 : k = k'
      · subst h2
        rw [if_pos rfl]
        have : ∀ {m : List (K × Value)}, k ∉ m.map (·.1) → getM k m = none := by
          intro m
          induction m with
          | nil => intro _; rfl
          | cons p m ih => intro hk; obtain ⟨a, u⟩ := p; simp only [List.map_cons, List.mem_cons, not_or] at hk; unfold getM; rw [if_neg hk.1]; exact ih hk.2
        exact this hn'.1
      · rw [if_neg h2, if_neg h2]
    · rw [if_neg h1]
      simp only [getM, getM_delM (m := m) hn'.2]
      by_cases h2 : k = a
      · subst h2; rw [if_pos rfl, if_neg (fun e => h1 e.symm), if_pos rfl]
      · simp [h2]
theorem mem_setM {k : K} {v : Value} : ∀ {m : List (K × Value)} {a : K}, a ∈ (setM k v m).map (·.1) ↔ a = k ∨ a ∈ m.map (·.1)
  | [], a => by simp [setM]
  | (b, u) :: m, a => by
    unfold setM
    split
    · rename_i h; subst h; simp
    · simp only [List.map_cons, List.mem_cons, mem_setM (m := m)]
      constructor
      · rintro (h | h | h)
        · exact .inr (.inl h)
        · exact .inl h
        · exact .inr (.inr h)
      · rintro (h | h | h)
        · exact .inr (.inl h)
        · exact .inl h
        · exact .inr (.inr h)
theorem nodup_setM {k : K} {v : Value} : ∀ {m : List (K × Value)}, NodupM m → NodupM (setM k v m)
  | [], _ => by simp [setM, NodupM]
  | (b, u) :: m, hn => by
    have hn' : b ∉ m.map (·.1) ∧ (m.map (·.1)).Nodup := by simpa [NodupM] using hn
    unfold setM
    split
    · rename_i h; simpa [NodupM] using hn
    · rename_i h
      have := nodup_setM (k := k) (v := v) (m := m) hn'.2
      simp only [NodupM, List.map_cons, List.nodup_cons, mem_setM]
      exact ⟨fun h' => by rcases h' with h' | h'; exact h h'.symm; exact hn'.1 h', this⟩
theorem delM_sub {k : K} : ∀ {m : List (K × Value)}, (delM k m).Sublist m
  | [] => List.Sublist.slnil
  | (b, u) :: m => by
    unfold delM
    split
    · exact List.sublist_cons_self _ _
    · exact List.Sublist.cons_cons _ (delM_sub (m := m))
theorem nodup_delM {k : K} {m : List (K × Value)} (hn : NodupM m) : NodupM (delM k m) := List.Sublist.nodup (delM_sub.map _) hn
theorem delM_none {k : K} : ∀ {m : List (K × Value)}, fndL k m 0 = none → delM k m = m
  | [], _ => rfl
  | (a, u) :: m, h => by
    unfold fndL at h
    split at h
    · cases h
    · rename_i hk
      rw [fndL_shift] at h
      have h' : fndL k m 0 = none := by cases hx : fndL k m 0 with
        | none => rfl
        | some p => rw [hx] at h; cases h
      unfold delM
      rw [if_neg hk, delM_none h']
theorem delM_some {k : K} : ∀ {m : List (K × Value)} {i : Nat} {u : Value}, fndL k m 0 = some (i, u) → delM k m = m.eraseIdx i ∧ i < m.length
  | [], i, u, h => by cases h
  | (a, w) :: m, i, u, h => by
    unfold fndL at h
    split at h
    · rename_i hk
      cases h
      subst hk
      exact ⟨by unfold delM; rw [if_pos rfl]; rfl, by simp⟩
    · rename_i hk
      rw [fndL_shift] at h
      cases hx : fndL k m 0 with
      | none => rw [hx] at h; cases h
      | some p =>
        rw [hx] at h
        obtain ⟨j, u'⟩ := p
        simp only [Option.map_some, Option.some.injEq, Prod.mk.injEq] at h
        obtain ⟨rfl, rfl⟩ := h
        obtain ⟨h1, h2⟩ := delM_some hx
        refine ⟨?_, by simp; omega⟩
        unfold delM
        rw [if_neg hk, h1]; rfl

theorem eraseMap {α β : Type} (f : α → β) : ∀ (l : List α) (i : Nat), (l.eraseIdx i).map f = (l.map f).eraseIdx i
  | [], _ => rfl
  | _ :: _, 0 => rfl
  | a :: l, i + 1 => by simp [eraseMap f l i]
theorem MapAt.nodup {w : World} {b : Nat} {m : List (K × Value)} (h : MapAt enc w b m) : NodupM m := by
  obtain ⟨es, clock, h1, h2, h3⟩ := h
  have h4 := h3.2.2
  have : (es.toList.map (·.key)) = m.map (fun p => enc p.1) := by
    have := congrArg (List.map Prod.fst) h2
    simpa [List.map_map, Function.comp_def] using this
  rw [this] at h4
  have h5 : ((m.map (·.1)).map enc).Nodup := by simpa [List.map_map, Function.comp_def] using h4
  exact (List.pairwise_map.1 h5).imp fun h e => h (by rw [e])

theorem run_deleteM {w : World} {t et ty : TypeId} {b : Nat} {m : List (K × Value)} (hK : KeyK P kt enc) (hm : P.underlying t = some (.map kt et)) (h : MapAt enc w b m) (k : K) :
    ∃ w', (Builtin.delete_ #[t, kt] ty #[.map (some b), enc k]).run P w = .ok (.tuple #[]) w' ∧ MapAt enc w' b (delM k m) ∧ w.grownBy w' (some b) ∧ w'.heap.size = w.heap.size := by
  obtain ⟨es, clock, h1, h2, h3⟩ := h
  have hf := hK.find k m es.toList w h2
  have grown : ∀ o, w.grownBy { w with heap := w.heap.setIfInBounds b o } (some b) := fun o => ⟨rfl, rfl, rfl, by simp, fun r hr hne => (MapKept.heap_set h1).2 r (fun e => hne (by rw [e]))⟩
  cases hx : fndL k m 0 with
  | none =>
    rw [hx] at hf
    refine ⟨{ w with heap := w.heap.setIfInBounds b (.map es clock) }, ?_, ⟨_, _, (MapKept.heap_set h1).1, ?_, h3⟩, grown _, by simp⟩
    · simp [Builtin.delete_, run_underlying hm, MapKept.run_getObj_map h1, hK.check, hf, MapKept.run_setObj_map _ h1, Result.andThen]
    · rw [delM_none hx]; exact h2
  | some p =>
    obtain ⟨i, u⟩ := p
    rw [hx] at hf
    obtain ⟨g1, g2⟩ := delM_some hx
    have hl : es.size = m.length := by
      have := congrArg List.length h2
      simpa using this
    refine ⟨{ w with heap := w.heap.setIfInBounds b (.map (es.eraseIdxIfInBounds i) clock) }, ?_, ⟨_, _, (MapKept.heap_set h1).1, ?_, ?_⟩, grown _, by simp⟩
    · simp [Builtin.delete_, run_underlying hm, MapKept.run_getObj_map h1, hK.check, hf, MapKept.run_setObj_map _ h1, Result.andThen]
    · have e : (es.eraseIdxIfInBounds i).toList = es.toList.eraseIdx i := by
        unfold Array.eraseIdxIfInBounds
        split
        · simp
        · rename_i h; rw [List.eraseIdx_of_length_le (by simpa using h)]
      rw [e, g1, eraseMap, h2, eraseMap]
    · have e : (es.eraseIdxIfInBounds i).toList = es.toList.eraseIdx i := by
        unfold Array.eraseIdxIfInBounds
        split
        · simp
        · rename_i h; rw [List.eraseIdx_of_length_le (by simpa using h)]
      have hsub : (es.eraseIdxIfInBounds i).toList.Sublist es.toList := by rw [e]; exact List.eraseIdx_sublist _ _
      obtain ⟨s1, s2, s3⟩ := h3
      exact ⟨fun x hx => s1 x (hsub.subset hx), (hsub.map _).nodup s2, (hsub.map _).nodup s3⟩

theorem run_lenM {w : World} {t et ty : TypeId} {b : Nat} {m : List (K × Value)} (hm : P.underlying t = some (.map kt et)) (h : MapAt enc w b m) :
    (Builtin.len_ #[t] ty #[.map (some b)]).run P w = .ok (.int .i64 (m.length : Int)) w := by
  obtain ⟨es, clock, h1, h2, h3⟩ := h
  have hl : es.size = m.length := by
    have := congrArg List.length h2
    simpa using this
  simp [Builtin.len_, run_underlying hm, MapKept.run_getObj_map h1, hl, goInt]

variable {f : FuncId} {N : Nat} {k : List Item} {σ : Store} {B : Base} {H H' : List Chunk} {R : Ending → World → Prop} {ops l : List Oper} {o : Oper} {KK : Act → World → Prop} {KQ : Act → Prop} {C : World → Prop}
  {d : Nat} {op : Op} {ty : TypeId} {pos : String} {af : Array Edge} {gd : Option (Nat × Bool)} {v u : Value} {w : World} {d' : Option Tmp} {t et : TypeId} {b : Nat} {m : List (K × Value)} {z : Value}
theorem zero_run {et : TypeId} {z : Value} (hz : (P.info? et).bind (·.zero) = some z) (w : World) : (zeroValue et).run P w = .ok z w := by
  cases hi : P.info? et with
  | none => rw [hi] at hz; cases hz
  | some ti => rw [hi] at hz; simp at hz; simp [zeroValue, typeInfo, hi, hz]
theorem Ent.own0 {v : Value} {e sz n n' : Nat} {xs xs' : List Value} (hn : n = n') (hx : xs = xs') : Ent B (ownC v e sz n xs :: H) (ownC v e sz n' xs' :: H) := by subst hn; subst hx; exact Ent.refl
theorem HL.makeM (enc : K → Value) (hs : stat N ops ⟨some d, .makeMap t none, ty, pos, af, gd⟩ σ = true)
    (h : ∀ b, HL P N ops l ((d, .map (some b)) :: σ) B (mapC enc b [] :: H) KK) : HL P N ops (⟨some d, .makeMap t none, ty, pos, af, gd⟩ :: l) σ B H KK :=
  fun w hw => RunL.makeM enc hs fun w' h1 h2 => h w.heap.size w' (hw.push h2 h1 fun k hk => Nat.le_of_eq hk.symm)
theorem hx_lookM {x y : Operand} {k : K} (i : Nat) (hi : nthC H i = some (mapC enc b m)) (hK : KeyK P kt enc) (hm : P.underlying t = some (.map kt et)) (hz : ∀ w, (zeroValue et).run P w = .ok z w)
    (hx : lookO σ x = some (.map (some b))) (hy : lookO σ y = some (enc k)) : ∀ w, Sat B H w → (execOp (evO σ) ⟨d', .lookup t x y false, ty, pos, af, gd⟩).run P w = .ok (.value ((getM k m).getD z)) w := by
  intro w hw
  have hM : MapAt enc w b m := hw.nth hi
  simp [execOp, evO_of_lookO hx, evO_of_lookO hy, run_lookupM hK hm hz hM k false]
theorem hx_lookOkM {x y : Operand} {k : K} (i : Nat) (hi : nthC H i = some (mapC enc b m)) (hK : KeyK P kt enc) (hm : P.underlying t = some (.map kt et)) (hz : ∀ w, (zeroValue et).run P w = .ok z w)
    (hx : lookO σ x = some (.map (some b))) (hy : lookO σ y = some (enc k)) : ∀ w, Sat B H w → (execOp (evO σ) ⟨d', .lookup t x y true, ty, pos, af, gd⟩).run P w = .ok (.value (.tuple ⟨[(getM k m).getD z, .bool (getM k m).isSome]⟩)) w := by
  intro w hw
  have hM : MapAt enc w b m := hw.nth hi
  simp [execOp, evO_of_lookO hx, evO_of_lookO hy, run_lookupM hK hm hz hM k true]
theorem HL.lookM {x y : Operand} {k : K} (i : Nat) (hi : nthC H i = some (mapC enc b m)) (hK : KeyK P kt enc) (hs : stat N ops ⟨some d, .lookup t x y false, ty, pos, af, gd⟩ σ = true) (hm : P.underlying t = some (.map kt et)) (hz : ∀ w, (zeroValue et).run P w = .ok z w)
    (hx : lookO σ x = some (.map (some b))) (hy : lookO σ y = some (enc k)) (h : HL P N ops l ((d, (getM k m).getD z) :: σ) B H KK) : HL P N ops (⟨some d, .lookup t x y false, ty, pos, af, gd⟩ :: l) σ B H KK := HL.rd hs (hx_lookM i hi hK hm hz hx hy) h
theorem HQ.lookM {x y : Operand} {k : K} (i : Nat) (hi : nthC H i = some (mapC enc b m)) (hK : KeyK P kt enc) (hs : stat N ops ⟨some d, .lookup t x y false, ty, pos, af, gd⟩ σ = true) (hm : P.underlying t = some (.map kt et)) (hz : ∀ w, (zeroValue et).run P w = .ok z w)
    (hx : lookO σ x = some (.map (some b))) (hy : lookO σ y = some (enc k)) (h : HQ P N ops l ((d, (getM k m).getD z) :: σ) B H KQ) : HQ P N ops (⟨some d, .lookup t x y false, ty, pos, af, gd⟩ :: l) σ B H KQ := RunQ.op hs (hx_lookM i hi hK hm hz hx hy) h
theorem HL.lookOkM {x y : Operand} {k : K} (i : Nat) (hi : nthC H i = some (mapC enc b m)) (hK : KeyK P kt enc) (hs : stat N ops ⟨some d, .lookup t x y true, ty, pos, af, gd⟩ σ = true) (hm : P.underlying t = some (.map kt et)) (hz : ∀ w, (zeroValue et).run P w = .ok z w)
    (hx : lookO σ x = some (.map (some b))) (hy : lookO σ y = some (enc k)) (h : HL P N ops l ((d, .tuple ⟨[(getM k m).getD z, .bool (getM k m).isSome]⟩) :: σ) B H KK) : HL P N ops (⟨some d, .lookup t x y true, ty, pos, af, gd⟩ :: l) σ B H KK := HL.rd hs (hx_lookOkM i hi hK hm hz hx hy) h
theorem HL.lookV {x y : Operand} {k : K} (i : Nat) (hi : nthC H i = some (mapC enc b m)) (hK : KeyK P kt enc) (hs : stat N ops ⟨some d, .lookup t x y false, ty, pos, af, gd⟩ σ = true) (hm : P.underlying t = some (.map kt et)) (hz : (P.info? et).bind (·.zero) = some z)
    (hx : lookO σ x = some (.map (some b))) (hy : lookO σ y = some (enc k)) (hv : (getM k m).getD z = v) (h : HL P N ops l ((d, v) :: σ) B H KK) : HL P N ops (⟨some d, .lookup t x y false, ty, pos, af, gd⟩ :: l) σ B H KK := HL.rd hs (fun w hw => by rw [← hv]; exact hx_lookM i hi hK hm (zero_run hz) hx hy w hw) h
theorem HQ.lookV {x y : Operand} {k : K} (i : Nat) (hi : nthC H i = some (mapC enc b m)) (hK : KeyK P kt enc) (hs : stat N ops ⟨some d, .lookup t x y false, ty, pos, af, gd⟩ σ = true) (hm : P.underlying t = some (.map kt et)) (hz : (P.info? et).bind (·.zero) = some z)
    (hx : lookO σ x = some (.map (some b))) (hy : lookO σ y = some (enc k)) (hv : (getM k m).getD z = v) (h : HQ P N ops l ((d, v) :: σ) B H KQ) : HQ P N ops (⟨some d, .lookup t x y false, ty, pos, af, gd⟩ :: l) σ B H KQ := RunQ.op hs (fun w hw => by rw [← hv]; exact hx_lookM i hi hK hm (zero_run hz) hx hy w hw) h
theorem HL.lookOkV {x y : Operand} {k : K} {ok : Bool} (i : Nat) (hi : nthC H i = some (mapC enc b m)) (hK : KeyK P kt enc) (hs : stat N ops ⟨some d, .lookup t x y true, ty, pos, af, gd⟩ σ = true) (hm : P.underlying t = some (.map kt et)) (hz : (P.info? et).bind (·.zero) = some z)
    (hx : lookO σ x = some (.map (some b))) (hy : lookO σ y = some (enc k)) (hv : (getM k m).getD z = v) (ho : (getM k m).isSome = ok) (h : HL P N ops l ((d, .tuple ⟨[v, .bool ok]⟩) :: σ) B H KK) : HL P N ops (⟨some d, .lookup t x y true, ty, pos, af, gd⟩ :: l) σ B H KK := HL.rd hs (fun w hw => by rw [← hv, ← ho]; exact hx_lookOkM i hi hK hm (zero_run hz) hx hy w hw) h
theorem Sat.nodupM {i : Nat} (hw : Sat B H w) (hi : nthC H i = some (mapC enc b m)) : NodupM m := MapAt.nodup (show MapAt enc w b m from hw.nth hi)
/-- A map that the heap lets be read. -/
def RdM (B : Base) (H : List Chunk) (enc : K → Value) (b : Nat) (m : List (K × Value)) : Prop := ∀ w, Sat B H w → MapAt enc w b m
theorem RdM.own (i : Nat) (hi : nthC H i = some (mapC enc b m)) : RdM B H enc b m := fun w hw => hw.nth hi
theorem RdM.arg {w0 : World} (hM : MapAt enc w0 b m) : RdM (base w0) H enc b m := fun w hw => hM.below hw.belowB
theorem RdM.at (h : RdM B H enc b m) (hw : Sat B H w) : MapAt enc w b m := h w hw
theorem HL.lookR {x y : Operand} {k : K} (hM : RdM B H enc b m) (hK : KeyK P kt enc) (hs : stat N ops ⟨some d, .lookup t x y false, ty, pos, af, gd⟩ σ = true) (hm : P.underlying t = some (.map kt et)) (hz : (P.info? et).bind (·.zero) = some z)
    (hx : lookO σ x = some (.map (some b))) (hy : lookO σ y = some (enc k)) (hv : (getM k m).getD z = v) (h : HL P N ops l ((d, v) :: σ) B H KK) : HL P N ops (⟨some d, .lookup t x y false, ty, pos, af, gd⟩ :: l) σ B H KK :=
  HL.rd hs (fun w hw => by have := run_lookupM hK hm (zero_run hz) (hM w hw) k false; simp [execOp, evO_of_lookO hx, evO_of_lookO hy, this, hv]) h
theorem HQ.lookR {x y : Operand} {k : K} (hM : RdM B H enc b m) (hK : KeyK P kt enc) (hs : stat N ops ⟨some d, .lookup t x y false, ty, pos, af, gd⟩ σ = true) (hm : P.underlying t = some (.map kt et)) (hz : (P.info? et).bind (·.zero) = some z)
    (hx : lookO σ x = some (.map (some b))) (hy : lookO σ y = some (enc k)) (hv : (getM k m).getD z = v) (h : HQ P N ops l ((d, v) :: σ) B H KQ) : HQ P N ops (⟨some d, .lookup t x y false, ty, pos, af, gd⟩ :: l) σ B H KQ :=
  RunQ.op hs (fun w hw => by have := run_lookupM hK hm (zero_run hz) (hM w hw) k false; simp [execOp, evO_of_lookO hx, evO_of_lookO hy, this, hv]) h
theorem HL.lookOkR {x y : Operand} {k : K} {ok : Bool} (hM : RdM B H enc b m) (hK : KeyK P kt enc) (hs : stat N ops ⟨some d, .lookup t x y true, ty, pos, af, gd⟩ σ = true) (hm : P.underlying t = some (.map kt et)) (hz : (P.info? et).bind (·.zero) = some z)
    (hx : lookO σ x = some (.map (some b))) (hy : lookO σ y = some (enc k)) (hv : (getM k m).getD z = v) (ho : (getM k m).isSome = ok) (h : HL P N ops l ((d, .tuple ⟨[v, .bool ok]⟩) :: σ) B H KK) : HL P N ops (⟨some d, .lookup t x y true, ty, pos, af, gd⟩ :: l) σ B H KK :=
  HL.rd hs (fun w hw => by have := run_lookupM hK hm (zero_run hz) (hM w hw) k true; simp [execOp, evO_of_lookO hx, evO_of_lookO hy, this, hv, ho]) h
theorem HL.lenMR {x : Operand} (hM : RdM B H enc b m) (hs : stat N ops ⟨some d, .call ⟨.builtin .len, #[x], #[t]⟩, ty, pos, af, gd⟩ σ = true) (hm : P.underlying t = some (.map kt et)) (hx : lookO σ x = some (.map (some b)))
    (h : HL P N ops l ((d, .int .i64 (m.length : Int)) :: σ) B H KK) : HL P N ops (⟨some d, .call ⟨.builtin .len, #[x], #[t]⟩, ty, pos, af, gd⟩ :: l) σ B H KK := by
  refine HL.rd hs (fun w hw => ?_) h
  simp [execOp, resolve, evO_of_lookO hx, invoke, builtin, run_lenM hm (hM w hw)]
theorem HL.updM {x y u : Operand} {k : K} {v : Value} (i : Nat) (hi : nthC H i = some (mapC enc b m)) (hK : KeyK P kt enc) (hs : stat N ops ⟨none, .mapUpdate t x y u, ty, pos, af, gd⟩ σ = true) (hm : P.underlying t = some (.map kt et))
    (hx : lookO σ x = some (.map (some b))) (hy : lookO σ y = some (enc k)) (hu : lookO σ u = some v)
    (h : HL P N ops l σ B (setC H i (mapC enc b (setM k v m))) KK) : HL P N ops (⟨none, .mapUpdate t x y u, ty, pos, af, gd⟩ :: l) σ B H KK := by
  refine HL.opU hs (fun w hw => ?_) h
  have hM : MapAt enc w b m := hw.nth hi
  obtain ⟨w', h1, h2, h3, h4⟩ := run_updateM hK hm hM k v
  exact ⟨w', by simp [execOp, evO_of_lookO hx, evO_of_lookO hy, evO_of_lookO hu, h1], hw.updG hi h3 (fun k hk => by cases hk; rfl) h2 (fun k hk => .inl hk)⟩
theorem HL.delM {x y : Operand} {k : K} (i : Nat) (hi : nthC H i = some (mapC enc b m)) (hK : KeyK P kt enc) (hs : stat N ops ⟨none, .call ⟨.builtin .delete, #[x, y], #[t, kt]⟩, ty, pos, af, gd⟩ σ = true) (hm : P.underlying t = some (.map kt et))
    (hx : lookO σ x = some (.map (some b))) (hy : lookO σ y = some (enc k))
    (h : HL P N ops l σ B (setC H i (mapC enc b (GX.delM k m))) KK) : HL P N ops (⟨none, .call ⟨.builtin .delete, #[x, y], #[t, kt]⟩, ty, pos, af, gd⟩ :: l) σ B H KK := by
  refine HL.op0 (fun _ : Unit => .tuple #[]) (fun _ => setC H i (mapC enc b (GX.delM k m))) (fun _ => True) hs (fun w hw => ?_) (fun _ _ => h)
  have hM : MapAt enc w b m := hw.nth hi
  obtain ⟨w', h1, h2, h3, h4⟩ := run_deleteM (ty := ty) hK hm hM k
  refine ⟨(), w', ?_, trivial, hw.updG hi h3 (fun k hk => by cases hk; rfl) h2 (fun k hk => .inl hk)⟩
  simp [execOp, resolve, evO_of_lookO hx, evO_of_lookO hy, invoke, builtin, h1]
theorem HL.delMd {x y : Operand} {k : K} (i : Nat) (hi : nthC H i = some (mapC enc b m)) (hK : KeyK P kt enc) (hs : stat N ops ⟨some d, .call ⟨.builtin .delete, #[x, y], #[t, kt]⟩, ty, pos, af, gd⟩ σ = true) (hm : P.underlying t = some (.map kt et))
    (hx : lookO σ x = some (.map (some b))) (hy : lookO σ y = some (enc k))
    (h : HL P N ops l ((d, .tuple #[]) :: σ) B (setC H i (mapC enc b (GX.delM k m))) KK) : HL P N ops (⟨some d, .call ⟨.builtin .delete, #[x, y], #[t, kt]⟩, ty, pos, af, gd⟩ :: l) σ B H KK := by
  refine HL.opX (fun _ : Unit => .tuple #[]) (fun _ => setC H i (mapC enc b (GX.delM k m))) (fun _ => True) hs (fun w hw => ?_) (fun _ _ => h)
  have hM : MapAt enc w b m := hw.nth hi
  obtain ⟨w', h1, h2, h3, h4⟩ := run_deleteM (ty := ty) hK hm hM k
  refine ⟨(), w', ?_, trivial, hw.updG hi h3 (fun k hk => by cases hk; rfl) h2 (fun k hk => .inl hk)⟩
  simp [execOp, resolve, evO_of_lookO hx, evO_of_lookO hy, invoke, builtin, h1]
theorem HL.lenM {x : Operand} (i : Nat) (hi : nthC H i = some (mapC enc b m)) (hs : stat N ops ⟨some d, .call ⟨.builtin .len, #[x], #[t]⟩, ty, pos, af, gd⟩ σ = true) (hm : P.underlying t = some (.map kt et)) (hx : lookO σ x = some (.map (some b)))
    (h : HL P N ops l ((d, .int .i64 (m.length : Int)) :: σ) B H KK) : HL P N ops (⟨some d, .call ⟨.builtin .len, #[x], #[t]⟩, ty, pos, af, gd⟩ :: l) σ B H KK := by
  refine HL.rd hs (fun w hw => ?_) h
  have hM : MapAt enc w b m := hw.nth hi
  simp [execOp, resolve, evO_of_lookO hx, invoke, builtin, run_lenM hm hM]

end
end Go.GX
