/- Struct values: built, taken apart, compared. Conditions: as each says. -/
import Derived.Test.YtiepojpebndgoaaGxHp2
import Derived.Laws.Tables
import Derived.Laws.StructEq
namespace Go.GX
open Go.RowKit
set_option linter.unusedVariables false
set_option linter.unusedSectionVars false
set_option linter.unusedSimpArgs false

/-- The places of the fields, or of an array's elements. -/
def placesS (P : Program) : List Field → Option (List (Nat × Nat))
  | [] => some []
  | f :: fs => match P.info? f.type with
    | some ti => match placesS P fs with
      | some r => some ((f.offset, ti.size) :: r)
      | none => none
    | none => none
theorem placesS_eq (P : Program) : ∀ {fs : List Field} {pl : List (Nat × Nat)}, placesS P fs = some pl → fs.mapM (fun f => (P.info? f.type).map fun i => (f.offset, i.size)) = some pl
  | [], pl, h => by simp [placesS] at h; subst h; simp
  | f :: fs, pl, h => by
    unfold placesS at h
    split at h
    · rename_i ti hti
      split at h
      · rename_i r hr; cases h
        simp only [List.mapM_cons, hti, placesS_eq P hr]; rfl
      · cases h
    · cases h
def nthP : List (Nat × Nat) → Nat → Option (Nat × Nat)
  | [], _ => none
  | p :: _, 0 => some p
  | _ :: r, n + 1 => nthP r n
theorem nthP_eq : ∀ (l : List (Nat × Nat)) (n : Nat), nthP l n = l[n]?
  | [], n => by simp [nthP]
  | p :: r, 0 => by simp [nthP]
  | p :: r, n + 1 => by simp [nthP, nthP_eq r n]

def fillG (place : Nat → Option (Nat × Nat)) (σ : Store) : List Value → List (Nat × Operand) → Option (List Value)
  | cs, [] => some cs
  | cs, (i, x) :: r => match place i, lookO σ x with
    | some (off, sz), some v => match Nat.beq (lenV (cellsL v)) sz, Nat.ble (off + lenV (cellsL v)) (lenV cs) with
      | true, true => fillG place σ (putR cs off (cellsL v)) r
      | _, _ => none
    | _, _ => none

theorem putR_get {o : Nat} {us cs : List Value} (h : o + us.length ≤ cs.length) (i : Nat) : (putR cs o us)[i]? = if i < o then cs[i]? else if i < o + us.length then us[i - o]? else cs[i]? := by
  rw [putR_eq h, List.append_assoc]
  by_cases h1 : i < o
  · rw [if_pos h1, List.getElem?_append_left (by simp; omega), List.getElem?_take_of_lt h1]
  · rw [if_neg h1, List.getElem?_append_right (by simp; omega)]
    have hl : (List.take o cs).length = o := by simp; omega
    rw [hl]
    by_cases h2 : i < o + us.length
    · rw [if_pos h2, List.getElem?_append_left (by omega)]
    · rw [if_neg h2, List.getElem?_append_right (by omega), List.getElem?_drop]
      congr 1
      omega

theorem foldl_put : ∀ (us : List Value) (j off : Nat) (cs : List Value), off + j + us.length ≤ cs.length →
    (us.zipIdx j).foldl (fun (a : Array Value) (x : Value × Nat) => a.setIfInBounds (off + x.2) x.1) cs.toArray = (putR cs (off + j) us).toArray := by
  intro us
  induction us with
  | nil => intro j off cs h; rw [putR_eq (by simpa using h)]; simp
  | cons u us ih =>
    intro j off cs h
    have h0 := h
    simp only [List.length_cons] at h
    simp only [List.zipIdx_cons, List.foldl_cons]
    have e : cs.toArray.setIfInBounds (off + j) u = (cs.set (off + j) u).toArray := by simp
    rw [e, ih (j + 1) off _ (by simp; omega)]
    congr 1
    apply List.ext_getElem?
    intro i
    rw [putR_get (by simp; omega), putR_get h0]
    simp only [List.length_cons]
    by_cases h1 : i < off + j
    · rw [if_pos (by omega), if_pos h1, List.getElem?_set_ne (by omega)]
    · by_cases h2 : i = off + j
      · subst h2
        rw [if_pos (by omega), if_neg h1, if_pos (by omega), List.getElem?_set_self (by omega)]
        simp
      · rw [if_neg (by omega), if_neg h1]
        by_cases h3 : i < off + (j + 1) + us.length
        · rw [if_pos h3, if_pos (by omega), show i - (off + j) = (i - (off + (j + 1))) + 1 by omega, List.getElem?_cons_succ]
        · rw [if_neg h3, if_neg (by omega), List.getElem?_set_ne (by omega)]

theorem fillG_eq {place : Nat → Option (Nat × Nat)} {σ : Store} : ∀ {ps : List (Nat × Operand)} {cs us : List Value}, fillG place σ cs ps = some us → Instr.fill place cs.toArray (ps.map fun (i, x) => (i, evO σ x)) = some us.toArray
  | [], cs, us, h => by simp [fillG] at h; subst h; simp [Instr.fill]
  | (i, x) :: r, cs, us, h => by
    unfold fillG at h
    split at h
    · rename_i off sz v hp hv
      split at h
      · rename_i h1 h2
        have h1' := Nat.eq_of_beq_eq_true h1
        have h2' := Nat.le_of_ble_eq_true h2
        rw [lenV_eq] at h1'
        rw [lenV_eq, lenV_eq] at h2'
        simp only [List.map_cons, Instr.fill, hp, evO_of_lookO hv]
        have hc : v.cells = (cellsL v).toArray := cellsL_eq v
        have hsz : v.cells.size = sz := by rw [hc]; simpa using h1'
        have hnot : ¬ (v.cells.size ≠ sz ∨ off + v.cells.size > cs.toArray.size) := by
          rw [hsz]; simp; omega
        rw [if_neg (by simpa using hnot)]
        have e1 : (v.cells.zipIdx.foldl (fun cs (x : Value × Nat) => match x with | (c, j) => cs.setIfInBounds (off + j) c) cs.toArray) = (putR cs off (cellsL v)).toArray := by
          have := foldl_put (cellsL v) 0 off cs (by simpa using h2')
          rw [Nat.add_zero] at this
          rw [← this, hc, ← Array.foldl_toList]
          congr 1
          simp
        rw [e1]
        exact fillG_eq h
      · cases h
    · cases h

/-- A struct's or an array's literal. -/
def buildE (P : Program) (σ : Store) (t : TypeId) (ps : List (Nat × Operand)) : Option (List Value) :=
  match P.info? t, P.underlying t with
  | some it, some (.struct ⟨fl⟩) => match it.zero, placesS P fl with
    | some z, some pl => fillG (nthP pl) σ (cellsL z) ps
    | _, _ => none
  | some it, some (.array _ e) => match it.zero, P.info? e with
    | some z, some ie => fillG (fun i => some (placeAt 0 i ie.size, ie.size)) σ (cellsL z) ps
    | _, _ => none
  | _, _ => none

theorem buildE_run {P : Program} {σ : Store} {t : TypeId} {ps : List (Nat × Operand)} {us : List Value} (h : buildE P σ t ps = some us) (w : World) :
    (Instr.build t ((ps.map fun (i, x) => (i, evO σ x)).toArray)).run P w = .ok (.agg us.toArray) w := by
  refine run_build w t _ _ ?_
  unfold buildE at h
  unfold Program.built
  split at h
  · rename_i it fl hit hu
    rw [hit, hu]
    split at h
    · rename_i z pl hz hpl
      simp only [hz, placesS_eq P hpl]
      have h' := fillG_eq h
      rw [← cellsL_eq] at h'
      rw [← h']
      simp only []
      congr 1
      funext i
      simp [nthP_eq]
    · cases h
  · rename_i it n e hit hu
    rw [hit, hu]
    split at h
    · rename_i z ie hz hie
      simp only [hz, hie]
      have h' := fillG_eq h
      rw [← cellsL_eq] at h'
      rw [← h']
      simp only []
      congr 1
      funext i
      simp [placeAt_eq]
    · cases h
  · cases h

section
variable {P : Program} {f : FuncId} {N : Nat} {k : List Item} {σ : Store} {B : Base} {H H' : List Chunk} {R : Ending → World → Prop} {ops l : List Oper} {o : Oper} {K : Act → World → Prop} {KQ : Act → Prop} {C : World → Prop}
  {d : Nat} {op : Op} {ty : TypeId} {pos : String} {af : Array Edge} {gd : Option (Nat × Bool)} {v u : Value} {w : World} {d' : Option Tmp}

theorem hx_build {t : TypeId} {ps : List (Nat × Operand)} {us : List Value} (h : buildE P σ t ps = some us) (w : World) : (execOp (evO σ) ⟨d', .build t ps.toArray, ty, pos, af, gd⟩).run P w = .ok (.value (.agg ⟨us⟩)) w := by
  have := buildE_run h w
  unfold execOp
  simp only [Sem.run_bind]
  have e : (ps.toArray.map fun (i, x) => (i, evO σ x)) = ((ps.map fun (i, x) => (i, evO σ x)).toArray) := by simp
  rw [e, this]
  rfl
theorem HL.build {t : TypeId} {ps : List (Nat × Operand)} {us : List Value} (hs : stat N ops ⟨some d, .build t ps.toArray, ty, pos, af, gd⟩ σ = true) (hb : buildE P σ t ps = some us)
    (h : HL P N ops l ((d, .agg ⟨us⟩) :: σ) B H K) : HL P N ops (⟨some d, .build t ps.toArray, ty, pos, af, gd⟩ :: l) σ B H K := HL.rd hs (fun w _ => hx_build hb w) h
theorem RunQ.build {t : TypeId} {ps : List (Nat × Operand)} {us : List Value} (hs : stat N ops ⟨some d, .build t ps.toArray, ty, pos, af, gd⟩ σ = true) (hb : buildE P σ t ps = some us)
    (h : RunQ P N C ops l ((d, .agg ⟨us⟩) :: σ) KQ) : RunQ P N C ops (⟨some d, .build t ps.toArray, ty, pos, af, gd⟩ :: l) σ KQ := RunQ.op hs (fun w _ => hx_build hb w) h

/-- A part of an aggregate. -/
def partE (P : Program) (t : TypeId) (cs : List Value) (off : Nat) : Option Value :=
  match P.underlying t with
  | some td => match plainT td with
    | true => nthV cs off
    | false => match P.info? t with
      | some ti => match rngV cs off ti.size with
        | some us => some (.agg ⟨us⟩)
        | none => none
      | none => none
  | none => none

theorem partE_run {t : TypeId} {cs : List Value} {off : Nat} (h : partE P t cs off = some v) (w : World) : (part t ⟨cs⟩ off).run P w = .ok v w := by
  unfold partE at h
  split at h
  · rename_i td hu
    split at h
    · rename_i hp
      have e1 : (isAgg t).run P w = .ok false w := by
        simp [isAgg, underlying, hu]
        cases td <;> simp_all [plainT]
      rw [nthV_eq] at h
      have : (⟨cs⟩ : Array Value)[off]? = some v := by simpa using h
      simp [part, e1, this]
    · rename_i hp
      split at h
      · rename_i ti hti
        split at h
        · rename_i us hus
          cases h
          have e1 : (isAgg t).run P w = .ok true w := by
            simp [isAgg, underlying, hu]
            cases td <;> simp_all [plainT]
          obtain ⟨g1, g2⟩ := rngV_eq hus
          subst g1
          have e2 : (sizeOf t).run P w = .ok ti.size w := by simp [sizeOf, typeInfo, hti]
          simp [part, e1, e2]
        · cases h
      · cases h
  · cases h

/-- A field of a struct value. -/
def fldV (P : Program) (σ : Store) (t : TypeId) (x : Operand) (i : Nat) : Option Value :=
  match P.underlying t, lookO σ x with
  | some (.struct ⟨fl⟩), some (.agg ⟨cs⟩) => match nthF fl i with
    | some fd => partE P fd.type cs fd.offset
    | none => none
  | _, _ => none
theorem hx_field {t : TypeId} {x : Operand} {i : Nat} (h : fldV P σ t x i = some v) (w : World) : (execOp (evO σ) ⟨d', .field t x i, ty, pos, af, gd⟩).run P w = .ok (.value v) w := by
  unfold fldV at h
  split at h
  · rename_i fl cs hu hx
    split at h
    · rename_i fd hf
      have hp := partE_run h w
      rw [nthF_eq] at hf
      have hf' : (⟨fl⟩ : Array Field)[i]? = some fd := by simpa using hf
      simp [execOp, Instr.field, evO_of_lookO hx, underlying, hu, asAgg, hf', hp]
    · cases h
  · cases h
theorem HL.field {t : TypeId} {x : Operand} {i : Nat} (hs : stat N ops ⟨some d, .field t x i, ty, pos, af, gd⟩ σ = true) (hb : fldV P σ t x i = some v)
    (h : HL P N ops l ((d, v) :: σ) B H K) : HL P N ops (⟨some d, .field t x i, ty, pos, af, gd⟩ :: l) σ B H K := HL.rd hs (fun w _ => hx_field hb w) h
theorem RunQ.field {t : TypeId} {x : Operand} {i : Nat} (hs : stat N ops ⟨some d, .field t x i, ty, pos, af, gd⟩ σ = true) (hb : fldV P σ t x i = some v)
    (h : RunQ P N C ops l ((d, v) :: σ) KQ) : RunQ P N C ops (⟨some d, .field t x i, ty, pos, af, gd⟩ :: l) σ KQ := RunQ.op hs (fun w _ => hx_field hb w) h

/-! ### Equality of structs whose fields are plain -/
def eqCell (P : Program) (t : TypeId) (x y : Value) : Option Bool :=
  match P.underlying t, x, y with
  | some (.int _), .int k a, .int k' b => match sameK k k' with
    | true => some (a == b)
    | false => none
  | some .string, .string ⟨⟨a⟩⟩, .string ⟨⟨b⟩⟩ => some (a == b)
  | some .bool, .bool a, .bool b => some (a == b)
  | _, _, _ => none
def eqFieldsE (P : Program) (xs ys : List Value) : List Field → Option Bool
  | [] => some true
  | f :: fs => match f.name == "_", nthV xs f.offset, nthV ys f.offset with
    | false, some x, some y => match eqCell P f.type x y, eqFieldsE P xs ys fs with
      | some b, some r => some (b && r)
      | _, _ => none
    | _, _, _ => none
theorem eqCell_run {t : TypeId} {x y : Value} {b : Bool} (h : eqCell P t x y = some b) (n : Nat) (w : World) : (Op.equalIn (n + 1) t x y).run P w = .ok b w ∧ ∀ td, P.underlying t = some td → plainT td = true := by
  unfold eqCell at h
  split at h
  · rename_i k0 k a k' b' hu
    split at h
    · rename_i hk
      have := sameK_eq hk; subst this; cases h
      exact ⟨run_equalIn_int w n t _ k0 _ _ hu, fun td htd => by rw [hu] at htd; cases htd; rfl⟩
    · cases h
  · rename_i a b' hu; cases h
    refine ⟨?_, fun td htd => by rw [hu] at htd; cases htd; rfl⟩
    have : (Op.equalIn (n + 1) t (.string ⟨⟨a⟩⟩) (.string ⟨⟨b'⟩⟩)).run P w = .ok ((⟨⟨a⟩⟩ : ByteArray) == ⟨⟨b'⟩⟩) w := by simp [Op.equalIn, run_underlying hu]
    rw [this]
    congr 1
    show ((⟨a⟩ : Array UInt8) == ⟨b'⟩) = _
    simp
  · rename_i a b' hu; cases h
    exact ⟨run_equalIn_bool' w n t a b' hu, fun td htd => by rw [hu] at htd; cases htd; rfl⟩
  · cases h
theorem eqFieldsE_run {xs ys : List Value} (n : Nat) (w : World) : ∀ {fs : List Field} {b : Bool}, eqFieldsE P xs ys fs = some b → (Op.eqFields (n + 1) ⟨xs⟩ ⟨ys⟩ fs).run P w = .ok b w
  | [], b, h => by simp [eqFieldsE] at h; subst h; simp [Op.eqFields]
  | f :: fs, b, h => by
    unfold eqFieldsE at h
    split at h
    · rename_i x y hn hx hy
      split at h
      · rename_i b' r hb hr
        cases h
        obtain ⟨h1, h2⟩ := eqCell_run hb n w
        cases hu : P.underlying f.type with
        | none => simp [eqCell, hu] at hb
        | some td =>
          have hp := h2 td hu
          have p1 : (part f.type ⟨xs⟩ f.offset).run P w = .ok x w := partE_run (by simp [partE, hu, hp, hx]) w
          have p2 : (part f.type ⟨ys⟩ f.offset).run P w = .ok y w := partE_run (by simp [partE, hu, hp, hy]) w
          have hn' : f.name ≠ "_" := by simpa using hn
          have ih := eqFieldsE_run n w hr
          simp only [Op.eqFields, hn', ne_eq, not_false_eq_true, if_true, Sem.run_bind, p1, p2, Result.andThen_ok, h1]
          cases b' <;> simp [ih]
      · cases h
    · cases h

def eqStruct (P : Program) (t : TypeId) (xs ys : List Value) : Option Bool :=
  match P.underlying t with
  | some (.struct ⟨fl⟩) => eqFieldsE P xs ys fl
  | _ => none
theorem eqStruct_run {t : TypeId} {xs ys : List Value} {b : Bool} (hp : P.stoodInHeld t = false) (h : eqStruct P t xs ys = some b) (w : World) : (Op.equal t (.agg ⟨xs⟩) (.agg ⟨ys⟩)).run P w = .ok b w := by
  unfold eqStruct at h
  split at h
  · rename_i fl hu
    have hf : P.fieldsOf t = ⟨fl⟩ := by unfold Program.fieldsOf; rw [hu]
    have := run_equalIn_struct (P := P) w 9999 t ⟨xs⟩ ⟨ys⟩ (by rw [hf, hu]) hp
    unfold Op.equal
    show (Op.equalIn (9999 + 1) t (.agg ⟨xs⟩) (.agg ⟨ys⟩)).run P w = _
    rw [this, hf]
    exact eqFieldsE_run 9998 w h
  · cases h

/-- '==' and '!=' of structs. -/
theorem hx_eqS {t t' : TypeId} {x y : Operand} {xs ys : List Value} {b : Bool} (hp : P.stoodInHeld t = false) (hm : P.eqGuardType P.depth t = false) (hx : lookO σ x = some (.agg ⟨xs⟩)) (hy : lookO σ y = some (.agg ⟨ys⟩)) (h : eqStruct P t xs ys = some b) (w : World) :
    (execOp (evO σ) ⟨d', .binOp .eql t x y t', ty, pos, af, gd⟩).run P w = .ok (.value (.bool b)) w := by
  have h1 := eqStruct_run hp h w
  have h2 := run_eqGuard_agg (P := P) w .eql t x y ⟨xs⟩ ⟨ys⟩ hm
  simp [execOp, evO_of_lookO hx, evO_of_lookO hy, h2, binOp, h1]
theorem hx_neS {t t' : TypeId} {x y : Operand} {xs ys : List Value} {b : Bool} (hp : P.stoodInHeld t = false) (hm : P.eqGuardType P.depth t = false) (hx : lookO σ x = some (.agg ⟨xs⟩)) (hy : lookO σ y = some (.agg ⟨ys⟩)) (h : eqStruct P t xs ys = some b) (w : World) :
    (execOp (evO σ) ⟨d', .binOp .neq t x y t', ty, pos, af, gd⟩).run P w = .ok (.value (.bool (!b))) w := by
  have h1 := eqStruct_run hp h w
  have h2 := run_eqGuard_agg (P := P) w .neq t x y ⟨xs⟩ ⟨ys⟩ hm
  simp [execOp, evO_of_lookO hx, evO_of_lookO hy, h2, binOp, h1]
theorem HL.eqS {t t' : TypeId} {x y : Operand} {xs ys : List Value} {b : Bool} (hs : stat N ops ⟨some d, .binOp .eql t x y t', ty, pos, af, gd⟩ σ = true) (hp : P.stoodInHeld t = false) (hm : P.eqGuardType P.depth t = false) (hx : lookO σ x = some (.agg ⟨xs⟩)) (hy : lookO σ y = some (.agg ⟨ys⟩)) (hb : eqStruct P t xs ys = some b)
    (h : HL P N ops l ((d, .bool b) :: σ) B H K) : HL P N ops (⟨some d, .binOp .eql t x y t', ty, pos, af, gd⟩ :: l) σ B H K := HL.rd hs (fun w _ => hx_eqS hp hm hx hy hb w) h
theorem HL.neS {t t' : TypeId} {x y : Operand} {xs ys : List Value} {b : Bool} (hs : stat N ops ⟨some d, .binOp .neq t x y t', ty, pos, af, gd⟩ σ = true) (hp : P.stoodInHeld t = false) (hm : P.eqGuardType P.depth t = false) (hx : lookO σ x = some (.agg ⟨xs⟩)) (hy : lookO σ y = some (.agg ⟨ys⟩)) (hb : eqStruct P t xs ys = some b)
    (h : HL P N ops l ((d, .bool (!b)) :: σ) B H K) : HL P N ops (⟨some d, .binOp .neq t x y t', ty, pos, af, gd⟩ :: l) σ B H K := HL.rd hs (fun w _ => hx_neS hp hm hx hy hb w) h
theorem RunQ.eqS {t t' : TypeId} {x y : Operand} {xs ys : List Value} {b : Bool} (hs : stat N ops ⟨some d, .binOp .eql t x y t', ty, pos, af, gd⟩ σ = true) (hp : P.stoodInHeld t = false) (hm : P.eqGuardType P.depth t = false) (hx : lookO σ x = some (.agg ⟨xs⟩)) (hy : lookO σ y = some (.agg ⟨ys⟩)) (hb : eqStruct P t xs ys = some b)
    (h : RunQ P N C ops l ((d, .bool b) :: σ) KQ) : RunQ P N C ops (⟨some d, .binOp .eql t x y t', ty, pos, af, gd⟩ :: l) σ KQ := RunQ.op hs (fun w _ => hx_eqS hp hm hx hy hb w) h
theorem RunQ.neS {t t' : TypeId} {x y : Operand} {xs ys : List Value} {b : Bool} (hs : stat N ops ⟨some d, .binOp .neq t x y t', ty, pos, af, gd⟩ σ = true) (hp : P.stoodInHeld t = false) (hm : P.eqGuardType P.depth t = false) (hx : lookO σ x = some (.agg ⟨xs⟩)) (hy : lookO σ y = some (.agg ⟨ys⟩)) (hb : eqStruct P t xs ys = some b)
    (h : RunQ P N C ops l ((d, .bool (!b)) :: σ) KQ) : RunQ P N C ops (⟨some d, .binOp .neq t x y t', ty, pos, af, gd⟩ :: l) σ KQ := RunQ.op hs (fun w _ => hx_neS hp hm hx hy hb w) h

/-! ### Result variables that lie in a block -/
theorem loadVarR {t : TypeId} {td : TypeDesc} {b o m : Nat} {T : TypeId} {cs us : List Value} (hw : Sat B H w) (i : Nat) (hi : nthC H i = some (blkC b cs T)) (hT : P.underlying t = some td) (hr : td.isRow = true) (hm : (P.info? t).map (·.size) = some m) (hu : rngV cs o m = some us) : (loadVar t ⟨b, o, none⟩).run P w = .ok (.agg ⟨us⟩) w := by
  have hB : Blk w b cs T := hw.nth hi
  have h1 := hx_loadR (P := P) (σ := [(0, .pointer (some ⟨b, o, none⟩))]) (x := .tmp 0) (d' := none) (ty := 0) (pos := "") (af := #[]) (gd := none) i hi hT hr hm rfl hu w hw
  simp [execOp, evO, look, Instr.loadAt, Instr.sureAddr] at h1
  cases h2 : (loadVar t ⟨b, o, none⟩).run P w with
  | ok v' w' => simp [h2] at h1; rw [h1.1, h1.2]
  | halt x w' => simp [h2] at h1
theorem loadVarB {t : TypeId} {td : TypeDesc} {b j : Nat} {T : TypeId} {cs : List Value} (hw : Sat B H w) (i : Nat) (hi : nthC H i = some (blkC b cs T)) (hT : P.underlying t = some td) (hp : plainT td = true) (hu : nthV cs j = some u) : (loadVar t ⟨b, j, none⟩).run P w = .ok u w := by
  have hB : Blk w b cs T := hw.nth hi
  exact run_loadVar1 hT hp (by rw [hB.cell, ← nthV_eq]; exact hu)

/-! ### The same in drawn regions -/
variable {F : List Chunk} {i : Nat} {p : List (Nat × Bool)}
theorem HD.loadB {t : TypeId} {td : TypeDesc} {x : Operand} {b j : Nat} {T : TypeId} {cs : List Value} (c : Nat) (hx : lookO σ x = some (.pointer (some ⟨b, j, none⟩))) (hi : nthC F c = some (blkC b cs T)) (ho : ops[i]? = some ⟨some d, .load t x, ty, pos, af, gd⟩) (hs : stat N ops ⟨some d, .load t x, ty, pos, af, gd⟩ σ = true) (hT : P.underlying t = some td) (hp : plainT td = true) (hu : nthV cs j = some u)
    (h : HD P N ops p ((d, u) :: σ) B H F K) : HD P N ops ((i, true) :: p) σ B H F K := HD.rd ho hs (hx_loadB c hi hT hp hx hu) h
theorem HD.loadR {t : TypeId} {td : TypeDesc} {x : Operand} {b o m : Nat} {T : TypeId} {cs us : List Value} (c : Nat) (hx : lookO σ x = some (.pointer (some ⟨b, o, none⟩))) (hi : nthC F c = some (blkC b cs T)) (ho : ops[i]? = some ⟨some d, .load t x, ty, pos, af, gd⟩) (hs : stat N ops ⟨some d, .load t x, ty, pos, af, gd⟩ σ = true) (hT : P.underlying t = some td) (hr : td.isRow = true) (hm : (P.info? t).map (·.size) = some m) (hu : rngV cs o m = some us)
    (h : HD P N ops p ((d, .agg ⟨us⟩) :: σ) B H F K) : HD P N ops ((i, true) :: p) σ B H F K := HD.rd ho hs (hx_loadR c hi hT hr hm hx hu) h
theorem HD.build {t : TypeId} {ps : List (Nat × Operand)} {us : List Value} (ho : ops[i]? = some ⟨some d, .build t ps.toArray, ty, pos, af, gd⟩) (hs : stat N ops ⟨some d, .build t ps.toArray, ty, pos, af, gd⟩ σ = true) (hb : buildE P σ t ps = some us)
    (h : HD P N ops p ((d, .agg ⟨us⟩) :: σ) B H F K) : HD P N ops ((i, true) :: p) σ B H F K := HD.rd ho hs (fun w _ => hx_build hb w) h
end
end Go.GX
