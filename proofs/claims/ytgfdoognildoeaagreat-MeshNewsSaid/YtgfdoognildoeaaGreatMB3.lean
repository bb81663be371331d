/- A part of the proof: contracts of the program's functions. Conditions: none. -/
import Derived.Carry
import Derived.Deep.MidRow
import Derived.Deep.Quiet
import Derived.Laws.IdiomRangeMap
import Derived.Laws.MakeOwn
import Derived.Laws.StructEq
import Derived.Laws.Tables
import Derived.Lib.AppendStr
import Derived.Lib.OthersKept
import Derived.Lib.OwnBridge
import Derived.MapKept
import Derived.Orders
import Derived.OrdersHeld
import Derived.Sort.Grow
import Derived.StillTail
import Derived.WalkKit
import Derived.WalkLawsBesides
import Derived.WalkSpells
import Derived.Test.YtgfdoognildoeaaGreatMB1
import Derived.Test.YtgfdoognildoeaaGreatMB2
set_option linter.unusedVariables false
set_option linter.unusedSectionVars false
set_option linter.unusedSimpArgs false
set_option maxRecDepth 100000
set_option maxHeartbeats 4000000
namespace Go.GX
open Go.RowKit
def placesS (P : Program) : List Field → Option (List (Nat × Nat))
 | [] => some []
 | f :: fs => match P.info? f.type with
  | some ti => match placesS P fs with
   | some r => some ((f.offset, ti.size) :: r)
   | none => none
  | none => none
theorem placesS_eq (P : Program) : ∀ {fs : List Field} {pl : List (Nat × Nat)}, placesS P fs = some pl → fs.mapM (fun f => (P.info? f.type).map fun i => (f.offset, i.size)) = some pl
 | [], pl, h => by simp [placesS] at h; subst h; simp
 | f :: fs, pl, h => by
  unfold placesS at h
  split at h
  ·rename_i ti hti
   split at h
   ·rename_i r hr; cases h
    simp only [List.mapM_cons, hti, placesS_eq P hr]; rfl
   ·cases h
  ·cases h
def nthP : List (Nat × Nat) → Nat → Option (Nat × Nat)
 | [], _ => none
 | p :: _, 0 => some p
 | _ :: r, n + 1 => nthP r n
theorem nthP_eq : ∀ (l : List (Nat × Nat)) (n : Nat), nthP l n = l[n]?
 | [], n => by simp [nthP]
 | p :: r, 0 => by simp [nthP]
 | p :: r, n + 1 => by simp [nthP, nthP_eq r n]
def fillG (place : Nat → Option (Nat × Nat)) (σ : Store) : List Value → List (Nat × Operand) → Option (List Value)
 | cs, [] => some cs
 | cs, (i, x) :: r => match place i, lookO σ x with
  | some (off, sz), some v => match Nat.beq (lenV (cellsL v)) sz, Nat.ble (off + lenV (cellsL v)) (lenV cs) with
   | true, true => fillG place σ (putR cs off (cellsL v)) r
   | _, _ => none
  | _, _ => none
theorem putR_get {o : Nat} {us cs : List Value} (h : o + us.length ≤ cs.length) (i : Nat) : (putR cs o us)[i]? = if i < o then cs[i]? else if i < o + us.length then us[i - o]? else cs[i]? := by
 rw [putR_eq h, List.append_assoc]
 by_cases h1 : i < o
 ·rw [if_pos h1, List.getElem?_append_left (by simp; omega), List.getElem?_take_of_lt h1]
 ·rw [if_neg h1, List.getElem?_append_right (by simp; omega)]
  have hl : (List.take o cs).length = o := by simp; omega
  rw [hl]
  by_cases h2 : i < o + us.length
  ·rw [if_pos h2, List.getElem?_append_left (by omega)]
  ·rw [if_neg h2, List.getElem?_append_right (by omega), List.getElem?_drop]
   congr 1
   omega
theorem foldl_put : ∀ (us : List Value) (j off : Nat) (cs : List Value), off + j + us.length ≤ cs.length →
  (us.zipIdx j).foldl (fun (a : Array Value) (x : Value × Nat) => a.setIfInBounds (off + x.2) x.1) cs.toArray = (putR cs (off + j) us).toArray := by
 intro us
 induction us with
 | nil => intro j off cs h; rw [putR_eq (by simpa using h)]; simp
 | cons u us ih =>
  intro j off cs h
  have h0 := h
  simp only [List.length_cons] at h
  simp only [List.zipIdx_cons, List.foldl_cons]
  have e : cs.toArray.setIfInBounds (off + j) u = (cs.set (off + j) u).toArray := by simp
  rw [e, ih (j + 1) off _ (by simp; omega)]
  congr 1
  apply List.ext_getElem?
  intro i
  rw [putR_get (by simp; omega), putR_get h0]
  simp only [List.length_cons]
  by_cases h1 : i < off + j
  ·rw [if_pos (by omega), if_pos h1, List.getElem?_set_ne (by omega)]
  ·by_cases h2 : i = off + j
   ·subst h2
    rw [if_pos (by omega), if_neg h1, if_pos (by omega), List.getElem?_set_self (by omega)]
    simp
   ·rw [if_neg (by omega), if_neg h1]
    by_cases h3 : i < off + (j + 1) + us.length
    ·rw [if_pos h3, if_pos (by omega), show i - (off + j) = (i - (off + (j + 1))) + 1 by omega, List.getElem?_cons_succ]
    ·rw [if_neg h3, if_neg (by omega), List.getElem?_set_ne (by omega)]
theorem fillG_eq {place : Nat → Option (Nat × Nat)} {σ : Store} : ∀ {ps : List (Nat × Operand)} {cs us : List Value}, fillG place σ cs ps = some us → Instr.fill place cs.toArray (ps.map fun (i, x) => (i, evO σ x)) = some us.toArray
 | [], cs, us, h => by simp [fillG] at h; subst h; simp [Instr.fill]
 | (i, x) :: r, cs, us, h => by
  unfold fillG at h
  split at h
  ·rename_i off sz v hp hv
   split at h
   ·rename_i h1 h2
    have h1' := Nat.eq_of_beq_eq_true h1
    have h2' := Nat.le_of_ble_eq_true h2
    rw [lenV_eq] at h1'
    rw [lenV_eq, lenV_eq] at h2'
    simp only [List.map_cons, Instr.fill, hp, evO_of_lookO hv]
    have hc : v.cells = (cellsL v).toArray := cellsL_eq v
    have hsz : v.cells.size = sz := by rw [hc]; simpa using h1'
    have hnot : ¬ (v.cells.size ≠ sz ∨ off + v.cells.size > cs.toArray.size) := by
     rw [hsz]; simp; omega
    rw [if_neg (by simpa using hnot)]
    have e1 : (v.cells.zipIdx.foldl (fun cs (x : Value × Nat) => match x with | (c, j) => cs.setIfInBounds (off + j) c) cs.toArray) = (putR cs off (cellsL v)).toArray := by
     have := foldl_put (cellsL v) 0 off cs (by simpa using h2')
     rw [Nat.add_zero] at this
     rw [← this, hc, ← Array.foldl_toList]
     congr 1
     simp
    rw [e1]
    exact fillG_eq h
   ·cases h
  ·cases h
def buildE (P : Program) (σ : Store) (t : TypeId) (ps : List (Nat × Operand)) : Option (List Value) :=
 match P.info? t, P.underlying t with
 | some it, some (.struct ⟨fl⟩) => match it.zero, placesS P fl with
  | some z, some pl => fillG (nthP pl) σ (cellsL z) ps
  | _, _ => none
 | some it, some (.array _ e) => match it.zero, P.info? e with
  | some z, some ie => fillG (fun i => some (placeAt 0 i ie.size, ie.size)) σ (cellsL z) ps
  | _, _ => none
 | _, _ => none
theorem buildE_run {P : Program} {σ : Store} {t : TypeId} {ps : List (Nat × Operand)} {us : List Value} (h : buildE P σ t ps = some us) (w : World) :
  (Instr.build t ((ps.map fun (i, x) => (i, evO σ x)).toArray)).run P w = .ok (.agg us.toArray) w := by
 refine run_build w t _ _ ?_
 unfold buildE at h
 unfold Program.built
 split at h
 ·rename_i it fl hit hu
  rw [hit, hu]
  split at h
  ·rename_i z pl hz hpl
   simp only [hz, placesS_eq P hpl]
   have h' := fillG_eq h
   rw [← cellsL_eq] at h'
   rw [← h']
   simp only []
   congr 1
   funext i
   simp [nthP_eq]
  ·cases h
 ·rename_i it n e hit hu
  rw [hit, hu]
  split at h
  ·rename_i z ie hz hie
   simp only [hz, hie]
   have h' := fillG_eq h
   rw [← cellsL_eq] at h'
   rw [← h']
   simp only []
   congr 1
   funext i
   simp [placeAt_eq]
  ·cases h
 ·cases h
section
variable {P : Program} {f : FuncId} {N : Nat} {k : List Item} {σ : Store} {B : Base} {H H' : List Chunk} {R : Ending → World → Prop} {ops l : List Oper} {o : Oper} {K : Act → World → Prop} {KQ : Act → Prop} {C : World → Prop}
 {d : Nat} {op : Op} {ty : TypeId} {pos : String} {af : Array Edge} {gd : Option (Nat × Bool)} {v u : Value} {w : World} {d' : Option Tmp}
theorem hx_build {t : TypeId} {ps : List (Nat × Operand)} {us : List Value} (h : buildE P σ t ps = some us) (w : World) : (execOp (evO σ) ⟨d', .build t ps.toArray, ty, pos, af, gd⟩).run P w = .ok (.value (.agg ⟨us⟩)) w := by
 have := buildE_run h w
 unfold execOp
 simp only [Sem.run_bind]
 have e : (ps.toArray.map fun (i, x) => (i, evO σ x)) = ((ps.map fun (i, x) => (i, evO σ x)).toArray) := by simp
 rw [e, this]
 rfl
theorem HL.build {t : TypeId} {ps : List (Nat × Operand)} {us : List Value} (hs : stat N ops ⟨some d, .build t ps.toArray, ty, pos, af, gd⟩ σ = true) (hb : buildE P σ t ps = some us)
  (h : HL P N ops l ((d, .agg ⟨us⟩) :: σ) B H K) : HL P N ops (⟨some d, .build t ps.toArray, ty, pos, af, gd⟩ :: l) σ B H K := HL.rd hs (fun w _ => hx_build hb w) h
theorem RunQ.build {t : TypeId} {ps : List (Nat × Operand)} {us : List Value} (hs : stat N ops ⟨some d, .build t ps.toArray, ty, pos, af, gd⟩ σ = true) (hb : buildE P σ t ps = some us)
  (h : RunQ P N C ops l ((d, .agg ⟨us⟩) :: σ) KQ) : RunQ P N C ops (⟨some d, .build t ps.toArray, ty, pos, af, gd⟩ :: l) σ KQ := RunQ.op hs (fun w _ => hx_build hb w) h
def partE (P : Program) (t : TypeId) (cs : List Value) (off : Nat) : Option Value :=
 match P.underlying t with
 | some td => match plainT td with
  | true => nthV cs off
  | false => match P.info? t with
   | some ti => match rngV cs off ti.size with
    | some us => some (.agg ⟨us⟩)
    | none => none
   | none => none
 | none => none
theorem partE_run {t : TypeId} {cs : List Value} {off : Nat} (h : partE P t cs off = some v) (w : World) : (part t ⟨cs⟩ off).run P w = .ok v w := by
 unfold partE at h
 split at h
 ·rename_i td hu
  split at h
  ·rename_i hp
   have e1 : (isAgg t).run P w = .ok false w := by
    simp [isAgg, underlying, hu]
    cases td <;> simp_all [plainT]
   rw [nthV_eq] at h
   have : (⟨cs⟩ : Array Value)[off]? = some v := by simpa using h
   simp [part, e1, this]
  ·rename_i hp
   split at h
   ·rename_i ti hti
    split at h
    ·rename_i us hus
     cases h
     have e1 : (isAgg t).run P w = .ok true w := by
      simp [isAgg, underlying, hu]
      cases td <;> simp_all [plainT]
     obtain ⟨g1, g2⟩ := rngV_eq hus
     subst g1
     have e2 : (sizeOf t).run P w = .ok ti.size w := by simp [sizeOf, typeInfo, hti]
     simp [part, e1, e2]
    ·cases h
   ·cases h
 ·cases h
def fldV (P : Program) (σ : Store) (t : TypeId) (x : Operand) (i : Nat) : Option Value :=
 match P.underlying t, lookO σ x with
 | some (.struct ⟨fl⟩), some (.agg ⟨cs⟩) => match nthF fl i with
  | some fd => partE P fd.type cs fd.offset
  | none => none
 | _, _ => none
theorem hx_field {t : TypeId} {x : Operand} {i : Nat} (h : fldV P σ t x i = some v) (w : World) : (execOp (evO σ) ⟨d', .field t x i, ty, pos, af, gd⟩).run P w = .ok (.value v) w := by
 unfold fldV at h
 split at h
 ·rename_i fl cs hu hx
  split at h
  ·rename_i fd hf
   have hp := partE_run h w
   rw [nthF_eq] at hf
   have hf' : (⟨fl⟩ : Array Field)[i]? = some fd := by simpa using hf
   simp [execOp, Instr.field, evO_of_lookO hx, underlying, hu, asAgg, hf', hp]
  ·cases h
 ·cases h
theorem HL.field {t : TypeId} {x : Operand} {i : Nat} (hs : stat N ops ⟨some d, .field t x i, ty, pos, af, gd⟩ σ = true) (hb : fldV P σ t x i = some v)
  (h : HL P N ops l ((d, v) :: σ) B H K) : HL P N ops (⟨some d, .field t x i, ty, pos, af, gd⟩ :: l) σ B H K := HL.rd hs (fun w _ => hx_field hb w) h
theorem RunQ.field {t : TypeId} {x : Operand} {i : Nat} (hs : stat N ops ⟨some d, .field t x i, ty, pos, af, gd⟩ σ = true) (hb : fldV P σ t x i = some v)
  (h : RunQ P N C ops l ((d, v) :: σ) KQ) : RunQ P N C ops (⟨some d, .field t x i, ty, pos, af, gd⟩ :: l) σ KQ := RunQ.op hs (fun w _ => hx_field hb w) h
def eqCell (P : Program) (t : TypeId) (x y : Value) : Option Bool :=
 match P.underlying t, x, y with
 | some (.int _), .int k a, .int k' b => match sameK k k' with
  | true => some (a == b)
  | false => none
 | some .string, .string ⟨⟨a⟩⟩, .string ⟨⟨b⟩⟩ => some (a == b)
 | some .bool, .bool a, .bool b => some (a == b)
 | _, _, _ => none
def eqFieldsE (P : Program) (xs ys : List Value) : List Field → Option Bool
  | [] => some true
  | f :: fs => match f.name == "_", nthV xs f.offset, nthV ys f.offset with
    | false, some x, some y => match eqCell P f.type x y, eqFieldsE P xs ys fs with
      | some b, some r => some (b && r)
      | _, _ => none
    | _, _, _ => none
theorem eqCell_run {t : TypeId} {x y : Value} {b : Bool} (h : eqCell P t x y = some b) (n : Nat) (w : World) : (Op.equalIn (n + 1) t x y).run P w = .ok b w ∧ ∀ td, P.underlying t = some td → plainT td = true := by
 unfold eqCell at h
 split at h
 ·rename_i k0 k a k' b' hu
  split at h
  ·rename_i hk
   have := sameK_eq hk; subst this; cases h
   exact ⟨run_equalIn_int w n t _ k0 _ _ hu, fun td htd => by rw [hu] at htd; cases htd; rfl⟩
  ·cases h
 ·rename_i a b' hu; cases h
  refine ⟨?_, fun td htd => by rw [hu] at htd; cases htd; rfl⟩
  have : (Op.equalIn (n + 1) t (.string ⟨⟨a⟩⟩) (.string ⟨⟨b'⟩⟩)).run P w = .ok ((⟨⟨a⟩⟩ : ByteArray) == ⟨⟨b'⟩⟩) w := by simp [Op.equalIn, run_underlying hu]
  rw [this]
  congr 1
  show ((⟨a⟩ : Array UInt8) == ⟨b'⟩) = _
  simp
 ·rename_i a b' hu; cases h
  exact ⟨run_equalIn_bool' w n t a b' hu, fun td htd => by rw [hu] at htd; cases htd; rfl⟩
 ·cases h
theorem eqFieldsE_run {xs ys : List Value} (n : Nat) (w : World) : ∀ {fs : List Field} {b : Bool}, eqFieldsE P xs ys fs = some b → (Op.eqFields (n + 1) ⟨xs⟩ ⟨ys⟩ fs).run P w = .ok b w
  | [], b, h => by simp [eqFieldsE] at h; subst h; simp [Op.eqFields]
  | f :: fs, b, h => by
    unfold eqFieldsE at h
    split at h
    · rename_i x y hn hx hy
      split at h
      · rename_i b' r hb hr
        cases h
        obtain ⟨h1, h2⟩ := eqCell_run hb n w
        cases hu : P.underlying f.type with
        | none => simp [eqCell, hu] at hb
        | some td =>
          have hp := h2 td hu
          have p1 : (part f.type ⟨xs⟩ f.offset).run P w = .ok x w := partE_run (by simp [partE, hu, hp, hx]) w
          have p2 : (part f.type ⟨ys⟩ f.offset).run P w = .ok y w := partE_run (by simp [partE, hu, hp, hy]) w
          have hn' : f.name ≠ "_" := by simpa using hn
          have ih := eqFieldsE_run n w hr
          simp only [Op.eqFields, hn', ne_eq, not_false_eq_true, if_true, Sem.run_bind, p1, p2, Result.andThen_ok, h1]
          cases b' <;> simp [ih]
      · cases h
    · cases h
def eqStruct (P : Program) (t : TypeId) (xs ys : List Value) : Option Bool :=
 match P.underlying t with
 | some (.struct ⟨fl⟩) => eqFieldsE P xs ys fl
 | _ => none
theorem eqStruct_run {t : TypeId} {xs ys : List Value} {b : Bool} (hp : P.stoodInHeld t = false) (h : eqStruct P t xs ys = some b) (w : World) : (Op.equal t (.agg ⟨xs⟩) (.agg ⟨ys⟩)).run P w = .ok b w := by
 unfold eqStruct at h
 split at h
 ·rename_i fl hu
  have hf : P.fieldsOf t = ⟨fl⟩ := by unfold Program.fieldsOf; rw [hu]
  have := run_equalIn_struct (P := P) w 9999 t ⟨xs⟩ ⟨ys⟩ (by rw [hf, hu]) hp
  unfold Op.equal
  show (Op.equalIn (9999 + 1) t (.agg ⟨xs⟩) (.agg ⟨ys⟩)).run P w = _
  rw [this, hf]
  exact eqFieldsE_run 9998 w h
 ·cases h
theorem hx_eqS {t t' : TypeId} {x y : Operand} {xs ys : List Value} {b : Bool} (hp : P.stoodInHeld t = false) (hm : P.eqGuardType P.depth t = false) (hx : lookO σ x = some (.agg ⟨xs⟩)) (hy : lookO σ y = some (.agg ⟨ys⟩)) (h : eqStruct P t xs ys = some b) (w : World) :
  (execOp (evO σ) ⟨d', .binOp .eql t x y t', ty, pos, af, gd⟩).run P w = .ok (.value (.bool b)) w := by
 have h1 := eqStruct_run hp h w
 have h2 := run_eqGuard_agg (P := P) w .eql t x y ⟨xs⟩ ⟨ys⟩ hm
 simp [execOp, evO_of_lookO hx, evO_of_lookO hy, h2, binOp, h1]
theorem hx_neS {t t' : TypeId} {x y : Operand} {xs ys : List Value} {b : Bool} (hp : P.stoodInHeld t = false) (hm : P.eqGuardType P.depth t = false) (hx : lookO σ x = some (.agg ⟨xs⟩)) (hy : lookO σ y = some (.agg ⟨ys⟩)) (h : eqStruct P t xs ys = some b) (w : World) :
  (execOp (evO σ) ⟨d', .binOp .neq t x y t', ty, pos, af, gd⟩).run P w = .ok (.value (.bool (!b))) w := by
 have h1 := eqStruct_run hp h w
 have h2 := run_eqGuard_agg (P := P) w .neq t x y ⟨xs⟩ ⟨ys⟩ hm
 simp [execOp, evO_of_lookO hx, evO_of_lookO hy, h2, binOp, h1]
theorem RunQ.eqS {t t' : TypeId} {x y : Operand} {xs ys : List Value} {b : Bool} (hs : stat N ops ⟨some d, .binOp .eql t x y t', ty, pos, af, gd⟩ σ = true) (hp : P.stoodInHeld t = false) (hm : P.eqGuardType P.depth t = false) (hx : lookO σ x = some (.agg ⟨xs⟩)) (hy : lookO σ y = some (.agg ⟨ys⟩)) (hb : eqStruct P t xs ys = some b)
  (h : RunQ P N C ops l ((d, .bool b) :: σ) KQ) : RunQ P N C ops (⟨some d, .binOp .eql t x y t', ty, pos, af, gd⟩ :: l) σ KQ := RunQ.op hs (fun w _ => hx_eqS hp hm hx hy hb w) h
theorem RunQ.neS {t t' : TypeId} {x y : Operand} {xs ys : List Value} {b : Bool} (hs : stat N ops ⟨some d, .binOp .neq t x y t', ty, pos, af, gd⟩ σ = true) (hp : P.stoodInHeld t = false) (hm : P.eqGuardType P.depth t = false) (hx : lookO σ x = some (.agg ⟨xs⟩)) (hy : lookO σ y = some (.agg ⟨ys⟩)) (hb : eqStruct P t xs ys = some b)
  (h : RunQ P N C ops l ((d, .bool (!b)) :: σ) KQ) : RunQ P N C ops (⟨some d, .binOp .neq t x y t', ty, pos, af, gd⟩ :: l) σ KQ := RunQ.op hs (fun w _ => hx_neS hp hm hx hy hb w) h
theorem loadVarR {t : TypeId} {td : TypeDesc} {b o m : Nat} {T : TypeId} {cs us : List Value} (hw : Sat B H w) (i : Nat) (hi : nthC H i = some (blkC b cs T)) (hT : P.underlying t = some td) (hr : td.isRow = true) (hm : (P.info? t).map (·.size) = some m) (hu : rngV cs o m = some us) : (loadVar t ⟨b, o, none⟩).run P w = .ok (.agg ⟨us⟩) w := by
  have hB : Blk w b cs T := hw.nth hi
  have h1 := hx_loadR (P := P) (σ := [(0, .pointer (some ⟨b, o, none⟩))]) (x := .tmp 0) (d' := none) (ty := 0) (pos := "") (af := #[]) (gd := none) i hi hT hr hm I hu w hw
  simp [execOp, evO, look, Instr.loadAt, Instr.sureAddr] at h1
  cases h2 : (loadVar t ⟨b, o, none⟩).run P w with
  | ok v' w' => simp [h2] at h1; rw [h1.1, h1.2]
  | halt x w' => simp [h2] at h1
variable {F : List Chunk} {i : Nat} {p : List (Nat × Bool)}
theorem HD.build {t : TypeId} {ps : List (Nat × Operand)} {us : List Value} (ho : ops[i]? = some ⟨some d, .build t ps.toArray, ty, pos, af, gd⟩) (hs : stat N ops ⟨some d, .build t ps.toArray, ty, pos, af, gd⟩ σ = true) (hb : buildE P σ t ps = some us)
  (h : HD P N ops p ((d, .agg ⟨us⟩) :: σ) B H F K) : HD P N ops ((i, true) :: p) σ B H F K := HD.rd ho hs (fun w _ => hx_build hb w) h
end
end Go.GX
namespace Go.GX
open Go.RowKit
section
variable {K : Type} [DecidableEq K] {P : Program} {kt : TypeId} {enc : K → Value}
theorem key_struct {fl : List Field} (ht : P.underlying kt = some (.struct ⟨fl⟩)) (heq : ∀ (a b : K) (w : World), (Op.equal kt (enc a) (enc b)).run P w = .ok (decide (a = b)) w)
    (hc : ∀ (e : Bool) (k : K) (w : World), (Instr.checkKey e 10000 kt (enc k)).run P w = .ok () w) (hs : ∀ (k : K) (w : World), (Instr.keyThatStays (enc k) (enc k)).run P w = .ok (enc k) w) (hi : ∀ a b : K, enc a = enc b → a = b) : KeyK P kt enc := by
  refine ⟨fun k m es w h => ?_, hc, hs, hi⟩
  have ask : ∀ (m : List (K × Value)) (es : List MapEntry) (i : Nat), es.map (fun e => (e.key, e.val)) = m.map (fun p => (enc p.1, p.2)) → (Instr.findAsking kt (enc k) es i).run P w = .ok (fndL k m i) w := by
    intro m
    induction m with
    | nil => intro es i h; have : es = [] := by simpa using h
             subst this; rfl
    | cons p m ih =>
      intro es i h
      obtain ⟨a, v⟩ := p
      cases es with
      | nil => simp at h
      | cons e es =>
        simp only [List.map_cons, List.cons.injEq, Prod.mk.injEq] at h
        obtain ⟨⟨h1, h2⟩, h3⟩ := h
        unfold Instr.findAsking fndL
        rw [Sem.run_bind, h1, heq]
        by_cases e : k = a
        · subst e; simp [h2]
        · simp [e, ih es (i + 1) h3]
  unfold Instr.findKey
  rw [Sem.run_bind, run_underlying ht]
  simp only [Result.andThen_ok]
  have fn : Instr.findNow (.struct ⟨fl⟩) (enc k) es 0 = none ∨ (es = [] ∧ Instr.findNow (.struct ⟨fl⟩) (enc k) es 0 = some none) := by
    cases es with
    | nil => exact .inr ⟨rfl, rfl⟩
    | cons e es => left; unfold Instr.findNow Instr.sameNow; rfl
  rcases fn with fn | ⟨he, fn⟩
  · rw [fn]; exact ask m es 0 h
  · rw [fn]
    subst he
    have : m = [] := by
      have h' := h.symm
      simpa using h'
    subst this
    rfl
def plainKeyFs (P : Program) (cs : List Value) : List Field → Bool
 | [] => true
 | f :: fs => match P.underlying f.type, nthV cs f.offset with
  | some (.int _), some _ | some .string, some _ | some .bool, some _ => plainKeyFs P cs fs
  | _, _ => false
theorem checkKey_struct {fl : List Field} {cs : List Value} (ht : P.underlying kt = some (.struct ⟨fl⟩)) (h : plainKeyFs P cs fl = true) (e : Bool) (n : Nat) (w : World) : (Instr.checkKey e (n + 2) kt (.agg ⟨cs⟩)).run P w = .ok () w := by
  unfold Instr.checkKey
  rw [Sem.run_bind, run_underlying ht]
  simp only [Result.andThen_ok]
  rw [← Array.forIn_toList]
  clear ht
  induction fl with
  | nil => simp
  | cons f fs ih =>
    unfold plainKeyFs at h
    have go : ∀ td v, P.underlying f.type = some td → plainT td = true → nthV cs f.offset = some v → (∀ x, td ≠ .interface x) → plainKeyFs P cs fs = true → (do
        for f in (f :: fs) do
          if f.name ≠ "_" then Instr.checkKey e (n + 1) f.type (← part f.type ⟨cs⟩ f.offset)
        : Sem Unit).run P w = .ok () w := by
      intro td v h1 h2 h3 h4 h5
      have hp : (part f.type ⟨cs⟩ f.offset).run P w = .ok v w := partE_run (by simp [partE, h1, h2, h3]) w
      have hc : (Instr.checkKey e (n + 1) f.type v).run P w = .ok () w := by
        unfold Instr.checkKey
        rw [Sem.run_bind, run_underlying h1]
        simp only [Result.andThen_ok]
        cases td <;> first | (simp; done) | (exact absurd I (h4 _)) | (simp [plainT] at h2)
      have ih' := ih h5
      simp only [List.forIn_cons]
      by_cases hn : f.name ≠ "_"
      · simp only [hn, ne_eq, not_false_eq_true, if_true, Sem.run_bind, hp, Result.andThen_ok, hc, Sem.run_pure]
        simp at ih'
        simp [ih']
      · simp only [hn, if_false, Sem.run_bind, Sem.run_pure, Result.andThen_ok]
        simp at ih'
        simp [ih']
    split at h
    · rename_i h1 h3; exact go _ _ h1 I h3 (by nofun) h
    · rename_i h1 h3; exact go _ _ h1 I h3 (by nofun) h
    · rename_i h1 h3; exact go _ _ h1 I h3 (by nofun) h
    · cases h
theorem stays_plain {cs : List Value} (h : ∀ v ∈ cs, Instr.sameBits 9999 v v = true) (w : World) : (Instr.keyThatStays (.agg ⟨cs⟩) (.agg ⟨cs⟩)).run P w = .ok (.agg ⟨cs⟩) w := by
 have : Instr.sameBits 10000 (.agg ⟨cs⟩) (.agg ⟨cs⟩) = true := by
  show ((_ == _) && ((cs.zip cs).all fun (x, y) => Instr.sameBits 9999 x y)) = true
  simp only [beq_self_eq_true, Bool.true_and, List.all_eq_true]
  intro p hp
  have : p.1 = p.2 ∧ p.1 ∈ cs := by
   clear h
   induction cs with
   | nil => simp at hp
   | cons c cs ih =>
    simp only [List.zip_cons_cons, List.mem_cons] at hp
    rcases hp with rfl | hp
    ·exact ⟨rfl, List.mem_cons_self ..⟩
    ·exact ⟨(ih hp).1, List.mem_cons_of_mem _ (ih hp).2⟩
  rw [← this.1]
  exact h _ this.2
 unfold Instr.keyThatStays
 rw [if_pos this]
 rfl
theorem getM_setM (k k' : K) (v : Value) : ∀ (m : List (K × Value)), getM k (setM k' v m) = if k = k' then some v else getM k m
 | [] => by simp [setM, getM]
 | (a, u) :: m => by
  unfold setM
  by_cases h1 : k' = a
  ·subst h1
   simp only [if_true, getM]
   split
   ·rfl
   ·rfl
  ·rw [if_neg h1]
   simp only [getM, getM_setM k k' v m]
   by_cases h2 : k = a
   ·subst h2; rw [if_pos rfl, if_neg (fun e => h1 e.symm), if_pos rfl]
   ·simp [h2]
def NodupM (m : List (K × Value)) : Prop := (m.map (·.1)).Nodup
theorem getM_delM {k k' : K} : ∀ {m : List (K × Value)}, NodupM m → getM k (delM k' m) = if k = k' then none else getM k m
 | [], _ => by simp [delM, getM]
 | (a, u) :: m, hn => by
  have hn' : a ∉ m.map (·.1) ∧ (m.map (·.1)).Nodup := by simpa [NodupM] using hn
  unfold delM
  by_cases h1 : k' = a
  ·subst h1
   simp only [if_true, getM]
   by_cases h2 : k = k'
   ·subst h2
    rw [if_pos rfl]
    have : ∀ {m : List (K × Value)}, k ∉ m.map (·.1) → getM k m = none := by
     intro m
     induction m with
     | nil => intro _; rfl
     | cons p m ih => intro hk; obtain ⟨a, u⟩ := p; simp only [List.map_cons, List.mem_cons, not_or] at hk; unfold getM; rw [if_neg hk.1]; exact ih hk.2
    exact this hn'.1
   ·rw [if_neg h2, if_neg h2]
  ·rw [if_neg h1]
   simp only [getM, getM_delM (m := m) hn'.2]
   by_cases h2 : k = a
   ·subst h2; rw [if_pos rfl, if_neg (fun e => h1 e.symm), if_pos rfl]
   ·simp [h2]
theorem mem_setM {k : K} {v : Value} : ∀ {m : List (K × Value)} {a : K}, a ∈ (setM k v m).map (·.1) ↔ a = k ∨ a ∈ m.map (·.1)
 | [], a => by simp [setM]
 | (b, u) :: m, a => by
  unfold setM
  split
  ·rename_i h; subst h; simp
  ·simp only [List.map_cons, List.mem_cons, mem_setM (m := m)]
   constructor
   ·rintro (h | h | h)
    ·exact .inr (.inl h)
    ·exact .inl h
    ·exact .inr (.inr h)
   ·rintro (h | h | h)
    ·exact .inr (.inl h)
    ·exact .inl h
    ·exact .inr (.inr h)
theorem nodup_setM {k : K} {v : Value} : ∀ {m : List (K × Value)}, NodupM m → NodupM (setM k v m)
 | [], _ => by simp [setM, NodupM]
 | (b, u) :: m, hn => by
  have hn' : b ∉ m.map (·.1) ∧ (m.map (·.1)).Nodup := by simpa [NodupM] using hn
  unfold setM
  split
  ·rename_i h; simpa [NodupM] using hn
  ·rename_i h
   have := nodup_setM (k := k) (v := v) (m := m) hn'.2
   simp only [NodupM, List.map_cons, List.nodup_cons, mem_setM]
   exact ⟨fun h' => by rcases h' with h' | h'; exact h h'.symm; exact hn'.1 h', this⟩
theorem delM_sub {k : K} : ∀ {m : List (K × Value)}, (delM k m).Sublist m
 | [] => List.Sublist.slnil
 | (b, u) :: m => by
  unfold delM
  split
  ·exact List.sublist_cons_self _ _
  ·exact List.Sublist.cons_cons _ (delM_sub (m := m))
theorem eraseMap {α β : Type} (f : α → β) : ∀ (l : List α) (i : Nat), (l.eraseIdx i).map f = (l.map f).eraseIdx i
 | [], _ => rfl
 | _ :: _, 0 => rfl
 | a :: l, i + 1 => by simp [eraseMap f l i]
theorem MapAt.nodup {w : World} {b : Nat} {m : List (K × Value)} (h : MapAt enc w b m) : NodupM m := by
 obtain ⟨es, clock, h1, h2, h3⟩ := h
 have h4 := h3.2.2
 have : (es.toList.map (·.key)) = m.map (fun p => enc p.1) := by
  have := congrArg (List.map Prod.fst) h2
  simpa [List.map_map, Function.comp_def] using this
 rw [this] at h4
 have h5 : ((m.map (·.1)).map enc).Nodup := by simpa [List.map_map, Function.comp_def] using h4
 exact (List.pairwise_map.1 h5).imp fun h e => h (by rw [e])
variable {f : FuncId} {N : Nat} {k : List Item} {σ : Store} {B : Base} {H H' : List Chunk} {R : Ending → World → Prop} {ops l : List Oper} {o : Oper} {KK : Act → World → Prop} {KQ : Act → Prop} {C : World → Prop}
 {d : Nat} {op : Op} {ty : TypeId} {pos : String} {af : Array Edge} {gd : Option (Nat × Bool)} {v u : Value} {w : World} {d' : Option Tmp} {t et : TypeId} {b : Nat} {m : List (K × Value)} {z : Value}
theorem zero_run {et : TypeId} {z : Value} (hz : (P.info? et).bind (·.zero) = some z) (w : World) : (zeroValue et).run P w = .ok z w := by
 cases hi : P.info? et with
 | none => rw [hi] at hz; cases hz
 | some ti => rw [hi] at hz; simp at hz; simp [zeroValue, typeInfo, hi, hz]
theorem Ent.own0 {v : Value} {e sz n n' : Nat} {xs xs' : List Value} (hn : n = n') (hx : xs = xs') : Ent B (ownC v e sz n xs :: H) (ownC v e sz n' xs' :: H) := by subst hn; subst hx; exact Ent.refl
theorem HL.makeM (enc : K → Value) (hs : stat N ops ⟨some d, .makeMap t none, ty, pos, af, gd⟩ σ = true)
  (h : ∀ b, HL P N ops l ((d, .map (some b)) :: σ) B (mapC enc b [] :: H) KK) : HL P N ops (⟨some d, .makeMap t none, ty, pos, af, gd⟩ :: l) σ B H KK :=
 fun w hw => RunL.makeM enc hs fun w' h1 h2 => h w.heap.size w' (hw.push h2 h1 fun k hk => Nat.le_of_eq hk.symm)
theorem hx_lookM {x y : Operand} {k : K} (i : Nat) (hi : nthC H i = some (mapC enc b m)) (hK : KeyK P kt enc) (hm : P.underlying t = some (.map kt et)) (hz : ∀ w, (zeroValue et).run P w = .ok z w)
  (hx : lookO σ x = some (.map (some b))) (hy : lookO σ y = some (enc k)) : ∀ w, Sat B H w → (execOp (evO σ) ⟨d', .lookup t x y false, ty, pos, af, gd⟩).run P w = .ok (.value ((getM k m).getD z)) w := by
 intro w hw
 have hM : MapAt enc w b m := hw.nth hi
 simp [execOp, evO_of_lookO hx, evO_of_lookO hy, run_lookupM hK hm hz hM k false]
theorem HL.lookV {x y : Operand} {k : K} (i : Nat) (hi : nthC H i = some (mapC enc b m)) (hK : KeyK P kt enc) (hs : stat N ops ⟨some d, .lookup t x y false, ty, pos, af, gd⟩ σ = true) (hm : P.underlying t = some (.map kt et)) (hz : (P.info? et).bind (·.zero) = some z)
  (hx : lookO σ x = some (.map (some b))) (hy : lookO σ y = some (enc k)) (hv : (getM k m).getD z = v) (h : HL P N ops l ((d, v) :: σ) B H KK) : HL P N ops (⟨some d, .lookup t x y false, ty, pos, af, gd⟩ :: l) σ B H KK := HL.rd hs (fun w hw => by rw [← hv]; exact hx_lookM i hi hK hm (zero_run hz) hx hy w hw) h
theorem Sat.nodupM {i : Nat} (hw : Sat B H w) (hi : nthC H i = some (mapC enc b m)) : NodupM m := MapAt.nodup (show MapAt enc w b m from hw.nth hi)
theorem HL.updM {x y u : Operand} {k : K} {v : Value} (i : Nat) (hi : nthC H i = some (mapC enc b m)) (hK : KeyK P kt enc) (hs : stat N ops ⟨none, .mapUpdate t x y u, ty, pos, af, gd⟩ σ = true) (hm : P.underlying t = some (.map kt et))
  (hx : lookO σ x = some (.map (some b))) (hy : lookO σ y = some (enc k)) (hu : lookO σ u = some v)
  (h : HL P N ops l σ B (setC H i (mapC enc b (setM k v m))) KK) : HL P N ops (⟨none, .mapUpdate t x y u, ty, pos, af, gd⟩ :: l) σ B H KK := by
 refine HL.opU hs (fun w hw => ?_) h
 have hM : MapAt enc w b m := hw.nth hi
 obtain ⟨w', h1, h2, h3, h4⟩ := run_updateM hK hm hM k v
 exact ⟨w', by simp [execOp, evO_of_lookO hx, evO_of_lookO hy, evO_of_lookO hu, h1], hw.updG hi h3 (fun k hk => by cases hk; rfl) h2 (fun k hk => .inl hk)⟩
end
end Go.GX
namespace Go.GX
open Go.RowKit
section
variable {α : Type} {E : α → List Value} {sz : Nat}
def cellsOf (E : α → List Value) (l : List α) : List Value := (l.map E).flatten
theorem cellsOf_app (l l' : List α) : cellsOf E (l ++ l') = cellsOf E l ++ cellsOf E l' := by simp [cellsOf]
theorem cellsOf_one (a : α) : cellsOf E [a] = E a := by simp [cellsOf]
theorem cellsOf_len (hE : ∀ a, (E a).length = sz) : ∀ (l : List α), (cellsOf E l).length = l.length * sz
 | [] => by simp [cellsOf]
 | a :: l => by
  have := cellsOf_len hE l
  unfold cellsOf at this ⊢
  rw [List.map_cons, List.flatten_cons, List.length_append, this, hE, List.length_cons, Nat.add_mul]; omega
theorem cellsOf_drop (hE : ∀ a, (E a).length = sz) : ∀ (j : Nat) (l : List α), (cellsOf E l).drop (j * sz) = cellsOf E (l.drop j)
 | 0, l => by simp
 | j + 1, [] => by simp [cellsOf]
 | j + 1, a :: l => by
  have := cellsOf_drop hE j l
  unfold cellsOf at this ⊢
  rw [List.map_cons, List.flatten_cons, List.drop_append, hE, List.drop_eq_nil_of_le (by rw [hE, Nat.add_mul]; omega), List.nil_append, show (j + 1) * sz - sz = j * sz by rw [Nat.add_mul]; omega, this]
  rfl
theorem cellsOf_take (hE : ∀ a, (E a).length = sz) : ∀ (j : Nat) (l : List α), (cellsOf E l).take (j * sz) = cellsOf E (l.take j)
 | 0, l => by simp [cellsOf]
 | j + 1, [] => by simp [cellsOf]
 | j + 1, a :: l => by
  have := cellsOf_take hE j l
  unfold cellsOf at this ⊢
  rw [List.map_cons, List.flatten_cons, List.take_append, hE, List.take_of_length_le (by rw [hE, Nat.add_mul]; omega), show (j + 1) * sz - sz = j * sz by rw [Nat.add_mul]; omega, this]
  rfl
theorem cellsOf_get (hE : ∀ a, (E a).length = sz) {l : List α} {j : Nat} {a : α} (ha : l[j]? = some a) : ∀ (i : Nat) u, (E a)[i]? = some u → (cellsOf E l)[j * sz + i]? = some u := by
 intro i u hu
 obtain ⟨hj, he⟩ := List.getElem?_eq_some_iff.1 ha
 rw [← List.getElem?_drop, cellsOf_drop hE, List.drop_eq_getElem_cons hj, he]
 show ((a :: l.drop (j + 1)).map E).flatten[i]? = _
 rw [List.map_cons, List.flatten_cons, List.getElem?_append_left (List.getElem?_eq_some_iff.1 hu).1]
 exact hu
theorem cellsOf_get1 {f : α → Value} {l : List α} {j : Nat} {a : α} (ha : l[j]? = some a) : (cellsOf (fun x => [f x]) l)[j * 1]? = some (f a) := by
 have := cellsOf_get (E := fun x => [f x]) (sz := 1) (fun _ => rfl) ha 0 (f a) I
 simpa using this
theorem cellsOf_one1 (f : α → Value) (l : List α) : cellsOf (fun x => [f x]) l = l.map f := by
 induction l with
 | nil => rfl
 | cons a l ih => unfold cellsOf at ih ⊢; simp [ih]
theorem getSome {l : List α} {j : Nat} (h : j < l.length) : ∃ a, l[j]? = some a := ⟨l[j], List.getElem?_eq_getElem h⟩
theorem take_succ_get {l : List α} {j : Nat} {a : α} (ha : l[j]? = some a) : l.take (j + 1) = l.take j ++ [a] := by
 obtain ⟨hj, he⟩ := List.getElem?_eq_some_iff.1 ha
 rw [← he, List.take_succ_eq_append_getElem hj]
theorem drop_get {l : List α} {j : Nat} {a : α} (ha : l[j]? = some a) : l.drop j = a :: l.drop (j + 1) := by
 obtain ⟨hj, he⟩ := List.getElem?_eq_some_iff.1 ha
 rw [← he]; exact List.drop_eq_getElem_cons hj
theorem find_at {p : α → Bool} {l : List α} {j : Nat} {a : α} (ha : l[j]? = some a) (hno : ∀ x ∈ l.take j, p x = false) (hp : p a = true) : l.find? p = some a := by
 obtain ⟨hj, he⟩ := List.getElem?_eq_some_iff.1 ha
 have e : l = l.take j ++ a :: l.drop (j + 1) := by rw [← drop_get ha, List.take_append_drop]
 rw [e, List.find?_append, List.find?_eq_none.2 (fun x hx => by simp [hno x hx])]
 simp [hp]
theorem one_allcells {E : α → List Value} (h1 : ∀ a, allOne (E a) = true) (l : List α) : ∀ u ∈ cellsOf E l, u.oneCell' = true := by
 intro u hu
 unfold cellsOf at hu
 obtain ⟨c, hc, hu⟩ := List.mem_flatten.1 hu
 obtain ⟨a, _, rfl⟩ := List.mem_map.1 hc
 exact allOne_spec (h1 a) u hu
end
abbrev iC (n : Int) : List Value := [.int .i64 n]
theorem iC_len (n : Int) : (iC n).length = 1 := rfl
section
variable {P : Program} {N : Nat} {σ : Store} {B : Base} {H : List Chunk} {ops l : List Oper} {K : Act → World → Prop} {d : Nat} {ty : TypeId} {pos : String} {af : Array Edge} {gd : Option (Nat × Bool)}
theorem HR.skip {f : FuncId} {k : List Item} {R : Ending → World → Prop} (h : HR P f N k σ B H R) : HR P f N (.code .skip :: k) σ B H R := fun w hw => Run.skip (h w hw)
theorem HL.setHd {t : Nat} {v v' : Value} (e : v = v') (h : HL P N ops l ((t, v') :: σ) B H K) : HL P N ops l ((t, v) :: σ) B H K := by subst e; exact h
theorem HL.callO {g : FuncId} {args : List Operand} {a1 : List Value} {tys : Array TypeId} {e sz n : Nat} {xs : List Value} (hg : IsFn P g)
  (hs : stat N ops ⟨some d, .call ⟨.value (.func g), args.toArray, tys⟩, ty, pos, af, gd⟩ σ = true) (ha : vals σ args = some a1)
  (hc : ∀ w, Sat B H w → Calls P g a1.toArray w fun e' w' => ∃ v, e' = .returned v ∧ Sat (base w) [ownC v e sz n xs] w')
  (h : ∀ v, HL P N ops l ((d, v) :: σ) B (ownC v e sz n xs :: H) K) : HL P N ops (⟨some d, .call ⟨.value (.func g), args.toArray, tys⟩, ty, pos, af, gd⟩ :: l) σ B H K :=
 HL.callX (r := fun v => v) (Q := fun _ => True) (G := fun v => [ownC v e sz n xs]) hg hs ha (fun w hw => (hc w hw).mono fun e' w' ⟨v, h1, h2⟩ => ⟨v, h1, trivial, h2⟩) (fun v _ => h v)
theorem HL.storeEs {v u : Value} {t e sz n j : Nat} {x y : Operand} {xs us : List Value} (i : Nat) (hi : nthC H i = some (ownC v e sz n xs)) (hs : stat N ops ⟨none, .store t x y, ty, pos, af, gd⟩ σ = true)
  (hx : lookO σ x = some (elemPtr v j)) (hy : lookO σ y = some u) (hus : cellsL u = us) (hm : (P.info? t).map (·.size) = some us.length) (hone : allOne us = true) (hfit : j + us.length ≤ xs.length) (hne : us ≠ [])
  (h : HL P N ops l σ B (setC H i (ownC v e sz n (xs.take j ++ us ++ xs.drop (j + us.length)))) K) : HL P N ops (⟨none, .store t x y, ty, pos, af, gd⟩ :: l) σ B H K := by
 refine HL.opU hs (fun w hw => ?_) h
 have hv : Vw w v e sz n xs := hw.nth hi
 have hpos : 0 < us.length := List.length_pos_iff.2 hne
 obtain ⟨hl, hv⟩ := hv
 rcases hv with ⟨rfl, rfl⟩ | ⟨g, off, cap, cur, rfl, hg, hnc, hcm, hcs, htake⟩
 ·have : xs.length = 0 := by rw [hl]; omega
  omega
 ·have hx' : lookO σ x = some (.pointer (some ⟨g, off + j, none⟩)) := hx
  have hsz : n * sz ≤ cap * sz := Nat.mul_le_mul_right _ hnc
  have hfit2 : off + j + us.length ≤ cur.size := by omega
  have e1 : (sizeOf t).run P w = .ok us.length w := by
   cases h : P.info? t with
   | none => rw [h] at hm; cases hm
   | some ti => rw [h] at hm; simp at hm; simp [sizeOf, typeInfo, h, hm]
  have hst := run_storeCells_at P g (off + j) e us 0 cur w hg (by simpa using hfit2) (allOne_spec hone)
  simp only [Nat.add_zero] at hst
  have hc : u.cells = us.toArray := by rw [cellsL_eq, hus]
  have hr : (storeVar t ⟨g, off + j, none⟩ u).run P w = .ok () (w.setRow g (cur.toList.take (off + j) ++ us ++ cur.toList.drop (off + j + us.length)).toArray) := by
   unfold storeVar
   rw [Sem.run_bind, e1]
   simp only [Result.andThen_ok, hc]
   simp [hst]
  refine ⟨w.setRow g (cur.toList.take (off + j) ++ us ++ cur.toList.drop (off + j + us.length)).toArray, ?_, hw.upd hi I I I (by simp) (fun k hk hne => setRow_other w g k _ (fun e => hne (by rw [e]; rfl))) ⟨?_, .inr ⟨g, off, cap, _, rfl, setRow_heap w g cur _ e _ hg, hnc, hcm, ?_, ?_⟩⟩ (fun k hk => .inl hk)⟩
  ·simp [execOp, evO_of_lookO hx', evO_of_lookO hy, Instr.storeAt, Instr.sureAddr, hr]
  ·simp; omega
  ·simp; omega
  ·have hcl : cur.toList.length = cur.size := Array.length_toList
   rw [← htake]
   have e2 : cur.toList.take (off + j) = cur.toList.take off ++ (cur.toList.drop off).take j := by rw [List.take_add]
   rw [e2]
   simp only [List.append_assoc]
   rw [List.drop_append_of_le_length (by simp; omega), List.drop_eq_nil_of_le (by simp; omega), List.nil_append]
   rw [List.take_take, Nat.min_eq_left (by omega)]
   have hl3 : ((cur.toList.drop off).take j).length = j := by simp; omega
   rw [List.take_append, List.take_of_length_le (by omega), hl3]
   congr 1
   rw [List.take_append, List.take_of_length_le (by omega)]
   congr 1
   rw [List.drop_take, List.drop_drop, show n * sz - (j + us.length) = n * sz - j - us.length by omega]
   congr 2
   omega
theorem HL.storeE {v u : Value} {t e sz n j : Nat} {x y : Operand} {xs : List Value} (i : Nat) (hi : nthC H i = some (ownC v e sz n xs)) (hs : stat N ops ⟨none, .store t x y, ty, pos, af, gd⟩ σ = true)
  (hx : lookO σ x = some (elemPtr v j)) (hy : lookO σ y = some u) (hus : cellsL u = [u]) (hm : (P.info? t).map (·.size) = some 1) (hone : allOne [u] = true) (hj : j < xs.length)
  (h : HL P N ops l σ B (setC H i (ownC v e sz n (xs.set j u))) K) : HL P N ops (⟨none, .store t x y, ty, pos, af, gd⟩ :: l) σ B H K := by
 refine HL.storeEs i hi hs hx hy hus hm hone (by simp; omega) (by simp) ?_
 have : xs.take j ++ [u] ++ xs.drop (j + [u].length) = xs.set j u := by
  rw [List.set_eq_take_append_cons_drop, if_pos hj]; simp
 rw [this]; exact h
end
theorem cells1_set {α : Type} {f : α → Value} (l : List α) (j : Nat) (a : α) : (cellsOf (fun x => [f x]) l).set (j * 1) (f a) = cellsOf (fun x => [f x]) (l.set j a) := by
 rw [cellsOf_one1, cellsOf_one1, Nat.mul_one, List.map_set]
end Go.GX
namespace Go.GX
open Go.RowKit
section
variable {P : Program} {f : FuncId} {N : Nat} {k : List Item} {σ : Store} {B : Base} {H H' F : List Chunk} {R : Ending → World → Prop} {ops l : List Oper} {o : Oper} {K : Act → World → Prop}
 {d : Nat} {op : Op} {ty : TypeId} {pos : String} {af : Array Edge} {gd : Option (Nat × Bool)} {v u : Value} {n : Nat} {L : Array Bool}
def AK (P : Program) (B : Base) (F : List Chunk) (ops : List Oper) (n : Nat) (L : Array Bool) (K : Act → World → Prop) : Act → World → Prop := fun a w => Sat B F w ∧ wpAnyH P .any ops.toArray (QN K) (fun w => Sat B F w) n L a w
def HA (P : Program) (N : Nat) (ops : List Oper) (n : Nat) (L : Array Bool) (σ : Store) (B : Base) (H F : List Chunk) (K : Act → World → Prop) : Prop := ∀ w, Sat B H w → Sat B F w → ∀ a, Agr N σ a → wpAnyH P .any ops.toArray (QN K) (fun w => Sat B F w) n L a w
theorem HR.regionA (is : List Nat) (hF : pickC H is = some F) (hd : distinctN is = true) {id : Nat} (hm : P.follows .mixedOrders = true) (h : HA P N ops ops.toArray.size (Array.replicate ops.toArray.size false) σ B H F (CRun P f k R)) : HR P f N (.code (.region id ops.toArray true) :: k) σ B H R := by
 intro w hw a ha
 have hb : Below w.heap.size w { w with drawn := w.drawn + 1 } := ⟨rfl, rfl, rfl, Nat.le_refl _, fun _ _ => rfl⟩
 exact CRun.of_wp (wp_region_held (S := fun w => Sat B F w) hm (h _ (hw.grow hb) ((hw.grow hb).pick is hF hd) a ha))
theorem HA.rd (i : Nat) (hf : ((Region.noSelect ops.toArray && Region.free .any ops.toArray L i) && (Region.ready .any ops.toArray L).contains i) = true) (ho : ops[i]? = some ⟨some d, op, ty, pos, af, gd⟩) (hs : stat N ops ⟨some d, op, ty, pos, af, gd⟩ σ = true)
  (hr : ∀ w, Sat B F w → (execOp (evO σ) ⟨some d, op, ty, pos, af, gd⟩).run P w = .ok (.value v) w) (h : HA P N ops n (L.setIfInBounds i true) ((d, v) :: σ) B H F K) : HA P N ops (n + 1) L σ B H F K := by
 intro w hw hF a ha
 obtain ⟨h1, h2, h3, h4⟩ := stat_spec hs
 simp only [Bool.and_eq_true] at hf
 refine wpAnyH_take (oi := ⟨some d, op, ty, pos, af, gd⟩) (v := v) (by simpa using ho) hf.1.1 hf.1.2 hf.2 (fun c a w h => absurd h.1 (by nofun)) (.inl ⟨wantedS_wanted ha h4, fun w hw => ?_⟩) hF (h w hw hF _ (ha.put (some d) v h3))
 rw [evalAt ha _ h1 h2]
 exact hr w hw
theorem HA.ev (i : Nat) (hf : ((Region.noSelect ops.toArray && Region.free .any ops.toArray L i) && (Region.ready .any ops.toArray L).contains i) = true) (ho : ops[i]? = some ⟨some d, op, ty, pos, af, gd⟩) (hs : stat N ops ⟨some d, op, ty, pos, af, gd⟩ σ = true) (he : evOp P σ op = some v)
  (h : HA P N ops n (L.setIfInBounds i true) ((d, v) :: σ) B H F K) : HA P N ops (n + 1) L σ B H F K := HA.rd i hf ho hs (fun w _ => evOp_run he) h
theorem HA.evc {c : Prop} (i : Nat) (hf : ((Region.noSelect ops.toArray && Region.free .any ops.toArray L i) && (Region.ready .any ops.toArray L).contains i) = true) (ho : ops[i]? = some ⟨some d, op, ty, pos, af, gd⟩) (hs : stat N ops ⟨some d, op, ty, pos, af, gd⟩ σ = true) (he : evC P σ op = some (v, c)) (hc : c)
  (h : HA P N ops n (L.setIfInBounds i true) ((d, v) :: σ) B H F K) : HA P N ops (n + 1) L σ B H F K := HA.rd i hf ho hs (fun w _ => evC_run he hc) h
theorem HA.loadB {t : TypeId} {td : TypeDesc} {x : Operand} {b j : Nat} {T : TypeId} {cs : List Value} (i c : Nat) (hf : ((Region.noSelect ops.toArray && Region.free .any ops.toArray L i) && (Region.ready .any ops.toArray L).contains i) = true) (ho : ops[i]? = some ⟨some d, .load t x, ty, pos, af, gd⟩) (hx : lookO σ x = some (.pointer (some ⟨b, j, none⟩))) (hi : nthC F c = some (blkC b cs T)) (hs : stat N ops ⟨some d, .load t x, ty, pos, af, gd⟩ σ = true)
  (hT : P.underlying t = some td) (hp : plainT td = true) (hu : nthV cs j = some u)
  (h : HA P N ops n (L.setIfInBounds i true) ((d, u) :: σ) B H F K) : HA P N ops (n + 1) L σ B H F K := HA.rd i hf ho hs (hx_loadB c hi hT hp hx hu) h
theorem HA.loadR {t : TypeId} {td : TypeDesc} {x : Operand} {b o m : Nat} {T : TypeId} {cs us : List Value} (i c : Nat) (hf : ((Region.noSelect ops.toArray && Region.free .any ops.toArray L i) && (Region.ready .any ops.toArray L).contains i) = true) (ho : ops[i]? = some ⟨some d, .load t x, ty, pos, af, gd⟩) (hx : lookO σ x = some (.pointer (some ⟨b, o, none⟩))) (hi : nthC F c = some (blkC b cs T)) (hs : stat N ops ⟨some d, .load t x, ty, pos, af, gd⟩ σ = true)
  (hT : P.underlying t = some td) (hr : td.isRow = true) (hm : (P.info? t).map (·.size) = some m) (hu : rngV cs o m = some us)
  (h : HA P N ops n (L.setIfInBounds i true) ((d, .agg ⟨us⟩) :: σ) B H F K) : HA P N ops (n + 1) L σ B H F K := HA.rd i hf ho hs (hx_loadR c hi hT hr hm hx hu) h
theorem HA.build {t : TypeId} {ps : List (Nat × Operand)} {us : List Value} (i : Nat) (hf : ((Region.noSelect ops.toArray && Region.free .any ops.toArray L i) && (Region.ready .any ops.toArray L).contains i) = true) (ho : ops[i]? = some ⟨some d, .build t ps.toArray, ty, pos, af, gd⟩) (hs : stat N ops ⟨some d, .build t ps.toArray, ty, pos, af, gd⟩ σ = true) (hb : buildE P σ t ps = some us)
  (h : HA P N ops n (L.setIfInBounds i true) ((d, .agg ⟨us⟩) :: σ) B H F K) : HA P N ops (n + 1) L σ B H F K := HA.rd i hf ho hs (fun w _ => hx_build hb w) h
theorem HA.opI (i : Nat) (ho : ops[i]? = some o) (h : HL P N ops [o] σ B H (AK P B F ops n (L.setIfInBounds i true) K)) : ∀ w, Sat B H w → ∀ a, Agr N σ a → wpOp P ops.toArray (QN K) i (fun a' w' => Sat B F w' ∧ wpAnyH P .any ops.toArray (QN K) (fun w => Sat B F w) n (L.setIfInBounds i true) a' w') a w := by
 intro w hw a ha
 have h := h w hw a ha
 simp only [wpOp, show ops.toArray[i]? = some o by simpa using ho]
 unfold wpList at h
 split
 ·rename_i hw'
  rw [if_pos hw'] at h
  rcases h with h | h
  ·left
   have h2 : o.wp P a w (fun a' w' => (QN (AK P B F ops n (L.setIfInBounds i true) K)) .normal a' w') (QN (AK P B F ops n (L.setIfInBounds i true) K)) := h
   exact Oper.wp_mono (fun a' w' h' => h'.2) (wp_QN h2)
  ·exact (QN_noOut (K := AK P B F ops n (L.setIfInBounds i true) K) h.2).elim
 ·rename_i hw'
  rw [if_neg hw'] at h
  exact h.2
theorem HA.one (i : Nat) (hr : decide (Region.ready .any ops.toArray L = [i]) = true) (ho : ops[i]? = some o) (h : HL P N ops [o] σ B H (AK P B F ops n (L.setIfInBounds i true) K)) : HA P N ops (n + 1) L σ B H F K := by
 intro w hw hF a ha
 refine wpAnyH_all (of_decide_eq_true hr) (by simp) fun j hj => ?_
 have : j = i := by simpa using hj
 subst this
 exact HA.opI j ho h w hw a ha
theorem HA.two {o2 : Oper} (i j : Nat) (hr : decide (Region.ready .any ops.toArray L = [i, j]) = true) (ho : ops[i]? = some o) (ho2 : ops[j]? = some o2) (h : HL P N ops [o] σ B H (AK P B F ops n (L.setIfInBounds i true) K)) (h2 : HL P N ops [o2] σ B H (AK P B F ops n (L.setIfInBounds j true) K)) : HA P N ops (n + 1) L σ B H F K := by
 intro w hw hF a ha
 refine wpAnyH_all (of_decide_eq_true hr) (by simp) fun q hq => ?_
 simp only [List.mem_cons, List.not_mem_nil, or_false] at hq
 rcases hq with rfl | rfl
 ·exact HA.opI q ho h w hw a ha
 ·exact HA.opI q ho2 h2 w hw a ha
theorem HL.backA (is : List Nat) (hF : pickC H is = some F) (hd : distinctN is = true) (h : HA P N ops n L σ B H F K) : HL P N ops [] σ B H (AK P B F ops n L K) := fun w hw a ha => wpList_nil ⟨rfl, hw.pick is hF hd, h w hw (hw.pick is hF hd) a ha⟩
theorem HA.done (hr : (Region.ready .any ops.toArray L).isEmpty = true) (h : HR P f N k σ B H R) : HA P N ops n L σ B H F (CRun P f k R) := fun w hw _ a ha => wpAnyH_done (by simpa using hr) ⟨rfl, h w hw a ha⟩ n
end
end Go.GX
namespace Go.GX
open Go.RowKit
section
variable {α : Type} [Inhabited α]
theorem Vw.holds {enc : α → Value} {w : World} {e n g off cap : Nat} {zs : List α} (h : Vw w (.slice (some ⟨g, off, none⟩) n cap) e 1 n (zs.map enc)) : g < w.heap.size ∧ zs.length = n ∧ Sort.Holds enc w g off zs.toArray := by
 have hl : zs.length = n := by simpa using h.1
 rcases h.2 with ⟨e0, _⟩ | ⟨g', off', cap', cur, e0, hg, hn, hm, hs, ht⟩
 ·cases e0
 ·injection e0 with e1 _ e3
  injection e1 with e1
  injection e1 with e1 e2
  subst e1; subst e2; subst e3
  refine ⟨(Array.getElem?_eq_some_iff.1 hg).1, hl, fun j hj => ?_⟩
  have hj' : j < n := by simpa [hl] using hj
  refine ⟨?_, by simp [World.frozen?, hg]⟩
  have e1 : ((cur.toList.drop off).take (n * 1))[j]? = (zs.map enc)[j]? := by rw [ht]
  rw [List.getElem?_take, if_pos (by omega), List.getElem?_drop, Array.getElem?_toList, List.getElem?_map, List.getElem?_eq_getElem (by omega)] at e1
  simp only [World.cell?, hg]
  simp only [Option.isSome_none, Bool.false_eq_true, if_false]
  rw [e1]
  simp [getElem!_pos, show j < zs.length by omega]
theorem Vw.putRow {enc : α → Value} {w : World} {e n g off cap q : Nat} {os : Array Obj} {zs ys : List α} (h : Vw w (.slice (some ⟨g, off, none⟩) n cap) e 1 n (zs.map enc)) (hy : ys.length = n) :
  Vw (Sort.grow (Sort.putRow enc (Sort.ahead w q) g off ys.toArray) os) (.slice (some ⟨g, off, none⟩) n cap) e 1 n (ys.map enc) ∧ w.grownBy (Sort.grow (Sort.putRow enc (Sort.ahead w q) g off ys.toArray) os) (some g) := by
 rcases h.2 with ⟨e0, _⟩ | ⟨g', off', cap', cur, e0, hg, hn, hm, hs, ht⟩
 ·cases e0
 ·injection e0 with e1 _ e3
  injection e1 with e1
  injection e1 with e1 e2
  subst e1; subst e2; subst e3
  have hlt := (Array.getElem?_eq_some_iff.1 hg).1
  have hblk : ∀ k, k < w.heap.size → (Sort.grow (Sort.putRow enc (Sort.ahead w q) g off ys.toArray) os).heap[k]? = (Sort.putRow enc (Sort.ahead w q) g off ys.toArray).heap[k]? := by
   intro k hk
   have : k < (Sort.putRow enc (Sort.ahead w q) g off ys.toArray).heap.size := by simpa [Sort.putRow, Sort.mapBlock, Sort.ahead] using hk
   simp [Sort.grow, Array.getElem?_append_left this]
  refine ⟨⟨by simp; omega, .inr ⟨g, off, cap, Sort.putCells enc off ys.toArray cur, rfl, ?_, hn, hm, by simpa [Sort.putCells] using hs, ?_⟩⟩, ?_⟩
  ·rw [hblk g hlt]
   simp [Sort.putRow, Sort.mapBlock, Sort.ahead, Array.getElem?_modify, hg, Sort.onCells]
  ·apply List.ext_getElem?
   intro j
   rw [List.getElem?_take, List.getElem?_map, List.getElem?_drop, Array.getElem?_toList]
   by_cases hj : j < n
   ·have hjc : off + j < cur.size := by omega
    simp only [Nat.mul_one, if_pos hj, Sort.putCells, Array.getElem?_mapIdx, Array.getElem?_eq_getElem hjc, Option.map_some]
    rw [if_pos (by simp; omega), List.getElem?_eq_getElem (by omega)]
    simp [getElem!_pos, show j < ys.length by omega, show off + j - off = j by omega]
   ·simp [hj, List.getElem?_eq_none (show ys.length ≤ j by omega)]
  ·refine ⟨rfl, rfl, rfl, ?_, fun k hk hne => ?_⟩
   ·simp [Sort.grow, Sort.putRow, Sort.mapBlock, Sort.ahead]
   ·rw [hblk k hk]
    have : g ≠ k := fun e => hne (by rw [e])
    simp [Sort.putRow, Sort.mapBlock, Sort.ahead, Array.getElem?_modify, this]
end
theorem Sat.sameOwn {w : World} {v : Value} {e sz n : Nat} {xs : List Value} (hv : Vw w v e sz n xs) : Sat ⟨w, feet [ownC v e sz n xs]⟩ [ownC v e sz n xs] w :=
 Sat.ofGrown (r := none) (grownBy_refl _ _) (fun k hk => by cases hk) hv (fun k hk => .inl hk)
theorem Sat.putOwn {α : Type} [Inhabited α] {enc : α → Value} {w : World} {e n g off cap q : Nat} {os : Array Obj} {zs ys : List α} (h : Vw w (.slice (some ⟨g, off, none⟩) n cap) e 1 n (cellsOf (fun x => [enc x]) zs)) (hy : ys.length = n) :
  Sat ⟨w, feet [ownC (.slice (some ⟨g, off, none⟩) n cap) e 1 n (cellsOf (fun x => [enc x]) zs)]⟩ [ownC (.slice (some ⟨g, off, none⟩) n cap) e 1 n (cellsOf (fun x => [enc x]) ys)] (Sort.grow (Sort.putRow enc (Sort.ahead w q) g off ys.toArray) os) := by
 obtain ⟨k1, k2⟩ := Vw.putRow (q := q) (os := os) (enc := enc) (zs := zs) (ys := ys) (by rw [← cellsOf_one1]; exact h) hy
 refine Sat.ofGrown (r := some g) k2 (fun k hk => by cases hk; rfl) ?_ (fun k hk => .inl hk)
 show Vw _ _ _ _ _ _
 rw [cellsOf_one1]
 exact k1
def slicesC (e : TypeId) (m : List (Int × Value)) (adj : Int → List Int) : Chunk where
 foot := fun k => ∃ p ∈ m, p.2.ownBlock = some k
 p := fun w => (∀ p ∈ m, Vw w p.2 e 1 (adj p.1).length (cellsOf iC (adj p.1))) ∧ ∀ p ∈ m, ∀ q ∈ m, p.1 ≠ q.1 → ∀ k, p.2.ownBlock = some k → q.2.ownBlock ≠ some k
 loc := fun w w' h hp => ⟨fun p hp' => (ownC p.2 e 1 (adj p.1).length (cellsOf iC (adj p.1))).loc w w' (fun k hk => h k ⟨p, hp', hk⟩) (hp.1 p hp'), hp.2⟩
 lt := fun w hp k ⟨p, hp', hk⟩ => (ownC p.2 e 1 (adj p.1).length (cellsOf iC (adj p.1))).lt w (hp.1 p hp') k hk
theorem getM_mem {K : Type} [DecidableEq K] {k : K} {v : Value} : ∀ {m : List (K × Value)}, getM k m = some v → (k, v) ∈ m
 | [], h => by cases h
 | (a, u) :: m, h => by
  unfold getM at h
  split at h
  ·rename_i e; cases h; subst e; exact List.mem_cons_self ..
  ·exact List.mem_cons_of_mem _ (getM_mem h)
theorem getM_none {K : Type} [DecidableEq K] {k : K} : ∀ {m : List (K × Value)}, getM k m = none ↔ k ∉ m.map (·.1)
 | [] => by simp [getM]
 | (a, u) :: m => by
  unfold getM
  split
  ·rename_i e; subst e; simp
  ·rename_i e; rw [getM_none]; simp [e]
theorem getM_of_mem {K : Type} [DecidableEq K] {k : K} {v : Value} : ∀ {m : List (K × Value)}, NodupM m → (k, v) ∈ m → getM k m = some v
 | [], _, h => by cases h
 | (a, u) :: m, hn, h => by
  have hn' : a ∉ m.map (·.1) ∧ (m.map (·.1)).Nodup := by simpa [NodupM] using hn
  unfold getM
  rcases List.mem_cons.1 h with h2 | h2
  ·cases h2; rw [if_pos rfl]
  ·have hne : ¬ k = a := fun e => hn'.1 (List.mem_map.2 ⟨(k, v), h2, e⟩)
   rw [if_neg hne]
   exact getM_of_mem hn'.2 h2
theorem mem_delM {K : Type} [DecidableEq K] {k : K} {m : List (K × Value)} (hn : NodupM m) {p : K × Value} : p ∈ delM k m ↔ p ∈ m ∧ p.1 ≠ k := by
 have h1 := getM_delM (k := p.1) (k' := k) hn
 constructor
 ·intro hp
  have hp' := delM_sub.subset hp
  refine ⟨hp', fun e => ?_⟩
  rw [if_pos e, getM_none] at h1
  exact h1 (List.mem_map.2 ⟨p, hp, rfl⟩)
 ·rintro ⟨hp, hne⟩
  rw [if_neg hne, getM_of_mem hn (show (p.1, p.2) ∈ m from hp)] at h1
  exact getM_mem h1
theorem mem_setM' {K : Type} [DecidableEq K] {k : K} {v : Value} {m : List (K × Value)} (hn : NodupM m) {p : K × Value} : p ∈ setM k v m ↔ p = (k, v) ∨ (p ∈ m ∧ p.1 ≠ k) := by
 have h1 := getM_setM p.1 k v m
 have hns := nodup_setM (k := k) (v := v) hn
 constructor
 ·intro hp
  rw [getM_of_mem hns (show (p.1, p.2) ∈ setM k v m from hp)] at h1
  by_cases e : p.1 = k
  ·rw [if_pos e] at h1; left; cases h1; obtain ⟨a, b⟩ := p; simp_all
  ·rw [if_neg e] at h1; exact .inr ⟨getM_mem h1.symm, e⟩
 ·rintro (rfl | ⟨hp, hne⟩)
  ·rw [if_pos rfl] at h1; exact getM_mem h1
  ·rw [if_neg hne, getM_of_mem hn (show (p.1, p.2) ∈ m from hp)] at h1
   exact getM_mem h1
theorem setM_same {K : Type} [DecidableEq K] {k : K} {v : Value} : ∀ {m : List (K × Value)}, getM k m = some v → setM k v m = m
 | [], h => by cases h
 | (a, u) :: m, h => by
  unfold getM at h
  unfold setM
  split at h
  ·rename_i e; cases h; rw [if_pos e]
  ·rename_i e; rw [if_neg e, setM_same h]
section
variable {B : Base} {H : List Chunk} {e : TypeId} {m : List (Int × Value)} {adj adj' : Int → List Int} {a : Int} {v : Value}
theorem Ent.emptyS : Ent B H (slicesC e [] adj :: H) := fun w hw => hw.push (Below.refl _ _) ⟨(fun p hp => by cases hp), (fun p hp => by cases hp)⟩ (fun k hk => by obtain ⟨p, hp, _⟩ := hk; cases hp)
theorem Ent.asS (h : ∀ n, adj n = adj' n) : Ent B (slicesC e m adj :: H) (slicesC e m adj' :: H) := by rw [funext h]; exact Ent.refl
theorem Ent.takeS (hn : NodupM m) (h0 : getM a m = none → adj a = []) (hv : (getM a m).getD (.slice none 0 0) = v) : Ent B (slicesC e m adj :: H) (ownC v e 1 (adj a).length (cellsOf iC (adj a)) :: slicesC e (delM a m) adj :: H) := by
 intro w hw
 have hp := hw.all.1
 have hX := hw.all.2.1
 have hapart := hw.all.2.2.1
 have hrest := hw.all.2.2.2
 have own : (ownC v e 1 (adj a).length (cellsOf iC (adj a))).p w ∧ ∀ k, v.ownBlock = some k → ∃ p ∈ m, p.2.ownBlock = some k ∧ p.1 = a := by
  cases hg : getM a m with
  | none =>
   rw [hg] at hv
   subst hv
   rw [h0 hg]
   exact ⟨⟨rfl, .inl ⟨rfl, rfl⟩⟩, fun k hk => by cases hk⟩
  | some u =>
   rw [hg] at hv
   have hv' : u = v := hv
   subst hv'
   have hm := getM_mem hg
   exact ⟨hp.1 _ hm, fun k hk => ⟨_, hm, hk, rfl⟩⟩
 refine ⟨hw.os, hw.tape, hw.output, hw.size, hw.block, own.1, fun k hk => ?_, fun d hd k hk => ?_, ⟨fun p hp' => hp.1 p (delM_sub.subset hp'), fun p hp' q hq' => hp.2 p (delM_sub.subset hp') q (delM_sub.subset hq')⟩, fun k hk => ?_, fun d hd k hk => ?_, hrest⟩
 ·obtain ⟨p, h1, h2, _⟩ := own.2 k hk
  exact hX k ⟨p, h1, h2⟩
 ·obtain ⟨p, h1, h2, h3⟩ := own.2 k hk
  rcases List.mem_cons.1 hd with rfl | hd
  ·rintro ⟨q, hq, hk'⟩
   obtain ⟨hq1, hq2⟩ := (mem_delM hn).1 hq
   exact hp.2 p h1 q hq1 (fun e => hq2 (by rw [← e, h3])) k h2 hk'
  ·exact hapart d hd k ⟨p, h1, h2⟩
 ·obtain ⟨p, h1, h2⟩ := hk
  exact hX k ⟨p, delM_sub.subset h1, h2⟩
 ·obtain ⟨p, h1, h2⟩ := hk
  exact hapart d hd k ⟨p, delM_sub.subset h1, h2⟩
theorem Ent.giveS (hn : NodupM m) (hother : ∀ k, k ≠ a → adj' k = adj k) : Ent B (ownC v e 1 (adj' a).length (cellsOf iC (adj' a)) :: slicesC e (delM a m) adj :: H) (slicesC e (setM a v m) adj' :: H) := by
 intro w hw
 obtain ⟨hv, hvX, hvA, hp, hpX, hpA, hrest⟩ := hw.all
 have cases_ : ∀ p ∈ setM a v m, p = (a, v) ∨ (p ∈ delM a m ∧ p.1 ≠ a) := fun p hp' => by
  rcases (mem_setM' hn).1 hp' with h | ⟨h1, h2⟩
  ·exact .inl h
  ·exact .inr ⟨(mem_delM hn).2 ⟨h1, h2⟩, h2⟩
 refine ⟨hw.os, hw.tape, hw.output, hw.size, hw.block, ⟨fun p hp' => ?_, fun p hp' q hq' hne k hk hk' => ?_⟩, fun k hk => ?_, fun d hd k hk => ?_, hrest⟩
 ·rcases cases_ p hp' with rfl | ⟨h1, h2⟩
  ·exact hv
  ·rw [hother _ h2]; exact hp.1 p h1
 ·rcases cases_ p hp' with rfl | ⟨h1, h2⟩
  ·rcases cases_ q hq' with rfl | ⟨h3, h4⟩
   ·exact hne I
   ·exact hvA _ (List.mem_cons_self ..) k hk ⟨q, h3, hk'⟩
  ·rcases cases_ q hq' with rfl | ⟨h3, h4⟩
   ·exact hvA _ (List.mem_cons_self ..) k hk' ⟨p, h1, hk⟩
   ·exact hp.2 p h1 q h3 hne k hk hk'
 ·obtain ⟨p, hp', hk⟩ := hk
  rcases cases_ p hp' with rfl | ⟨h1, h2⟩
  ·exact hvX k hk
  ·exact hpX k ⟨p, h1, hk⟩
 ·obtain ⟨p, hp', hk⟩ := hk
  rcases cases_ p hp' with rfl | ⟨h1, h2⟩
  ·exact hvA d (List.mem_cons_of_mem _ hd) k hk
  ·exact hpA d hd k ⟨p, h1, hk⟩
end
end Go.GX
namespace Go.GX
open Go.RowKit
section
variable {K : Type} [DecidableEq K] {P : Program} {kt : TypeId} {enc : K → Value}
def IterAt (enc : K → Value) (w : World) (r b : Nat) (m : List (K × Value)) (seen : List K) : Prop :=
 r ≠ b ∧ ∃ (es : Array MapEntry) (clock : Nat) (ents : List MapEntry), w.heap[b]? = some (.map es clock) ∧ w.heap[r]? = some (.mapIter (some b) clock (ents.map (·.born)).reverse.toArray clock) ∧
  es.toList.map (fun e => (e.key, e.val)) = m.map (fun p => (enc p.1, p.2)) ∧ MapKept.Stamped es clock ∧ (∀ x ∈ ents, x ∈ es.toList) ∧ ents.map (·.key) = seen.map enc
def iterC (enc : K → Value) (r b : Nat) (m : List (K × Value)) (seen : List K) : Chunk where
 foot := fun k => k = r ∨ k = b
 p := fun w => IterAt enc w r b m seen
 loc := fun w w' h hp => by
  obtain ⟨hne, es, clock, ents, h1, h2, h3⟩ := hp
  exact ⟨hne, es, clock, ents, by rw [h b (.inr rfl)]; exact h1, by rw [h r (.inl rfl)]; exact h2, h3⟩
 lt := fun w hp k hk => by
  obtain ⟨hne, es, clock, ents, h1, h2, h3⟩ := hp
  rcases hk with rfl | rfl
  ·exact (Array.getElem?_eq_some_iff.1 h2).1
  ·exact (Array.getElem?_eq_some_iff.1 h1).1
theorem IterAt.map {w : World} {r b : Nat} {m : List (K × Value)} {seen : List K} (h : IterAt enc w r b m seen) : MapAt enc w b m := by
 obtain ⟨hne, es, clock, ents, h1, h2, h3, h4, _⟩ := h
 exact ⟨es, clock, h1, h3, h4⟩
theorem key_inj {l : List MapEntry} (hn : (l.map (·.key)).Nodup) {x e : MapEntry} (hx : x ∈ l) (he : e ∈ l) (h : x.key = e.key) : x = e := by
 induction l with
 | nil => cases hx
 | cons a l ih =>
  simp only [List.map_cons, List.nodup_cons] at hn
  rcases List.mem_cons.1 hx with rfl | hx' <;> rcases List.mem_cons.1 he with rfl | he'
  ·rfl
  ·exact absurd (List.mem_map.2 ⟨e, he', h.symm⟩) hn.1
  ·exact absurd (List.mem_map.2 ⟨x, hx', h⟩) hn.1
  ·exact ih hn.2 hx' he'
theorem run_nextM {w : World} {ty : TypeId} {r b : Nat} {m : List (K × Value)} {seen : List K} (hinj : ∀ a b : K, enc a = enc b → a = b) (h : IterAt enc w r b m seen) :
    ((∀ p ∈ m, p.1 ∈ seen) ∧ (Instr.next (.pointer (some ⟨r, 0, none⟩)) false ty).run P w = .ok (.tuple #[.bool false]) w) ∨
    ∃ k u w', (k, u) ∈ m ∧ k ∉ seen ∧ (Instr.next (.pointer (some ⟨r, 0, none⟩)) false ty).run P w = .ok (.tuple #[.bool true, enc k, u]) w' ∧ IterAt enc w' r b m (k :: seen) ∧ w.grownBy w' (some r) ∧ w'.heap.size = w.heap.size := by
  obtain ⟨hne, es, clock, ents, hb, hr, hm, hst, hin, hk⟩ := h
  have hold : ∀ x ∈ es.toList, x.born < clock := hst.1
  have hrlt := (Array.getElem?_eq_some_iff.1 hr).1
  have start : (Instr.next (.pointer (some ⟨r, 0, none⟩)) false ty).run P w = (do
      let left := leftOf es (ents.map (·.born)).reverse.toArray
      let old := left.filter (·.born < clock)
      let new := left.filter (·.born ≥ clock)
      let candidates := (if old.isEmpty then #[none] else #[]) ++ (old ++ new).map some
      match candidates[← choose (.mapNext candidates.size)]? with
      | some (some e) => do
        setObj r (.mapIter (some b) clock ((ents.map (·.born)).reverse.toArray.push e.born) clock)
        pure (.tuple #[.bool true, e.key, e.val])
      | some none => pure (.tuple #[.bool false])
      | none => stuck "Next: no such candidate" : Sem Value).run P w := by
    simp only [Instr.next, getObj, Sem.run_bind, Sem.run, hr, hb, Result.andThen, next_test_false _ es clock clock hold (Nat.le_refl _), Bool.false_eq_true, if_false]
    rfl
  rw [start]
  have hmem : ∀ x ∈ (leftOf es (ents.map (·.born)).reverse.toArray).toList, x.born < clock := fun x hx => hold x (mem_left hx).1
  have hbornin : ∀ x ∈ es.toList, (ents.map (·.born)).reverse.toArray.contains x.born = true → x ∈ ents := by
    intro x hx hc
    simp at hc
    obtain ⟨y, hy, hyb⟩ := hc
    have := born_inj hst.2.1 (hin y hy) hx hyb
    rw [← this]; exact hy
  have keyof : ∀ e ∈ es.toList, ∃ p ∈ m, e.key = enc p.1 ∧ e.val = p.2 := by
    intro e he
    have : (e.key, e.val) ∈ es.toList.map (fun e => (e.key, e.val)) := List.mem_map.2 ⟨e, he, rfl⟩
    rw [hm] at this
    obtain ⟨p, hp, h⟩ := List.mem_map.1 this
    simp only [Prod.mk.injEq] at h
    exact ⟨p, hp, h.1.symm, h.2.symm⟩
  have ofkey : ∀ p ∈ m, ∃ e ∈ es.toList, e.key = enc p.1 := by
    intro p hp
    have : (enc p.1, p.2) ∈ m.map (fun p => (enc p.1, p.2)) := List.mem_map.2 ⟨p, hp, rfl⟩
    rw [← hm] at this
    obtain ⟨e, he, h⟩ := List.mem_map.1 this
    simp only [Prod.mk.injEq] at h
    exact ⟨e, he, h.1⟩
  have hleft : ∀ x ∈ es.toList, (ents.map (·.born)).reverse.toArray.contains x.born = false → x ∈ (leftOf es (ents.map (·.born)).reverse.toArray).toList := by
    intro x hx hc
    unfold leftOf
    simp only [Array.toList_filter, List.mem_filter]
    exact ⟨hx, by rw [hc]; rfl⟩
  have hnotin : ∀ x ∈ (leftOf es (ents.map (·.born)).reverse.toArray).toList, x ∉ ents := by
    intro x hx hc
    have := (mem_left hx).2
    simp at this
    exact this x hc I
  generalize hL : leftOf es (ents.map (·.born)).reverse.toArray = L at hmem hleft hnotin ⊢
  have hLes : ∀ x ∈ L.toList, x ∈ es.toList := fun x hx => by rw [← hL] at hx; exact (mem_left hx).1
  have e1 : L.filter (fun x => decide (x.born < clock)) = L := Array.filter_eq_self.2 (fun x hx => by simpa using hmem x (by simpa using hx))
  have e2 : L.filter (fun x => decide (x.born ≥ clock)) = #[] := by
    rw [Array.filter_eq_empty_iff]
    intro x hx
    have := hmem x (by simpa using hx)
    simp
    omega
  simp only [e1, e2, Array.append_empty]
  by_cases h0 : L.size = 0
  · left
    have hLe : L = #[] := Array.eq_empty_of_size_eq_zero h0
    subst hLe
    refine ⟨fun p hp => ?_, by simp [choose, Sem.run, Question.forced]⟩
    obtain ⟨e, he, hek⟩ := ofkey p hp
    have hc : (ents.map (·.born)).reverse.toArray.contains e.born = true := by
      cases hc : (ents.map (·.born)).reverse.toArray.contains e.born with
      | true => rfl
      | false => have := hleft e he hc; simp at this
    have hx := hbornin e he hc
    have : e.key ∈ ents.map (·.key) := List.mem_map.2 ⟨e, hx, rfl⟩
    rw [hk, hek] at this
    obtain ⟨q, hq, hqe⟩ := List.mem_map.1 this
    rw [← hinj _ _ hqe]; exact hq
  · right
    have hne' : L.isEmpty = false := by simp [Array.isEmpty, h0]
    simp only [hne', Bool.false_eq_true, if_false, Array.empty_append, Array.size_map]
    have hch : ∃ (j : Nat) (w1 : World), j < L.size ∧ w1.heap = w.heap ∧ w1.os = w.os ∧ w1.tape = w.tape ∧ w1.output = w.output ∧ (choose (Question.mapNext L.size)).run P w = .ok j w1 := by
      by_cases hf : L.size ≤ 1
      · exact ⟨0, w, by omega, rfl, rfl, rfl, rfl, by simp [choose, Sem.run, Question.forced, hf]⟩
      · exact ⟨_, w.drew, Nat.mod_lt _ (by omega), rfl, rfl, rfl, rfl, by
          simp only [choose, Sem.run, Question.forced, decide_eq_true_eq, hf, if_false, Question.cut]
          rfl⟩
    obtain ⟨j, w1, hj, a1, a2, a3, a4, hrun⟩ := hch
    have hLj : L[j] ∈ L.toList := by simp
    have hes := hLes _ hLj
    obtain ⟨p, hp, hpk, hpv⟩ := keyof _ hes
    have hset : ∀ o', (setObj r o').run P w1 = .ok () { w1 with heap := w1.heap.setIfInBounds r o' } := fun o' => by
      simp only [setObj, Sem.run]
      rw [a1, hr]
    refine ⟨p.1, p.2, { w1 with heap := w1.heap.setIfInBounds r (.mapIter (some b) clock ((ents.map (·.born)).reverse.toArray.push L[j].born) clock) }, hp, ?_, ?_, ⟨hne, es, clock, L[j] :: ents, ?_, ?_, hm, hst, ?_, ?_⟩, ⟨a2, a3, a4, ?_, ?_⟩, ?_⟩
    · intro hs
      have : enc p.1 ∈ ents.map (·.key) := by rw [hk]; exact List.mem_map.2 ⟨p.1, hs, rfl⟩
      obtain ⟨x, hx, hxk⟩ := List.mem_map.1 this
      have hnk := hst.2.2
      have hxe : x = L[j] := key_inj hnk (hin x hx) hes (by rw [hxk, hpk])
      exact hnotin _ hLj (hxe ▸ hx)
    · simp only [Sem.run_bind, hrun, Result.andThen, Array.getElem?_map, Array.getElem?_eq_getElem hj, Option.map_some, hset]
      rw [hpk, hpv]
      rfl
    · simp only [a1]
      rw [Array.getElem?_setIfInBounds_ne hne]; exact hb
    · simp only [a1]
      rw [Array.getElem?_setIfInBounds_self_of_lt hrlt]
      congr 2
      simp
    · intro x hx
      rcases List.mem_cons.1 hx with rfl | hx
      · exact hes
      · exact hin x hx
    · simp [hk, hpk]
    · simp [a1]
    · intro k hk' hne2
      simp only [a1]
      rw [Array.getElem?_setIfInBounds_ne (fun e => hne2 (by rw [e]))]
    · simp [a1]
theorem run_entryM {w : World} {r b : Nat} {m : List (K × Value)} {k : K} {u : Value} {seen : List K} (hinj : ∀ a b : K, enc a = enc b → a = b) (h : IterAt enc w r b m (k :: seen)) (hu : (k, u) ∈ m) : (Instr.entry (.pointer (some ⟨r, 0, none⟩))).run P w = .ok (.tuple #[enc k, u]) w := by
 have hnd : NodupM m := h.map.nodup
 obtain ⟨hne, es, clock, ents, hb, hr, hm, hst, hin, hk⟩ := h
 cases ents with
 | nil => simp at hk
 | cons e ents =>
  simp only [List.map_cons, List.cons.injEq] at hk
  have he := hin e (List.mem_cons_self ..)
  have hf : es.find? (·.born == e.born) = some e := by rw [← Array.find?_toList]; exact find_born e es.toList hst.2.1 he
  have hv : e.val = u := by
   have : (e.key, e.val) ∈ es.toList.map (fun e => (e.key, e.val)) := List.mem_map.2 ⟨e, he, rfl⟩
   rw [hm] at this
   obtain ⟨p, hp, h⟩ := List.mem_map.1 this
   simp only [Prod.mk.injEq] at h
   have hpk : p.1 = k := hinj _ _ (h.1.trans hk.1)
   have g1 := getM_of_mem hnd (show (p.1, p.2) ∈ m from hp)
   have g2 := getM_of_mem hnd hu
   rw [hpk, g2] at g1
   cases g1
   exact h.2.symm
  have hback : (List.map (fun x => x.born) (e :: ents)).reverse.toArray.back? = some e.born := by simp
  simp only [Instr.entry, getObj, Sem.run_bind, Sem.run, hr, hb, Result.andThen, hback, bne_self_eq_false, Bool.false_eq_true, if_false, hf, hk.1, hv]
  rfl
variable {f : FuncId} {N : Nat} {k : List Item} {σ : Store} {B : Base} {H H' : List Chunk} {R : Ending → World → Prop} {ops l : List Oper} {o : Oper} {KK : Act → World → Prop}
 {d : Nat} {op : Op} {ty : TypeId} {pos : String} {af : Array Edge} {gd : Option (Nat × Bool)} {v u : Value} {w : World} {t et : TypeId} {b r : Nat} {m : List (K × Value)}
theorem HL.rangeM {x : Operand} (i : Nat) (hi : nthC H i = some (mapC enc b m)) (hs : stat N ops ⟨some d, .range t x, ty, pos, af, gd⟩ σ = true) (hm : P.underlying t = some (.map kt et)) (hx : lookO σ x = some (.map (some b)))
  (h : ∀ r, HL P N ops l ((d, .pointer (some ⟨r, 0, none⟩)) :: σ) B (setC H i (iterC enc r b m [])) KK) : HL P N ops (⟨some d, .range t x, ty, pos, af, gd⟩ :: l) σ B H KK := by
 refine HL.opX (fun r : Nat => .pointer (some ⟨r, 0, none⟩)) (fun r => setC H i (iterC enc r b m [])) (fun _ => True) hs (fun w hw => ?_) (fun r _ => h r)
 have hM : MapAt enc w b m := hw.nth hi
 obtain ⟨es, clock, h1, h2, h3⟩ := hM
 have hlt := (Array.getElem?_eq_some_iff.1 h1).1
 refine ⟨w.heap.size, w.alloc (.mapIter (some b) clock #[] clock), ?_, trivial, hw.upd hi I I I (by simp) (fun k hk _ => heap_alloc_old w _ hk) ⟨by omega, es, clock, [], ?_, heap_alloc_new w _, h2, h3, (fun x hx => by cases hx), rfl⟩ (fun k hk => ?_)⟩
 ·simp [execOp, evO_of_lookO hx, run_range_map w t kt et b es clock hm h1]
 ·rw [heap_alloc_old w _ hlt]; exact h1
 ·rcases hk with rfl | rfl
  ·exact .inr (Nat.le_refl _)
  ·exact .inl I
theorem HL.nextM {x : Operand} {seen : List K} (i : Nat) (hi : nthC H i = some (iterC enc r b m seen)) (hinj : ∀ a b : K, enc a = enc b → a = b) (hs : stat N ops ⟨some d, .next x false, ty, pos, af, gd⟩ σ = true) (hx : lookO σ x = some (.pointer (some ⟨r, 0, none⟩)))
  (hend : (∀ p ∈ m, p.1 ∈ seen) → HL P N ops l ((d, .tuple ⟨[.bool false]⟩) :: σ) B H KK)
  (hnext : ∀ k u, (k, u) ∈ m → k ∉ seen → HL P N ops l ((d, .tuple ⟨[.bool true, enc k, u]⟩) :: σ) B (setC H i (iterC enc r b m (k :: seen))) KK) : HL P N ops (⟨some d, .next x false, ty, pos, af, gd⟩ :: l) σ B H KK := by
 intro w hw
 have hI : IterAt enc w r b m seen := hw.nth hi
 rcases run_nextM (P := P) (ty := ty) hinj hI with ⟨h1, h2⟩ | ⟨k, u, w', h1, h2, h3, h4, h5, h6⟩
 ·exact RunL.op hs (by simp [execOp, evO_of_lookO hx, h2]) (hend h1 w hw)
 ·exact RunL.op hs (by simp [execOp, evO_of_lookO hx, h3]) (hnext k u h1 h2 w' (hw.updG hi h5 (fun k hk => by cases hk; exact .inl I) h4 (fun k hk => .inl hk)))
theorem HL.entryM {x : Operand} {k : K} {seen : List K} (i : Nat) (hi : nthC H i = some (iterC enc r b m (k :: seen))) (hinj : ∀ a b : K, enc a = enc b → a = b) (hu : (k, u) ∈ m) (hs : stat N ops ⟨some d, .entry x, ty, pos, af, gd⟩ σ = true) (hx : lookO σ x = some (.pointer (some ⟨r, 0, none⟩)))
  (h : HL P N ops l ((d, .tuple ⟨[enc k, u]⟩) :: σ) B H KK) : HL P N ops (⟨some d, .entry x, ty, pos, af, gd⟩ :: l) σ B H KK := by
 refine HL.rd hs (fun w hw => ?_) h
 have hI : IterAt enc w r b m (k :: seen) := hw.nth hi
 simp [execOp, evO_of_lookO hx, run_entryM hinj hI hu]
theorem HR.iterEnd {seen : List K} (i : Nat) (hi : nthC H i = some (iterC enc r b m seen)) (h : HR P f N k σ B (setC H i (mapC enc b m)) R) : HR P f N k σ B H R :=
 HR.as i hi (fun w hp => IterAt.map hp) (fun k hk => .inr hk) h
end
end Go.GX
namespace Go.GX
open Go.RowKit
def ldV (P : Program) (t : TypeId) (cs : List Value) (o : Nat) : Option Value := match P.underlying t with
 | some td => match plainT td with
  | true => nthV cs o
  | false => match P.info? t with
   | some ti => match rngV cs o ti.size with
    | some us => some (.agg ⟨us⟩)
    | none => none
   | none => none
 | none => none
def stV (P : Program) (t : TypeId) (cs : List Value) (o : Nat) (u : Value) : Option (List Value) := match P.info? t with
 | some ti => match Nat.beq ti.size (lenV (cellsL u)), allOne (cellsL u), Nat.ble (o + lenV (cellsL u)) (lenV cs) with
  | true, true, true => some (putR cs o (cellsL u))
  | _, _, _ => none
 | none => none
section
variable {P : Program} {f : FuncId} {N : Nat} {k : List Item} {σ : Store} {B : Base} {H H' F : List Chunk} {R : Ending → World → Prop} {ops l : List Oper} {o : Oper} {K : Act → World → Prop} {KQ : Act → Prop}
 {d : Nat} {op : Op} {ty : TypeId} {pos : String} {af : Array Edge} {gd : Option (Nat × Bool)} {v u : Value} {w : World} {d' : Option Tmp}
theorem isRow_of {td : TypeDesc} (h : plainT td = false) : td.isRow = true := by cases td <;> first | rfl | (simp [plainT] at h)
theorem hx_ld {t : TypeId} {x : Operand} {b j : Nat} {T : TypeId} {cs : List Value} (i : Nat) (hx : lookO σ x = some (.pointer (some ⟨b, j, none⟩))) (hi : nthC H i = some (blkC b cs T)) (hu : ldV P t cs j = some u) :
  ∀ w, Sat B H w → (execOp (evO σ) ⟨d', .load t x, ty, pos, af, gd⟩).run P w = .ok (.value u) w := by
 unfold ldV at hu
 split at hu
 ·rename_i td hT
  split at hu
  ·rename_i hp; exact hx_loadB i hi hT hp hx hu
  ·rename_i hp
   split at hu
   ·rename_i ti hti
    split at hu
    ·rename_i us hus; cases hu; exact hx_loadR i hi hT (isRow_of hp) (by rw [hti]; rfl) hx hus
    ·cases hu
   ·cases hu
 ·cases hu
theorem HL.L {t : TypeId} {x : Operand} {b j : Nat} {T : TypeId} {cs : List Value} (i : Nat) (hx : lookO σ x = some (.pointer (some ⟨b, j, none⟩))) (hi : nthC H i = some (blkC b cs T)) (hs : stat N ops ⟨some d, .load t x, ty, pos, af, gd⟩ σ = true) (hu : ldV P t cs j = some u)
  (h : HL P N ops l ((d, u) :: σ) B H K) : HL P N ops (⟨some d, .load t x, ty, pos, af, gd⟩ :: l) σ B H K := HL.rd hs (hx_ld i hx hi hu) h
theorem HQ.L {t : TypeId} {x : Operand} {b j : Nat} {T : TypeId} {cs : List Value} (i : Nat) (hx : lookO σ x = some (.pointer (some ⟨b, j, none⟩))) (hi : nthC H i = some (blkC b cs T)) (hs : stat N ops ⟨some d, .load t x, ty, pos, af, gd⟩ σ = true) (hu : ldV P t cs j = some u)
  (h : HQ P N ops l ((d, u) :: σ) B H KQ) : HQ P N ops (⟨some d, .load t x, ty, pos, af, gd⟩ :: l) σ B H KQ := RunQ.op hs (hx_ld i hx hi hu) h
theorem HD.L {t : TypeId} {x : Operand} {b j n : Nat} {p : List (Nat × Bool)} {T : TypeId} {cs : List Value} (i : Nat) (hx : lookO σ x = some (.pointer (some ⟨b, j, none⟩))) (hi : nthC F i = some (blkC b cs T)) (ho : ops[n]? = some ⟨some d, .load t x, ty, pos, af, gd⟩) (hs : stat N ops ⟨some d, .load t x, ty, pos, af, gd⟩ σ = true) (hu : ldV P t cs j = some u)
  (h : HD P N ops p ((d, u) :: σ) B H F K) : HD P N ops ((n, true) :: p) σ B H F K := HD.rd ho hs (hx_ld i hx hi hu) h
theorem HL.S {t : TypeId} {x y : Operand} {b o : Nat} {T : TypeId} {cs cs' : List Value} (i : Nat) (hx : lookO σ x = some (.pointer (some ⟨b, o, none⟩))) (hi : nthC H i = some (blkC b cs T)) (hs : stat N ops ⟨none, .store t x y, ty, pos, af, gd⟩ σ = true) (hy : lookO σ y = some u) (hc : stV P t cs o u = some cs')
  (h : HL P N ops l σ B (setC H i (blkC b cs' T)) K) : HL P N ops (⟨none, .store t x y, ty, pos, af, gd⟩ :: l) σ B H K := by
 unfold stV at hc
 split at hc
 ·rename_i ti hti
  split at hc
  ·rename_i h1 h2 h3
   cases hc
   exact HL.storeR i hx hi hs hy I (by rw [hti, ← Nat.eq_of_beq_eq_true h1]; rfl) h2 h3 h
  ·cases hc
 ·cases hc
end
end Go.GX
namespace Go.GX
open Go.RowKit
section
variable {P : Program} {f : FuncId} {N : Nat} {k : List Item} {σ : Store} {B : Base} {H H' F : List Chunk} {R : Ending → World → Prop} {ops l : List Oper} {o : Oper} {K : Act → World → Prop} {KQ : Act → Prop} {C : World → Prop}
 {d : Nat} {op : Op} {ty : TypeId} {pos : String} {af : Array Edge} {gd : Option (Nat × Bool)} {v u : Value} {w : World} {d' : Option Tmp} {p : List (Nat × Bool)} {i : Nat} {S : World → Prop}
theorem hx_callV {g : FuncId} {x : Operand} {args : List Operand} {a1 caps : List Value} {tys : Array TypeId} (hg : IsFn P g) (hx : lookO σ x = some (.func (.func g) #[] caps.toArray)) (ha : vals σ args = some a1) :
    (execOp (evO σ) ⟨d', .call ⟨.value x, args.toArray, tys⟩, ty, pos, af, gd⟩).run P w = .ok (.enter g ((a1 ++ caps).toArray)) w := by
  obtain ⟨fn, c, hf, hb, hn⟩ := hg.out
  have hn' : ¬ fn.name = "runtime.NumGoroutine" := by simpa using hn
  have e := vals_eq ha
  simp [execOp, resolve, evO_of_lookO hx, Deferred.ofValue, invoke, callFunc, hf, hn', hb, e]
theorem HL.callV {r : Value} {g : FuncId} {x : Operand} {args : List Operand} {a1 caps : List Value} {tys : Array TypeId} (hg : IsFn P g) (hx : lookO σ x = some (.func (.func g) #[] caps.toArray))
  (hs : stat N ops ⟨some d, .call ⟨.value x, args.toArray, tys⟩, ty, pos, af, gd⟩ σ = true) (ha : vals σ args = some a1)
  (hc : ∀ w, Sat B H w → Calls P g ((a1 ++ caps).toArray) w fun e w' => e = .returned r ∧ Below w.heap.size w w')
  (h : HL P N ops l ((d, r) :: σ) B H K) : HL P N ops (⟨some d, .call ⟨.value x, args.toArray, tys⟩, ty, pos, af, gd⟩ :: l) σ B H K :=
 fun w hw => RunL.enter hs (hx_callV hg hx ha) ((hc w hw).mono fun e w' ⟨h1, h2⟩ => ⟨r, h1, h w' (hw.grow h2)⟩)
theorem HD.idxR {t e sz bytes : TypeId} {x y : Operand} {n : Nat} {cs : List Value} {kk : IntKind} {m : Int} (hv : Rd B F v cs n) (hE : Elem P t e sz bytes) (j : Nat) (ho : ops[i]? = some ⟨some d, .indexAddr t x y, ty, pos, af, gd⟩) (hs : stat N ops ⟨some d, .indexAddr t x y, ty, pos, af, gd⟩ σ = true) (hx : lookO σ x = some v) (hi : lookO σ y = some (.int kk m)) (hj : m = (j : Int)) (hlt : j < n)
  (h : HD P N ops p ((d, elemPtr v (j * sz)) :: σ) B H F K) : HD P N ops ((i, true) :: p) σ B H F K := HD.rd ho hs (hx_idx hv hE j hx hi hj hlt) h
theorem HD.loadI {t : TypeId} {td : TypeDesc} {x : Operand} {n j : Nat} {cs : List Value} (hv : Rd B F v cs n) (ho : ops[i]? = some ⟨some d, .load t x, ty, pos, af, gd⟩) (hs : stat N ops ⟨some d, .load t x, ty, pos, af, gd⟩ σ = true) (hT : P.underlying t = some td) (hp : plainT td = true) (hx : lookO σ x = some (elemPtr v j)) (hu : cs[j]? = some u)
  (h : HD P N ops p ((d, u) :: σ) B H F K) : HD P N ops ((i, true) :: p) σ B H F K := HD.rd ho hs (hx_loadI hv hT hp hx hu) h
theorem HD.loadE {t : TypeId} {td : TypeDesc} {x : Operand} {n j : Nat} {cs us : List Value} (hv : Rd B F v cs n) (ho : ops[i]? = some ⟨some d, .load t x, ty, pos, af, gd⟩) (hs : stat N ops ⟨some d, .load t x, ty, pos, af, gd⟩ σ = true) (hT : P.underlying t = some td) (hr : td.isRow = true) (hm : (P.info? t).map (·.size) = some us.length) (hne : us ≠ []) (hx : lookO σ x = some (elemPtr v j)) (hu : ∀ (i : Nat) u, us[i]? = some u → cs[j + i]? = some u)
  (h : HD P N ops p ((d, .agg ⟨us⟩) :: σ) B H F K) : HD P N ops ((i, true) :: p) σ B H F K := HD.rd ho hs (hx_loadE hv hT hr hm hne hx hu) h
theorem HD.field {t : TypeId} {x : Operand} {q : Nat} (ho : ops[i]? = some ⟨some d, .field t x q, ty, pos, af, gd⟩) (hs : stat N ops ⟨some d, .field t x q, ty, pos, af, gd⟩ σ = true) (hb : fldV P σ t x q = some v)
  (h : HD P N ops p ((d, v) :: σ) B H F K) : HD P N ops ((i, true) :: p) σ B H F K := HD.rd ho hs (fun w _ => hx_field hb w) h
theorem RunD.setV (t : Nat) {v v' : Value} (hl : look σ t = some v) (e : v = v') (h : RunD P N S ops p ((t, v') :: σ) w K) : RunD P N S ops p σ w K := by
 intro hS a ha
 exact h hS a (ha.weaken fun t' u hu => by
  rw [look_cons] at hu
  split at hu
  ·rename_i e'; subst e'; cases hu; rw [← e]; exact hl
  ·exact hu)
theorem HD.setV (t : Nat) {v v' : Value} (hl : look σ t = some v) (e : v = v') (h : HD P N ops p ((t, v') :: σ) B H F K) : HD P N ops p σ B H F K := fun w hw => RunD.setV t hl e (h w hw)
theorem HD.setB (t : Nat) {b : Bool} (c : Bool) (hl : look σ t = some (.bool b)) (e : b = c) (h : HD P N ops p ((t, .bool c) :: σ) B H F K) : HD P N ops p σ B H F K := HD.setV t hl (by rw [e]) h
theorem HD.split (t : Nat) {b : Bool} (hl : look σ t = some (.bool b)) (h1 : b = true → HD P N ops p ((t, .bool true) :: σ) B H F K) (h2 : b = false → HD P N ops p ((t, .bool false) :: σ) B H F K) : HD P N ops p σ B H F K := by
 cases hb : b with
 | true => exact HD.setB t true hl hb (h1 hb)
 | false => exact HD.setB t false hl hb (h2 hb)
theorem HL.split (t : Nat) {b : Bool} (hl : look σ t = some (.bool b)) (h1 : b = true → HL P N ops l ((t, .bool true) :: σ) B H K) (h2 : b = false → HL P N ops l ((t, .bool false) :: σ) B H K) : HL P N ops l σ B H K := by
 cases hb : b with
 | true => exact HL.setB t true hl hb (h1 hb)
 | false => exact HL.setB t false hl hb (h2 hb)
theorem HD.callB {r : Value} {g : FuncId} {args : List Operand} {a1 : List Value} {tys : Array TypeId} (is : List Nat) (hF : pickC H is = some F) (hd : distinctN is = true) (hg : IsFn P g) (ho : ops[i]? = some ⟨some d, .call ⟨.value (.func g), args.toArray, tys⟩, ty, pos, af, gd⟩)
  (hs : stat N ops ⟨some d, .call ⟨.value (.func g), args.toArray, tys⟩, ty, pos, af, gd⟩ σ = true) (ha : vals σ args = some a1)
  (hc : ∀ w, Sat B H w → Calls P g a1.toArray w fun e w' => e = .returned r ∧ Below w.heap.size w w')
  (h : HD P N ops p ((d, r) :: σ) B H F K) : HD P N ops ((i, false) :: p) σ B H F K := HD.one ho (HL.callB hg hs ha hc (HL.back is hF hd h))
end
theorem Sat.vw {B : Base} {H : List Chunk} {w : World} {v : Value} {e sz n i : Nat} {xs : List Value} (hw : Sat B H w) (hi : nthC H i = some (ownC v e sz n xs)) : Vw w v e sz n xs := hw.nth hi
theorem Sat.putOwn0 {α : Type} [Inhabited α] {enc : α → Value} {w : World} {e n g off cap q : Nat} {zs ys : List α} (h : Vw w (.slice (some ⟨g, off, none⟩) n cap) e 1 n (cellsOf (fun x => [enc x]) zs)) (hy : ys.length = n) :
  Sat ⟨w, feet [ownC (.slice (some ⟨g, off, none⟩) n cap) e 1 n (cellsOf (fun x => [enc x]) zs)]⟩ [ownC (.slice (some ⟨g, off, none⟩) n cap) e 1 n (cellsOf (fun x => [enc x]) ys)] (Sort.putRow enc (Sort.ahead w q) g off ys.toArray) := by
 have h1 := Sat.putOwn (q := q) (os := #[]) (enc := enc) (zs := zs) (ys := ys) h hy
 have e1 : Sort.grow (Sort.putRow enc (Sort.ahead w q) g off ys.toArray) #[] = Sort.putRow enc (Sort.ahead w q) g off ys.toArray := by
  unfold Sort.grow; rw [Array.append_empty]
 rw [e1] at h1
 exact h1
theorem Sat.cutOwn {B : Base} {w : World} {g off cap e n h : Nat} {α : Type} {f : α → Value} {ys zs : List α} (hw : Sat B [ownC (.slice (some ⟨g, off, none⟩) n cap) e 1 n (cellsOf (fun x => [f x]) ys)] w) (hh : h ≤ n) (hz : ys.take h = zs) :
  Sat B [ownC (.slice (some ⟨g, off, none⟩) h cap) e 1 h (cellsOf (fun x => [f x]) zs)] w := by
 refine hw.as 0 I (fun hv => ?_) (fun k hk => hk)
 have hv := Vw.sub (sz := 1) (h := h) (l := 0) (show Vw _ _ _ _ _ _ from hv) (Nat.zero_le _) hh
 have e1 : subV 1 (.slice (some ⟨g, off, none⟩) n cap) 0 h = .slice (some ⟨g, off, none⟩) h cap := by
  unfold subV; simp [Addr.add]
 rw [e1] at hv
 have e2 : ((cellsOf (fun x => [f x]) ys).drop (0 * 1)).take ((h - 0) * 1) = cellsOf (fun x => [f x]) zs := by
  rw [cellsOf_one1, cellsOf_one1, ← hz]; simp
 rw [e2] at hv
 exact hv
theorem Vw.shape {w : World} {v : Value} {e sz n : Nat} {xs : List Value} (h : Vw w v e sz n xs) : ∃ a c, v = .slice a n c := by
 rcases h.2 with ⟨rfl, rfl⟩ | ⟨g, off, cap, cur, rfl, _⟩
 ·exact ⟨_, _, rfl⟩
 ·exact ⟨_, _, rfl⟩
theorem HL.shape {P : Program} {N : Nat} {σ : Store} {B : Base} {H : List Chunk} {ops l : List Oper} {K : Act → World → Prop} {v : Value} {e sz n : Nat} {xs : List Value} (i : Nat) (hi : nthC H i = some (ownC v e sz n xs)) (h : ∀ a c, v = .slice a n c → HL P N ops l σ B H K) : HL P N ops l σ B H K :=
 HL.know (fun w hw => (Sat.vw hw hi).shape) fun ⟨a, c, e⟩ => h a c e
end Go.GX
namespace Go.GX
open Go.RowKit
section
variable {P : Program} {f : FuncId} {N : Nat} {k : List Item} {σ : Store} {B : Base} {H H' F : List Chunk} {R : Ending → World → Prop} {ops l : List Oper} {o : Oper} {K : Act → World → Prop} {KQ : Act → Prop} {C : World → Prop}
 {d : Nat} {op : Op} {ty : TypeId} {pos : String} {af : Array Edge} {gd : Option (Nat × Bool)} {v u : Value} {w : World} {d' : Option Tmp} {p : List (Nat × Bool)} {i : Nat} {S : World → Prop}
theorem run_eqSl (w : World) (n : Nat) (t e : TypeId) (a : Option Addr) (m c m' c' : Nat) (h : P.underlying t = some (.slice e)) : (Op.equalIn (n + 1) t (.slice a m c) (.slice none m' c')).run P w = .ok a.isNone w := by
 cases a <;> simp [Op.equalIn, run_underlying h]
theorem hx_eqNil {t e t' : TypeId} {x y : Operand} {a : Option Addr} {m c m' c' : Nat} (hT : P.underlying t = some (.slice e)) (hx : lookO σ x = some (.slice a m c)) (hy : lookO σ y = some (.slice none m' c')) :
  ∀ w, (execOp (evO σ) ⟨d', .binOp .eql t x y t', ty, pos, af, gd⟩).run P w = .ok (.value (.bool a.isNone)) w := by
 intro w
 have h1 := run_eqSl w 9999 t e a m c m' c' hT
 simp [execOp, evO_of_lookO hx, evO_of_lookO hy, eqGuard, binOp, Op.equal, Op.maxDepth, h1]
theorem HL.eqNil {t e t' : TypeId} {x y : Operand} {a : Option Addr} {m c m' c' : Nat} (hs : stat N ops ⟨some d, .binOp .eql t x y t', ty, pos, af, gd⟩ σ = true) (hT : P.underlying t = some (.slice e)) (hx : lookO σ x = some (.slice a m c)) (hy : lookO σ y = some (.slice none m' c'))
  (h : HL P N ops l ((d, .bool a.isNone) :: σ) B H K) : HL P N ops (⟨some d, .binOp .eql t x y t', ty, pos, af, gd⟩ :: l) σ B H K := HL.rd hs (fun w _ => hx_eqNil hT hx hy w) h
theorem HL.bslice0 {t e sz bytes : TypeId} (hE : Elem P t e sz bytes) (hs : stat N ops ⟨some d, .buildSlice t 0 #[], ty, pos, af, gd⟩ σ = true)
  (h : ∀ v', HL P N ops l ((d, v') :: σ) B (ownC v' e sz 0 [] :: H) K) : HL P N ops (⟨some d, .buildSlice t 0 #[], ty, pos, af, gd⟩ :: l) σ B H K := by
 intro w hw
 obtain ⟨i, z, g1, g2, g3, g4, g5⟩ := hE.info
 have hr : (execOp (evO σ) ⟨some d, .buildSlice t 0 #[], ty, pos, af, gd⟩).run P w = .ok (.value (.slice (some ⟨w.heap.size, 0, none⟩) 0 0)) (w.alloc (.cells #[] e)) := by
  have e0 : (sizeOf e).run P w = .ok sz w := by simp [sizeOf, typeInfo, g1, g3]
  simp [execOp, Instr.buildSlice, run_underlying hE.slice, e0, Instr.fill, newRow]
  congr 2
  exact Array.eq_empty_of_size_eq_zero (by simp)
 refine RunL.op hs hr (h _ _ (hw.push ((Below.refl _ _).alloc (Nat.le_refl _) _) ⟨by simp, .inr ⟨w.heap.size, 0, 0, #[], rfl, heap_alloc_new w _, Nat.le_refl _, by unfold maxLen; omega, by simp, by simp⟩⟩ (fun k hk => by cases hk; exact Nat.le_refl _)))
end
end Go.GX
namespace Go.GX
open Go.RowKit
section
variable {P : Program} {f : FuncId} {N : Nat} {k : List Item} {σ : Store} {B : Base} {H H' F : List Chunk} {R : Ending → World → Prop} {ops l : List Oper} {o : Oper} {K : Act → World → Prop} {KQ : Act → Prop} {C : World → Prop}
 {d : Nat} {op : Op} {ty : TypeId} {pos : String} {af : Array Edge} {gd : Option (Nat × Bool)} {v u : Value} {w : World} {d' : Option Tmp} {p : List (Nat × Bool)} {i : Nat} {S : World → Prop}
def wI (op : BinOp) (k : IntKind) (a b : Int) : Option Int :=
 match op with
 | .add => some (k.wrap (a + b))
 | .sub => some (k.wrap (a - b))
 | .mul => some (k.wrap (a * b))
 | .shl => some (k.wrap (a * 2 ^ (min b.toNat k.bits)))
 | .shr => some (a.fdiv (2 ^ (min b.toNat k.bits)))
 | .xor => some (k.wrap ((BitVec.ofInt k.bits a ^^^ BitVec.ofInt k.bits b).toNat))
 | .or => some (k.wrap ((BitVec.ofInt k.bits a ||| BitVec.ofInt k.bits b).toNat))
 | .and => some (k.wrap ((BitVec.ofInt k.bits a &&& BitVec.ofInt k.bits b).toNat))
 | _ => none
def isSh : BinOp → Bool
 | .shl => true
 | .shr => true
 | _ => false
theorem hx_wI {t t' : TypeId} {x y : Operand} {op : BinOp} {k k' : IntKind} {a b r c : Int} (hx : lookO σ x = some (.int k a)) (hy : lookO σ y = some (.int k' b)) (hk : k = k' ∨ isSh op = true) (hb : isSh op = true → 0 ≤ b) (hw : wI op k a b = some r) (hc : r = c) :
    ∀ w, (execOp (evO σ) ⟨d', .binOp op t x y t', ty, pos, af, gd⟩).run P w = .ok (.value (.int k c)) w := by
  intro w
  subst hc
  have hb' : isSh op = true → ¬ b < 0 := fun h => by have := hb h; omega
  unfold wI at hw
  split at hw <;> cases hw
  all_goals first
    | (have hb' := hb' I
       simp [execOp, evO_of_lookO hx, evO_of_lookO hy, eqGuard, binOp, Op.shift, hb']; done)
    | (have hk : k = k' := by rcases hk with h | h
                              · exact h
                              · cases h
       subst hk
       simp [execOp, evO_of_lookO hx, evO_of_lookO hy, eqGuard, binOp, Op.intArith, Op.intBits]; done)
theorem HQ.wI {t t' : TypeId} {x y : Operand} {op : BinOp} {k k' : IntKind} {a b r : Int} (c : Int) (hs : stat N ops ⟨some d, .binOp op t x y t', ty, pos, af, gd⟩ σ = true) (hx : lookO σ x = some (.int k a)) (hy : lookO σ y = some (.int k' b)) (hw : GX.wI op k a b = some r) (hk : k = k' ∨ isSh op = true) (hb : isSh op = true → 0 ≤ b) (hc : r = c)
  (h : HQ P N ops l ((d, .int k c) :: σ) B H KQ) : HQ P N ops (⟨some d, .binOp op t x y t', ty, pos, af, gd⟩ :: l) σ B H KQ := RunQ.op hs (fun w _ => hx_wI hx hy hk hb hw hc w) h
theorem hx_cv {s t : TypeId} {x : Operand} {ks k k' : IntKind} {a c : Int} (hx : lookO σ x = some (.int k a)) (hS : P.underlying s = some (.int ks)) (hT : P.underlying t = some (.int k')) (hc : k'.wrap a = c) :
  ∀ w, (execOp (evO σ) ⟨d', .convert s t x, ty, pos, af, gd⟩).run P w = .ok (.value (.int k' c)) w := by
 intro w
 subst hc
 simp [execOp, evO_of_lookO hx, convert, underlying, hS, hT, Conv.intToInt]
theorem HL.cv {s t : TypeId} {x : Operand} {ks k k' : IntKind} {a : Int} (c : Int) (hs : stat N ops ⟨some d, .convert s t x, ty, pos, af, gd⟩ σ = true) (hx : lookO σ x = some (.int k a)) (hS : P.underlying s = some (.int ks)) (hT : P.underlying t = some (.int k')) (hc : k'.wrap a = c)
  (h : HL P N ops l ((d, .int k' c) :: σ) B H K) : HL P N ops (⟨some d, .convert s t x, ty, pos, af, gd⟩ :: l) σ B H K := HL.rd hs (fun w _ => hx_cv hx hS hT hc w) h
theorem hx_bstr {t t2 e : TypeId} {x : Operand} {l' : List UInt8} (hv : Rd B H v (bcells l') l'.length) (hE : P.underlying t = some (.slice e)) (he : P.underlying e = some (.int .u8)) (hd : P.underlying t2 = some .string) (hx : lookO σ x = some v) :
  ∀ w, Sat B H w → (execOp (evO σ) ⟨d', .convert t t2 x, ty, pos, af, gd⟩).run P w = .ok (.value (str l')) w := by
 intro w hw
 simp [execOp, evO_of_lookO hx, run_bytes_str hE he hd (hv.is hw)]
theorem HL.bstr {t t2 e : TypeId} {x : Operand} {l' : List UInt8} (hv : Rd B H v (bcells l') l'.length) (hs : stat N ops ⟨some d, .convert t t2 x, ty, pos, af, gd⟩ σ = true) (hx : lookO σ x = some v) (hE : P.underlying t = some (.slice e)) (he : P.underlying e = some (.int .u8)) (hd : P.underlying t2 = some .string)
  (h : HL P N ops l ((d, str l') :: σ) B H K) : HL P N ops (⟨some d, .convert t t2 x, ty, pos, af, gd⟩ :: l) σ B H K := HL.rd hs (hx_bstr hv hE he hd hx) h
theorem Rd.blk {b n : Nat} {T : TypeId} {cs : List Value} (i : Nat) (hi : nthC H i = some (blkC b cs T)) : Rd B H (.slice (some ⟨b, 0, none⟩) n n) cs n := by
 intro w hw
 have hb : Blk w b cs T := hw.nth hi
 refine ⟨.inr ⟨b, 0, n, rfl, fun j u hu => ?_⟩, _, _, rfl, Nat.le_refl _⟩
 rw [Nat.zero_add, hb.cell]; exact hu
theorem u8n (n : Nat) : ((UInt8.ofNat n).toNat : Int) = ((n % 256 : Nat) : Int) := by rw [UInt8.toNat_ofNat']
theorem HR.exit {id : Nat} {k' : List Item} (he : exitTo id k = some k') (h : HR P f N k' σ B H R) : HR P f N (.code (.exit id) :: k) σ B H R := fun w hw => Run.exit he (h w hw)
end
end Go.GX
