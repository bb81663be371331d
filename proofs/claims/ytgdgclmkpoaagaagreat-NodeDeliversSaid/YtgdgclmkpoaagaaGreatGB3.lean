/- A part of the proof: contracts of the program's functions. Conditions: none. -/
import Derived.Carry
import Derived.Deep.MidRow
import Derived.Deep.Quiet
import Derived.Laws.IdiomRangeMap
import Derived.Laws.MakeOwn
import Derived.Laws.StructEq
import Derived.Laws.Tables
import Derived.Lib.AppendStr
import Derived.Lib.AppendZerosOnto
import Derived.Lib.OthersKept
import Derived.Lib.Overlaps
import Derived.Lib.OwnBridge
import Derived.MapKept
import Derived.Orders
import Derived.OrdersHeld
import Derived.Sort.Grow
import Derived.StillTail
import Derived.WalkKit
import Derived.WalkLawsBesides
import Derived.WalkSpells
import Derived.Test.YtgdgclmkpoaagaaGreatGB1
import Derived.Test.YtgdgclmkpoaagaaGreatGB2
set_option linter.unusedVariables false
set_option linter.unusedSectionVars false
set_option linter.unusedSimpArgs false
set_option maxRecDepth 100000
set_option maxHeartbeats 4000000
namespace Go.GX
open Go.RowKit
def placesS (P : Program) : List Field → Option (List (Nat × Nat))
 | [] => some []
 | f :: fs => match P.info? f.type with
  | some ti => match placesS P fs with
   | some r => some ((f.offset, ti.size) :: r)
   | none => none
  | none => none
theorem placesS_eq (P : Program) : ∀ {fs : List Field} {pl : List (Nat × Nat)}, placesS P fs = some pl → fs.mapM (fun f => (P.info? f.type).map fun i => (f.offset, i.size)) = some pl
 | [], pl, h => by simp [placesS] at h; subst h; simp
 | f :: fs, pl, h => by
  unfold placesS at h
  split at h
  ·rename_i ti hti
   split at h
   ·rename_i r hr; cases h
    simp only [List.mapM_cons, hti, placesS_eq P hr]; rfl
   ·cases h
  ·cases h
def nthP : List (Nat × Nat) → Nat → Option (Nat × Nat)
 | [], _ => none
 | p :: _, 0 => some p
 | _ :: r, n + 1 => nthP r n
theorem nthP_eq : ∀ (l : List (Nat × Nat)) (n : Nat), nthP l n = l[n]?
 | [], n => by simp [nthP]
 | p :: r, 0 => by simp [nthP]
 | p :: r, n + 1 => by simp [nthP, nthP_eq r n]
def fillG (place : Nat → Option (Nat × Nat)) (σ : Store) : List Value → List (Nat × Operand) → Option (List Value)
 | cs, [] => some cs
 | cs, (i, x) :: r => match place i, lookO σ x with
  | some (off, sz), some v => match Nat.beq (lenV (cellsL v)) sz, Nat.ble (off + lenV (cellsL v)) (lenV cs) with
   | true, true => fillG place σ (putR cs off (cellsL v)) r
   | _, _ => none
  | _, _ => none
theorem putR_get {o : Nat} {us cs : List Value} (h : o + us.length ≤ cs.length) (i : Nat) : (putR cs o us)[i]? = if i < o then cs[i]? else if i < o + us.length then us[i - o]? else cs[i]? := by
 rw [putR_eq h, List.append_assoc]
 by_cases h1 : i < o
 ·rw [if_pos h1, List.getElem?_append_left (by simp; omega), List.getElem?_take_of_lt h1]
 ·rw [if_neg h1, List.getElem?_append_right (by simp; omega)]
  have hl : (List.take o cs).length = o := by simp; omega
  rw [hl]
  by_cases h2 : i < o + us.length
  ·rw [if_pos h2, List.getElem?_append_left (by omega)]
  ·rw [if_neg h2, List.getElem?_append_right (by omega), List.getElem?_drop]
   congr 1
   omega
theorem foldl_put : ∀ (us : List Value) (j off : Nat) (cs : List Value), off + j + us.length ≤ cs.length →
  (us.zipIdx j).foldl (fun (a : Array Value) (x : Value × Nat) => a.setIfInBounds (off + x.2) x.1) cs.toArray = (putR cs (off + j) us).toArray := by
 intro us
 induction us with
 | nil => intro j off cs h; rw [putR_eq (by simpa using h)]; simp
 | cons u us ih =>
  intro j off cs h
  have h0 := h
  simp only [List.length_cons] at h
  simp only [List.zipIdx_cons, List.foldl_cons]
  have e : cs.toArray.setIfInBounds (off + j) u = (cs.set (off + j) u).toArray := by simp
  rw [e, ih (j + 1) off _ (by simp; omega)]
  congr 1
  apply List.ext_getElem?
  intro i
  rw [putR_get (by simp; omega), putR_get h0]
  simp only [List.length_cons]
  by_cases h1 : i < off + j
  ·rw [if_pos (by omega), if_pos h1, List.getElem?_set_ne (by omega)]
  ·by_cases h2 : i = off + j
   ·subst h2
    rw [if_pos (by omega), if_neg h1, if_pos (by omega), List.getElem?_set_self (by omega)]
    simp
   ·rw [if_neg (by omega), if_neg h1]
    by_cases h3 : i < off + (j + 1) + us.length
    ·rw [if_pos h3, if_pos (by omega), show i - (off + j) = (i - (off + (j + 1))) + 1 by omega, List.getElem?_cons_succ]
    ·rw [if_neg h3, if_neg (by omega), List.getElem?_set_ne (by omega)]
theorem fillG_eq {place : Nat → Option (Nat × Nat)} {σ : Store} : ∀ {ps : List (Nat × Operand)} {cs us : List Value}, fillG place σ cs ps = some us → Instr.fill place cs.toArray (ps.map fun (i, x) => (i, evO σ x)) = some us.toArray
 | [], cs, us, h => by simp [fillG] at h; subst h; simp [Instr.fill]
 | (i, x) :: r, cs, us, h => by
  unfold fillG at h
  split at h
  ·rename_i off sz v hp hv
   split at h
   ·rename_i h1 h2
    have h1' := Nat.eq_of_beq_eq_true h1
    have h2' := Nat.le_of_ble_eq_true h2
    rw [lenV_eq] at h1'
    rw [lenV_eq, lenV_eq] at h2'
    simp only [List.map_cons, Instr.fill, hp, evO_of_lookO hv]
    have hc : v.cells = (cellsL v).toArray := cellsL_eq v
    have hsz : v.cells.size = sz := by rw [hc]; simpa using h1'
    have hnot : ¬ (v.cells.size ≠ sz ∨ off + v.cells.size > cs.toArray.size) := by
     rw [hsz]; simp; omega
    rw [if_neg (by simpa using hnot)]
    have e1 : (v.cells.zipIdx.foldl (fun cs (x : Value × Nat) => match x with | (c, j) => cs.setIfInBounds (off + j) c) cs.toArray) = (putR cs off (cellsL v)).toArray := by
     have := foldl_put (cellsL v) 0 off cs (by simpa using h2')
     rw [Nat.add_zero] at this
     rw [← this, hc, ← Array.foldl_toList]
     congr 1
     simp
    rw [e1]
    exact fillG_eq h
   ·cases h
  ·cases h
def buildE (P : Program) (σ : Store) (t : TypeId) (ps : List (Nat × Operand)) : Option (List Value) :=
 match P.info? t, P.underlying t with
 | some it, some (.struct ⟨fl⟩) => match it.zero, placesS P fl with
  | some z, some pl => fillG (nthP pl) σ (cellsL z) ps
  | _, _ => none
 | some it, some (.array _ e) => match it.zero, P.info? e with
  | some z, some ie => fillG (fun i => some (placeAt 0 i ie.size, ie.size)) σ (cellsL z) ps
  | _, _ => none
 | _, _ => none
theorem buildE_run {P : Program} {σ : Store} {t : TypeId} {ps : List (Nat × Operand)} {us : List Value} (h : buildE P σ t ps = some us) (w : World) :
  (Instr.build t ((ps.map fun (i, x) => (i, evO σ x)).toArray)).run P w = .ok (.agg us.toArray) w := by
 refine run_build w t _ _ ?_
 unfold buildE at h
 unfold Program.built
 split at h
 ·rename_i it fl hit hu
  rw [hit, hu]
  split at h
  ·rename_i z pl hz hpl
   simp only [hz, placesS_eq P hpl]
   have h' := fillG_eq h
   rw [← cellsL_eq] at h'
   rw [← h']
   simp only []
   congr 1
   funext i
   simp [nthP_eq]
  ·cases h
 ·rename_i it n e hit hu
  rw [hit, hu]
  split at h
  ·rename_i z ie hz hie
   simp only [hz, hie]
   have h' := fillG_eq h
   rw [← cellsL_eq] at h'
   rw [← h']
   simp only []
   congr 1
   funext i
   simp [placeAt_eq]
  ·cases h
 ·cases h
section
variable {P : Program} {f : FuncId} {N : Nat} {k : List Item} {σ : Store} {B : Base} {H H' : List Chunk} {R : Ending → World → Prop} {ops l : List Oper} {o : Oper} {K : Act → World → Prop} {KQ : Act → Prop} {C : World → Prop}
 {d : Nat} {op : Op} {ty : TypeId} {pos : String} {af : Array Edge} {gd : Option (Nat × Bool)} {v u : Value} {w : World} {d' : Option Tmp}
theorem hx_build {t : TypeId} {ps : List (Nat × Operand)} {us : List Value} (h : buildE P σ t ps = some us) (w : World) : (execOp (evO σ) ⟨d', .build t ps.toArray, ty, pos, af, gd⟩).run P w = .ok (.value (.agg ⟨us⟩)) w := by
 have := buildE_run h w
 unfold execOp
 simp only [Sem.run_bind]
 have e : (ps.toArray.map fun (i, x) => (i, evO σ x)) = ((ps.map fun (i, x) => (i, evO σ x)).toArray) := by simp
 rw [e, this]
 rfl
theorem HL.build {t : TypeId} {ps : List (Nat × Operand)} {us : List Value} (hs : stat N ops ⟨some d, .build t ps.toArray, ty, pos, af, gd⟩ σ = true) (hb : buildE P σ t ps = some us)
  (h : HL P N ops l ((d, .agg ⟨us⟩) :: σ) B H K) : HL P N ops (⟨some d, .build t ps.toArray, ty, pos, af, gd⟩ :: l) σ B H K := HL.rd hs (fun w _ => hx_build hb w) h
theorem RunQ.build {t : TypeId} {ps : List (Nat × Operand)} {us : List Value} (hs : stat N ops ⟨some d, .build t ps.toArray, ty, pos, af, gd⟩ σ = true) (hb : buildE P σ t ps = some us)
  (h : RunQ P N C ops l ((d, .agg ⟨us⟩) :: σ) KQ) : RunQ P N C ops (⟨some d, .build t ps.toArray, ty, pos, af, gd⟩ :: l) σ KQ := RunQ.op hs (fun w _ => hx_build hb w) h
def partE (P : Program) (t : TypeId) (cs : List Value) (off : Nat) : Option Value :=
 match P.underlying t with
 | some td => match plainT td with
  | true => nthV cs off
  | false => match P.info? t with
   | some ti => match rngV cs off ti.size with
    | some us => some (.agg ⟨us⟩)
    | none => none
   | none => none
 | none => none
theorem partE_run {t : TypeId} {cs : List Value} {off : Nat} (h : partE P t cs off = some v) (w : World) : (part t ⟨cs⟩ off).run P w = .ok v w := by
 unfold partE at h
 split at h
 ·rename_i td hu
  split at h
  ·rename_i hp
   have e1 : (isAgg t).run P w = .ok false w := by
    simp [isAgg, underlying, hu]
    cases td <;> simp_all [plainT]
   rw [nthV_eq] at h
   have : (⟨cs⟩ : Array Value)[off]? = some v := by simpa using h
   simp [part, e1, this]
  ·rename_i hp
   split at h
   ·rename_i ti hti
    split at h
    ·rename_i us hus
     cases h
     have e1 : (isAgg t).run P w = .ok true w := by
      simp [isAgg, underlying, hu]
      cases td <;> simp_all [plainT]
     obtain ⟨g1, g2⟩ := rngV_eq hus
     subst g1
     have e2 : (sizeOf t).run P w = .ok ti.size w := by simp [sizeOf, typeInfo, hti]
     simp [part, e1, e2]
    ·cases h
   ·cases h
 ·cases h
def fldV (P : Program) (σ : Store) (t : TypeId) (x : Operand) (i : Nat) : Option Value :=
 match P.underlying t, lookO σ x with
 | some (.struct ⟨fl⟩), some (.agg ⟨cs⟩) => match nthF fl i with
  | some fd => partE P fd.type cs fd.offset
  | none => none
 | _, _ => none
theorem hx_field {t : TypeId} {x : Operand} {i : Nat} (h : fldV P σ t x i = some v) (w : World) : (execOp (evO σ) ⟨d', .field t x i, ty, pos, af, gd⟩).run P w = .ok (.value v) w := by
 unfold fldV at h
 split at h
 ·rename_i fl cs hu hx
  split at h
  ·rename_i fd hf
   have hp := partE_run h w
   rw [nthF_eq] at hf
   have hf' : (⟨fl⟩ : Array Field)[i]? = some fd := by simpa using hf
   simp [execOp, Instr.field, evO_of_lookO hx, underlying, hu, asAgg, hf', hp]
  ·cases h
 ·cases h
theorem HL.field {t : TypeId} {x : Operand} {i : Nat} (hs : stat N ops ⟨some d, .field t x i, ty, pos, af, gd⟩ σ = true) (hb : fldV P σ t x i = some v)
  (h : HL P N ops l ((d, v) :: σ) B H K) : HL P N ops (⟨some d, .field t x i, ty, pos, af, gd⟩ :: l) σ B H K := HL.rd hs (fun w _ => hx_field hb w) h
theorem RunQ.field {t : TypeId} {x : Operand} {i : Nat} (hs : stat N ops ⟨some d, .field t x i, ty, pos, af, gd⟩ σ = true) (hb : fldV P σ t x i = some v)
  (h : RunQ P N C ops l ((d, v) :: σ) KQ) : RunQ P N C ops (⟨some d, .field t x i, ty, pos, af, gd⟩ :: l) σ KQ := RunQ.op hs (fun w _ => hx_field hb w) h
def eqCell (P : Program) (t : TypeId) (x y : Value) : Option Bool :=
 match P.underlying t, x, y with
 | some (.int _), .int k a, .int k' b => match sameK k k' with
  | true => some (a == b)
  | false => none
 | some .string, .string ⟨⟨a⟩⟩, .string ⟨⟨b⟩⟩ => some (a == b)
 | some .bool, .bool a, .bool b => some (a == b)
 | _, _, _ => none
def eqFieldsE (P : Program) (xs ys : List Value) : List Field → Option Bool
  | [] => some true
  | f :: fs => match f.name == "_", nthV xs f.offset, nthV ys f.offset with
    | false, some x, some y => match eqCell P f.type x y, eqFieldsE P xs ys fs with
      | some b, some r => some (b && r)
      | _, _ => none
    | _, _, _ => none
theorem eqCell_run {t : TypeId} {x y : Value} {b : Bool} (h : eqCell P t x y = some b) (n : Nat) (w : World) : (Op.equalIn (n + 1) t x y).run P w = .ok b w ∧ ∀ td, P.underlying t = some td → plainT td = true := by
 unfold eqCell at h
 split at h
 ·rename_i k0 k a k' b' hu
  split at h
  ·rename_i hk
   have := sameK_eq hk; subst this; cases h
   exact ⟨run_equalIn_int w n t _ k0 _ _ hu, fun td htd => by rw [hu] at htd; cases htd; rfl⟩
  ·cases h
 ·rename_i a b' hu; cases h
  refine ⟨?_, fun td htd => by rw [hu] at htd; cases htd; rfl⟩
  have : (Op.equalIn (n + 1) t (.string ⟨⟨a⟩⟩) (.string ⟨⟨b'⟩⟩)).run P w = .ok ((⟨⟨a⟩⟩ : ByteArray) == ⟨⟨b'⟩⟩) w := by simp [Op.equalIn, run_underlying hu]
  rw [this]
  congr 1
  show ((⟨a⟩ : Array UInt8) == ⟨b'⟩) = _
  simp
 ·rename_i a b' hu; cases h
  exact ⟨run_equalIn_bool' w n t a b' hu, fun td htd => by rw [hu] at htd; cases htd; rfl⟩
 ·cases h
theorem eqFieldsE_run {xs ys : List Value} (n : Nat) (w : World) : ∀ {fs : List Field} {b : Bool}, eqFieldsE P xs ys fs = some b → (Op.eqFields (n + 1) ⟨xs⟩ ⟨ys⟩ fs).run P w = .ok b w
  | [], b, h => by simp [eqFieldsE] at h; subst h; simp [Op.eqFields]
  | f :: fs, b, h => by
    unfold eqFieldsE at h
    split at h
    · rename_i x y hn hx hy
      split at h
      · rename_i b' r hb hr
        cases h
        obtain ⟨h1, h2⟩ := eqCell_run hb n w
        cases hu : P.underlying f.type with
        | none => simp [eqCell, hu] at hb
        | some td =>
          have hp := h2 td hu
          have p1 : (part f.type ⟨xs⟩ f.offset).run P w = .ok x w := partE_run (by simp [partE, hu, hp, hx]) w
          have p2 : (part f.type ⟨ys⟩ f.offset).run P w = .ok y w := partE_run (by simp [partE, hu, hp, hy]) w
          have hn' : f.name ≠ "_" := by simpa using hn
          have ih := eqFieldsE_run n w hr
          simp only [Op.eqFields, hn', ne_eq, not_false_eq_true, if_true, Sem.run_bind, p1, p2, Result.andThen_ok, h1]
          cases b' <;> simp [ih]
      · cases h
    · cases h
def eqStruct (P : Program) (t : TypeId) (xs ys : List Value) : Option Bool :=
 match P.underlying t with
 | some (.struct ⟨fl⟩) => eqFieldsE P xs ys fl
 | _ => none
theorem eqStruct_run {t : TypeId} {xs ys : List Value} {b : Bool} (hp : P.stoodInHeld t = false) (h : eqStruct P t xs ys = some b) (w : World) : (Op.equal t (.agg ⟨xs⟩) (.agg ⟨ys⟩)).run P w = .ok b w := by
 unfold eqStruct at h
 split at h
 ·rename_i fl hu
  have hf : P.fieldsOf t = ⟨fl⟩ := by unfold Program.fieldsOf; rw [hu]
  have := run_equalIn_struct (P := P) w 9999 t ⟨xs⟩ ⟨ys⟩ (by rw [hf, hu]) hp
  unfold Op.equal
  show (Op.equalIn (9999 + 1) t (.agg ⟨xs⟩) (.agg ⟨ys⟩)).run P w = _
  rw [this, hf]
  exact eqFieldsE_run 9998 w h
 ·cases h
theorem hx_eqS {t t' : TypeId} {x y : Operand} {xs ys : List Value} {b : Bool} (hp : P.stoodInHeld t = false) (hm : P.eqGuardType P.depth t = false) (hx : lookO σ x = some (.agg ⟨xs⟩)) (hy : lookO σ y = some (.agg ⟨ys⟩)) (h : eqStruct P t xs ys = some b) (w : World) :
  (execOp (evO σ) ⟨d', .binOp .eql t x y t', ty, pos, af, gd⟩).run P w = .ok (.value (.bool b)) w := by
 have h1 := eqStruct_run hp h w
 have h2 := run_eqGuard_agg (P := P) w .eql t x y ⟨xs⟩ ⟨ys⟩ hm
 simp [execOp, evO_of_lookO hx, evO_of_lookO hy, h2, binOp, h1]
theorem hx_neS {t t' : TypeId} {x y : Operand} {xs ys : List Value} {b : Bool} (hp : P.stoodInHeld t = false) (hm : P.eqGuardType P.depth t = false) (hx : lookO σ x = some (.agg ⟨xs⟩)) (hy : lookO σ y = some (.agg ⟨ys⟩)) (h : eqStruct P t xs ys = some b) (w : World) :
  (execOp (evO σ) ⟨d', .binOp .neq t x y t', ty, pos, af, gd⟩).run P w = .ok (.value (.bool (!b))) w := by
 have h1 := eqStruct_run hp h w
 have h2 := run_eqGuard_agg (P := P) w .neq t x y ⟨xs⟩ ⟨ys⟩ hm
 simp [execOp, evO_of_lookO hx, evO_of_lookO hy, h2, binOp, h1]
theorem RunQ.eqS {t t' : TypeId} {x y : Operand} {xs ys : List Value} {b : Bool} (hs : stat N ops ⟨some d, .binOp .eql t x y t', ty, pos, af, gd⟩ σ = true) (hp : P.stoodInHeld t = false) (hm : P.eqGuardType P.depth t = false) (hx : lookO σ x = some (.agg ⟨xs⟩)) (hy : lookO σ y = some (.agg ⟨ys⟩)) (hb : eqStruct P t xs ys = some b)
  (h : RunQ P N C ops l ((d, .bool b) :: σ) KQ) : RunQ P N C ops (⟨some d, .binOp .eql t x y t', ty, pos, af, gd⟩ :: l) σ KQ := RunQ.op hs (fun w _ => hx_eqS hp hm hx hy hb w) h
theorem RunQ.neS {t t' : TypeId} {x y : Operand} {xs ys : List Value} {b : Bool} (hs : stat N ops ⟨some d, .binOp .neq t x y t', ty, pos, af, gd⟩ σ = true) (hp : P.stoodInHeld t = false) (hm : P.eqGuardType P.depth t = false) (hx : lookO σ x = some (.agg ⟨xs⟩)) (hy : lookO σ y = some (.agg ⟨ys⟩)) (hb : eqStruct P t xs ys = some b)
  (h : RunQ P N C ops l ((d, .bool (!b)) :: σ) KQ) : RunQ P N C ops (⟨some d, .binOp .neq t x y t', ty, pos, af, gd⟩ :: l) σ KQ := RunQ.op hs (fun w _ => hx_neS hp hm hx hy hb w) h
theorem loadVarR {t : TypeId} {td : TypeDesc} {b o m : Nat} {T : TypeId} {cs us : List Value} (hw : Sat B H w) (i : Nat) (hi : nthC H i = some (blkC b cs T)) (hT : P.underlying t = some td) (hr : td.isRow = true) (hm : (P.info? t).map (·.size) = some m) (hu : rngV cs o m = some us) : (loadVar t ⟨b, o, none⟩).run P w = .ok (.agg ⟨us⟩) w := by
  have hB : Blk w b cs T := hw.nth hi
  have h1 := hx_loadR (P := P) (σ := [(0, .pointer (some ⟨b, o, none⟩))]) (x := .tmp 0) (d' := none) (ty := 0) (pos := "") (af := #[]) (gd := none) i hi hT hr hm I hu w hw
  simp [execOp, evO, look, Instr.loadAt, Instr.sureAddr] at h1
  cases h2 : (loadVar t ⟨b, o, none⟩).run P w with
  | ok v' w' => simp [h2] at h1; rw [h1.1, h1.2]
  | halt x w' => simp [h2] at h1
variable {F : List Chunk} {i : Nat} {p : List (Nat × Bool)}
theorem HD.build {t : TypeId} {ps : List (Nat × Operand)} {us : List Value} (ho : ops[i]? = some ⟨some d, .build t ps.toArray, ty, pos, af, gd⟩) (hs : stat N ops ⟨some d, .build t ps.toArray, ty, pos, af, gd⟩ σ = true) (hb : buildE P σ t ps = some us)
  (h : HD P N ops p ((d, .agg ⟨us⟩) :: σ) B H F K) : HD P N ops ((i, true) :: p) σ B H F K := HD.rd ho hs (fun w _ => hx_build hb w) h
end
end Go.GX
namespace Go.GX
open Go.RowKit
section
variable {K : Type} [DecidableEq K] {P : Program} {kt : TypeId} {enc : K → Value}
theorem eraseMap {α β : Type} (f : α → β) : ∀ (l : List α) (i : Nat), (l.eraseIdx i).map f = (l.map f).eraseIdx i
 | [], _ => rfl
 | _ :: _, 0 => rfl
 | a :: l, i + 1 => by simp [eraseMap f l i]
variable {f : FuncId} {N : Nat} {k : List Item} {σ : Store} {B : Base} {H H' : List Chunk} {R : Ending → World → Prop} {ops l : List Oper} {o : Oper} {KK : Act → World → Prop} {KQ : Act → Prop} {C : World → Prop}
 {d : Nat} {op : Op} {ty : TypeId} {pos : String} {af : Array Edge} {gd : Option (Nat × Bool)} {v u : Value} {w : World} {d' : Option Tmp} {t et : TypeId} {b : Nat} {m : List (K × Value)} {z : Value}
theorem zero_run {et : TypeId} {z : Value} (hz : (P.info? et).bind (·.zero) = some z) (w : World) : (zeroValue et).run P w = .ok z w := by
 cases hi : P.info? et with
 | none => rw [hi] at hz; cases hz
 | some ti => rw [hi] at hz; simp at hz; simp [zeroValue, typeInfo, hi, hz]
theorem Ent.own0 {v : Value} {e sz n n' : Nat} {xs xs' : List Value} (hn : n = n') (hx : xs = xs') : Ent B (ownC v e sz n xs :: H) (ownC v e sz n' xs' :: H) := by subst hn; subst hx; exact Ent.refl
end
end Go.GX
namespace Go.GX
open Go.RowKit
section
variable {α : Type} {E : α → List Value} {sz : Nat}
def cellsOf (E : α → List Value) (l : List α) : List Value := (l.map E).flatten
theorem cellsOf_app (l l' : List α) : cellsOf E (l ++ l') = cellsOf E l ++ cellsOf E l' := by simp [cellsOf]
theorem cellsOf_one (a : α) : cellsOf E [a] = E a := by simp [cellsOf]
theorem cellsOf_len (hE : ∀ a, (E a).length = sz) : ∀ (l : List α), (cellsOf E l).length = l.length * sz
 | [] => by simp [cellsOf]
 | a :: l => by
  have := cellsOf_len hE l
  unfold cellsOf at this ⊢
  rw [List.map_cons, List.flatten_cons, List.length_append, this, hE, List.length_cons, Nat.add_mul]; omega
theorem cellsOf_drop (hE : ∀ a, (E a).length = sz) : ∀ (j : Nat) (l : List α), (cellsOf E l).drop (j * sz) = cellsOf E (l.drop j)
 | 0, l => by simp
 | j + 1, [] => by simp [cellsOf]
 | j + 1, a :: l => by
  have := cellsOf_drop hE j l
  unfold cellsOf at this ⊢
  rw [List.map_cons, List.flatten_cons, List.drop_append, hE, List.drop_eq_nil_of_le (by rw [hE, Nat.add_mul]; omega), List.nil_append, show (j + 1) * sz - sz = j * sz by rw [Nat.add_mul]; omega, this]
  rfl
theorem cellsOf_take (hE : ∀ a, (E a).length = sz) : ∀ (j : Nat) (l : List α), (cellsOf E l).take (j * sz) = cellsOf E (l.take j)
 | 0, l => by simp [cellsOf]
 | j + 1, [] => by simp [cellsOf]
 | j + 1, a :: l => by
  have := cellsOf_take hE j l
  unfold cellsOf at this ⊢
  rw [List.map_cons, List.flatten_cons, List.take_append, hE, List.take_of_length_le (by rw [hE, Nat.add_mul]; omega), show (j + 1) * sz - sz = j * sz by rw [Nat.add_mul]; omega, this]
  rfl
theorem cellsOf_get (hE : ∀ a, (E a).length = sz) {l : List α} {j : Nat} {a : α} (ha : l[j]? = some a) : ∀ (i : Nat) u, (E a)[i]? = some u → (cellsOf E l)[j * sz + i]? = some u := by
 intro i u hu
 obtain ⟨hj, he⟩ := List.getElem?_eq_some_iff.1 ha
 rw [← List.getElem?_drop, cellsOf_drop hE, List.drop_eq_getElem_cons hj, he]
 show ((a :: l.drop (j + 1)).map E).flatten[i]? = _
 rw [List.map_cons, List.flatten_cons, List.getElem?_append_left (List.getElem?_eq_some_iff.1 hu).1]
 exact hu
theorem cellsOf_get1 {f : α → Value} {l : List α} {j : Nat} {a : α} (ha : l[j]? = some a) : (cellsOf (fun x => [f x]) l)[j * 1]? = some (f a) := by
 have := cellsOf_get (E := fun x => [f x]) (sz := 1) (fun _ => rfl) ha 0 (f a) I
 simpa using this
theorem cellsOf_one1 (f : α → Value) (l : List α) : cellsOf (fun x => [f x]) l = l.map f := by
 induction l with
 | nil => rfl
 | cons a l ih => unfold cellsOf at ih ⊢; simp [ih]
theorem getSome {l : List α} {j : Nat} (h : j < l.length) : ∃ a, l[j]? = some a := ⟨l[j], List.getElem?_eq_getElem h⟩
theorem take_succ_get {l : List α} {j : Nat} {a : α} (ha : l[j]? = some a) : l.take (j + 1) = l.take j ++ [a] := by
 obtain ⟨hj, he⟩ := List.getElem?_eq_some_iff.1 ha
 rw [← he, List.take_succ_eq_append_getElem hj]
theorem drop_get {l : List α} {j : Nat} {a : α} (ha : l[j]? = some a) : l.drop j = a :: l.drop (j + 1) := by
 obtain ⟨hj, he⟩ := List.getElem?_eq_some_iff.1 ha
 rw [← he]; exact List.drop_eq_getElem_cons hj
theorem find_at {p : α → Bool} {l : List α} {j : Nat} {a : α} (ha : l[j]? = some a) (hno : ∀ x ∈ l.take j, p x = false) (hp : p a = true) : l.find? p = some a := by
 obtain ⟨hj, he⟩ := List.getElem?_eq_some_iff.1 ha
 have e : l = l.take j ++ a :: l.drop (j + 1) := by rw [← drop_get ha, List.take_append_drop]
 rw [e, List.find?_append, List.find?_eq_none.2 (fun x hx => by simp [hno x hx])]
 simp [hp]
theorem one_allcells {E : α → List Value} (h1 : ∀ a, allOne (E a) = true) (l : List α) : ∀ u ∈ cellsOf E l, u.oneCell' = true := by
 intro u hu
 unfold cellsOf at hu
 obtain ⟨c, hc, hu⟩ := List.mem_flatten.1 hu
 obtain ⟨a, _, rfl⟩ := List.mem_map.1 hc
 exact allOne_spec (h1 a) u hu
end
abbrev iC (n : Int) : List Value := [.int .i64 n]
theorem iC_len (n : Int) : (iC n).length = 1 := rfl
section
variable {P : Program} {N : Nat} {σ : Store} {B : Base} {H : List Chunk} {ops l : List Oper} {K : Act → World → Prop} {d : Nat} {ty : TypeId} {pos : String} {af : Array Edge} {gd : Option (Nat × Bool)}
theorem HR.skip {f : FuncId} {k : List Item} {R : Ending → World → Prop} (h : HR P f N k σ B H R) : HR P f N (.code .skip :: k) σ B H R := fun w hw => Run.skip (h w hw)
theorem HL.setHd {t : Nat} {v v' : Value} (e : v = v') (h : HL P N ops l ((t, v') :: σ) B H K) : HL P N ops l ((t, v) :: σ) B H K := by subst e; exact h
theorem HL.callO {g : FuncId} {args : List Operand} {a1 : List Value} {tys : Array TypeId} {e sz n : Nat} {xs : List Value} (hg : IsFn P g)
  (hs : stat N ops ⟨some d, .call ⟨.value (.func g), args.toArray, tys⟩, ty, pos, af, gd⟩ σ = true) (ha : vals σ args = some a1)
  (hc : ∀ w, Sat B H w → Calls P g a1.toArray w fun e' w' => ∃ v, e' = .returned v ∧ Sat (base w) [ownC v e sz n xs] w')
  (h : ∀ v, HL P N ops l ((d, v) :: σ) B (ownC v e sz n xs :: H) K) : HL P N ops (⟨some d, .call ⟨.value (.func g), args.toArray, tys⟩, ty, pos, af, gd⟩ :: l) σ B H K :=
 HL.callX (r := fun v => v) (Q := fun _ => True) (G := fun v => [ownC v e sz n xs]) hg hs ha (fun w hw => (hc w hw).mono fun e' w' ⟨v, h1, h2⟩ => ⟨v, h1, trivial, h2⟩) (fun v _ => h v)
theorem HL.storeEs {v u : Value} {t e sz n j : Nat} {x y : Operand} {xs us : List Value} (i : Nat) (hi : nthC H i = some (ownC v e sz n xs)) (hs : stat N ops ⟨none, .store t x y, ty, pos, af, gd⟩ σ = true)
  (hx : lookO σ x = some (elemPtr v j)) (hy : lookO σ y = some u) (hus : cellsL u = us) (hm : (P.info? t).map (·.size) = some us.length) (hone : allOne us = true) (hfit : j + us.length ≤ xs.length) (hne : us ≠ [])
  (h : HL P N ops l σ B (setC H i (ownC v e sz n (xs.take j ++ us ++ xs.drop (j + us.length)))) K) : HL P N ops (⟨none, .store t x y, ty, pos, af, gd⟩ :: l) σ B H K := by
 refine HL.opU hs (fun w hw => ?_) h
 have hv : Vw w v e sz n xs := hw.nth hi
 have hpos : 0 < us.length := List.length_pos_iff.2 hne
 obtain ⟨hl, hv⟩ := hv
 rcases hv with ⟨rfl, rfl⟩ | ⟨g, off, cap, cur, rfl, hg, hnc, hcm, hcs, htake⟩
 ·have : xs.length = 0 := by rw [hl]; omega
  omega
 ·have hx' : lookO σ x = some (.pointer (some ⟨g, off + j, none⟩)) := hx
  have hsz : n * sz ≤ cap * sz := Nat.mul_le_mul_right _ hnc
  have hfit2 : off + j + us.length ≤ cur.size := by omega
  have e1 : (sizeOf t).run P w = .ok us.length w := by
   cases h : P.info? t with
   | none => rw [h] at hm; cases hm
   | some ti => rw [h] at hm; simp at hm; simp [sizeOf, typeInfo, h, hm]
  have hst := run_storeCells_at P g (off + j) e us 0 cur w hg (by simpa using hfit2) (allOne_spec hone)
  simp only [Nat.add_zero] at hst
  have hc : u.cells = us.toArray := by rw [cellsL_eq, hus]
  have hr : (storeVar t ⟨g, off + j, none⟩ u).run P w = .ok () (w.setRow g (cur.toList.take (off + j) ++ us ++ cur.toList.drop (off + j + us.length)).toArray) := by
   unfold storeVar
   rw [Sem.run_bind, e1]
   simp only [Result.andThen_ok, hc]
   simp [hst]
  refine ⟨w.setRow g (cur.toList.take (off + j) ++ us ++ cur.toList.drop (off + j + us.length)).toArray, ?_, hw.upd hi I I I (by simp) (fun k hk hne => setRow_other w g k _ (fun e => hne (by rw [e]; rfl))) ⟨?_, .inr ⟨g, off, cap, _, rfl, setRow_heap w g cur _ e _ hg, hnc, hcm, ?_, ?_⟩⟩ (fun k hk => .inl hk)⟩
  ·simp [execOp, evO_of_lookO hx', evO_of_lookO hy, Instr.storeAt, Instr.sureAddr, hr]
  ·simp; omega
  ·simp; omega
  ·have hcl : cur.toList.length = cur.size := Array.length_toList
   rw [← htake]
   have e2 : cur.toList.take (off + j) = cur.toList.take off ++ (cur.toList.drop off).take j := by rw [List.take_add]
   rw [e2]
   simp only [List.append_assoc]
   rw [List.drop_append_of_le_length (by simp; omega), List.drop_eq_nil_of_le (by simp; omega), List.nil_append]
   rw [List.take_take, Nat.min_eq_left (by omega)]
   have hl3 : ((cur.toList.drop off).take j).length = j := by simp; omega
   rw [List.take_append, List.take_of_length_le (by omega), hl3]
   congr 1
   rw [List.take_append, List.take_of_length_le (by omega)]
   congr 1
   rw [List.drop_take, List.drop_drop, show n * sz - (j + us.length) = n * sz - j - us.length by omega]
   congr 2
   omega
theorem HL.storeE {v u : Value} {t e sz n j : Nat} {x y : Operand} {xs : List Value} (i : Nat) (hi : nthC H i = some (ownC v e sz n xs)) (hs : stat N ops ⟨none, .store t x y, ty, pos, af, gd⟩ σ = true)
  (hx : lookO σ x = some (elemPtr v j)) (hy : lookO σ y = some u) (hus : cellsL u = [u]) (hm : (P.info? t).map (·.size) = some 1) (hone : allOne [u] = true) (hj : j < xs.length)
  (h : HL P N ops l σ B (setC H i (ownC v e sz n (xs.set j u))) K) : HL P N ops (⟨none, .store t x y, ty, pos, af, gd⟩ :: l) σ B H K := by
 refine HL.storeEs i hi hs hx hy hus hm hone (by simp; omega) (by simp) ?_
 have : xs.take j ++ [u] ++ xs.drop (j + [u].length) = xs.set j u := by
  rw [List.set_eq_take_append_cons_drop, if_pos hj]; simp
 rw [this]; exact h
end
theorem cells1_set {α : Type} {f : α → Value} (l : List α) (j : Nat) (a : α) : (cellsOf (fun x => [f x]) l).set (j * 1) (f a) = cellsOf (fun x => [f x]) (l.set j a) := by
 rw [cellsOf_one1, cellsOf_one1, Nat.mul_one, List.map_set]
end Go.GX
namespace Go.GX
open Go.RowKit
section
variable {P : Program} {f : FuncId} {N : Nat} {k : List Item} {σ : Store} {B : Base} {H H' F : List Chunk} {R : Ending → World → Prop} {ops l : List Oper} {o : Oper} {K : Act → World → Prop}
 {d : Nat} {op : Op} {ty : TypeId} {pos : String} {af : Array Edge} {gd : Option (Nat × Bool)} {v u : Value} {n : Nat} {L : Array Bool}
def AK (P : Program) (B : Base) (F : List Chunk) (ops : List Oper) (n : Nat) (L : Array Bool) (K : Act → World → Prop) : Act → World → Prop := fun a w => Sat B F w ∧ wpAnyH P .any ops.toArray (QN K) (fun w => Sat B F w) n L a w
def HA (P : Program) (N : Nat) (ops : List Oper) (n : Nat) (L : Array Bool) (σ : Store) (B : Base) (H F : List Chunk) (K : Act → World → Prop) : Prop := ∀ w, Sat B H w → Sat B F w → ∀ a, Agr N σ a → wpAnyH P .any ops.toArray (QN K) (fun w => Sat B F w) n L a w
theorem HR.regionA (is : List Nat) (hF : pickC H is = some F) (hd : distinctN is = true) {id : Nat} (hm : P.follows .mixedOrders = true) (h : HA P N ops ops.toArray.size (Array.replicate ops.toArray.size false) σ B H F (CRun P f k R)) : HR P f N (.code (.region id ops.toArray true) :: k) σ B H R := by
 intro w hw a ha
 have hb : Below w.heap.size w { w with drawn := w.drawn + 1 } := ⟨rfl, rfl, rfl, Nat.le_refl _, fun _ _ => rfl⟩
 exact CRun.of_wp (wp_region_held (S := fun w => Sat B F w) hm (h _ (hw.grow hb) ((hw.grow hb).pick is hF hd) a ha))
theorem HA.rd (i : Nat) (hf : ((Region.noSelect ops.toArray && Region.free .any ops.toArray L i) && (Region.ready .any ops.toArray L).contains i) = true) (ho : ops[i]? = some ⟨some d, op, ty, pos, af, gd⟩) (hs : stat N ops ⟨some d, op, ty, pos, af, gd⟩ σ = true)
  (hr : ∀ w, Sat B F w → (execOp (evO σ) ⟨some d, op, ty, pos, af, gd⟩).run P w = .ok (.value v) w) (h : HA P N ops n (L.setIfInBounds i true) ((d, v) :: σ) B H F K) : HA P N ops (n + 1) L σ B H F K := by
 intro w hw hF a ha
 obtain ⟨h1, h2, h3, h4⟩ := stat_spec hs
 simp only [Bool.and_eq_true] at hf
 refine wpAnyH_take (oi := ⟨some d, op, ty, pos, af, gd⟩) (v := v) (by simpa using ho) hf.1.1 hf.1.2 hf.2 (fun c a w h => absurd h.1 (by nofun)) (.inl ⟨wantedS_wanted ha h4, fun w hw => ?_⟩) hF (h w hw hF _ (ha.put (some d) v h3))
 rw [evalAt ha _ h1 h2]
 exact hr w hw
theorem HA.ev (i : Nat) (hf : ((Region.noSelect ops.toArray && Region.free .any ops.toArray L i) && (Region.ready .any ops.toArray L).contains i) = true) (ho : ops[i]? = some ⟨some d, op, ty, pos, af, gd⟩) (hs : stat N ops ⟨some d, op, ty, pos, af, gd⟩ σ = true) (he : evOp P σ op = some v)
  (h : HA P N ops n (L.setIfInBounds i true) ((d, v) :: σ) B H F K) : HA P N ops (n + 1) L σ B H F K := HA.rd i hf ho hs (fun w _ => evOp_run he) h
theorem HA.evc {c : Prop} (i : Nat) (hf : ((Region.noSelect ops.toArray && Region.free .any ops.toArray L i) && (Region.ready .any ops.toArray L).contains i) = true) (ho : ops[i]? = some ⟨some d, op, ty, pos, af, gd⟩) (hs : stat N ops ⟨some d, op, ty, pos, af, gd⟩ σ = true) (he : evC P σ op = some (v, c)) (hc : c)
  (h : HA P N ops n (L.setIfInBounds i true) ((d, v) :: σ) B H F K) : HA P N ops (n + 1) L σ B H F K := HA.rd i hf ho hs (fun w _ => evC_run he hc) h
theorem HA.loadB {t : TypeId} {td : TypeDesc} {x : Operand} {b j : Nat} {T : TypeId} {cs : List Value} (i c : Nat) (hf : ((Region.noSelect ops.toArray && Region.free .any ops.toArray L i) && (Region.ready .any ops.toArray L).contains i) = true) (ho : ops[i]? = some ⟨some d, .load t x, ty, pos, af, gd⟩) (hx : lookO σ x = some (.pointer (some ⟨b, j, none⟩))) (hi : nthC F c = some (blkC b cs T)) (hs : stat N ops ⟨some d, .load t x, ty, pos, af, gd⟩ σ = true)
  (hT : P.underlying t = some td) (hp : plainT td = true) (hu : nthV cs j = some u)
  (h : HA P N ops n (L.setIfInBounds i true) ((d, u) :: σ) B H F K) : HA P N ops (n + 1) L σ B H F K := HA.rd i hf ho hs (hx_loadB c hi hT hp hx hu) h
theorem HA.loadR {t : TypeId} {td : TypeDesc} {x : Operand} {b o m : Nat} {T : TypeId} {cs us : List Value} (i c : Nat) (hf : ((Region.noSelect ops.toArray && Region.free .any ops.toArray L i) && (Region.ready .any ops.toArray L).contains i) = true) (ho : ops[i]? = some ⟨some d, .load t x, ty, pos, af, gd⟩) (hx : lookO σ x = some (.pointer (some ⟨b, o, none⟩))) (hi : nthC F c = some (blkC b cs T)) (hs : stat N ops ⟨some d, .load t x, ty, pos, af, gd⟩ σ = true)
  (hT : P.underlying t = some td) (hr : td.isRow = true) (hm : (P.info? t).map (·.size) = some m) (hu : rngV cs o m = some us)
  (h : HA P N ops n (L.setIfInBounds i true) ((d, .agg ⟨us⟩) :: σ) B H F K) : HA P N ops (n + 1) L σ B H F K := HA.rd i hf ho hs (hx_loadR c hi hT hr hm hx hu) h
theorem HA.build {t : TypeId} {ps : List (Nat × Operand)} {us : List Value} (i : Nat) (hf : ((Region.noSelect ops.toArray && Region.free .any ops.toArray L i) && (Region.ready .any ops.toArray L).contains i) = true) (ho : ops[i]? = some ⟨some d, .build t ps.toArray, ty, pos, af, gd⟩) (hs : stat N ops ⟨some d, .build t ps.toArray, ty, pos, af, gd⟩ σ = true) (hb : buildE P σ t ps = some us)
  (h : HA P N ops n (L.setIfInBounds i true) ((d, .agg ⟨us⟩) :: σ) B H F K) : HA P N ops (n + 1) L σ B H F K := HA.rd i hf ho hs (fun w _ => hx_build hb w) h
theorem HA.opI (i : Nat) (ho : ops[i]? = some o) (h : HL P N ops [o] σ B H (AK P B F ops n (L.setIfInBounds i true) K)) : ∀ w, Sat B H w → ∀ a, Agr N σ a → wpOp P ops.toArray (QN K) i (fun a' w' => Sat B F w' ∧ wpAnyH P .any ops.toArray (QN K) (fun w => Sat B F w) n (L.setIfInBounds i true) a' w') a w := by
 intro w hw a ha
 have h := h w hw a ha
 simp only [wpOp, show ops.toArray[i]? = some o by simpa using ho]
 unfold wpList at h
 split
 ·rename_i hw'
  rw [if_pos hw'] at h
  rcases h with h | h
  ·left
   have h2 : o.wp P a w (fun a' w' => (QN (AK P B F ops n (L.setIfInBounds i true) K)) .normal a' w') (QN (AK P B F ops n (L.setIfInBounds i true) K)) := h
   exact Oper.wp_mono (fun a' w' h' => h'.2) (wp_QN h2)
  ·exact (QN_noOut (K := AK P B F ops n (L.setIfInBounds i true) K) h.2).elim
 ·rename_i hw'
  rw [if_neg hw'] at h
  exact h.2
theorem HA.one (i : Nat) (hr : decide (Region.ready .any ops.toArray L = [i]) = true) (ho : ops[i]? = some o) (h : HL P N ops [o] σ B H (AK P B F ops n (L.setIfInBounds i true) K)) : HA P N ops (n + 1) L σ B H F K := by
 intro w hw hF a ha
 refine wpAnyH_all (of_decide_eq_true hr) (by simp) fun j hj => ?_
 have : j = i := by simpa using hj
 subst this
 exact HA.opI j ho h w hw a ha
theorem HA.two {o2 : Oper} (i j : Nat) (hr : decide (Region.ready .any ops.toArray L = [i, j]) = true) (ho : ops[i]? = some o) (ho2 : ops[j]? = some o2) (h : HL P N ops [o] σ B H (AK P B F ops n (L.setIfInBounds i true) K)) (h2 : HL P N ops [o2] σ B H (AK P B F ops n (L.setIfInBounds j true) K)) : HA P N ops (n + 1) L σ B H F K := by
 intro w hw hF a ha
 refine wpAnyH_all (of_decide_eq_true hr) (by simp) fun q hq => ?_
 simp only [List.mem_cons, List.not_mem_nil, or_false] at hq
 rcases hq with rfl | rfl
 ·exact HA.opI q ho h w hw a ha
 ·exact HA.opI q ho2 h2 w hw a ha
theorem HL.backA (is : List Nat) (hF : pickC H is = some F) (hd : distinctN is = true) (h : HA P N ops n L σ B H F K) : HL P N ops [] σ B H (AK P B F ops n L K) := fun w hw a ha => wpList_nil ⟨rfl, hw.pick is hF hd, h w hw (hw.pick is hF hd) a ha⟩
theorem HA.done (hr : (Region.ready .any ops.toArray L).isEmpty = true) (h : HR P f N k σ B H R) : HA P N ops n L σ B H F (CRun P f k R) := fun w hw _ a ha => wpAnyH_done (by simpa using hr) ⟨rfl, h w hw a ha⟩ n
end
end Go.GX
namespace Go.GX
open Go.RowKit
section
variable {α : Type} [Inhabited α]
theorem Vw.holds {enc : α → Value} {w : World} {e n g off cap : Nat} {zs : List α} (h : Vw w (.slice (some ⟨g, off, none⟩) n cap) e 1 n (zs.map enc)) : g < w.heap.size ∧ zs.length = n ∧ Sort.Holds enc w g off zs.toArray := by
 have hl : zs.length = n := by simpa using h.1
 rcases h.2 with ⟨e0, _⟩ | ⟨g', off', cap', cur, e0, hg, hn, hm, hs, ht⟩
 ·cases e0
 ·injection e0 with e1 _ e3
  injection e1 with e1
  injection e1 with e1 e2
  subst e1; subst e2; subst e3
  refine ⟨(Array.getElem?_eq_some_iff.1 hg).1, hl, fun j hj => ?_⟩
  have hj' : j < n := by simpa [hl] using hj
  refine ⟨?_, by simp [World.frozen?, hg]⟩
  have e1 : ((cur.toList.drop off).take (n * 1))[j]? = (zs.map enc)[j]? := by rw [ht]
  rw [List.getElem?_take, if_pos (by omega), List.getElem?_drop, Array.getElem?_toList, List.getElem?_map, List.getElem?_eq_getElem (by omega)] at e1
  simp only [World.cell?, hg]
  simp only [Option.isSome_none, Bool.false_eq_true, if_false]
  rw [e1]
  simp [getElem!_pos, show j < zs.length by omega]
theorem Vw.putRow {enc : α → Value} {w : World} {e n g off cap q : Nat} {os : Array Obj} {zs ys : List α} (h : Vw w (.slice (some ⟨g, off, none⟩) n cap) e 1 n (zs.map enc)) (hy : ys.length = n) :
  Vw (Sort.grow (Sort.putRow enc (Sort.ahead w q) g off ys.toArray) os) (.slice (some ⟨g, off, none⟩) n cap) e 1 n (ys.map enc) ∧ w.grownBy (Sort.grow (Sort.putRow enc (Sort.ahead w q) g off ys.toArray) os) (some g) := by
 rcases h.2 with ⟨e0, _⟩ | ⟨g', off', cap', cur, e0, hg, hn, hm, hs, ht⟩
 ·cases e0
 ·injection e0 with e1 _ e3
  injection e1 with e1
  injection e1 with e1 e2
  subst e1; subst e2; subst e3
  have hlt := (Array.getElem?_eq_some_iff.1 hg).1
  have hblk : ∀ k, k < w.heap.size → (Sort.grow (Sort.putRow enc (Sort.ahead w q) g off ys.toArray) os).heap[k]? = (Sort.putRow enc (Sort.ahead w q) g off ys.toArray).heap[k]? := by
   intro k hk
   have : k < (Sort.putRow enc (Sort.ahead w q) g off ys.toArray).heap.size := by simpa [Sort.putRow, Sort.mapBlock, Sort.ahead] using hk
   simp [Sort.grow, Array.getElem?_append_left this]
  refine ⟨⟨by simp; omega, .inr ⟨g, off, cap, Sort.putCells enc off ys.toArray cur, rfl, ?_, hn, hm, by simpa [Sort.putCells] using hs, ?_⟩⟩, ?_⟩
  ·rw [hblk g hlt]
   simp [Sort.putRow, Sort.mapBlock, Sort.ahead, Array.getElem?_modify, hg, Sort.onCells]
  ·apply List.ext_getElem?
   intro j
   rw [List.getElem?_take, List.getElem?_map, List.getElem?_drop, Array.getElem?_toList]
   by_cases hj : j < n
   ·have hjc : off + j < cur.size := by omega
    simp only [Nat.mul_one, if_pos hj, Sort.putCells, Array.getElem?_mapIdx, Array.getElem?_eq_getElem hjc, Option.map_some]
    rw [if_pos (by simp; omega), List.getElem?_eq_getElem (by omega)]
    simp [getElem!_pos, show j < ys.length by omega, show off + j - off = j by omega]
   ·simp [hj, List.getElem?_eq_none (show ys.length ≤ j by omega)]
  ·refine ⟨rfl, rfl, rfl, ?_, fun k hk hne => ?_⟩
   ·simp [Sort.grow, Sort.putRow, Sort.mapBlock, Sort.ahead]
   ·rw [hblk k hk]
    have : g ≠ k := fun e => hne (by rw [e])
    simp [Sort.putRow, Sort.mapBlock, Sort.ahead, Array.getElem?_modify, this]
end
theorem Sat.sameOwn {w : World} {v : Value} {e sz n : Nat} {xs : List Value} (hv : Vw w v e sz n xs) : Sat ⟨w, feet [ownC v e sz n xs]⟩ [ownC v e sz n xs] w :=
 Sat.ofGrown (r := none) (grownBy_refl _ _) (fun k hk => by cases hk) hv (fun k hk => .inl hk)
theorem Sat.putOwn {α : Type} [Inhabited α] {enc : α → Value} {w : World} {e n g off cap q : Nat} {os : Array Obj} {zs ys : List α} (h : Vw w (.slice (some ⟨g, off, none⟩) n cap) e 1 n (cellsOf (fun x => [enc x]) zs)) (hy : ys.length = n) :
  Sat ⟨w, feet [ownC (.slice (some ⟨g, off, none⟩) n cap) e 1 n (cellsOf (fun x => [enc x]) zs)]⟩ [ownC (.slice (some ⟨g, off, none⟩) n cap) e 1 n (cellsOf (fun x => [enc x]) ys)] (Sort.grow (Sort.putRow enc (Sort.ahead w q) g off ys.toArray) os) := by
 obtain ⟨k1, k2⟩ := Vw.putRow (q := q) (os := os) (enc := enc) (zs := zs) (ys := ys) (by rw [← cellsOf_one1]; exact h) hy
 refine Sat.ofGrown (r := some g) k2 (fun k hk => by cases hk; rfl) ?_ (fun k hk => .inl hk)
 show Vw _ _ _ _ _ _
 rw [cellsOf_one1]
 exact k1
end Go.GX
namespace Go.GX
open Go.RowKit
def ldV (P : Program) (t : TypeId) (cs : List Value) (o : Nat) : Option Value := match P.underlying t with
 | some td => match plainT td with
  | true => nthV cs o
  | false => match P.info? t with
   | some ti => match rngV cs o ti.size with
    | some us => some (.agg ⟨us⟩)
    | none => none
   | none => none
 | none => none
def stV (P : Program) (t : TypeId) (cs : List Value) (o : Nat) (u : Value) : Option (List Value) := match P.info? t with
 | some ti => match Nat.beq ti.size (lenV (cellsL u)), allOne (cellsL u), Nat.ble (o + lenV (cellsL u)) (lenV cs) with
  | true, true, true => some (putR cs o (cellsL u))
  | _, _, _ => none
 | none => none
section
variable {P : Program} {f : FuncId} {N : Nat} {k : List Item} {σ : Store} {B : Base} {H H' F : List Chunk} {R : Ending → World → Prop} {ops l : List Oper} {o : Oper} {K : Act → World → Prop} {KQ : Act → Prop}
 {d : Nat} {op : Op} {ty : TypeId} {pos : String} {af : Array Edge} {gd : Option (Nat × Bool)} {v u : Value} {w : World} {d' : Option Tmp}
theorem isRow_of {td : TypeDesc} (h : plainT td = false) : td.isRow = true := by cases td <;> first | rfl | (simp [plainT] at h)
theorem hx_ld {t : TypeId} {x : Operand} {b j : Nat} {T : TypeId} {cs : List Value} (i : Nat) (hx : lookO σ x = some (.pointer (some ⟨b, j, none⟩))) (hi : nthC H i = some (blkC b cs T)) (hu : ldV P t cs j = some u) :
  ∀ w, Sat B H w → (execOp (evO σ) ⟨d', .load t x, ty, pos, af, gd⟩).run P w = .ok (.value u) w := by
 unfold ldV at hu
 split at hu
 ·rename_i td hT
  split at hu
  ·rename_i hp; exact hx_loadB i hi hT hp hx hu
  ·rename_i hp
   split at hu
   ·rename_i ti hti
    split at hu
    ·rename_i us hus; cases hu; exact hx_loadR i hi hT (isRow_of hp) (by rw [hti]; rfl) hx hus
    ·cases hu
   ·cases hu
 ·cases hu
theorem HL.L {t : TypeId} {x : Operand} {b j : Nat} {T : TypeId} {cs : List Value} (i : Nat) (hx : lookO σ x = some (.pointer (some ⟨b, j, none⟩))) (hi : nthC H i = some (blkC b cs T)) (hs : stat N ops ⟨some d, .load t x, ty, pos, af, gd⟩ σ = true) (hu : ldV P t cs j = some u)
  (h : HL P N ops l ((d, u) :: σ) B H K) : HL P N ops (⟨some d, .load t x, ty, pos, af, gd⟩ :: l) σ B H K := HL.rd hs (hx_ld i hx hi hu) h
theorem HQ.L {t : TypeId} {x : Operand} {b j : Nat} {T : TypeId} {cs : List Value} (i : Nat) (hx : lookO σ x = some (.pointer (some ⟨b, j, none⟩))) (hi : nthC H i = some (blkC b cs T)) (hs : stat N ops ⟨some d, .load t x, ty, pos, af, gd⟩ σ = true) (hu : ldV P t cs j = some u)
  (h : HQ P N ops l ((d, u) :: σ) B H KQ) : HQ P N ops (⟨some d, .load t x, ty, pos, af, gd⟩ :: l) σ B H KQ := RunQ.op hs (hx_ld i hx hi hu) h
theorem HD.L {t : TypeId} {x : Operand} {b j n : Nat} {p : List (Nat × Bool)} {T : TypeId} {cs : List Value} (i : Nat) (hx : lookO σ x = some (.pointer (some ⟨b, j, none⟩))) (hi : nthC F i = some (blkC b cs T)) (ho : ops[n]? = some ⟨some d, .load t x, ty, pos, af, gd⟩) (hs : stat N ops ⟨some d, .load t x, ty, pos, af, gd⟩ σ = true) (hu : ldV P t cs j = some u)
  (h : HD P N ops p ((d, u) :: σ) B H F K) : HD P N ops ((n, true) :: p) σ B H F K := HD.rd ho hs (hx_ld i hx hi hu) h
theorem HL.S {t : TypeId} {x y : Operand} {b o : Nat} {T : TypeId} {cs cs' : List Value} (i : Nat) (hx : lookO σ x = some (.pointer (some ⟨b, o, none⟩))) (hi : nthC H i = some (blkC b cs T)) (hs : stat N ops ⟨none, .store t x y, ty, pos, af, gd⟩ σ = true) (hy : lookO σ y = some u) (hc : stV P t cs o u = some cs')
  (h : HL P N ops l σ B (setC H i (blkC b cs' T)) K) : HL P N ops (⟨none, .store t x y, ty, pos, af, gd⟩ :: l) σ B H K := by
 unfold stV at hc
 split at hc
 ·rename_i ti hti
  split at hc
  ·rename_i h1 h2 h3
   cases hc
   exact HL.storeR i hx hi hs hy I (by rw [hti, ← Nat.eq_of_beq_eq_true h1]; rfl) h2 h3 h
  ·cases hc
 ·cases hc
end
end Go.GX
namespace Go.GX
open Go.RowKit
section
variable {P : Program} {f : FuncId} {N : Nat} {k : List Item} {σ : Store} {B : Base} {H H' F : List Chunk} {R : Ending → World → Prop} {ops l : List Oper} {o : Oper} {K : Act → World → Prop} {KQ : Act → Prop} {C : World → Prop}
 {d : Nat} {op : Op} {ty : TypeId} {pos : String} {af : Array Edge} {gd : Option (Nat × Bool)} {v u : Value} {w : World} {d' : Option Tmp} {p : List (Nat × Bool)} {i : Nat} {S : World → Prop}
theorem hx_callV {g : FuncId} {x : Operand} {args : List Operand} {a1 caps : List Value} {tys : Array TypeId} (hg : IsFn P g) (hx : lookO σ x = some (.func (.func g) #[] caps.toArray)) (ha : vals σ args = some a1) :
    (execOp (evO σ) ⟨d', .call ⟨.value x, args.toArray, tys⟩, ty, pos, af, gd⟩).run P w = .ok (.enter g ((a1 ++ caps).toArray)) w := by
  obtain ⟨fn, c, hf, hb, hn⟩ := hg.out
  have hn' : ¬ fn.name = "runtime.NumGoroutine" := by simpa using hn
  have e := vals_eq ha
  simp [execOp, resolve, evO_of_lookO hx, Deferred.ofValue, invoke, callFunc, hf, hn', hb, e]
theorem HL.callV {r : Value} {g : FuncId} {x : Operand} {args : List Operand} {a1 caps : List Value} {tys : Array TypeId} (hg : IsFn P g) (hx : lookO σ x = some (.func (.func g) #[] caps.toArray))
  (hs : stat N ops ⟨some d, .call ⟨.value x, args.toArray, tys⟩, ty, pos, af, gd⟩ σ = true) (ha : vals σ args = some a1)
  (hc : ∀ w, Sat B H w → Calls P g ((a1 ++ caps).toArray) w fun e w' => e = .returned r ∧ Below w.heap.size w w')
  (h : HL P N ops l ((d, r) :: σ) B H K) : HL P N ops (⟨some d, .call ⟨.value x, args.toArray, tys⟩, ty, pos, af, gd⟩ :: l) σ B H K :=
 fun w hw => RunL.enter hs (hx_callV hg hx ha) ((hc w hw).mono fun e w' ⟨h1, h2⟩ => ⟨r, h1, h w' (hw.grow h2)⟩)
theorem HD.idxR {t e sz bytes : TypeId} {x y : Operand} {n : Nat} {cs : List Value} {kk : IntKind} {m : Int} (hv : Rd B F v cs n) (hE : Elem P t e sz bytes) (j : Nat) (ho : ops[i]? = some ⟨some d, .indexAddr t x y, ty, pos, af, gd⟩) (hs : stat N ops ⟨some d, .indexAddr t x y, ty, pos, af, gd⟩ σ = true) (hx : lookO σ x = some v) (hi : lookO σ y = some (.int kk m)) (hj : m = (j : Int)) (hlt : j < n)
  (h : HD P N ops p ((d, elemPtr v (j * sz)) :: σ) B H F K) : HD P N ops ((i, true) :: p) σ B H F K := HD.rd ho hs (hx_idx hv hE j hx hi hj hlt) h
theorem HD.loadI {t : TypeId} {td : TypeDesc} {x : Operand} {n j : Nat} {cs : List Value} (hv : Rd B F v cs n) (ho : ops[i]? = some ⟨some d, .load t x, ty, pos, af, gd⟩) (hs : stat N ops ⟨some d, .load t x, ty, pos, af, gd⟩ σ = true) (hT : P.underlying t = some td) (hp : plainT td = true) (hx : lookO σ x = some (elemPtr v j)) (hu : cs[j]? = some u)
  (h : HD P N ops p ((d, u) :: σ) B H F K) : HD P N ops ((i, true) :: p) σ B H F K := HD.rd ho hs (hx_loadI hv hT hp hx hu) h
theorem HD.loadE {t : TypeId} {td : TypeDesc} {x : Operand} {n j : Nat} {cs us : List Value} (hv : Rd B F v cs n) (ho : ops[i]? = some ⟨some d, .load t x, ty, pos, af, gd⟩) (hs : stat N ops ⟨some d, .load t x, ty, pos, af, gd⟩ σ = true) (hT : P.underlying t = some td) (hr : td.isRow = true) (hm : (P.info? t).map (·.size) = some us.length) (hne : us ≠ []) (hx : lookO σ x = some (elemPtr v j)) (hu : ∀ (i : Nat) u, us[i]? = some u → cs[j + i]? = some u)
  (h : HD P N ops p ((d, .agg ⟨us⟩) :: σ) B H F K) : HD P N ops ((i, true) :: p) σ B H F K := HD.rd ho hs (hx_loadE hv hT hr hm hne hx hu) h
theorem HD.field {t : TypeId} {x : Operand} {q : Nat} (ho : ops[i]? = some ⟨some d, .field t x q, ty, pos, af, gd⟩) (hs : stat N ops ⟨some d, .field t x q, ty, pos, af, gd⟩ σ = true) (hb : fldV P σ t x q = some v)
  (h : HD P N ops p ((d, v) :: σ) B H F K) : HD P N ops ((i, true) :: p) σ B H F K := HD.rd ho hs (fun w _ => hx_field hb w) h
theorem RunD.setV (t : Nat) {v v' : Value} (hl : look σ t = some v) (e : v = v') (h : RunD P N S ops p ((t, v') :: σ) w K) : RunD P N S ops p σ w K := by
 intro hS a ha
 exact h hS a (ha.weaken fun t' u hu => by
  rw [look_cons] at hu
  split at hu
  ·rename_i e'; subst e'; cases hu; rw [← e]; exact hl
  ·exact hu)
theorem HD.setV (t : Nat) {v v' : Value} (hl : look σ t = some v) (e : v = v') (h : HD P N ops p ((t, v') :: σ) B H F K) : HD P N ops p σ B H F K := fun w hw => RunD.setV t hl e (h w hw)
theorem HD.setB (t : Nat) {b : Bool} (c : Bool) (hl : look σ t = some (.bool b)) (e : b = c) (h : HD P N ops p ((t, .bool c) :: σ) B H F K) : HD P N ops p σ B H F K := HD.setV t hl (by rw [e]) h
theorem HD.split (t : Nat) {b : Bool} (hl : look σ t = some (.bool b)) (h1 : b = true → HD P N ops p ((t, .bool true) :: σ) B H F K) (h2 : b = false → HD P N ops p ((t, .bool false) :: σ) B H F K) : HD P N ops p σ B H F K := by
 cases hb : b with
 | true => exact HD.setB t true hl hb (h1 hb)
 | false => exact HD.setB t false hl hb (h2 hb)
theorem HL.split (t : Nat) {b : Bool} (hl : look σ t = some (.bool b)) (h1 : b = true → HL P N ops l ((t, .bool true) :: σ) B H K) (h2 : b = false → HL P N ops l ((t, .bool false) :: σ) B H K) : HL P N ops l σ B H K := by
 cases hb : b with
 | true => exact HL.setB t true hl hb (h1 hb)
 | false => exact HL.setB t false hl hb (h2 hb)
theorem HD.callB {r : Value} {g : FuncId} {args : List Operand} {a1 : List Value} {tys : Array TypeId} (is : List Nat) (hF : pickC H is = some F) (hd : distinctN is = true) (hg : IsFn P g) (ho : ops[i]? = some ⟨some d, .call ⟨.value (.func g), args.toArray, tys⟩, ty, pos, af, gd⟩)
  (hs : stat N ops ⟨some d, .call ⟨.value (.func g), args.toArray, tys⟩, ty, pos, af, gd⟩ σ = true) (ha : vals σ args = some a1)
  (hc : ∀ w, Sat B H w → Calls P g a1.toArray w fun e w' => e = .returned r ∧ Below w.heap.size w w')
  (h : HD P N ops p ((d, r) :: σ) B H F K) : HD P N ops ((i, false) :: p) σ B H F K := HD.one ho (HL.callB hg hs ha hc (HL.back is hF hd h))
end
theorem Sat.vw {B : Base} {H : List Chunk} {w : World} {v : Value} {e sz n i : Nat} {xs : List Value} (hw : Sat B H w) (hi : nthC H i = some (ownC v e sz n xs)) : Vw w v e sz n xs := hw.nth hi
theorem Sat.putOwn0 {α : Type} [Inhabited α] {enc : α → Value} {w : World} {e n g off cap q : Nat} {zs ys : List α} (h : Vw w (.slice (some ⟨g, off, none⟩) n cap) e 1 n (cellsOf (fun x => [enc x]) zs)) (hy : ys.length = n) :
  Sat ⟨w, feet [ownC (.slice (some ⟨g, off, none⟩) n cap) e 1 n (cellsOf (fun x => [enc x]) zs)]⟩ [ownC (.slice (some ⟨g, off, none⟩) n cap) e 1 n (cellsOf (fun x => [enc x]) ys)] (Sort.putRow enc (Sort.ahead w q) g off ys.toArray) := by
 have h1 := Sat.putOwn (q := q) (os := #[]) (enc := enc) (zs := zs) (ys := ys) h hy
 have e1 : Sort.grow (Sort.putRow enc (Sort.ahead w q) g off ys.toArray) #[] = Sort.putRow enc (Sort.ahead w q) g off ys.toArray := by
  unfold Sort.grow; rw [Array.append_empty]
 rw [e1] at h1
 exact h1
theorem Sat.cutOwn {B : Base} {w : World} {g off cap e n h : Nat} {α : Type} {f : α → Value} {ys zs : List α} (hw : Sat B [ownC (.slice (some ⟨g, off, none⟩) n cap) e 1 n (cellsOf (fun x => [f x]) ys)] w) (hh : h ≤ n) (hz : ys.take h = zs) :
  Sat B [ownC (.slice (some ⟨g, off, none⟩) h cap) e 1 h (cellsOf (fun x => [f x]) zs)] w := by
 refine hw.as 0 I (fun hv => ?_) (fun k hk => hk)
 have hv := Vw.sub (sz := 1) (h := h) (l := 0) (show Vw _ _ _ _ _ _ from hv) (Nat.zero_le _) hh
 have e1 : subV 1 (.slice (some ⟨g, off, none⟩) n cap) 0 h = .slice (some ⟨g, off, none⟩) h cap := by
  unfold subV; simp [Addr.add]
 rw [e1] at hv
 have e2 : ((cellsOf (fun x => [f x]) ys).drop (0 * 1)).take ((h - 0) * 1) = cellsOf (fun x => [f x]) zs := by
  rw [cellsOf_one1, cellsOf_one1, ← hz]; simp
 rw [e2] at hv
 exact hv
theorem Vw.shape {w : World} {v : Value} {e sz n : Nat} {xs : List Value} (h : Vw w v e sz n xs) : ∃ a c, v = .slice a n c := by
 rcases h.2 with ⟨rfl, rfl⟩ | ⟨g, off, cap, cur, rfl, _⟩
 ·exact ⟨_, _, rfl⟩
 ·exact ⟨_, _, rfl⟩
theorem HL.shape {P : Program} {N : Nat} {σ : Store} {B : Base} {H : List Chunk} {ops l : List Oper} {K : Act → World → Prop} {v : Value} {e sz n : Nat} {xs : List Value} (i : Nat) (hi : nthC H i = some (ownC v e sz n xs)) (h : ∀ a c, v = .slice a n c → HL P N ops l σ B H K) : HL P N ops l σ B H K :=
 HL.know (fun w hw => (Sat.vw hw hi).shape) fun ⟨a, c, e⟩ => h a c e
end Go.GX
namespace Go.GX
open Go.RowKit
section
variable {P : Program} {f : FuncId} {N : Nat} {k : List Item} {σ : Store} {B : Base} {H H' F : List Chunk} {R : Ending → World → Prop} {ops l : List Oper} {o : Oper} {K : Act → World → Prop} {KQ : Act → Prop} {C : World → Prop}
 {d : Nat} {op : Op} {ty : TypeId} {pos : String} {af : Array Edge} {gd : Option (Nat × Bool)} {v u : Value} {w : World} {d' : Option Tmp} {p : List (Nat × Bool)} {i : Nat} {S : World → Prop}
theorem run_eqSl (w : World) (n : Nat) (t e : TypeId) (a : Option Addr) (m c m' c' : Nat) (h : P.underlying t = some (.slice e)) : (Op.equalIn (n + 1) t (.slice a m c) (.slice none m' c')).run P w = .ok a.isNone w := by
 cases a <;> simp [Op.equalIn, run_underlying h]
theorem hx_eqNil {t e t' : TypeId} {x y : Operand} {a : Option Addr} {m c m' c' : Nat} (hT : P.underlying t = some (.slice e)) (hx : lookO σ x = some (.slice a m c)) (hy : lookO σ y = some (.slice none m' c')) :
  ∀ w, (execOp (evO σ) ⟨d', .binOp .eql t x y t', ty, pos, af, gd⟩).run P w = .ok (.value (.bool a.isNone)) w := by
 intro w
 have h1 := run_eqSl w 9999 t e a m c m' c' hT
 simp [execOp, evO_of_lookO hx, evO_of_lookO hy, eqGuard, binOp, Op.equal, Op.maxDepth, h1]
theorem HL.eqNil {t e t' : TypeId} {x y : Operand} {a : Option Addr} {m c m' c' : Nat} (hs : stat N ops ⟨some d, .binOp .eql t x y t', ty, pos, af, gd⟩ σ = true) (hT : P.underlying t = some (.slice e)) (hx : lookO σ x = some (.slice a m c)) (hy : lookO σ y = some (.slice none m' c'))
  (h : HL P N ops l ((d, .bool a.isNone) :: σ) B H K) : HL P N ops (⟨some d, .binOp .eql t x y t', ty, pos, af, gd⟩ :: l) σ B H K := HL.rd hs (fun w _ => hx_eqNil hT hx hy w) h
theorem HL.bslice0 {t e sz bytes : TypeId} (hE : Elem P t e sz bytes) (hs : stat N ops ⟨some d, .buildSlice t 0 #[], ty, pos, af, gd⟩ σ = true)
  (h : ∀ v', HL P N ops l ((d, v') :: σ) B (ownC v' e sz 0 [] :: H) K) : HL P N ops (⟨some d, .buildSlice t 0 #[], ty, pos, af, gd⟩ :: l) σ B H K := by
 intro w hw
 obtain ⟨i, z, g1, g2, g3, g4, g5⟩ := hE.info
 have hr : (execOp (evO σ) ⟨some d, .buildSlice t 0 #[], ty, pos, af, gd⟩).run P w = .ok (.value (.slice (some ⟨w.heap.size, 0, none⟩) 0 0)) (w.alloc (.cells #[] e)) := by
  have e0 : (sizeOf e).run P w = .ok sz w := by simp [sizeOf, typeInfo, g1, g3]
  simp [execOp, Instr.buildSlice, run_underlying hE.slice, e0, Instr.fill, newRow]
  congr 2
  exact Array.eq_empty_of_size_eq_zero (by simp)
 refine RunL.op hs hr (h _ _ (hw.push ((Below.refl _ _).alloc (Nat.le_refl _) _) ⟨by simp, .inr ⟨w.heap.size, 0, 0, #[], rfl, heap_alloc_new w _, Nat.le_refl _, by unfold maxLen; omega, by simp, by simp⟩⟩ (fun k hk => by cases hk; exact Nat.le_refl _)))
end
end Go.GX
namespace Go.GX
open Go.RowKit
section
variable {P : Program} {f : FuncId} {N : Nat} {k : List Item} {σ : Store} {B : Base} {H H' F : List Chunk} {R : Ending → World → Prop} {ops l : List Oper} {o : Oper} {K : Act → World → Prop} {KQ : Act → Prop} {C : World → Prop}
 {d : Nat} {op : Op} {ty : TypeId} {pos : String} {af : Array Edge} {gd : Option (Nat × Bool)} {v u : Value} {w : World} {d' : Option Tmp} {p : List (Nat × Bool)} {i : Nat} {S : World → Prop}
def wI (op : BinOp) (k : IntKind) (a b : Int) : Option Int :=
 match op with
 | .add => some (k.wrap (a + b))
 | .sub => some (k.wrap (a - b))
 | .mul => some (k.wrap (a * b))
 | .shl => some (k.wrap (a * 2 ^ (min b.toNat k.bits)))
 | .shr => some (a.fdiv (2 ^ (min b.toNat k.bits)))
 | .xor => some (k.wrap ((BitVec.ofInt k.bits a ^^^ BitVec.ofInt k.bits b).toNat))
 | .or => some (k.wrap ((BitVec.ofInt k.bits a ||| BitVec.ofInt k.bits b).toNat))
 | .and => some (k.wrap ((BitVec.ofInt k.bits a &&& BitVec.ofInt k.bits b).toNat))
 | _ => none
def isSh : BinOp → Bool
 | .shl => true
 | .shr => true
 | _ => false
theorem hx_wI {t t' : TypeId} {x y : Operand} {op : BinOp} {k k' : IntKind} {a b r c : Int} (hx : lookO σ x = some (.int k a)) (hy : lookO σ y = some (.int k' b)) (hk : k = k' ∨ isSh op = true) (hb : isSh op = true → 0 ≤ b) (hw : wI op k a b = some r) (hc : r = c) :
    ∀ w, (execOp (evO σ) ⟨d', .binOp op t x y t', ty, pos, af, gd⟩).run P w = .ok (.value (.int k c)) w := by
  intro w
  subst hc
  have hb' : isSh op = true → ¬ b < 0 := fun h => by have := hb h; omega
  unfold wI at hw
  split at hw <;> cases hw
  all_goals first
    | (have hb' := hb' I
       simp [execOp, evO_of_lookO hx, evO_of_lookO hy, eqGuard, binOp, Op.shift, hb']; done)
    | (have hk : k = k' := by rcases hk with h | h
                              · exact h
                              · cases h
       subst hk
       simp [execOp, evO_of_lookO hx, evO_of_lookO hy, eqGuard, binOp, Op.intArith, Op.intBits]; done)
theorem HQ.wI {t t' : TypeId} {x y : Operand} {op : BinOp} {k k' : IntKind} {a b r : Int} (c : Int) (hs : stat N ops ⟨some d, .binOp op t x y t', ty, pos, af, gd⟩ σ = true) (hx : lookO σ x = some (.int k a)) (hy : lookO σ y = some (.int k' b)) (hw : GX.wI op k a b = some r) (hk : k = k' ∨ isSh op = true) (hb : isSh op = true → 0 ≤ b) (hc : r = c)
  (h : HQ P N ops l ((d, .int k c) :: σ) B H KQ) : HQ P N ops (⟨some d, .binOp op t x y t', ty, pos, af, gd⟩ :: l) σ B H KQ := RunQ.op hs (fun w _ => hx_wI hx hy hk hb hw hc w) h
theorem hx_cv {s t : TypeId} {x : Operand} {ks k k' : IntKind} {a c : Int} (hx : lookO σ x = some (.int k a)) (hS : P.underlying s = some (.int ks)) (hT : P.underlying t = some (.int k')) (hc : k'.wrap a = c) :
  ∀ w, (execOp (evO σ) ⟨d', .convert s t x, ty, pos, af, gd⟩).run P w = .ok (.value (.int k' c)) w := by
 intro w
 subst hc
 simp [execOp, evO_of_lookO hx, convert, underlying, hS, hT, Conv.intToInt]
theorem HL.cv {s t : TypeId} {x : Operand} {ks k k' : IntKind} {a : Int} (c : Int) (hs : stat N ops ⟨some d, .convert s t x, ty, pos, af, gd⟩ σ = true) (hx : lookO σ x = some (.int k a)) (hS : P.underlying s = some (.int ks)) (hT : P.underlying t = some (.int k')) (hc : k'.wrap a = c)
  (h : HL P N ops l ((d, .int k' c) :: σ) B H K) : HL P N ops (⟨some d, .convert s t x, ty, pos, af, gd⟩ :: l) σ B H K := HL.rd hs (fun w _ => hx_cv hx hS hT hc w) h
theorem hx_bstr {t t2 e : TypeId} {x : Operand} {l' : List UInt8} (hv : Rd B H v (bcells l') l'.length) (hE : P.underlying t = some (.slice e)) (he : P.underlying e = some (.int .u8)) (hd : P.underlying t2 = some .string) (hx : lookO σ x = some v) :
  ∀ w, Sat B H w → (execOp (evO σ) ⟨d', .convert t t2 x, ty, pos, af, gd⟩).run P w = .ok (.value (str l')) w := by
 intro w hw
 simp [execOp, evO_of_lookO hx, run_bytes_str hE he hd (hv.is hw)]
theorem HL.bstr {t t2 e : TypeId} {x : Operand} {l' : List UInt8} (hv : Rd B H v (bcells l') l'.length) (hs : stat N ops ⟨some d, .convert t t2 x, ty, pos, af, gd⟩ σ = true) (hx : lookO σ x = some v) (hE : P.underlying t = some (.slice e)) (he : P.underlying e = some (.int .u8)) (hd : P.underlying t2 = some .string)
  (h : HL P N ops l ((d, str l') :: σ) B H K) : HL P N ops (⟨some d, .convert t t2 x, ty, pos, af, gd⟩ :: l) σ B H K := HL.rd hs (hx_bstr hv hE he hd hx) h
theorem u8n (n : Nat) : ((UInt8.ofNat n).toNat : Int) = ((n % 256 : Nat) : Int) := by rw [UInt8.toNat_ofNat']
end
end Go.GX
namespace Go.GX
open Go.RowKit
theorem ins_grow {β : Type} {xs X Z : List β} {p q s : Nat} (hx : xs.length = p + s) (hX : X.length = q) (hZ : Z.length = q + s) :
  ((xs.take p ++ Z).take p ++ X.take q ++ (xs.take p ++ Z).drop (p + q)).take (p + q) ++ ((xs.drop p).take s).take s ++ ((xs.take p ++ Z).take p ++ X.take q ++ (xs.take p ++ Z).drop (p + q)).drop (p + q + s) = xs.take p ++ X ++ xs.drop p := by
 have l1 : (xs.take p).length = p := by simp; omega
 have e1 : (xs.take p ++ Z).take p = xs.take p := by rw [List.take_append_of_le_length (by omega), List.take_of_length_le (by omega)]
 have e2 : (xs.take p ++ Z).drop (p + q) = Z.drop q := by rw [List.drop_append, List.drop_eq_nil_of_le (by omega), l1, List.nil_append]; congr 1; omega
 have e3 : X.take q = X := List.take_of_length_le (by omega)
 rw [e1, e2, e3]
 have l2 : (xs.take p ++ X).length = p + q := by simp [l1, hX]
 have e4 : (xs.take p ++ X ++ Z.drop q).take (p + q) = xs.take p ++ X := by rw [List.take_append_of_le_length (by omega), List.take_of_length_le (by omega)]
 have e5 : (xs.take p ++ X ++ Z.drop q).drop (p + q + s) = [] := List.drop_eq_nil_of_le (by rw [List.length_append, l2, List.length_drop]; omega)
 have e6 : (xs.drop p).take s = xs.drop p := List.take_of_length_le (by rw [List.length_drop]; omega)
 rw [e4, e5, List.append_nil, e6, e6]
theorem ins_shift {β : Type} {xs X J : List β} {p q s u : Nat} (hx : xs.length = p + s) (hX : X.length = q) (hJ : J.length = q) (hu : s ≤ u) :
  ((xs ++ J).take (p + q) ++ (((xs ++ J).drop p).take u).take s ++ (xs ++ J).drop (p + q + s)).take p ++ X.take q ++ ((xs ++ J).take (p + q) ++ (((xs ++ J).drop p).take u).take s ++ (xs ++ J).drop (p + q + s)).drop (p + q) = xs.take p ++ X ++ xs.drop p := by
 have l1 : ((xs ++ J).take (p + q)).length = p + q := by simp; omega
 have e1 : (xs ++ J).drop (p + q + s) = [] := List.drop_eq_nil_of_le (by simp; omega)
 have e2 : (((xs ++ J).drop p).take u).take s = xs.drop p := by
  rw [List.take_take, Nat.min_eq_left hu, List.drop_append_of_le_length (by omega), List.take_append_of_le_length (by rw [List.length_drop]; omega), List.take_of_length_le (by rw [List.length_drop]; omega)]
 rw [e1, e2, List.append_nil]
 have e3 : ((xs ++ J).take (p + q) ++ xs.drop p).take p = xs.take p := by
  rw [List.take_append_of_le_length (by omega), List.take_take, Nat.min_eq_left (by omega), List.take_append_of_le_length (by omega)]
 have e4 : ((xs ++ J).take (p + q) ++ xs.drop p).drop (p + q) = xs.drop p := by
  rw [List.drop_append, List.drop_eq_nil_of_le (by omega), l1, Nat.sub_self]; simp
 have e6 : X.take q = X := List.take_of_length_le (by omega)
 rw [e3, e4, e6]
theorem shift_mem {β : Type} {xs J : List β} {p s u : Nat} (hx : xs.length = p + s) (hu : s ≤ u) {b : β} (hb : b ∈ (((xs ++ J).drop p).take u).take s) : b ∈ xs := by
 rw [List.take_take, Nat.min_eq_left hu, List.drop_append_of_le_length (by omega), List.take_append_of_le_length (by rw [List.length_drop]; omega)] at hb
 exact List.mem_of_mem_drop (List.mem_of_mem_take hb)
section
variable {P : Program} {f : FuncId} {N : Nat} {k : List Item} {σ : Store} {B : Base} {H : List Chunk} {R : Ending → World → Prop} {ops l : List Oper} {o : Oper} {K : Act → World → Prop}
variable {d : Nat} {d' : Option Nat} {ty : TypeId} {pos : String} {af : Array Edge} {gd : Option (Nat × Bool)} {u v : Value}
def cutV (sz : Nat) (ad : Option Addr) (a b m : Nat) : Value := .slice (if m = a then ad else ad.map (·.add (a * sz))) (b - a) (m - a)
theorem cutV_lit {sz g off a b m : Nat} (h : a < m) : cutV sz (some ⟨g, off, none⟩) a b m = .slice (some ⟨g, off + a * sz, none⟩) (b - a) (m - a) := by
 unfold cutV
 rw [if_neg (by omega)]
 simp only [Option.map_some]
 unfold Addr.add; split <;> simp_all
theorem run_cut {t e sz : TypeId} {ad : Option Addr} {n c a b m : Nat} {lo hi mx : Option Value} (hT : P.underlying t = some (.slice e)) (hS : (P.info? e).map (·.size) = some sz)
  (hlo : (lo = none ∧ a = 0) ∨ ∃ k, lo = some (.int k (a : Int))) (hhi : (hi = none ∧ mx = none ∧ b = n) ∨ ∃ k, hi = some (.int k (b : Int))) (hmx : (mx = none ∧ m = c) ∨ ∃ k, mx = some (.int k (m : Int))) (h1 : a ≤ b) (h2 : b ≤ m) (h3 : m ≤ c) (w : World) :
  (Instr.sliceAt t (.slice ad n c) lo hi mx).run P w = .ok (cutV sz ad a b m) w := by
 obtain ⟨ti, g1, g2⟩ : ∃ ti, P.info? e = some ti ∧ ti.size = sz := by
  cases h : P.info? e with
  | none => rw [h] at hS; cases hS
  | some ti => rw [h] at hS; exact ⟨ti, rfl, by simpa using hS⟩
 have e0 : (sizeOf e).run P w = .ok sz w := by simp [sizeOf, typeInfo, g1, g2]
 have h4 : b ≤ c := by omega
 rcases hlo with ⟨rfl, rfl⟩ | ⟨k1, rfl⟩ <;> rcases hhi with ⟨rfl, rfl, rfl⟩ | ⟨k2, rfl⟩ <;> rcases hmx with ⟨h5, rfl⟩ | ⟨k3, h5⟩ <;> (first | (cases h5; done) | skip) <;> (try subst h5) <;>
  simp [Instr.sliceAt, Instr.slice, Instr.sliceBounds, Instr.sliceBound, asIntOf, underlying, hT, e0, cutV, h1, h2, h3, h4]
theorem hx_cut {t e sz : TypeId} {x : Operand} {ad : Option Addr} {n c a b m : Nat} {lo hi mx : Option Operand} (hT : P.underlying t = some (.slice e)) (hS : (P.info? e).map (·.size) = some sz) (hx : lookO σ x = some (.slice ad n c))
  (hlo : (lo = none ∧ a = 0) ∨ ∃ y k, lo = some y ∧ lookO σ y = some (.int k (a : Int))) (hhi : (hi = none ∧ mx = none ∧ b = n) ∨ ∃ y k, hi = some y ∧ lookO σ y = some (.int k (b : Int))) (hmx : (mx = none ∧ m = c) ∨ ∃ y k, mx = some y ∧ lookO σ y = some (.int k (m : Int))) (h1 : a ≤ b) (h2 : b ≤ m) (h3 : m ≤ c) (w : World) :
  (execOp (evO σ) ⟨d', .slice t x lo hi mx, ty, pos, af, gd⟩).run P w = .ok (.value (cutV sz ad a b m)) w := by
 have := run_cut (P := P) (t := t) (ad := ad) (n := n) (c := c) (lo := lo.map (evO σ)) (hi := hi.map (evO σ)) (mx := mx.map (evO σ)) hT hS (a := a) (b := b) (m := m) (by
  rcases hlo with ⟨rfl, h⟩ | ⟨y, k, rfl, h⟩
  ·exact .inl ⟨rfl, h⟩
  ·exact .inr ⟨k, by simp [evO_of_lookO h]⟩) (by
  rcases hhi with ⟨rfl, rfl, h⟩ | ⟨y, k, rfl, h⟩
  ·exact .inl ⟨rfl, rfl, h⟩
  ·exact .inr ⟨k, by simp [evO_of_lookO h]⟩) (by
  rcases hmx with ⟨rfl, h⟩ | ⟨y, k, rfl, h⟩
  ·exact .inl ⟨rfl, h⟩
  ·exact .inr ⟨k, by simp [evO_of_lookO h]⟩) h1 h2 h3 w
 simp [execOp, evO_of_lookO hx, this]
theorem HL.cut {t e sz : TypeId} {x : Operand} {ad : Option Addr} {n c : Nat} {lo hi mx : Option Operand} (a b m : Nat) (hs : stat N ops ⟨some d, .slice t x lo hi mx, ty, pos, af, gd⟩ σ = true) (hT : P.underlying t = some (.slice e)) (hS : (P.info? e).map (·.size) = some sz) (hx : lookO σ x = some (.slice ad n c))
  (hlo : (lo = none ∧ a = 0) ∨ ∃ y k, lo = some y ∧ lookO σ y = some (.int k (a : Int))) (hhi : (hi = none ∧ mx = none ∧ b = n) ∨ ∃ y k, hi = some y ∧ lookO σ y = some (.int k (b : Int))) (hmx : (mx = none ∧ m = c) ∨ ∃ y k, mx = some y ∧ lookO σ y = some (.int k (m : Int))) (h1 : a ≤ b) (h2 : b ≤ m) (h3 : m ≤ c)
  (h : HL P N ops l ((d, cutV sz ad a b m) :: σ) B H K) : HL P N ops (⟨some d, .slice t x lo hi mx, ty, pos, af, gd⟩ :: l) σ B H K := HL.rd hs (fun w _ => hx_cut hT hS hx hlo hhi hmx h1 h2 h3 w) h
theorem HD.cut {F : List Chunk} {j : Nat} {p : List (Nat × Bool)} {t e sz : TypeId} {x : Operand} {ad : Option Addr} {n c : Nat} {lo hi mx : Option Operand} (a b m : Nat) (ho : ops[j]? = some ⟨some d, .slice t x lo hi mx, ty, pos, af, gd⟩) (hs : stat N ops ⟨some d, .slice t x lo hi mx, ty, pos, af, gd⟩ σ = true) (hT : P.underlying t = some (.slice e)) (hS : (P.info? e).map (·.size) = some sz) (hx : lookO σ x = some (.slice ad n c))
  (hlo : (lo = none ∧ a = 0) ∨ ∃ y k, lo = some y ∧ lookO σ y = some (.int k (a : Int))) (hhi : (hi = none ∧ mx = none ∧ b = n) ∨ ∃ y k, hi = some y ∧ lookO σ y = some (.int k (b : Int))) (hmx : (mx = none ∧ m = c) ∨ ∃ y k, mx = some y ∧ lookO σ y = some (.int k (m : Int))) (h1 : a ≤ b) (h2 : b ≤ m) (h3 : m ≤ c)
  (h : HD P N ops p ((d, cutV sz ad a b m) :: σ) B H F K) : HD P N ops ((j, true) :: p) σ B H F K := HD.rd ho hs (fun w _ => hx_cut hT hS hx hlo hhi hmx h1 h2 h3 w) h
theorem Vw.put {w : World} {e sz n g off cap : Nat} {cur : Array Value} {xs us : List Value} (hl : xs.length = n * sz) (hg : w.heap[g]? = some (.cells cur e (0, 0))) (hnc : n ≤ cap) (hcm : cap ≤ maxLen) (hcs : off + cap * sz ≤ cur.size) (htake : (cur.toList.drop off).take (n * sz) = xs) (j : Nat) (hfit : j + us.length ≤ xs.length) :
  Vw (w.setRow g (cur.toList.take (off + j) ++ us ++ cur.toList.drop (off + j + us.length)).toArray) (.slice (some ⟨g, off, none⟩) n cap) e sz n (xs.take j ++ us ++ xs.drop (j + us.length)) := by
 have hsz : n * sz ≤ cap * sz := Nat.mul_le_mul_right _ hnc
 refine ⟨by simp; omega, .inr ⟨g, off, cap, _, rfl, setRow_heap w g cur _ e _ hg, hnc, hcm, by simp; omega, ?_⟩⟩
 have hcl : cur.toList.length = cur.size := Array.length_toList
 rw [← htake]
 have e2 : cur.toList.take (off + j) = cur.toList.take off ++ (cur.toList.drop off).take j := by rw [List.take_add]
 rw [e2]
 simp only [List.append_assoc]
 rw [List.drop_append_of_le_length (by simp; omega), List.drop_eq_nil_of_le (by simp; omega), List.nil_append]
 rw [List.take_take, Nat.min_eq_left (by omega)]
 have hl3 : ((cur.toList.drop off).take j).length = j := by simp; omega
 rw [List.take_append, List.take_of_length_le (by omega), hl3]
 congr 1
 rw [List.take_append, List.take_of_length_le (by omega)]
 congr 1
 rw [List.drop_take, List.drop_drop]
 congr 1
 ·omega
 ·congr 1; omega
theorem run_copyV {t t' e sz : TypeId} {w : World} {g o dl dc m sl sc : Nat} {a : Addr} {cur : Array Value} {e' : TypeId} {cs : List Value} (hu : P.underlying t = some (.slice e)) (hs : (P.info? e).map (·.size) = some sz)
  (hg : w.heap[g]? = some (.cells cur e' (0, 0))) (hm : Nat.min sl dl = m) (hn : cs.length = m * sz) (hsrc : ∀ j v, cs[j]? = some v → w.cell? (a.add j) = some v) (hfit : o + cs.length ≤ cur.size) (h1 : ∀ v ∈ cs, v.oneCell' = true) :
  (Builtin.copy_ #[t, t'] ty #[.slice (some ⟨g, o, none⟩) dl dc, .slice (some a) sl sc]).run P w =
   .ok (.int .i64 (m : Int)) (w.setRow g (cur.toList.take o ++ cs ++ cur.toList.drop (o + cs.length)).toArray) := by
 have hst := run_storeCells_at P g o e' cs 0 cur w hg (by simpa using hfit) h1
 cases hq : P.info? e with
 | none => simp [hq] at hs
 | some i =>
  have hi : i.size = sz := by simpa [hq] using hs
  have hf := run_firstCells_some (P := P) w i.size m a sl sc cs (by rw [hi]; exact hn) hsrc
  simp only [Nat.add_zero] at hst
  simp [Builtin.copy_, run_underlying hu, Builtin.lenOf, sizeOf, typeInfo, hq, hm, hf, hst, goInt]
theorem HL.copyO {t t' e sz : TypeId} {x y : Operand} {n m2 : Nat} {xs ns : List Value} {v2 : Value} (a m : Nat) (i : Nat) (hi : nthC H i = some (ownC v e sz n xs)) (hv2 : Rd B H v2 ns m2) (hs : stat N ops ⟨some d, .call ⟨.builtin .copy, #[x, y], #[t, t']⟩, ty, pos, af, gd⟩ σ = true)
  (hu : P.underlying t = some (.slice e)) (hS : (P.info? e).map (·.size) = some sz) (hx : lookO σ x = some (subV sz v a n)) (hy : lookO σ y = some v2) (hl : ns.length = m2 * sz) (h1 : ∀ u ∈ ns.take (m * sz), u.oneCell' = true) (hm : Nat.min m2 (n - a) = m) (hpos : 0 < m)
  (h : HL P N ops l ((d, .int .i64 (m : Int)) :: σ) B (setC H i (ownC v e sz n (xs.take (a * sz) ++ ns.take (m * sz) ++ xs.drop (a * sz + m * sz)))) K) : HL P N ops (⟨some d, .call ⟨.builtin .copy, #[x, y], #[t, t']⟩, ty, pos, af, gd⟩ :: l) σ B H K := by
 have hm' : min m2 (n - a) = m := hm
 refine HL.opX (α := Unit) (fun _ => .int .i64 (m : Int)) (fun _ => setC H i (ownC v e sz n (xs.take (a * sz) ++ ns.take (m * sz) ++ xs.drop (a * sz + m * sz)))) (fun _ => True) hs (fun w hw => ?_) (fun _ _ => h)
 have hv : Vw w v e sz n xs := hw.nth hi
 obtain ⟨hxl, hv⟩ := hv
 rcases hv with ⟨rfl, rfl⟩ | ⟨g, off, cap, cur, rfl, hg, hnc, hcm, hcs, htake⟩
 ·omega
 ·have hsz : n * sz ≤ cap * sz := Nat.mul_le_mul_right _ hnc
  have hsub : subV sz (.slice (some ⟨g, off, none⟩) n cap) a n = .slice (some ⟨g, off + a * sz, none⟩) (n - a) (cap - a) := by
   have hne : ¬ cap = a := by omega
   simp only [subV, hne, if_false]
   unfold Addr.add; split <;> simp_all
  have hmul : a * sz + m * sz ≤ n * sz := by rw [← Nat.add_mul]; exact Nat.mul_le_mul_right _ (by omega)
  have hml : m * sz ≤ m2 * sz := Nat.mul_le_mul_right _ (by omega)
  have htl : (ns.take (m * sz)).length = m * sz := by rw [List.length_take, hl]; omega
  rcases hv2.is hw with ⟨_, h0, _⟩ | ⟨b, off2, cap2, rfl, hc⟩
  ·omega
  ·have hadd : ∀ j, (⟨b, off2, none⟩ : Addr).add j = ⟨b, off2 + j, none⟩ := fun j => by unfold Addr.add; split <;> simp_all
   have hr := run_copyV (P := P) (t' := t') (ty := ty) (w := w) (g := g) (o := off + a * sz) (dl := n - a) (dc := cap - a) (m := m) (sl := m2) (sc := cap2) (a := ⟨b, off2, none⟩) (cur := cur) (e' := e) (cs := ns.take (m * sz)) hu hS hg hm htl (fun j u hu => by
    rw [hadd]
    rw [List.getElem?_take] at hu
    split at hu
    ·exact hc j u hu
    ·cases hu) (by omega) h1
   have hp := Vw.put (us := ns.take (m * sz)) hxl hg hnc hcm hcs htake (a * sz) (by rw [htl, hxl]; omega)
   rw [htl] at hp hr
   refine ⟨(), w.setRow g (cur.toList.take (off + a * sz) ++ ns.take (m * sz) ++ cur.toList.drop (off + a * sz + m * sz)).toArray, ?_, trivial, hw.upd hi I I I (by simp) (fun k hk hne => setRow_other w g k _ (fun e => hne (by rw [e]; rfl))) hp (fun k hk => .inl hk)⟩
   simp [execOp, resolve, evO_of_lookO hx, evO_of_lookO hy, invoke, builtin, hsub, hr]
theorem Vw.row {w : World} {e sz n : Nat} {xs : List Value} (h : Vw w v e sz n xs) (hn : 0 < n) : ∃ g off cap, v = .slice (some ⟨g, off, none⟩) n cap ∧ n ≤ cap ∧ cap ≤ maxLen := by
 rcases h.2 with ⟨rfl, rfl⟩ | ⟨g, off, cap, cur, rfl, _, h1, h2, _⟩
 ·omega
 ·exact ⟨g, off, cap, rfl, h1, h2⟩
theorem HR.row {e sz n : Nat} {xs : List Value} (i : Nat) (hi : nthC H i = some (ownC v e sz n xs)) (hn : 0 < n) (h : ∀ g off cap, v = .slice (some ⟨g, off, none⟩) n cap → n ≤ cap → cap ≤ maxLen → HR P f N k σ B H R) : HR P f N k σ B H R :=
 HR.know (Q := ∃ g off cap, v = .slice (some ⟨g, off, none⟩) n cap ∧ n ≤ cap ∧ cap ≤ maxLen) (fun w hw => Vw.row (hw.vw hi) hn) fun ⟨g, off, cap, h1, h2, h3⟩ => h g off cap h1 h2 h3
theorem HL.row {e sz n : Nat} {xs : List Value} (i : Nat) (hi : nthC H i = some (ownC v e sz n xs)) (hn : 0 < n) (h : ∀ g off cap, v = .slice (some ⟨g, off, none⟩) n cap → n ≤ cap → cap ≤ maxLen → HL P N ops l σ B H K) : HL P N ops l σ B H K :=
 HL.know (Q := ∃ g off cap, v = .slice (some ⟨g, off, none⟩) n cap ∧ n ≤ cap ∧ cap ≤ maxLen) (fun w hw => Vw.row (hw.vw hi) hn) fun ⟨g, off, cap, h1, h2, h3⟩ => h g off cap h1 h2 h3
theorem Sat.cutK {w : World} {g off c e sz n m : Nat} {xs zs : List Value} (hw : Sat B (ownC (.slice (some ⟨g, off, none⟩) n c) e sz n xs :: H) w) (hm : m ≤ n) (hz : xs.take (m * sz) = zs) : Sat B (ownC (.slice (some ⟨g, off, none⟩) m c) e sz m zs :: H) w := by
 refine Sat.as (c' := ownC (.slice (some ⟨g, off, none⟩) m c) e sz m zs) 0 hw I (fun h => ?_) (fun _ h => h)
 have h2 := Vw.sub (show Vw w (.slice (some ⟨g, off, none⟩) n c) e sz n xs from h) (l := 0) (h := m) (Nat.zero_le _) hm
 have e1 : subV sz (.slice (some ⟨g, off, none⟩) n c) 0 m = .slice (some ⟨g, off, none⟩) m c := by simp only [subV]; split <;> simp [Addr.add]
 rw [e1, Nat.sub_zero, Nat.zero_mul, List.drop_zero, hz] at h2
 exact h2
theorem HL.extO {t e sz : TypeId} {x y : Operand} {kk : IntKind} {g off n c : Nat} {xs : List Value} (n' : Nat) (i : Nat) (hi : nthC H i = some (ownC (.slice (some ⟨g, off, none⟩) n c) e sz n xs)) (hs : stat N ops ⟨some d, .slice t x none (some y) none, ty, pos, af, gd⟩ σ = true) (hT : P.underlying t = some (.slice e)) (hS : (P.info? e).map (·.size) = some sz)
  {mm : Int} (hx : lookO σ x = some (.slice (some ⟨g, off, none⟩) n c)) (hy : lookO σ y = some (.int kk mm)) (hmm : mm = (n' : Int)) (h1 : n ≤ n') (h2 : n' ≤ c)
  (h : ∀ junk : List Value, junk.length = (n' - n) * sz → HL P N ops l ((d, .slice (some ⟨g, off, none⟩) n' c) :: σ) B (setC H i (ownC (.slice (some ⟨g, off, none⟩) n' c) e sz n' (xs ++ junk))) K) : HL P N ops (⟨some d, .slice t x none (some y) none, ty, pos, af, gd⟩ :: l) σ B H K := by
 subst hmm
 refine HL.opX (α := List Value) (fun _ => .slice (some ⟨g, off, none⟩) n' c) (fun junk => setC H i (ownC (.slice (some ⟨g, off, none⟩) n' c) e sz n' (xs ++ junk))) (fun junk => junk.length = (n' - n) * sz) hs (fun w hw => ?_) h
 obtain ⟨hxl, hv⟩ : Vw w (.slice (some ⟨g, off, none⟩) n c) e sz n xs := hw.nth hi
 rcases hv with ⟨hh, _⟩ | ⟨g', off', cap', cur, hh, hg, hnc, hcm, hcs, htake⟩
 ·cases hh
 ·cases hh
  have hcl : cur.toList.length = cur.size := Array.length_toList
  have hsz : n' * sz ≤ c * sz := Nat.mul_le_mul_right _ h2
  have hsz1 : n * sz ≤ n' * sz := Nat.mul_le_mul_right _ h1
  have hr := hx_cut (P := P) (σ := σ) (d' := some d) (ty := ty) (pos := pos) (af := af) (gd := gd) (t := t) (x := x) (ad := some ⟨g, off, none⟩) (n := n) (c := c) (lo := none) (hi := some y) (mx := none) (a := 0) (b := n') (m := c) hT hS hx (.inl ⟨rfl, rfl⟩) (.inr ⟨y, kk, rfl, hy⟩) (.inl ⟨rfl, rfl⟩) (Nat.zero_le _) h2 (Nat.le_refl _) w
  have hcv : cutV sz (some ⟨g, off, none⟩) 0 n' c = .slice (some ⟨g, off, none⟩) n' c := by
   unfold cutV
   split
   ·simp
   ·simp [Addr.add]
  rw [hcv] at hr
  refine ⟨((cur.toList.drop off).take (n' * sz)).drop (n * sz), w, hr, ?_, hw.upd hi I I I (Nat.le_refl _) (fun _ _ _ => rfl) ?_ (fun k hk => .inl hk)⟩
  ·rw [List.length_drop, List.length_take, List.length_drop, hcl, Nat.sub_mul]; omega
  ·have e3 : xs ++ ((cur.toList.drop off).take (n' * sz)).drop (n * sz) = (cur.toList.drop off).take (n' * sz) := by
    rw [← htake]
    conv => rhs; rw [← List.take_append_drop (n * sz) ((cur.toList.drop off).take (n' * sz))]
    rw [List.take_take, Nat.min_eq_left hsz1]
   refine ⟨?_, .inr ⟨g, off, c, cur, rfl, hg, h2, hcm, hcs, ?_⟩⟩
   ·rw [e3, List.length_take, List.length_drop, hcl]; omega
   ·exact e3.symm
theorem HL.appSelf {t e sz bytes : TypeId} {x y : Operand} {g off n c : Nat} {xs : List Value} (a b : Nat) (i : Nat) (hi : nthC H i = some (ownC (.slice (some ⟨g, off, none⟩) n c) e sz n xs)) (hE : Elem P t e sz bytes) (hs : stat N ops ⟨some d, .call ⟨.builtin .append, #[x, y], #[t, t]⟩, ty, pos, af, gd⟩ σ = true)
  (hx : lookO σ x = some (subV sz (.slice (some ⟨g, off, none⟩) n c) 0 a)) (hy : lookO σ y = some (subV sz (.slice (some ⟨g, off, none⟩) n c) b n)) (hab : a ≤ b) (hbn : b ≤ n) (hnc' : n ≤ c) (h1 : ∀ u ∈ xs, u.oneCell' = true)
  (h : HL P N ops l ((d, .slice (some ⟨g, off, none⟩) (a + (n - b)) c) :: σ) B (setC H i (ownC (.slice (some ⟨g, off, none⟩) n c) e sz n (xs.take (a * sz) ++ xs.drop (b * sz) ++ xs.drop (a * sz + (n - b) * sz)))) K) : HL P N ops (⟨some d, .call ⟨.builtin .append, #[x, y], #[t, t]⟩, ty, pos, af, gd⟩ :: l) σ B H K := by
 refine HL.opX (α := Unit) (fun _ => .slice (some ⟨g, off, none⟩) (a + (n - b)) c) (fun _ => setC H i (ownC (.slice (some ⟨g, off, none⟩) n c) e sz n (xs.take (a * sz) ++ xs.drop (b * sz) ++ xs.drop (a * sz + (n - b) * sz)))) (fun _ => True) hs (fun w hw => ?_) (fun _ _ => h)
 have hvw : Vw w (.slice (some ⟨g, off, none⟩) n c) e sz n xs := hw.nth hi
 obtain ⟨ti, z, g1, g2, g3, g4, g5⟩ := hE.info
 have hsub := hvw.sub (l := b) (h := n) hbn (Nat.le_refl _)
 obtain ⟨hxl, hv⟩ := hvw
 rcases hv with ⟨hh, _⟩ | ⟨g', off', cap', cur, hh, hg, hnc, hcm, hcs, htake⟩
 ·cases hh
 ·cases hh
  have hcl : cur.toList.length = cur.size := Array.length_toList
  have m1 : a * sz ≤ b * sz := Nat.mul_le_mul_right _ hab
  have m2 : b * sz ≤ n * sz := Nat.mul_le_mul_right _ hbn
  have m3 : n * sz ≤ c * sz := Nat.mul_le_mul_right _ hnc
  have hnl : (xs.drop (b * sz)).length = (n - b) * sz := by rw [List.length_drop, hxl, Nat.sub_mul]
  have hnl2 : ((xs.drop (b * sz)).take ((n - b) * sz)) = xs.drop (b * sz) := List.take_of_length_le (by omega)
  rw [hnl2] at hsub
  have hx0 : subV sz (.slice (some ⟨g, off, none⟩) n c) 0 a = .slice (some ⟨g, off, none⟩) a c := by
   simp only [subV]; split <;> simp [Addr.add]
  rw [hx0] at hx
  rcases hsub.sl.1 with ⟨hz, h0, _⟩ | ⟨b2, off2, cap2, hv2, hc2⟩
  · -- nothing is appended
   have hbn' : b = n := by omega
   subst hbn'
   have hnil : xs.drop (b * sz) = [] := List.drop_eq_nil_of_le (by omega)
   have hy2 : ∃ a0 c0, subV sz (.slice (some ⟨g, off, none⟩) b c) b b = .slice (some a0) 0 c0 := by
    simp only [subV, Nat.sub_self, Option.map_some]
    split
    ·exact ⟨_, _, rfl⟩
    ·exact ⟨_, _, rfl⟩
   obtain ⟨a0, c0, ha0⟩ := hy2
   rw [ha0] at hy
   refine ⟨(), w, ?_, trivial, hw.upd hi I I I (Nat.le_refl _) (fun _ _ _ => rfl) ?_ (fun k hk => .inl hk)⟩
   ·have hac : a ≤ c := by omega
    simp [execOp, resolve, evO_of_lookO hx, evO_of_lookO hy, invoke, builtin, Builtin.append_, run_underlying hE.slice, sizeOf, typeInfo, g1, Builtin.lenOf, Builtin.firstCells, loadCells, loadCellsFrom, hac, storeCells]
   ·have : xs.take (a * sz) ++ xs.drop (b * sz) ++ xs.drop (a * sz + (b - b) * sz) = xs := by
     rw [hnil, Nat.sub_self, Nat.zero_mul, Nat.add_zero, List.append_nil, List.take_append_drop]
    rw [this]
    exact ⟨hxl, .inr ⟨g, off, c, cur, rfl, hg, hnc, hcm, hcs, htake⟩⟩
  ·have hadd : ∀ j, (⟨b2, off2, none⟩ : Addr).add j = ⟨b2, off2 + j, none⟩ := fun j => by unfold Addr.add; split <;> simp_all
   rw [hv2] at hy
   subst g3
   have hfit : a * ti.size + (xs.drop (b * ti.size)).length ≤ xs.length := by rw [hnl, hxl, Nat.sub_mul]; omega
   have hr := run_append_roomV (w := w) (P := P) t ty e ti hE.slice g1 g off a c cur hg ⟨b2, off2, none⟩ (n - b) cap2 (xs.drop (b * ti.size)) hnl (fun j u hu => by rw [hadd]; exact hc2 j u hu) (fun u hu => h1 u (List.mem_of_mem_drop hu)) (by omega) (by rw [hxl] at hfit; omega)
   refine ⟨(), w.setRow g (cur.toList.take (off + a * ti.size) ++ xs.drop (b * ti.size) ++ cur.toList.drop (off + a * ti.size + (xs.drop (b * ti.size)).length)).toArray, ?_, trivial, hw.upd hi I I I (by simp) (fun k hk hne => setRow_other w g k _ (fun e => hne (by rw [e]; rfl))) ?_ (fun k hk => .inl hk)⟩
   ·simp [execOp, resolve, evO_of_lookO hx, evO_of_lookO hy, invoke, builtin, hr]
   ·have := Vw.put (us := xs.drop (b * ti.size)) hxl hg hnc hcm hcs htake (a * ti.size) hfit
    rw [hnl] at this ⊢
    exact this
theorem zeroCells_flat {z : Value} {sz n : Nat} (hzl : (cellsL z).length = sz) (hsz : 0 < sz) : (Builtin.zeroCells z.cells n).toList = (List.replicate n (cellsL z)).flatten := by
 apply List.ext_getElem?
 intro j
 have e1 : z.cells = (cellsL z).toArray := cellsL_eq z
 by_cases hj : j < n * sz
 ·rw [flat_rep _ (by omega) n j (by rw [hzl]; exact hj)]
  rw [e1]
  have hmod : j % sz < sz := Nat.mod_lt _ hsz
  have hlt : j < n * (cellsL z).length := by rw [hzl]; exact hj
  simp only [Builtin.zeroCells, List.size_toArray, Array.getElem?_toList, Array.getElem?_map, Array.getElem?_range, hzl]
  rw [if_pos hj, Option.map_some]
  rw [getElem!_pos (cellsL z).toArray (j % sz) (by simpa [hzl] using hmod)]
  rw [List.getElem?_eq_getElem (by rw [hzl]; exact hmod)]
  congr 1
 ·have a1 : (Builtin.zeroCells z.cells n).toList.length = n * sz := by rw [Array.length_toList, size_zeroCells, e1, List.size_toArray, hzl]
  have a2 : ((List.replicate n (cellsL z)).flatten).length = n * sz := by rw [flat_rep_length, hzl]
  rw [List.getElem?_eq_none (by omega), List.getElem?_eq_none (by omega)]
theorem HL.appGrow {t tn e sz bytes : TypeId} {x y : Operand} {g off n c : Nat} {xs : List Value} {kq kn : IntKind} {z : Value} {mm : Int} (a m : Nat) (i : Nat) (hi : nthC H i = some (ownC (.slice (some ⟨g, off, none⟩) n c) e sz n xs)) (hE : Elem P t e sz bytes) (hz : (P.info? e).bind (·.zero) = some z) (htn : P.underlying tn = some (.int kn)) (hs : stat N ops ⟨some d, .call ⟨.builtin .append, #[x, y], #[t, tn]⟩, ty, pos, af, gd⟩ σ = true)
  (hx : lookO σ x = some (subV sz (.slice (some ⟨g, off, none⟩) n c) 0 a)) (hy : lookO σ y = some (.int kq mm)) (hmm : mm = (m : Int)) (han : a ≤ n) (hroom : c < a + m) (hac : n ≤ c) (hm0 : 0 < m) (hb : (a + m) * bytes ≤ 140737488355328) (h63 : a + m ≤ 9223372036854775807)
  (h : ∀ v', HL P N ops l ((d, v') :: σ) B (ownC v' e sz (a + m) (xs.take (a * sz) ++ (List.replicate m (cellsL z)).flatten) :: H) K) : HL P N ops (⟨some d, .call ⟨.builtin .append, #[x, y], #[t, tn]⟩, ty, pos, af, gd⟩ :: l) σ B H K := by
 subst hmm
 refine HL.opX (fun v => v) (fun v' => ownC v' e sz (a + m) (xs.take (a * sz) ++ (List.replicate m (cellsL z)).flatten) :: H) (fun _ => True) hs (fun w hw => ?_) (fun v' _ => h v')
 have hvw : Vw w (.slice (some ⟨g, off, none⟩) n c) e sz n xs := hw.nth hi
 obtain ⟨ti, z', g1, g2, g3, g4, g5⟩ := hE.info
 have hzz : z' = z := by rw [g1] at hz; simpa [g2] using hz
 subst hzz
 have hpos := hE.pos
 have hsub := hvw.sub (l := 0) (h := a) (Nat.zero_le _) han
 have hx0 : subV sz (.slice (some ⟨g, off, none⟩) n c) 0 a = .slice (some ⟨g, off, none⟩) a c := by
  simp only [subV]; split <;> simp [Addr.add]
 rw [hx0] at hx hsub
 simp only [Nat.zero_mul, List.drop_zero, Nat.sub_zero] at hsub
 obtain ⟨hxl, hv⟩ := hsub
 rcases hv with ⟨hh, _⟩ | ⟨g', off', cap', cur, hh, hg, hnc, hcm, hcs, htake⟩
 ·cases hh
 ·cases hh
  subst g3
  subst g4
  have holds : ∀ j u, (xs.take (a * ti.size))[j]? = some u → w.drew.cell? ((⟨g, off, none⟩ : Addr).add j) = some u := by
   intro j u hu
   have ha : (⟨g, off, none⟩ : Addr).add j = ⟨g, off + j, none⟩ := by unfold Addr.add; split <;> simp_all
   rw [ha]
   show w.cell? _ = _
   rw [cell_of_row w g (off + j) cur e (0, 0) hg]
   rw [← htake, List.getElem?_take] at hu
   split at hu
   ·simpa using hu
   ·cases hu
  have hzl : (cellsL z').length = ti.size := by
   have := g5; rw [cellsL_eq] at this; simpa using this
  have hfl : ((List.replicate m (cellsL z')).flatten).length = m * ti.size := by rw [flat_rep_length, hzl]
  have hzc : (Builtin.zeroCells z'.cells m).toList = (List.replicate m (cellsL z')).flatten := zeroCells_flat hzl hpos
  have hlen : (xs.take (a * ti.size) ++ (List.replicate m (cellsL z')).flatten).length = (a + m) * ti.size := by rw [List.length_append, hxl, hfl, Nat.add_mul]
  have hf := run_firstCells_some (P := P) w.drew ti.size a ⟨g, off, none⟩ a c (xs.take (a * ti.size)) hxl holds
  have hmb : m * ti.bytes ≤ 281474976710656 := by
   have : m * ti.bytes ≤ (a + m) * ti.bytes := Nat.mul_le_mul_right _ (by omega)
   omega
  have hr := Lib.run_append_grow_zeros (P := P) w t tn ty e ti z' kq kn hE.slice htn g1 g2 (some ⟨g, off, none⟩) a c (xs.take (a * ti.size)) hf m hm0 hpos hroom (by omega) hmb (growslice_fits (by omega) hb)
  have hge := grownCap_ge w (a + m) c e
  have hcm' : grownCap w (a + m) c e ≤ maxLen := grownCap_le_maxLen w (a + m) c e (by unfold maxLen; omega)
  refine ⟨_, _, ?_, trivial, hw.push (w' := w.drew.alloc (.cells ((xs.take (a * ti.size)).toArray ++ Builtin.zeroCells z'.cells m ++ Builtin.zeroCells z'.cells (grownCap w (a + m) c e - (a + m))) e)) ⟨rfl, rfl, rfl, by simp, fun k hk => heap_alloc_old w.drew _ hk⟩ ⟨hlen, .inr ⟨w.heap.size, 0, _, _, rfl, heap_alloc_new w.drew _, hge, hcm', ?_, ?_⟩⟩ (fun k hk => by cases hk; exact Nat.le_refl _)⟩
  ·simp [execOp, resolve, evO_of_lookO hx, evO_of_lookO hy, invoke, builtin, hr]
  ·simp only [Array.size_append, List.size_toArray, size_zeroCells, g5, hxl, ← Nat.add_mul]
   have : a + m + (grownCap w (a + m) c e - (a + m)) = grownCap w (a + m) c e := by omega
   rw [this]; omega
  ·simp only [Array.toList_append, List.append_assoc, List.drop_zero, hzc]
   rw [← List.append_assoc, ← hlen]
   exact List.take_left
theorem run_clearV {w : World} {t e sz : TypeId} {ty : TypeId} {z : Value} {g o n c : Nat} {cur : Array Value} {e' : TypeId} (ht : P.underlying t = some (.slice e)) (hz : (P.info? e).bind (·.zero) = some z) (hzl : (cellsL z).length = sz) (h1 : allOne (cellsL z) = true)
  (hg : w.heap[g]? = some (.cells cur e' (0, 0))) (hfit : o + n * sz ≤ cur.size) (hsz : 0 < sz) :
  (Builtin.clear_ #[t] ty #[.slice (some ⟨g, o, none⟩) n c]).run P w = .ok (.tuple #[]) (w.setRow g (cur.toList.take o ++ (List.replicate n (cellsL z)).flatten ++ cur.toList.drop (o + n * sz)).toArray) := by
 have hzc : (Builtin.zeroCells z.cells n).toList = (List.replicate n (cellsL z)).flatten := zeroCells_flat hzl hsz
 have hfl : ((List.replicate n (cellsL z)).flatten).length = n * sz := by rw [flat_rep_length, hzl]
 have hst := run_storeCells_at P g o e' ((List.replicate n (cellsL z)).flatten) 0 cur w hg (by rw [hfl]; omega) (fun u hu => by
  obtain ⟨l, hl, hu⟩ := List.mem_flatten.1 hu
  rw [List.eq_of_mem_replicate hl] at hu
  exact allOne_spec h1 u hu)
 simp only [Nat.add_zero, hfl] at hst
 cases n with
 | zero =>
  simp only [List.replicate_zero, List.flatten_nil, List.append_nil, Nat.zero_mul, Nat.add_zero, List.take_append_drop, Array.toArray_toList]
  rw [setRow_self w g cur e' (0, 0) hg]
  simp [Builtin.clear_, run_underlying ht]
 | succ n =>
  simp [Builtin.clear_, run_underlying ht, zero_run hz, hzc, hst]
theorem HL.clearO {t e sz : TypeId} {x : Operand} {z : Value} {g off n c : Nat} {xs : List Value} (a : Nat) (i : Nat) (hi : nthC H i = some (ownC (.slice (some ⟨g, off, none⟩) n c) e sz n xs)) (hs : stat N ops ⟨none, .call ⟨.builtin .clear, #[x], #[t]⟩, ty, pos, af, gd⟩ σ = true)
  (hT : P.underlying t = some (.slice e)) (hz : (P.info? e).bind (·.zero) = some z) (hzl : (cellsL z).length = sz) (h1 : allOne (cellsL z) = true) (hsz : 0 < sz) (hx : lookO σ x = some (.slice (some ⟨g, off + a * sz, none⟩) (n - a) (c - a))) (han : a ≤ n)
  (h : HL P N ops l σ B (setC H i (ownC (.slice (some ⟨g, off, none⟩) n c) e sz n (xs.take (a * sz) ++ (List.replicate (n - a) (cellsL z)).flatten))) K) : HL P N ops (⟨none, .call ⟨.builtin .clear, #[x], #[t]⟩, ty, pos, af, gd⟩ :: l) σ B H K := by
 refine HL.op0 (α := Unit) (fun _ => .tuple #[]) (fun _ => setC H i (ownC (.slice (some ⟨g, off, none⟩) n c) e sz n (xs.take (a * sz) ++ (List.replicate (n - a) (cellsL z)).flatten))) (fun _ => True) hs (fun w hw => ?_) (fun _ _ => h)
 obtain ⟨hxl, hv⟩ : Vw w (.slice (some ⟨g, off, none⟩) n c) e sz n xs := hw.nth hi
 rcases hv with ⟨hh, _⟩ | ⟨g', off', cap', cur, hh, hg, hnc, hcm, hcs, htake⟩
 ·cases hh
 ·cases hh
  have m1 : a * sz + (n - a) * sz = n * sz := by rw [← Nat.add_mul]; congr 1; omega
  have m2 : n * sz ≤ c * sz := Nat.mul_le_mul_right _ hnc
  have hfl : ((List.replicate (n - a) (cellsL z)).flatten).length = (n - a) * sz := by rw [flat_rep_length, hzl]
  have hr := run_clearV (P := P) (ty := ty) (c := c - a) (n := n - a) (o := off + a * sz) hT hz hzl h1 hg (by omega) hsz
  have hp := Vw.put (us := (List.replicate (n - a) (cellsL z)).flatten) hxl hg hnc hcm hcs htake (a * sz) (by rw [hfl, hxl]; omega)
  rw [hfl, List.drop_eq_nil_of_le (by omega : xs.length ≤ a * sz + (n - a) * sz), List.append_nil] at hp
  refine ⟨(), w.setRow g (cur.toList.take (off + a * sz) ++ (List.replicate (n - a) (cellsL z)).flatten ++ cur.toList.drop (off + a * sz + (n - a) * sz)).toArray, ?_, trivial, hw.upd hi I I I (by simp) (fun k hk hne => setRow_other w g k _ (fun e => hne (by rw [e]; rfl))) hp (fun k hk => .inl hk)⟩
  simp [execOp, resolve, evO_of_lookO hx, invoke, builtin, hr]
theorem hx_subI {t e sz : TypeId} {x : Operand} {lo hi : Option Operand} {n a b : Nat} {cs : List Value} (hv : Rd B H v cs n) (hT : P.underlying t = some (.slice e)) (hS : (P.info? e).map (·.size) = some sz) (hx : lookO σ x = some v)
  (hlo : (lo = none ∧ a = 0) ∨ ∃ y k m, lo = some y ∧ lookO σ y = some (.int k m) ∧ m = (a : Int)) (hhi : (hi = none ∧ b = n) ∨ ∃ y k m, hi = some y ∧ lookO σ y = some (.int k m) ∧ m = (b : Int)) (h1 : a ≤ b) (h2 : b ≤ n) :
  ∀ w, Sat B H w → (execOp (evO σ) ⟨d', .slice t x lo hi none, ty, pos, af, gd⟩).run P w = .ok (.value (subV sz v a b)) w :=
 hx_sub hv hT hS hx (hlo.imp id fun ⟨y, k, m, h3, h4, h5⟩ => ⟨y, k, h3, by rw [h4, h5]⟩) (hhi.imp id fun ⟨y, k, m, h3, h4, h5⟩ => ⟨y, k, h3, by rw [h4, h5]⟩) h1 h2
theorem HL.subI {t e sz : TypeId} {x : Operand} {lo hi : Option Operand} {n : Nat} (a b : Nat) {cs : List Value} (hv : Rd B H v cs n) (hs : stat N ops ⟨some d, .slice t x lo hi none, ty, pos, af, gd⟩ σ = true) (hT : P.underlying t = some (.slice e)) (hS : (P.info? e).map (·.size) = some sz) (hx : lookO σ x = some v)
  (hlo : (lo = none ∧ a = 0) ∨ ∃ y k m, lo = some y ∧ lookO σ y = some (.int k m) ∧ m = (a : Int)) (hhi : (hi = none ∧ b = n) ∨ ∃ y k m, hi = some y ∧ lookO σ y = some (.int k m) ∧ m = (b : Int)) (h1 : a ≤ b) (h2 : b ≤ n)
  (h : HL P N ops l ((d, subV sz v a b) :: σ) B H K) : HL P N ops (⟨some d, .slice t x lo hi none, ty, pos, af, gd⟩ :: l) σ B H K := HL.rd hs (hx_subI hv hT hS hx hlo hhi h1 h2) h
theorem hx_cap {x : Operand} {t e : TypeId} {ad : Option Addr} {n c : Nat} (hT : P.underlying t = some (.slice e)) (hx : lookO σ x = some (.slice ad n c)) (w : World) :
  (execOp (evO σ) ⟨d', .call ⟨.builtin .cap, #[x], #[t]⟩, ty, pos, af, gd⟩).run P w = .ok (.value (.int .i64 (c : Int))) w := by
 simp [execOp, resolve, evO_of_lookO hx, invoke, builtin, Builtin.cap_, run_underlying hT, goInt]
theorem HL.capO {x : Operand} {t e : TypeId} {ad : Option Addr} {n c : Nat} (hs : stat N ops ⟨some d, .call ⟨.builtin .cap, #[x], #[t]⟩, ty, pos, af, gd⟩ σ = true) (hT : P.underlying t = some (.slice e)) (hx : lookO σ x = some (.slice ad n c))
  (h : HL P N ops l ((d, .int .i64 (c : Int)) :: σ) B H K) : HL P N ops (⟨some d, .call ⟨.builtin .cap, #[x], #[t]⟩, ty, pos, af, gd⟩ :: l) σ B H K := HL.rd hs (fun w _ => hx_cap hT hx w) h
theorem HL.ovl {g : FuncId} {fn : Func} {x y : Operand} {tys : Array TypeId} {tS tR e sz : TypeId} {ga oa na ca gb ob nb cb o2 n2 c2 : Nat} {xa xb : List Value} {ea sza eb szb : Nat} (i j : Nat) (hi : nthC H i = some (ownC (.slice (some ⟨ga, oa, none⟩) na ca) ea sza na xa)) (hj : nthC H j = some (ownC (.slice (some ⟨gb, ob, none⟩) nb cb) eb szb nb xb)) (hij : i ≠ j)
    (hs : stat N ops ⟨some d, .call ⟨.value (.func g), #[x, y], tys⟩, ty, pos, af, gd⟩ σ = true) (hx : lookO σ x = some (.slice (some ⟨ga, oa, none⟩) na ca)) (hy : lookO σ y = some (.slice (some ⟨gb, o2, none⟩) n2 c2))
    (hT : P.underlying tS = some (.slice e)) (hS : (P.info? e).map (·.size) = some sz) (hcb : 0 < cb) (hszb : 0 < szb)
    (hf : P.funcs[g]? = some fn) (hname : (fn.name == "runtime.NumGoroutine") = false) (hb : fn.body.isNone = true) (hn : Extern.findNext fn = none) (he : Extern.find fn = some (Extern.SlicesOverlaps.overlaps #[tS, tS] #[tR]))
    (h : HL P N ops l ((d, .bool false) :: σ) B H K) : HL P N ops (⟨some d, .call ⟨.value (.func g), #[x, y], tys⟩, ty, pos, af, gd⟩ :: l) σ B H K := by
  refine HL.rd hs (fun w hw => ?_) h
  have hz : ∀ w, (Go.sizeOf e).run P w = .ok sz w := by
    intro w
    cases hq : P.info? e with
    | none => rw [hq] at hS; cases hS
    | some ti => rw [hq] at hS; simp at hS; simp [sizeOf, typeInfo, hq, hS]
  have hne : ga ≠ gb := fun e' => hw.all.apart hi hj hij ga I (by rw [e']; rfl)
  obtain ⟨_, h1⟩ : Vw w (.slice (some ⟨ga, oa, none⟩) na ca) ea sza na xa := hw.nth hi
  obtain ⟨_, h2⟩ : Vw w (.slice (some ⟨gb, ob, none⟩) nb cb) eb szb nb xb := hw.nth hj
  rcases h1 with ⟨h1, _⟩ | ⟨ga', oa', ca', cura, h1, hga, hna, hca, hcsa, _⟩
  · cases h1
  cases h1
  rcases h2 with ⟨h2, _⟩ | ⟨gb', ob', cb', curb, h2, hgb, hnb, hcb', hcsb, _⟩
  · cases h2
  cases h2
  have hk : curb.size ≠ 0 := by
    have : 1 * 1 ≤ cb * szb := Nat.mul_le_mul hcb hszb
    omega
  have hov := Lib.run_overlaps_apart (P := P) w tS tR e hT sz hz ⟨ga, oa, none⟩ ⟨gb, o2, none⟩ na ca n2 c2 hne ea eb cura.size curb.size (by simp [World.shape?, hga]) (by simp [World.shape?, hgb]) hk (by simp [World.frozen?, hga]) (by simp [World.frozen?, hga])
  have hc := run_callFunc_extern hf hname hb hn he #[.slice (some ⟨ga, oa, none⟩) na ca, .slice (some ⟨gb, o2, none⟩) n2 c2] w
  rw [hov] at hc
  have e1 : evO σ (.func g) = .func (.func g) #[] #[] := rfl
  simp [execOp, resolve, Deferred.ofValue, e1, evO_of_lookO hx, evO_of_lookO hy, invoke, hc]
end
end Go.GX
