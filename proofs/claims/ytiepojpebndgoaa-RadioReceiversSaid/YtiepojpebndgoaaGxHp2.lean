/- Operations over the symbolic heap: reading and writing cells, structs, slices. Conditions: as each says. -/
import Derived.Test.YtiepojpebndgoaaGxView
import Derived.Laws.MakeOwn
namespace Go.GX
open Go.RowKit
set_option linter.unusedVariables false
set_option linter.unusedSectionVars false
set_option linter.unusedSimpArgs false

/-- Cells o .. o + m - 1. -/
def takeL : Nat → List Value → Option (List Value)
  | 0, _ => some []
  | n + 1, c :: cs => match takeL n cs with
    | some l => some (c :: l)
    | none => none
  | _ + 1, [] => none
def rngV : List Value → Nat → Nat → Option (List Value)
  | cs, 0, m => takeL m cs
  | _ :: cs, o + 1, m => rngV cs o m
  | [], _ + 1, _ => none

theorem takeL_eq : ∀ {m : Nat} {cs us : List Value}, takeL m cs = some us → us = cs.take m ∧ us.length = m
  | 0, cs, us, h => by simp [takeL] at h; subst h; simp
  | n + 1, [], us, h => by simp [takeL] at h
  | n + 1, c :: cs, us, h => by
    unfold takeL at h
    split at h
    · rename_i l hl; cases h
      obtain ⟨h1, h2⟩ := takeL_eq hl
      exact ⟨by simp [h1], by simp [h2]⟩
    · cases h
theorem rngV_eq : ∀ {o m : Nat} {cs us : List Value}, rngV cs o m = some us → us = (cs.drop o).take m ∧ us.length = m
  | 0, m, cs, us, h => by unfold rngV at h; simpa using takeL_eq h
  | o + 1, m, c :: cs, us, h => by unfold rngV at h; simpa using rngV_eq h
  | o + 1, m, [], us, h => by simp [rngV] at h
theorem rngV_get {o m : Nat} {cs us : List Value} (h : rngV cs o m = some us) : ∀ (j : Nat) u, us[j]? = some u → cs[o + j]? = some u := by
  obtain ⟨h1, h2⟩ := rngV_eq h
  intro j u hu
  have hj : j < m := by
    have := (List.getElem?_eq_some_iff.1 hu).1; omega
  rw [h1, List.getElem?_take_of_lt hj, List.getElem?_drop] at hu
  exact hu

def overW : List Value → List Value → List Value
  | [], cs => cs
  | u :: us, _ :: cs => u :: overW us cs
  | _ :: _, [] => []
def putR : List Value → Nat → List Value → List Value
  | cs, 0, us => overW us cs
  | c :: cs, o + 1, us => c :: putR cs o us
  | [], _ + 1, _ => []
def lenV : List Value → Nat
  | [] => 0
  | _ :: r => lenV r + 1
theorem lenV_eq : ∀ (l : List Value), lenV l = l.length
  | [] => rfl
  | _ :: r => by simp [lenV, lenV_eq r]
theorem overW_eq : ∀ {us cs : List Value}, us.length ≤ cs.length → overW us cs = us ++ cs.drop us.length
  | [], cs, _ => by simp [overW]
  | u :: us, [], h => by simp at h
  | u :: us, c :: cs, h => by simp [overW, overW_eq (us := us) (cs := cs) (by simpa using h)]
theorem putR_eq : ∀ {o : Nat} {us cs : List Value}, o + us.length ≤ cs.length → putR cs o us = cs.take o ++ us ++ cs.drop (o + us.length)
  | 0, us, cs, h => by unfold putR; rw [overW_eq (by omega)]; simp
  | o + 1, us, [], h => by simp at h
  | o + 1, us, c :: cs, h => by
    unfold putR
    rw [putR_eq (by simp at h; omega)]
    simp only [List.take_succ_cons, List.cons_append, List.append_assoc]
    rw [show o + 1 + us.length = (o + us.length) + 1 by omega, List.drop_succ_cons]
theorem putR_length {o : Nat} {us cs : List Value} (h : o + us.length ≤ cs.length) : (putR cs o us).length = cs.length := by
  rw [putR_eq h]; simp; omega

def allOne : List Value → Bool
  | [] => true
  | .agg _ :: _ => false
  | .tuple _ :: _ => false
  | _ :: r => allOne r
theorem allOne_spec : ∀ {us : List Value}, allOne us = true → ∀ u ∈ us, u.oneCell' = true
  | [], _, u, hu => by cases hu
  | v :: r, h, u, hu => by
    rcases List.mem_cons.1 hu with rfl | hu
    · cases u <;> first | rfl | (simp [allOne] at h)
    · refine allOne_spec (us := r) ?_ u hu
      cases v <;> first | exact h | (simp [allOne] at h)

section
variable {P : Program} {f : FuncId} {N : Nat} {k : List Item} {σ : Store} {B : Base} {H H' : List Chunk} {R : Ending → World → Prop} {ops l : List Oper} {o : Oper} {K : Act → World → Prop} {KQ : Act → Prop}
  {d : Nat} {op : Op} {ty : TypeId} {pos : String} {af : Array Edge} {gd : Option (Nat × Bool)} {v u : Value} {w : World} {d' : Option Tmp}

/-! ### Reading -/
theorem hx_loadB {t : TypeId} {td : TypeDesc} {x : Operand} {b j : Nat} {T : TypeId} {cs : List Value} (i : Nat) (hi : nthC H i = some (blkC b cs T)) (hT : P.underlying t = some td) (hp : plainT td = true)
    (hx : lookO σ x = some (.pointer (some ⟨b, j, none⟩))) (hu : nthV cs j = some u) : ∀ w, Sat B H w → (execOp (evO σ) ⟨d', .load t x, ty, pos, af, gd⟩).run P w = .ok (.value u) w := by
  intro w hw
  have hB : Blk w b cs T := hw.nth hi
  exact ex_load1 hT hp (evO_of_lookO hx) (by rw [hB.cell, ← nthV_eq]; exact hu)

theorem hx_loadR {t : TypeId} {td : TypeDesc} {x : Operand} {b o m : Nat} {T : TypeId} {cs us : List Value} (i : Nat) (hi : nthC H i = some (blkC b cs T)) (hT : P.underlying t = some td) (hr : td.isRow = true) (hm : (P.info? t).map (·.size) = some m)
    (hx : lookO σ x = some (.pointer (some ⟨b, o, none⟩))) (hu : rngV cs o m = some us) : ∀ w, Sat B H w → (execOp (evO σ) ⟨d', .load t x, ty, pos, af, gd⟩).run P w = .ok (.value (.agg ⟨us⟩)) w := by
  intro w hw
  have hB : Blk w b cs T := hw.nth hi
  exact ex_loadS (cs := us) (fun j u hj => by rw [hB.cell]; exact rngV_get hu j u hj) hT hr (by rw [(rngV_eq hu).2]; exact hm) hx

/-- A slice that the heap lets be read. -/
def Rd (B : Base) (H : List Chunk) (v : Value) (cs : List Value) (n : Nat) : Prop := ∀ w, Sat B H w → Sl w v cs n
theorem Rd.arg {w0 : World} {cs : List Value} {n : Nat} (hv : Sl w0 v cs n) : Rd (base w0) H v cs n := fun w hw => hv.ext hw.belowB
theorem Rd.old {cs : List Value} {n : Nat} (hv : Sl B.w v cs n) (hX : ∀ k, v.ownBlock = some k → ¬ B.X k) : Rd B H v cs n := by
  intro w hw
  refine ⟨?_, hv.2⟩
  rcases hv.1 with h | ⟨b, off, cap, rfl, hc⟩
  · exact .inl h
  · refine .inr ⟨b, off, cap, rfl, fun j u hu => ?_⟩
    have h1 := hc j u hu
    have hlt := World.block_lt_of_cell? B.w ⟨b, off + j, none⟩ h1
    have := hw.block b hlt (hX b rfl)
    simp only [World.cell?] at h1 ⊢
    rw [this]; exact h1
theorem Rd.own {e sz n : Nat} {xs : List Value} (i : Nat) (hi : nthC H i = some (ownC v e sz n xs)) : Rd B H v xs n := fun w hw => (show Vw w v e sz n xs from hw.nth hi).sl
theorem Rd.nil : Rd B H (.slice none 0 0) [] 0 := fun w _ => Sl.nil w
theorem Rd.sub {sz n l h : Nat} {xs : List Value} (hv : Rd B H v xs n) (hl : xs.length = n * sz) (h1 : l ≤ h) (h2 : h ≤ n) : Rd B H (subV sz v l h) ((xs.drop (l * sz)).take ((h - l) * sz)) (h - l) := fun w hw => (hv w hw).sub hl h1 h2
theorem Rd.at {n : Nat} {xs : List Value} (hv : Rd B H v xs n) (hw : Sat B H w) : Sl w v xs n := hv w hw
theorem Rd.is {n : Nat} {xs : List Value} (hv : Rd B H v xs n) (hw : Sat B H w) : IsSl w v xs n := (hv w hw).1

theorem hx_len {t e : TypeId} {x : Operand} {n : Nat} {cs : List Value} (hv : Rd B H v cs n) (hT : P.underlying t = some (.slice e)) (hx : lookO σ x = some v) :
    ∀ w, Sat B H w → (execOp (evO σ) ⟨d', .call ⟨.builtin .len, #[x], #[t]⟩, ty, pos, af, gd⟩).run P w = .ok (.value (.int .i64 (n : Int))) w := fun w hw => ex_lenI (hv.is hw) hT hx w
theorem hx_idx {t e sz bytes : TypeId} {x i : Operand} {n : Nat} {cs : List Value} {kk : IntKind} {m : Int} (hv : Rd B H v cs n) (hE : Elem P t e sz bytes) (j : Nat) (hx : lookO σ x = some v) (hi : lookO σ i = some (.int kk m)) (hj : m = (j : Int)) (hlt : j < n) :
    ∀ w, Sat B H w → (execOp (evO σ) ⟨d', .indexAddr t x i, ty, pos, af, gd⟩).run P w = .ok (.value (elemPtr v (j * sz))) w := fun w hw => ex_idxI (hv.is hw) hE hx hi j hj hlt w
/-- An element of one cell. -/
theorem hx_loadI {t : TypeId} {td : TypeDesc} {x : Operand} {n j : Nat} {cs : List Value} (hv : Rd B H v cs n) (hT : P.underlying t = some td) (hp : plainT td = true) (hx : lookO σ x = some (elemPtr v j)) (hu : cs[j]? = some u) :
    ∀ w, Sat B H w → (execOp (evO σ) ⟨d', .load t x, ty, pos, af, gd⟩).run P w = .ok (.value u) w := by
  intro w hw
  obtain ⟨p, h1, h2, _⟩ := (hv.is hw).cell hu
  rw [h1] at hx
  exact ex_load1 hT hp (evO_of_lookO hx) h2
/-- An element of more cells. -/
theorem hx_loadE {t : TypeId} {td : TypeDesc} {x : Operand} {n j : Nat} {cs us : List Value} (hv : Rd B H v cs n) (hT : P.underlying t = some td) (hr : td.isRow = true) (hm : (P.info? t).map (·.size) = some us.length) (hne : us ≠ []) (hx : lookO σ x = some (elemPtr v j)) (hu : ∀ (i : Nat) u, us[i]? = some u → cs[j + i]? = some u) :
    ∀ w, Sat B H w → (execOp (evO σ) ⟨d', .load t x, ty, pos, af, gd⟩).run P w = .ok (.value (.agg ⟨us⟩)) w := by
  intro w hw
  obtain ⟨b, o, e1, e2⟩ := (hv.is hw).range (m := 0) hne hu
  rw [e1] at hx
  exact ex_loadS e2 hT hr hm hx
/-- The place of a field of an element. -/
theorem hx_fieldE {s : TypeId} {x : Operand} {fl : List Field} {fi j n : Nat} {fd : Field} {ti : TypeInfo} {cs : List Value} (hv : Rd B H v cs n) (hj : j < cs.length) (hT : P.underlying s = some (.struct ⟨fl⟩)) (hf : nthF fl fi = some fd) (hti : P.info? fd.type = some ti) (hz : Nat.ble 1 ti.size = true) (hx : lookO σ x = some (elemPtr v j)) :
    ∀ w, Sat B H w → (execOp (evO σ) ⟨some d, .fieldAddr s x fi, ty, pos, af, gd⟩).run P w = .ok (.value (elemPtr v (j + fd.offset))) w := by
  intro w hw
  rcases (hv.is hw) with ⟨_, _, rfl⟩ | ⟨b, off, cap, rfl, _⟩
  · simp at hj
  · have hx' : lookO σ x = some (.pointer (some ⟨b, off + j, none⟩)) := hx
    have hz' : ti.size ≠ 0 := by have := Nat.le_of_ble_eq_true hz; omega
    have hc : evC P σ (.fieldAddr s x fi) = some (.pointer (some ⟨b, plusO (off + j) fd.offset, none⟩), 0 < 1) := by
      simp only [evC, hT, hx', hf, hti]
      split
      · rename_i h0; exact absurd h0 hz'
      · rfl
    have := evC_run (P := P) (w := w) (d := some d) (ty := ty) (pos := pos) (af := af) (gd := gd) hc (by decide)
    rw [this, plusO_eq]
    simp [elemPtr, Nat.add_assoc]

theorem hx_sub {t e sz : TypeId} {x : Operand} {lo hi : Option Operand} {n l h : Nat} {cs : List Value} (hv : Rd B H v cs n) (hT : P.underlying t = some (.slice e)) (hS : (P.info? e).map (·.size) = some sz) (hx : lookO σ x = some v)
    (hlo : (lo = none ∧ l = 0) ∨ ∃ y k, lo = some y ∧ lookO σ y = some (.int k (l : Int))) (hhi : (hi = none ∧ h = n) ∨ ∃ y k, hi = some y ∧ lookO σ y = some (.int k (h : Int))) (h1 : l ≤ h) (h2 : h ≤ n) :
    ∀ w, Sat B H w → (execOp (evO σ) ⟨d', .slice t x lo hi none, ty, pos, af, gd⟩).run P w = .ok (.value (subV sz v l h)) w := by
  intro w hw
  have := run_subV (P := P) (v := v) (lo := lo.map (evO σ)) (hi := hi.map (evO σ)) (b := 0) hT hS (hv w hw) (by
    rcases hlo with ⟨rfl, h⟩ | ⟨y, k, rfl, h⟩
    · exact .inl ⟨rfl, h⟩
    · exact .inr ⟨k, by simp [evO_of_lookO h]⟩) (by
    rcases hhi with ⟨rfl, h⟩ | ⟨y, k, rfl, h⟩
    · exact .inl ⟨rfl, h⟩
    · exact .inr ⟨k, by simp [evO_of_lookO h]⟩) h1 h2 w
  simp [execOp, evO_of_lookO hx, this]

theorem HL.lenR {t e : TypeId} {x : Operand} {n : Nat} {cs : List Value} (hv : Rd B H v cs n) (hs : stat N ops ⟨some d, .call ⟨.builtin .len, #[x], #[t]⟩, ty, pos, af, gd⟩ σ = true) (hT : P.underlying t = some (.slice e)) (hx : lookO σ x = some v)
    (h : HL P N ops l ((d, .int .i64 (n : Int)) :: σ) B H K) : HL P N ops (⟨some d, .call ⟨.builtin .len, #[x], #[t]⟩, ty, pos, af, gd⟩ :: l) σ B H K := HL.rd hs (hx_len hv hT hx) h
theorem HQ.lenR {t e : TypeId} {x : Operand} {n : Nat} {cs : List Value} (hv : Rd B H v cs n) (hs : stat N ops ⟨some d, .call ⟨.builtin .len, #[x], #[t]⟩, ty, pos, af, gd⟩ σ = true) (hT : P.underlying t = some (.slice e)) (hx : lookO σ x = some v)
    (h : HQ P N ops l ((d, .int .i64 (n : Int)) :: σ) B H KQ) : HQ P N ops (⟨some d, .call ⟨.builtin .len, #[x], #[t]⟩, ty, pos, af, gd⟩ :: l) σ B H KQ := RunQ.op hs (hx_len hv hT hx) h
theorem HL.idxR {t e sz bytes : TypeId} {x i : Operand} {n : Nat} {cs : List Value} {kk : IntKind} {m : Int} (hv : Rd B H v cs n) (hE : Elem P t e sz bytes) (j : Nat) (hs : stat N ops ⟨some d, .indexAddr t x i, ty, pos, af, gd⟩ σ = true) (hx : lookO σ x = some v) (hi : lookO σ i = some (.int kk m)) (hj : m = (j : Int)) (hlt : j < n)
    (h : HL P N ops l ((d, elemPtr v (j * sz)) :: σ) B H K) : HL P N ops (⟨some d, .indexAddr t x i, ty, pos, af, gd⟩ :: l) σ B H K := HL.rd hs (hx_idx hv hE j hx hi hj hlt) h
theorem HQ.idxR {t e sz bytes : TypeId} {x i : Operand} {n : Nat} {cs : List Value} {kk : IntKind} {m : Int} (hv : Rd B H v cs n) (hE : Elem P t e sz bytes) (j : Nat) (hs : stat N ops ⟨some d, .indexAddr t x i, ty, pos, af, gd⟩ σ = true) (hx : lookO σ x = some v) (hi : lookO σ i = some (.int kk m)) (hj : m = (j : Int)) (hlt : j < n)
    (h : HQ P N ops l ((d, elemPtr v (j * sz)) :: σ) B H KQ) : HQ P N ops (⟨some d, .indexAddr t x i, ty, pos, af, gd⟩ :: l) σ B H KQ := RunQ.op hs (hx_idx hv hE j hx hi hj hlt) h
theorem HL.loadI {t : TypeId} {td : TypeDesc} {x : Operand} {n j : Nat} {cs : List Value} (hv : Rd B H v cs n) (hs : stat N ops ⟨some d, .load t x, ty, pos, af, gd⟩ σ = true) (hT : P.underlying t = some td) (hp : plainT td = true) (hx : lookO σ x = some (elemPtr v j)) (hu : cs[j]? = some u)
    (h : HL P N ops l ((d, u) :: σ) B H K) : HL P N ops (⟨some d, .load t x, ty, pos, af, gd⟩ :: l) σ B H K := HL.rd hs (hx_loadI hv hT hp hx hu) h
theorem HQ.loadI {t : TypeId} {td : TypeDesc} {x : Operand} {n j : Nat} {cs : List Value} (hv : Rd B H v cs n) (hs : stat N ops ⟨some d, .load t x, ty, pos, af, gd⟩ σ = true) (hT : P.underlying t = some td) (hp : plainT td = true) (hx : lookO σ x = some (elemPtr v j)) (hu : cs[j]? = some u)
    (h : HQ P N ops l ((d, u) :: σ) B H KQ) : HQ P N ops (⟨some d, .load t x, ty, pos, af, gd⟩ :: l) σ B H KQ := RunQ.op hs (hx_loadI hv hT hp hx hu) h
theorem HL.loadE {t : TypeId} {td : TypeDesc} {x : Operand} {n j : Nat} {cs us : List Value} (hv : Rd B H v cs n) (hs : stat N ops ⟨some d, .load t x, ty, pos, af, gd⟩ σ = true) (hT : P.underlying t = some td) (hr : td.isRow = true) (hm : (P.info? t).map (·.size) = some us.length) (hne : us ≠ []) (hx : lookO σ x = some (elemPtr v j)) (hu : ∀ (i : Nat) u, us[i]? = some u → cs[j + i]? = some u)
    (h : HL P N ops l ((d, .agg ⟨us⟩) :: σ) B H K) : HL P N ops (⟨some d, .load t x, ty, pos, af, gd⟩ :: l) σ B H K := HL.rd hs (hx_loadE hv hT hr hm hne hx hu) h
theorem HQ.loadE {t : TypeId} {td : TypeDesc} {x : Operand} {n j : Nat} {cs us : List Value} (hv : Rd B H v cs n) (hs : stat N ops ⟨some d, .load t x, ty, pos, af, gd⟩ σ = true) (hT : P.underlying t = some td) (hr : td.isRow = true) (hm : (P.info? t).map (·.size) = some us.length) (hne : us ≠ []) (hx : lookO σ x = some (elemPtr v j)) (hu : ∀ (i : Nat) u, us[i]? = some u → cs[j + i]? = some u)
    (h : HQ P N ops l ((d, .agg ⟨us⟩) :: σ) B H KQ) : HQ P N ops (⟨some d, .load t x, ty, pos, af, gd⟩ :: l) σ B H KQ := RunQ.op hs (hx_loadE hv hT hr hm hne hx hu) h
theorem HL.fieldE {s : TypeId} {x : Operand} {fl : List Field} {fi j n : Nat} {fd : Field} {ti : TypeInfo} {cs : List Value} (hv : Rd B H v cs n) (hj : j < cs.length) (hs : stat N ops ⟨some d, .fieldAddr s x fi, ty, pos, af, gd⟩ σ = true) (hT : P.underlying s = some (.struct ⟨fl⟩)) (hf : nthF fl fi = some fd) (hti : P.info? fd.type = some ti) (hz : Nat.ble 1 ti.size = true) (hx : lookO σ x = some (elemPtr v j))
    (h : HL P N ops l ((d, elemPtr v (j + fd.offset)) :: σ) B H K) : HL P N ops (⟨some d, .fieldAddr s x fi, ty, pos, af, gd⟩ :: l) σ B H K := HL.rd hs (hx_fieldE hv hj hT hf hti hz hx) h
theorem HQ.fieldE {s : TypeId} {x : Operand} {fl : List Field} {fi j n : Nat} {fd : Field} {ti : TypeInfo} {cs : List Value} (hv : Rd B H v cs n) (hj : j < cs.length) (hs : stat N ops ⟨some d, .fieldAddr s x fi, ty, pos, af, gd⟩ σ = true) (hT : P.underlying s = some (.struct ⟨fl⟩)) (hf : nthF fl fi = some fd) (hti : P.info? fd.type = some ti) (hz : Nat.ble 1 ti.size = true) (hx : lookO σ x = some (elemPtr v j))
    (h : HQ P N ops l ((d, elemPtr v (j + fd.offset)) :: σ) B H KQ) : HQ P N ops (⟨some d, .fieldAddr s x fi, ty, pos, af, gd⟩ :: l) σ B H KQ := RunQ.op hs (hx_fieldE hv hj hT hf hti hz hx) h
theorem HL.loadB {t : TypeId} {td : TypeDesc} {x : Operand} {b j : Nat} {T : TypeId} {cs : List Value} (i : Nat) (hx : lookO σ x = some (.pointer (some ⟨b, j, none⟩))) (hi : nthC H i = some (blkC b cs T)) (hs : stat N ops ⟨some d, .load t x, ty, pos, af, gd⟩ σ = true) (hT : P.underlying t = some td) (hp : plainT td = true) (hu : nthV cs j = some u)
    (h : HL P N ops l ((d, u) :: σ) B H K) : HL P N ops (⟨some d, .load t x, ty, pos, af, gd⟩ :: l) σ B H K := HL.rd hs (hx_loadB i hi hT hp hx hu) h
theorem HQ.loadB {t : TypeId} {td : TypeDesc} {x : Operand} {b j : Nat} {T : TypeId} {cs : List Value} (i : Nat) (hx : lookO σ x = some (.pointer (some ⟨b, j, none⟩))) (hi : nthC H i = some (blkC b cs T)) (hs : stat N ops ⟨some d, .load t x, ty, pos, af, gd⟩ σ = true) (hT : P.underlying t = some td) (hp : plainT td = true) (hu : nthV cs j = some u)
    (h : HQ P N ops l ((d, u) :: σ) B H KQ) : HQ P N ops (⟨some d, .load t x, ty, pos, af, gd⟩ :: l) σ B H KQ := RunQ.op hs (hx_loadB i hi hT hp hx hu) h
theorem HL.loadR {t : TypeId} {td : TypeDesc} {x : Operand} {b o m : Nat} {T : TypeId} {cs us : List Value} (i : Nat) (hx : lookO σ x = some (.pointer (some ⟨b, o, none⟩))) (hi : nthC H i = some (blkC b cs T)) (hs : stat N ops ⟨some d, .load t x, ty, pos, af, gd⟩ σ = true) (hT : P.underlying t = some td) (hr : td.isRow = true) (hm : (P.info? t).map (·.size) = some m) (hu : rngV cs o m = some us)
    (h : HL P N ops l ((d, .agg ⟨us⟩) :: σ) B H K) : HL P N ops (⟨some d, .load t x, ty, pos, af, gd⟩ :: l) σ B H K := HL.rd hs (hx_loadR i hi hT hr hm hx hu) h
theorem HQ.loadR {t : TypeId} {td : TypeDesc} {x : Operand} {b o m : Nat} {T : TypeId} {cs us : List Value} (i : Nat) (hx : lookO σ x = some (.pointer (some ⟨b, o, none⟩))) (hi : nthC H i = some (blkC b cs T)) (hs : stat N ops ⟨some d, .load t x, ty, pos, af, gd⟩ σ = true) (hT : P.underlying t = some td) (hr : td.isRow = true) (hm : (P.info? t).map (·.size) = some m) (hu : rngV cs o m = some us)
    (h : HQ P N ops l ((d, .agg ⟨us⟩) :: σ) B H KQ) : HQ P N ops (⟨some d, .load t x, ty, pos, af, gd⟩ :: l) σ B H KQ := RunQ.op hs (hx_loadR i hi hT hr hm hx hu) h
theorem HL.subR {t e sz : TypeId} {x : Operand} {lo hi : Option Operand} {n : Nat} (a b : Nat) {cs : List Value} (hv : Rd B H v cs n) (hs : stat N ops ⟨some d, .slice t x lo hi none, ty, pos, af, gd⟩ σ = true) (hT : P.underlying t = some (.slice e)) (hS : (P.info? e).map (·.size) = some sz) (hx : lookO σ x = some v)
    (hlo : (lo = none ∧ a = 0) ∨ ∃ y k, lo = some y ∧ lookO σ y = some (.int k (a : Int))) (hhi : (hi = none ∧ b = n) ∨ ∃ y k, hi = some y ∧ lookO σ y = some (.int k (b : Int))) (h1 : a ≤ b) (h2 : b ≤ n)
    (h : HL P N ops l ((d, subV sz v a b) :: σ) B H K) : HL P N ops (⟨some d, .slice t x lo hi none, ty, pos, af, gd⟩ :: l) σ B H K := HL.rd hs (hx_sub hv hT hS hx hlo hhi h1 h2) h

/-! ### What kind of operation stands ahead -/
theorem HL.isOp (h : HL P N ops (o :: l) σ B H K) : HL P N ops (o :: l) σ B H K := h
theorem HL.isLoad {t : TypeId} {x : Operand} (h : HL P N ops (⟨some d, .load t x, ty, pos, af, gd⟩ :: l) σ B H K) : HL P N ops (⟨some d, .load t x, ty, pos, af, gd⟩ :: l) σ B H K := h
theorem HL.isStore {t : TypeId} {x y : Operand} (h : HL P N ops (⟨none, .store t x y, ty, pos, af, gd⟩ :: l) σ B H K) : HL P N ops (⟨none, .store t x y, ty, pos, af, gd⟩ :: l) σ B H K := h
theorem HL.isCall {g : Operand} {as : Array Operand} {ts : Array TypeId} (h : HL P N ops (⟨some d, .call ⟨.value g, as, ts⟩, ty, pos, af, gd⟩ :: l) σ B H K) : HL P N ops (⟨some d, .call ⟨.value g, as, ts⟩, ty, pos, af, gd⟩ :: l) σ B H K := h
theorem HQ.isOp (h : HQ P N ops (o :: l) σ B H KQ) : HQ P N ops (o :: l) σ B H KQ := h
theorem HQ.isLoad {t : TypeId} {x : Operand} (h : HQ P N ops (⟨some d, .load t x, ty, pos, af, gd⟩ :: l) σ B H KQ) : HQ P N ops (⟨some d, .load t x, ty, pos, af, gd⟩ :: l) σ B H KQ := h
/-! ### New variables -/
theorem HL.box {x : Operand} {T : TypeId} (hs : stat N ops ⟨some d, .box T x, ty, pos, af, gd⟩ σ = true) (hx : lookO σ x = some u)
    (h : ∀ b, HL P N ops l ((d, .pointer (some ⟨b, 0, none⟩)) :: σ) B (blkC b (cellsL u) T :: H) K) : HL P N ops (⟨some d, .box T x, ty, pos, af, gd⟩ :: l) σ B H K :=
  fun w hw => RunL.box hs hx fun w' h1 h2 _ => h w.heap.size w' (hw.push h2 h1 fun k hk => Nat.le_of_eq hk.symm)
theorem HL.alloc {T : TypeId} (hs : stat N ops ⟨some d, .alloc T, ty, pos, af, gd⟩ σ = true) (hz : (P.info? T).bind (·.zero) = some u)
    (h : ∀ b, HL P N ops l ((d, .pointer (some ⟨b, 0, none⟩)) :: σ) B (blkC b (cellsL u) T :: H) K) : HL P N ops (⟨some d, .alloc T, ty, pos, af, gd⟩ :: l) σ B H K :=
  fun w hw => RunL.alloc hs hz fun w' h1 h2 _ => h w.heap.size w' (hw.push h2 h1 fun k hk => Nat.le_of_eq hk.symm)

/-! ### Writing a block -/
theorem run_storeR {t : TypeId} {b o : Nat} {T : TypeId} {cs us : List Value} {y : Value} (hB : Blk w b cs T) (hm : (P.info? t).map (·.size) = some us.length) (hy : cellsL y = us) (hone : allOne us = true) (hfit : o + us.length ≤ cs.length) :
    (storeVar t ⟨b, o, none⟩ y).run P w = .ok () (w.setRow b (putR cs o us).toArray) := by
  have e1 : (sizeOf t).run P w = .ok us.length w := by
    cases h : P.info? t with
    | none => rw [h] at hm; cases hm
    | some ti => rw [h] at hm; simp at hm; simp [sizeOf, typeInfo, h, hm]
  have hst := run_storeCells_at P b o T us 0 cs.toArray w hB (by simpa using hfit) (allOne_spec hone)
  have hc : y.cells = us.toArray := by rw [cellsL_eq, hy]
  simp only [Nat.add_zero] at hst
  have e2 : (cs.toArray.toList.take o ++ us ++ cs.toArray.toList.drop (o + us.length)).toArray = (putR cs o us).toArray := by rw [putR_eq hfit]
  rw [e2] at hst
  unfold storeVar
  rw [Sem.run_bind, e1]
  simp only [Result.andThen_ok, hc]
  simp [hst]

theorem HL.storeR {t : TypeId} {x y : Operand} {b o : Nat} {T : TypeId} {cs us : List Value} (i : Nat) (hx : lookO σ x = some (.pointer (some ⟨b, o, none⟩))) (hi : nthC H i = some (blkC b cs T)) (hs : stat N ops ⟨none, .store t x y, ty, pos, af, gd⟩ σ = true)
    (hy : lookO σ y = some u) (hus : cellsL u = us) (hm : (P.info? t).map (·.size) = some (lenV us)) (hone : allOne us = true) (hfit : Nat.ble (o + lenV us) (lenV cs) = true)
    (h : HL P N ops l σ B (setC H i (blkC b (putR cs o us) T)) K) : HL P N ops (⟨none, .store t x y, ty, pos, af, gd⟩ :: l) σ B H K := by
  rw [lenV_eq] at hm
  have hfit' := Nat.le_of_ble_eq_true hfit
  rw [lenV_eq, lenV_eq] at hfit'
  refine HL.opU hs (fun w hw => ?_) h
  have hB : Blk w b cs T := hw.nth hi
  have hr := run_storeR (P := P) (t := t) (o := o) hB hm hus hone hfit'
  have hB2 := hB
  unfold Blk at hB2
  refine ⟨w.setRow b (putR cs o us).toArray, ?_, ?_⟩
  · simp [execOp, evO_of_lookO hx, evO_of_lookO hy, Instr.storeAt, Instr.sureAddr, hr]
  · refine hw.upd hi rfl rfl rfl (by simp [World.setRow]) (fun k hk hne => ?_) ?_ (fun k hk => .inl hk)
    · exact setRow_other w b k _ (fun e => hne e)
    · show Blk _ b _ T
      unfold Blk; simp [World.setRow, hB2, Array.getElem?_modify]

/-! ### Own slices -/
theorem HL.appR {t e sz bytes : TypeId} {s x : Operand} {v2 : Value} {n m : Nat} {xs news : List Value} (i : Nat) (hi : nthC H i = some (ownC v e sz n xs)) (hE : Elem P t e sz bytes) (hv2 : Rd B H v2 news m)
    (hs : stat N ops ⟨some d, .call ⟨.builtin .append, #[s, x], #[t, t]⟩, ty, pos, af, gd⟩ σ = true) (hx : lookO σ s = some v) (hy : lookO σ x = some v2) (hl : news.length = m * sz) (h1 : ∀ u ∈ news, u.oneCell' = true)
    (hb : (n + m) * bytes ≤ 140737488355328) (h63 : n + m ≤ 9223372036854775807)
    (h : ∀ v', HL P N ops l ((d, v') :: σ) B (setC H i (ownC v' e sz (n + m) (xs ++ news))) K) : HL P N ops (⟨some d, .call ⟨.builtin .append, #[s, x], #[t, t]⟩, ty, pos, af, gd⟩ :: l) σ B H K := by
  refine HL.opX (fun v => v) (fun v' => setC H i (ownC v' e sz (n + m) (xs ++ news))) (fun _ => True) hs (fun w hw => ?_) (fun v' _ => h v')
  obtain ⟨v', w', hr, h2, h3, h4⟩ := run_append_vw (P := P) (ty := ty) hE (show Vw w v e sz n xs from hw.nth hi) (hv2.is hw) hl h1 hb h63
  refine ⟨v', w', ?_, trivial, hw.updG hi h3 (fun k hk => hk) h2 h4⟩
  simp [execOp, resolve, evO_of_lookO hx, evO_of_lookO hy, invoke, builtin, hr]

theorem HL.bslice {t e sz bytes : TypeId} {ps : List (Nat × Operand)} {xs : List Operand} {vs : List Value} {m : Nat} {cs : List Value} (hE : Elem P t e sz bytes) (hs : stat N ops ⟨some d, .buildSlice t m ps.toArray, ty, pos, af, gd⟩ σ = true) (hps : partsX 0 ps = some xs) (hvs : vals σ xs = some vs) (hcs : flatC sz vs = some cs) (hm : vs.length = m) (hsm : m * sz ≤ 16777216) (hm0 : 0 < m)
    (h : ∀ v', HL P N ops l ((d, v') :: σ) B (ownC v' e sz m cs :: H) K) : HL P N ops (⟨some d, .buildSlice t m ps.toArray, ty, pos, af, gd⟩ :: l) σ B H K :=
  fun w hw => RunL.bslice hE hs hps hvs hcs hm hsm hm0 fun w' v' h1 h2 h3 => h v' w' (hw.push h3 (Vw.of_own h1) (ownsRow_ge h1))

/-- A nil slice begins a chunk. -/
theorem Sat.nilC (h : Sat B H w) (e sz : Nat) : Sat B (ownC (.slice none 0 0) e sz 0 [] :: H) w :=
  h.push (Below.refl _ _) ⟨by simp, .inl ⟨rfl, rfl⟩⟩ (fun k hk => by cases hk)
theorem HL.nilC (e sz : Nat) (h : HL P N ops l σ B (ownC (.slice none 0 0) e sz 0 [] :: H) K) : HL P N ops l σ B H K := fun w hw => h w (hw.nilC e sz)
theorem HR.nilC (e sz : Nat) (h : HR P f N k σ B (ownC (.slice none 0 0) e sz 0 [] :: H) R) : HR P f N k σ B H R := fun w hw => h w (hw.nilC e sz)
theorem HL.subO {t e sz : TypeId} {x : Operand} {lo hi : Option Operand} {n : Nat} (a b : Nat) {cs : List Value} (i : Nat) (hi' : nthC H i = some (ownC v e sz n cs)) (hs : stat N ops ⟨some d, .slice t x lo hi none, ty, pos, af, gd⟩ σ = true) (hT : P.underlying t = some (.slice e)) (hS : (P.info? e).map (·.size) = some sz) (hx : lookO σ x = some v)
    (hlo : (lo = none ∧ a = 0) ∨ ∃ y k, lo = some y ∧ lookO σ y = some (.int k (a : Int))) (hhi : (hi = none ∧ b = n) ∨ ∃ y k, hi = some y ∧ lookO σ y = some (.int k (b : Int))) (h1 : a ≤ b) (h2 : b ≤ n)
    (h : HL P N ops l ((d, subV sz v a b) :: σ) B (setC H i (ownC (subV sz v a b) e sz (b - a) ((cs.drop (a * sz)).take ((b - a) * sz)))) K) : HL P N ops (⟨some d, .slice t x lo hi none, ty, pos, af, gd⟩ :: l) σ B H K := by
  refine HL.rd hs (hx_sub (Rd.own i hi') hT hS hx hlo hhi h1 h2) fun w hw => h w (hw.as i hi' (fun hv => Vw.sub hv h1 h2) (fun k hk => ?_))
  have hk' : (subV sz v a b).ownBlock = some k := hk
  rw [subV_block] at hk'
  exact hk'

theorem flat_rep (zl : List Value) (hz : 0 < zl.length) : ∀ (n j : Nat), j < n * zl.length → ((List.replicate n zl).flatten)[j]? = zl[j % zl.length]?
  | 0, j, h => by simp at h
  | n + 1, j, h => by
    rw [List.replicate_succ, List.flatten_cons]
    by_cases hj : j < zl.length
    · rw [List.getElem?_append_left hj, Nat.mod_eq_of_lt hj]
    · rw [List.getElem?_append_right (by omega), flat_rep zl hz n (j - zl.length) (by rw [Nat.add_mul, Nat.one_mul] at h; omega)]
      rw [Nat.mod_eq_sub_mod (a := j) (by omega)]
theorem flat_rep_length (zl : List Value) : ∀ n, ((List.replicate n zl).flatten).length = n * zl.length
  | 0 => by simp
  | n + 1 => by rw [List.replicate_succ, List.flatten_cons, List.length_append, flat_rep_length zl n, Nat.add_mul]; omega

theorem HL.makeS {t e sz bytes : TypeId} {nn cc : Operand} {z : Value} {k1 k2 : IntKind} {a c : Int} (n cap : Nat) (hE : Elem P t e sz bytes) (hz : (P.info? e).bind (·.zero) = some z) (hs : stat N ops ⟨some d, .makeSlice t nn cc, ty, pos, af, gd⟩ σ = true)
    (hn : lookO σ nn = some (.int k1 a)) (hc : lookO σ cc = some (.int k2 c)) (ha : a = (n : Int)) (hac : c = (cap : Int)) (hnc : n ≤ cap) (hcb : bytes * cap ≤ 281474976710656) (hcm : cap ≤ 9223372036854775807)
    (h : ∀ v', HL P N ops l ((d, v') :: σ) B (ownC v' e sz n ((List.replicate n (cellsL z)).flatten) :: H) K) : HL P N ops (⟨some d, .makeSlice t nn cc, ty, pos, af, gd⟩ :: l) σ B H K := by
  subst ha
  subst hac
  obtain ⟨i, z', g1, g2, g3, g4, g5⟩ := hE.info
  have hzz : z' = z := by rw [g1] at hz; simpa [g2] using hz
  subst hzz
  have hpos := hE.pos
  have hzl : (cellsL z').length = sz := by
    have := g5; rw [cellsL_eq] at this; simpa using this
  refine HL.opX (fun v => v) (fun v' => ownC v' e sz n ((List.replicate n (cellsL z')).flatten) :: H) (fun _ => True) hs (fun w hw => ?_) (fun v' _ => h v')
  have hr := run_make (P := P) w t e i z' hE.slice g1 g2 k1 k2 (n : Int) (cap : Int) (by omega) (by omega) (by rw [g4, ← Int.natCast_mul]; exact Int.ofNat_le.2 hcb) (Int.ofNat_le.2 hcm)
  simp only [Int.toNat_natCast] at hr
  refine ⟨.slice (some ⟨w.heap.size, 0, none⟩) n cap, w.alloc (.cells (madeCells z'.cells (cap * i.size)) e), ?_, trivial, hw.push ((Below.refl _ _).alloc (Nat.le_refl _) _) ⟨?_, .inr ⟨w.heap.size, 0, cap, _, rfl, heap_alloc_new w _, hnc, by unfold maxLen; omega, ?_, ?_⟩⟩ (fun k hk => by cases hk; exact Nat.le_refl _)⟩
  · simp [execOp, evO_of_lookO hn, evO_of_lookO hc, hr]
  · rw [flat_rep_length, hzl]
  · rw [size_madeCells, g3]; omega
  · apply List.ext_getElem?
    intro j
    rw [List.drop_zero, List.getElem?_take]
    split
    · rename_i hj
      rw [flat_rep _ (by omega) n j (by rw [hzl]; exact hj)]
      have hlt : j < cap * i.size := by rw [g3]; exact Nat.lt_of_lt_of_le hj (Nat.mul_le_mul_right _ hnc)
      have hmod : j % sz < sz := Nat.mod_lt _ hpos
      rw [Array.getElem?_toList]
      simp only [madeCells, Array.getElem?_map, Array.getElem?_range, hlt, if_true, Option.map_some, hzl, g5]
      rw [getElem!_pos z'.cells (j % sz) (by rw [g5]; exact hmod)]
      rw [List.getElem?_eq_getElem (by rw [hzl]; exact hmod)]
      congr 1
      simp only [cellsL_eq, List.getElem_toArray]
    · rw [List.getElem?_eq_none (by rw [flat_rep_length, hzl]; omega)]
end
end Go.GX
