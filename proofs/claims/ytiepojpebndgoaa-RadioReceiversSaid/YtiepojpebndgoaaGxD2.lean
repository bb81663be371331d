/- More rules: function values, arrays, drawn regions with guards. Conditions: as each says. -/
import Derived.Test.YtiepojpebndgoaaGxSh
namespace Go.GX
open Go.RowKit
set_option linter.unusedVariables false
set_option linter.unusedSectionVars false
set_option linter.unusedSimpArgs false
section
variable {P : Program} {f : FuncId} {N : Nat} {k : List Item} {σ : Store} {B : Base} {H H' F : List Chunk} {R : Ending → World → Prop} {ops l : List Oper} {o : Oper} {K : Act → World → Prop} {KQ : Act → Prop} {C : World → Prop}
  {d : Nat} {op : Op} {ty : TypeId} {pos : String} {af : Array Edge} {gd : Option (Nat × Bool)} {v u : Value} {w : World} {d' : Option Tmp} {p : List (Nat × Bool)} {i : Nat} {S : World → Prop}

/-! ### A call of a function value -/
theorem hx_callV {g : FuncId} {x : Operand} {args : List Operand} {a1 caps : List Value} {tys : Array TypeId} (hg : IsFn P g) (hx : lookO σ x = some (.func (.func g) #[] caps.toArray)) (ha : vals σ args = some a1) :
    (execOp (evO σ) ⟨d', .call ⟨.value x, args.toArray, tys⟩, ty, pos, af, gd⟩).run P w = .ok (.enter g ((a1 ++ caps).toArray)) w := by
  obtain ⟨fn, c, hf, hb, hn⟩ := hg.out
  have hn' : ¬ fn.name = "runtime.NumGoroutine" := by simpa using hn
  have e := vals_eq ha
  simp [execOp, resolve, evO_of_lookO hx, Deferred.ofValue, invoke, callFunc, hf, hn', hb, e]
theorem HL.callV {r : Value} {g : FuncId} {x : Operand} {args : List Operand} {a1 caps : List Value} {tys : Array TypeId} (hg : IsFn P g) (hx : lookO σ x = some (.func (.func g) #[] caps.toArray))
    (hs : stat N ops ⟨some d, .call ⟨.value x, args.toArray, tys⟩, ty, pos, af, gd⟩ σ = true) (ha : vals σ args = some a1)
    (hc : ∀ w, Sat B H w → Calls P g ((a1 ++ caps).toArray) w fun e w' => e = .returned r ∧ Below w.heap.size w w')
    (h : HL P N ops l ((d, r) :: σ) B H K) : HL P N ops (⟨some d, .call ⟨.value x, args.toArray, tys⟩, ty, pos, af, gd⟩ :: l) σ B H K :=
  fun w hw => RunL.enter hs (hx_callV hg hx ha) ((hc w hw).mono fun e w' ⟨h1, h2⟩ => ⟨r, h1, h w' (hw.grow h2)⟩)

/-! ### An array's element -/
def idxA (P : Program) (σ : Store) (t : TypeId) (x i : Operand) : Option Value := match P.underlying t, lookO σ x, lookO σ i with
  | some (.array n e), some (.pointer (some ⟨b, o, none⟩)), some (.int _ (.ofNat j)) => match P.info? e, Nat.blt j n with
    | some ti, true => some (.pointer (some ⟨b, placeAt o j ti.size, none⟩))
    | _, _ => none
  | _, _, _ => none
theorem hx_idxAv {t e sz n : Nat} {x i : Operand} {b o j : Nat} {kk : IntKind} {m : Int} (hT : P.underlying t = some (.array n e)) (hS : (P.info? e).map (·.size) = some sz) (hx : lookO σ x = some (.pointer (some ⟨b, o, none⟩))) (hi : lookO σ i = some (.int kk m)) (hj : m = (j : Int)) (hlt : j < n) :
    ∀ w, (execOp (evO σ) ⟨d', .indexAddr t x i, ty, pos, af, gd⟩).run P w = .ok (.value (.pointer (some ⟨b, o + j * sz, none⟩))) w := by
  intro w
  subst hj
  obtain ⟨ti, h1, h2⟩ : ∃ ti, P.info? e = some ti ∧ ti.size = sz := by
    cases h : P.info? e with
    | none => rw [h] at hS; cases hS
    | some ti => rw [h] at hS; exact ⟨ti, rfl, by simpa using hS⟩
  have hadd : (⟨b, o, none⟩ : Addr).add (j * sz) = ⟨b, o + j * sz, none⟩ := by unfold Addr.add; split <;> simp_all
  simp [execOp, evO_of_lookO hx, evO_of_lookO hi, Instr.indexAt, Instr.sureAddr, asIntOf, underlying, hT, sizeOf, typeInfo, h1, h2, hlt, hadd]
theorem hx_idxA {t : TypeId} {x i : Operand} (h : idxA P σ t x i = some v) : ∀ w, (execOp (evO σ) ⟨d', .indexAddr t x i, ty, pos, af, gd⟩).run P w = .ok (.value v) w := by
  intro w
  unfold idxA at h
  split at h
  · rename_i hT hx hi
    split at h
    · rename_i ti hti hb
      cases h
      rw [placeAt_eq]
      exact hx_idxAv hT (by rw [hti]; rfl) hx hi rfl (by simpa using hb) w
    · cases h
  · cases h
theorem HL.idxA {t : TypeId} {x y : Operand} (hs : stat N ops ⟨some d, .indexAddr t x y, ty, pos, af, gd⟩ σ = true) (hb : idxA P σ t x y = some v) (h : HL P N ops l ((d, v) :: σ) B H K) : HL P N ops (⟨some d, .indexAddr t x y, ty, pos, af, gd⟩ :: l) σ B H K := HL.rd hs (fun w _ => hx_idxA hb w) h
theorem HQ.idxA {t : TypeId} {x y : Operand} (hs : stat N ops ⟨some d, .indexAddr t x y, ty, pos, af, gd⟩ σ = true) (hb : idxA P σ t x y = some v) (h : HQ P N ops l ((d, v) :: σ) B H KQ) : HQ P N ops (⟨some d, .indexAddr t x y, ty, pos, af, gd⟩ :: l) σ B H KQ := RunQ.op hs (fun w _ => hx_idxA hb w) h
theorem HD.idxA {t : TypeId} {x y : Operand} (ho : ops[i]? = some ⟨some d, .indexAddr t x y, ty, pos, af, gd⟩) (hs : stat N ops ⟨some d, .indexAddr t x y, ty, pos, af, gd⟩ σ = true) (hb : idxA P σ t x y = some v) (h : HD P N ops p ((d, v) :: σ) B H F K) : HD P N ops ((i, true) :: p) σ B H F K := HD.rd ho hs (fun w _ => hx_idxA hb w) h

/-! ### Drawn regions along a plan: slices, guards -/
theorem HD.lenR {t e : TypeId} {x : Operand} {n : Nat} {cs : List Value} (hv : Rd B F v cs n) (ho : ops[i]? = some ⟨some d, .call ⟨.builtin .len, #[x], #[t]⟩, ty, pos, af, gd⟩) (hs : stat N ops ⟨some d, .call ⟨.builtin .len, #[x], #[t]⟩, ty, pos, af, gd⟩ σ = true) (hT : P.underlying t = some (.slice e)) (hx : lookO σ x = some v)
    (h : HD P N ops p ((d, .int .i64 (n : Int)) :: σ) B H F K) : HD P N ops ((i, true) :: p) σ B H F K := HD.rd ho hs (hx_len hv hT hx) h
theorem HD.idxR {t e sz bytes : TypeId} {x y : Operand} {n : Nat} {cs : List Value} {kk : IntKind} {m : Int} (hv : Rd B F v cs n) (hE : Elem P t e sz bytes) (j : Nat) (ho : ops[i]? = some ⟨some d, .indexAddr t x y, ty, pos, af, gd⟩) (hs : stat N ops ⟨some d, .indexAddr t x y, ty, pos, af, gd⟩ σ = true) (hx : lookO σ x = some v) (hi : lookO σ y = some (.int kk m)) (hj : m = (j : Int)) (hlt : j < n)
    (h : HD P N ops p ((d, elemPtr v (j * sz)) :: σ) B H F K) : HD P N ops ((i, true) :: p) σ B H F K := HD.rd ho hs (hx_idx hv hE j hx hi hj hlt) h
theorem HD.loadI {t : TypeId} {td : TypeDesc} {x : Operand} {n j : Nat} {cs : List Value} (hv : Rd B F v cs n) (ho : ops[i]? = some ⟨some d, .load t x, ty, pos, af, gd⟩) (hs : stat N ops ⟨some d, .load t x, ty, pos, af, gd⟩ σ = true) (hT : P.underlying t = some td) (hp : plainT td = true) (hx : lookO σ x = some (elemPtr v j)) (hu : cs[j]? = some u)
    (h : HD P N ops p ((d, u) :: σ) B H F K) : HD P N ops ((i, true) :: p) σ B H F K := HD.rd ho hs (hx_loadI hv hT hp hx hu) h
theorem HD.loadE {t : TypeId} {td : TypeDesc} {x : Operand} {n j : Nat} {cs us : List Value} (hv : Rd B F v cs n) (ho : ops[i]? = some ⟨some d, .load t x, ty, pos, af, gd⟩) (hs : stat N ops ⟨some d, .load t x, ty, pos, af, gd⟩ σ = true) (hT : P.underlying t = some td) (hr : td.isRow = true) (hm : (P.info? t).map (·.size) = some us.length) (hne : us ≠ []) (hx : lookO σ x = some (elemPtr v j)) (hu : ∀ (i : Nat) u, us[i]? = some u → cs[j + i]? = some u)
    (h : HD P N ops p ((d, .agg ⟨us⟩) :: σ) B H F K) : HD P N ops ((i, true) :: p) σ B H F K := HD.rd ho hs (hx_loadE hv hT hr hm hne hx hu) h
theorem HD.field {t : TypeId} {x : Operand} {q : Nat} (ho : ops[i]? = some ⟨some d, .field t x q, ty, pos, af, gd⟩) (hs : stat N ops ⟨some d, .field t x q, ty, pos, af, gd⟩ σ = true) (hb : fldV P σ t x q = some v)
    (h : HD P N ops p ((d, v) :: σ) B H F K) : HD P N ops ((i, true) :: p) σ B H F K := HD.rd ho hs (fun w _ => hx_field hb w) h
theorem RunD.setV (t : Nat) {v v' : Value} (hl : look σ t = some v) (e : v = v') (h : RunD P N S ops p ((t, v') :: σ) w K) : RunD P N S ops p σ w K := by
  intro hS a ha
  exact h hS a (ha.weaken fun t' u hu => by
    rw [look_cons] at hu
    split at hu
    · rename_i e'; subst e'; cases hu; rw [← e]; exact hl
    · exact hu)
theorem HD.setV (t : Nat) {v v' : Value} (hl : look σ t = some v) (e : v = v') (h : HD P N ops p ((t, v') :: σ) B H F K) : HD P N ops p σ B H F K := fun w hw => RunD.setV t hl e (h w hw)
theorem HD.setB (t : Nat) {b : Bool} (c : Bool) (hl : look σ t = some (.bool b)) (e : b = c) (h : HD P N ops p ((t, .bool c) :: σ) B H F K) : HD P N ops p σ B H F K := HD.setV t hl (by rw [e]) h
theorem HD.split (t : Nat) {b : Bool} (hl : look σ t = some (.bool b)) (h1 : b = true → HD P N ops p ((t, .bool true) :: σ) B H F K) (h2 : b = false → HD P N ops p ((t, .bool false) :: σ) B H F K) : HD P N ops p σ B H F K := by
  cases hb : b with
  | true => exact HD.setB t true hl hb (h1 hb)
  | false => exact HD.setB t false hl hb (h2 hb)
theorem HD.know {Q : Prop} (hq : ∀ w, Sat B H w → Q) (h : Q → HD P N ops p σ B H F K) : HD P N ops p σ B H F K := fun w hw => h (hq w hw) w hw
theorem RunQ.setV (t : Nat) {v v' : Value} (hl : look σ t = some v) (e : v = v') (h : RunQ P N C ops l ((t, v') :: σ) KQ) : RunQ P N C ops l σ KQ := by
  intro a ha
  exact h a (ha.weaken fun t' u hu => by
    rw [look_cons] at hu
    split at hu
    · rename_i e'; subst e'; cases hu; rw [← e]; exact hl
    · exact hu)
theorem RunQ.setB (t : Nat) {b : Bool} (c : Bool) (hl : look σ t = some (.bool b)) (e : b = c) (h : RunQ P N C ops l ((t, .bool c) :: σ) KQ) : RunQ P N C ops l σ KQ := RunQ.setV t hl (by rw [e]) h
theorem HL.split (t : Nat) {b : Bool} (hl : look σ t = some (.bool b)) (h1 : b = true → HL P N ops l ((t, .bool true) :: σ) B H K) (h2 : b = false → HL P N ops l ((t, .bool false) :: σ) B H K) : HL P N ops l σ B H K := by
  cases hb : b with
  | true => exact HL.setB t true hl hb (h1 hb)
  | false => exact HL.setB t false hl hb (h2 hb)
theorem RunQ.split (t : Nat) {b : Bool} (hl : look σ t = some (.bool b)) (h1 : b = true → RunQ P N C ops l ((t, .bool true) :: σ) KQ) (h2 : b = false → RunQ P N C ops l ((t, .bool false) :: σ) KQ) : RunQ P N C ops l σ KQ := by
  cases hb : b with
  | true => exact RunQ.setB t true hl hb (h1 hb)
  | false => exact RunQ.setB t false hl hb (h2 hb)
/-- A call that comes up alone. -/
theorem HD.callB {r : Value} {g : FuncId} {args : List Operand} {a1 : List Value} {tys : Array TypeId} (is : List Nat) (hF : pickC H is = some F) (hd : distinctN is = true) (hg : IsFn P g) (ho : ops[i]? = some ⟨some d, .call ⟨.value (.func g), args.toArray, tys⟩, ty, pos, af, gd⟩)
    (hs : stat N ops ⟨some d, .call ⟨.value (.func g), args.toArray, tys⟩, ty, pos, af, gd⟩ σ = true) (ha : vals σ args = some a1)
    (hc : ∀ w, Sat B H w → Calls P g a1.toArray w fun e w' => e = .returned r ∧ Below w.heap.size w w')
    (h : HD P N ops p ((d, r) :: σ) B H F K) : HD P N ops ((i, false) :: p) σ B H F K := HD.one ho (HL.callB hg hs ha hc (HL.back is hF hd h))
end
/-! ### Own slices out of the library's contracts -/
theorem Sat.ofOwn {w w' : World} {v : Value} {e sz n : Nat} {xs : List Value} (hb : Below w.heap.size w w') (ho : w'.ownsRow w.heap.size e sz v n xs) : Sat (base w) [ownC v e sz n xs] w' :=
  (Sat.start w).push hb (Vw.of_own ho) (ownsRow_ge ho)
theorem Sat.vw {B : Base} {H : List Chunk} {w : World} {v : Value} {e sz n i : Nat} {xs : List Value} (hw : Sat B H w) (hi : nthC H i = some (ownC v e sz n xs)) : Vw w v e sz n xs := hw.nth hi
theorem Sat.putOwn0 {α : Type} [Inhabited α] {enc : α → Value} {w : World} {e n g off cap q : Nat} {zs ys : List α} (h : Vw w (.slice (some ⟨g, off, none⟩) n cap) e 1 n (cellsOf (fun x => [enc x]) zs)) (hy : ys.length = n) :
    Sat ⟨w, feet [ownC (.slice (some ⟨g, off, none⟩) n cap) e 1 n (cellsOf (fun x => [enc x]) zs)]⟩ [ownC (.slice (some ⟨g, off, none⟩) n cap) e 1 n (cellsOf (fun x => [enc x]) ys)] (Sort.putRow enc (Sort.ahead w q) g off ys.toArray) := by
  have h1 := Sat.putOwn (q := q) (os := #[]) (enc := enc) (zs := zs) (ys := ys) h hy
  have e1 : Sort.grow (Sort.putRow enc (Sort.ahead w q) g off ys.toArray) #[] = Sort.putRow enc (Sort.ahead w q) g off ys.toArray := by
    unfold Sort.grow; rw [Array.append_empty]
  rw [e1] at h1
  exact h1
/-- The first elements of an own slice. -/
theorem Sat.cutOwn {B : Base} {w : World} {g off cap e n h : Nat} {α : Type} {f : α → Value} {ys zs : List α} (hw : Sat B [ownC (.slice (some ⟨g, off, none⟩) n cap) e 1 n (cellsOf (fun x => [f x]) ys)] w) (hh : h ≤ n) (hz : ys.take h = zs) :
    Sat B [ownC (.slice (some ⟨g, off, none⟩) h cap) e 1 h (cellsOf (fun x => [f x]) zs)] w := by
  refine hw.as 0 rfl (fun hv => ?_) (fun k hk => hk)
  have hv := Vw.sub (sz := 1) (h := h) (l := 0) (show Vw _ _ _ _ _ _ from hv) (Nat.zero_le _) hh
  have e1 : subV 1 (.slice (some ⟨g, off, none⟩) n cap) 0 h = .slice (some ⟨g, off, none⟩) h cap := by
    unfold subV; simp [Addr.add]
  rw [e1] at hv
  have e2 : ((cellsOf (fun x => [f x]) ys).drop (0 * 1)).take ((h - 0) * 1) = cellsOf (fun x => [f x]) zs := by
    rw [cellsOf_one1, cellsOf_one1, ← hz]; simp
  rw [e2] at hv
  exact hv
/-- An own slice's value is a slice. -/
theorem Vw.shape {w : World} {v : Value} {e sz n : Nat} {xs : List Value} (h : Vw w v e sz n xs) : ∃ a c, v = .slice a n c := by
  rcases h.2 with ⟨rfl, rfl⟩ | ⟨g, off, cap, cur, rfl, _⟩
  · exact ⟨_, _, rfl⟩
  · exact ⟨_, _, rfl⟩
theorem HL.shape {P : Program} {N : Nat} {σ : Store} {B : Base} {H : List Chunk} {ops l : List Oper} {K : Act → World → Prop} {v : Value} {e sz n : Nat} {xs : List Value} (i : Nat) (hi : nthC H i = some (ownC v e sz n xs)) (h : ∀ a c, v = .slice a n c → HL P N ops l σ B H K) : HL P N ops l σ B H K :=
  HL.know (fun w hw => (Sat.vw hw hi).shape) fun ⟨a, c, e⟩ => h a c e
end Go.GX
