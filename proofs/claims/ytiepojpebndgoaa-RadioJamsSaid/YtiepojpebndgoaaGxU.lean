/- Rules for integers that wrap: sums, products, shifts, conversions. Conditions: as each says. -/
import Derived.Test.YtiepojpebndgoaaGxD3
namespace Go.GX
open Go.RowKit
set_option linter.unusedVariables false
set_option linter.unusedSectionVars false
set_option linter.unusedSimpArgs false
section
variable {P : Program} {f : FuncId} {N : Nat} {k : List Item} {σ : Store} {B : Base} {H H' F : List Chunk} {R : Ending → World → Prop} {ops l : List Oper} {o : Oper} {K : Act → World → Prop} {KQ : Act → Prop} {C : World → Prop}
  {d : Nat} {op : Op} {ty : TypeId} {pos : String} {af : Array Edge} {gd : Option (Nat × Bool)} {v u : Value} {w : World} {d' : Option Tmp} {p : List (Nat × Bool)} {i : Nat} {S : World → Prop}

/-- Integer operations of every kind, in the kind's own arithmetic. -/
def wI (op : BinOp) (k : IntKind) (a b : Int) : Option Int :=
  match op with
  | .add => some (k.wrap (a + b))
  | .sub => some (k.wrap (a - b))
  | .mul => some (k.wrap (a * b))
  | .shl => some (k.wrap (a * 2 ^ (min b.toNat k.bits)))
  | .shr => some (a.fdiv (2 ^ (min b.toNat k.bits)))
  | .xor => some (k.wrap ((BitVec.ofInt k.bits a ^^^ BitVec.ofInt k.bits b).toNat))
  | .or => some (k.wrap ((BitVec.ofInt k.bits a ||| BitVec.ofInt k.bits b).toNat))
  | .and => some (k.wrap ((BitVec.ofInt k.bits a &&& BitVec.ofInt k.bits b).toNat))
  | _ => none
def isSh : BinOp → Bool
  | .shl => true
  | .shr => true
  | _ => false
theorem hx_wI {t t' : TypeId} {x y : Operand} {op : BinOp} {k k' : IntKind} {a b r c : Int} (hx : lookO σ x = some (.int k a)) (hy : lookO σ y = some (.int k' b)) (hk : k = k' ∨ isSh op = true) (hb : isSh op = true → 0 ≤ b) (hw : wI op k a b = some r) (hc : r = c) :
    ∀ w, (execOp (evO σ) ⟨d', .binOp op t x y t', ty, pos, af, gd⟩).run P w = .ok (.value (.int k c)) w := by
  intro w
  subst hc
  have hb' : isSh op = true → ¬ b < 0 := fun h => by have := hb h; omega
  unfold wI at hw
  split at hw <;> cases hw
  all_goals first
    | (have hb' := hb' rfl
       simp [execOp, evO_of_lookO hx, evO_of_lookO hy, eqGuard, binOp, Op.shift, hb']; done)
    | (have hk : k = k' := by rcases hk with h | h
                              · exact h
                              · cases h
       subst hk
       simp [execOp, evO_of_lookO hx, evO_of_lookO hy, eqGuard, binOp, Op.intArith, Op.intBits]; done)
theorem HL.wI {t t' : TypeId} {x y : Operand} {op : BinOp} {k k' : IntKind} {a b r : Int} (c : Int) (hs : stat N ops ⟨some d, .binOp op t x y t', ty, pos, af, gd⟩ σ = true) (hx : lookO σ x = some (.int k a)) (hy : lookO σ y = some (.int k' b)) (hw : GX.wI op k a b = some r) (hk : k = k' ∨ isSh op = true) (hb : isSh op = true → 0 ≤ b) (hc : r = c)
    (h : HL P N ops l ((d, .int k c) :: σ) B H K) : HL P N ops (⟨some d, .binOp op t x y t', ty, pos, af, gd⟩ :: l) σ B H K := HL.rd hs (fun w _ => hx_wI hx hy hk hb hw hc w) h
theorem HQ.wI {t t' : TypeId} {x y : Operand} {op : BinOp} {k k' : IntKind} {a b r : Int} (c : Int) (hs : stat N ops ⟨some d, .binOp op t x y t', ty, pos, af, gd⟩ σ = true) (hx : lookO σ x = some (.int k a)) (hy : lookO σ y = some (.int k' b)) (hw : GX.wI op k a b = some r) (hk : k = k' ∨ isSh op = true) (hb : isSh op = true → 0 ≤ b) (hc : r = c)
    (h : HQ P N ops l ((d, .int k c) :: σ) B H KQ) : HQ P N ops (⟨some d, .binOp op t x y t', ty, pos, af, gd⟩ :: l) σ B H KQ := RunQ.op hs (fun w _ => hx_wI hx hy hk hb hw hc w) h
theorem HD.wI {t t' : TypeId} {x y : Operand} {op : BinOp} {k k' : IntKind} {a b r : Int} (c : Int) (ho : ops[i]? = some ⟨some d, .binOp op t x y t', ty, pos, af, gd⟩) (hs : stat N ops ⟨some d, .binOp op t x y t', ty, pos, af, gd⟩ σ = true) (hx : lookO σ x = some (.int k a)) (hy : lookO σ y = some (.int k' b)) (hw : GX.wI op k a b = some r) (hk : k = k' ∨ isSh op = true) (hb : isSh op = true → 0 ≤ b) (hc : r = c)
    (h : HD P N ops p ((d, .int k c) :: σ) B H F K) : HD P N ops ((i, true) :: p) σ B H F K := HD.rd ho hs (fun w _ => hx_wI hx hy hk hb hw hc w) h
theorem hx_cv {s t : TypeId} {x : Operand} {ks k k' : IntKind} {a c : Int} (hx : lookO σ x = some (.int k a)) (hS : P.underlying s = some (.int ks)) (hT : P.underlying t = some (.int k')) (hc : k'.wrap a = c) :
    ∀ w, (execOp (evO σ) ⟨d', .convert s t x, ty, pos, af, gd⟩).run P w = .ok (.value (.int k' c)) w := by
  intro w
  subst hc
  simp [execOp, evO_of_lookO hx, convert, underlying, hS, hT, Conv.intToInt]
theorem HL.cv {s t : TypeId} {x : Operand} {ks k k' : IntKind} {a : Int} (c : Int) (hs : stat N ops ⟨some d, .convert s t x, ty, pos, af, gd⟩ σ = true) (hx : lookO σ x = some (.int k a)) (hS : P.underlying s = some (.int ks)) (hT : P.underlying t = some (.int k')) (hc : k'.wrap a = c)
    (h : HL P N ops l ((d, .int k' c) :: σ) B H K) : HL P N ops (⟨some d, .convert s t x, ty, pos, af, gd⟩ :: l) σ B H K := HL.rd hs (fun w _ => hx_cv hx hS hT hc w) h
theorem hx_compl {t : TypeId} {x : Operand} {k : IntKind} {a c : Int} (hx : lookO σ x = some (.int k a)) (hc : k.wrap ((BitVec.ofInt k.bits (if k.signed then -1 else k.max) ^^^ BitVec.ofInt k.bits a).toNat) = c) :
    ∀ w, (execOp (evO σ) ⟨d', .unOp .xor t x, ty, pos, af, gd⟩).run P w = .ok (.value (.int k c)) w := by
  intro w
  subst hc
  simp [execOp, evO_of_lookO hx, Op.unary, Op.intBits]
theorem HL.compl {t : TypeId} {x : Operand} {k : IntKind} {a : Int} (c : Int) (hs : stat N ops ⟨some d, .unOp .xor t x, ty, pos, af, gd⟩ σ = true) (hx : lookO σ x = some (.int k a)) (hc : k.wrap ((BitVec.ofInt k.bits (if k.signed then -1 else k.max) ^^^ BitVec.ofInt k.bits a).toNat) = c)
    (h : HL P N ops l ((d, .int k c) :: σ) B H K) : HL P N ops (⟨some d, .unOp .xor t x, ty, pos, af, gd⟩ :: l) σ B H K := HL.rd hs (fun w _ => hx_compl hx hc w) h
/-! ### Bytes and arrays -/
theorem hx_bstr {t t2 e : TypeId} {x : Operand} {l' : List UInt8} (hv : Rd B H v (bcells l') l'.length) (hE : P.underlying t = some (.slice e)) (he : P.underlying e = some (.int .u8)) (hd : P.underlying t2 = some .string) (hx : lookO σ x = some v) :
    ∀ w, Sat B H w → (execOp (evO σ) ⟨d', .convert t t2 x, ty, pos, af, gd⟩).run P w = .ok (.value (str l')) w := by
  intro w hw
  simp [execOp, evO_of_lookO hx, run_bytes_str hE he hd (hv.is hw)]
theorem HL.bstr {t t2 e : TypeId} {x : Operand} {l' : List UInt8} (hv : Rd B H v (bcells l') l'.length) (hs : stat N ops ⟨some d, .convert t t2 x, ty, pos, af, gd⟩ σ = true) (hx : lookO σ x = some v) (hE : P.underlying t = some (.slice e)) (he : P.underlying e = some (.int .u8)) (hd : P.underlying t2 = some .string)
    (h : HL P N ops l ((d, str l') :: σ) B H K) : HL P N ops (⟨some d, .convert t t2 x, ty, pos, af, gd⟩ :: l) σ B H K := HL.rd hs (hx_bstr hv hE he hd hx) h
theorem HD.bstr {t t2 e : TypeId} {x : Operand} {l' : List UInt8} (hv : Rd B F v (bcells l') l'.length) (ho : ops[i]? = some ⟨some d, .convert t t2 x, ty, pos, af, gd⟩) (hs : stat N ops ⟨some d, .convert t t2 x, ty, pos, af, gd⟩ σ = true) (hx : lookO σ x = some v) (hE : P.underlying t = some (.slice e)) (he : P.underlying e = some (.int .u8)) (hd : P.underlying t2 = some .string)
    (h : HD P N ops p ((d, str l') :: σ) B H F K) : HD P N ops ((i, true) :: p) σ B H F K := HD.rd ho hs (hx_bstr hv hE he hd hx) h
/-- The whole of an array, as a slice. -/
theorem hx_arrSl {t e n : TypeId} {x : Operand} {b : Nat} (hT : P.underlying t = some (.array n e)) (hS : ((P.info? e).map (·.size)).isSome = true) (hx : lookO σ x = some (.pointer (some ⟨b, 0, none⟩))) :
    ∀ w, (execOp (evO σ) ⟨d', .slice t x none none none, ty, pos, af, gd⟩).run P w = .ok (.value (.slice (some ⟨b, 0, none⟩) n n)) w := by
  intro w
  obtain ⟨ti, h1⟩ : ∃ ti, P.info? e = some ti := by
    cases h : P.info? e with
    | none => rw [h] at hS; cases hS
    | some ti => exact ⟨ti, rfl⟩
  have hadd : ∀ m, (⟨b, 0, none⟩ : Addr).add (0 * m) = ⟨b, 0, none⟩ := fun m => by unfold Addr.add; split <;> simp_all
  simp [execOp, evO_of_lookO hx, Instr.sliceAt, Instr.sureAddr, Instr.sliceBounds, underlying, hT, sizeOf, typeInfo, h1]
  intro _
  unfold Addr.add; split <;> simp_all
theorem HL.arrSl {t e n : TypeId} {x : Operand} {b : Nat} (hs : stat N ops ⟨some d, .slice t x none none none, ty, pos, af, gd⟩ σ = true) (hx : lookO σ x = some (.pointer (some ⟨b, 0, none⟩))) (hT : P.underlying t = some (.array n e)) (hS : ((P.info? e).map (·.size)).isSome = true)
    (h : HL P N ops l ((d, .slice (some ⟨b, 0, none⟩) n n) :: σ) B H K) : HL P N ops (⟨some d, .slice t x none none none, ty, pos, af, gd⟩ :: l) σ B H K := HL.rd hs (fun w _ => hx_arrSl hT hS hx w) h
theorem HD.arrSl {t e n : TypeId} {x : Operand} {b : Nat} (ho : ops[i]? = some ⟨some d, .slice t x none none none, ty, pos, af, gd⟩) (hs : stat N ops ⟨some d, .slice t x none none none, ty, pos, af, gd⟩ σ = true) (hx : lookO σ x = some (.pointer (some ⟨b, 0, none⟩))) (hT : P.underlying t = some (.array n e)) (hS : ((P.info? e).map (·.size)).isSome = true)
    (h : HD P N ops p ((d, .slice (some ⟨b, 0, none⟩) n n) :: σ) B H F K) : HD P N ops ((i, true) :: p) σ B H F K := HD.rd ho hs (fun w _ => hx_arrSl hT hS hx w) h
theorem Rd.blk {b n : Nat} {T : TypeId} {cs : List Value} (i : Nat) (hi : nthC H i = some (blkC b cs T)) : Rd B H (.slice (some ⟨b, 0, none⟩) n n) cs n := by
  intro w hw
  have hb : Blk w b cs T := hw.nth hi
  refine ⟨.inr ⟨b, 0, n, rfl, fun j u hu => ?_⟩, _, _, rfl, Nat.le_refl _⟩
  rw [Nat.zero_add, hb.cell]; exact hu
/-- An array's element, of an array that is a value. -/
theorem hx_idxV {t e n : TypeId} {td : TypeDesc} {x y : Operand} {cs : List Value} {kk : IntKind} {m : Int} (j : Nat) (hT : P.underlying t = some (.array n e)) (hE : P.underlying e = some td) (hp : plainT td = true) (hS : (P.info? e).map (·.size) = some 1) (hx : lookO σ x = some (.agg ⟨cs⟩)) (hy : lookO σ y = some (.int kk m)) (hj : m = (j : Int)) (hlt : j < n) (hu : cs[j]? = some u) :
    ∀ w, (execOp (evO σ) ⟨d', .index t x y, ty, pos, af, gd⟩).run P w = .ok (.value u) w := by
  intro w
  subst hj
  obtain ⟨ti, h1, h2⟩ : ∃ ti, P.info? e = some ti ∧ ti.size = 1 := by
    cases h : P.info? e with
    | none => rw [h] at hS; cases hS
    | some ti => rw [h] at hS; exact ⟨ti, rfl, by simpa using hS⟩
  have ha : (isAgg e).run P w = .ok false w := by
    cases td <;> simp_all [isAgg, underlying, plainT]
  simp [execOp, evO_of_lookO hx, evO_of_lookO hy, Instr.index, asIntOf, underlying, hT, sizeOf, typeInfo, h1, h2, hlt, part, ha, hu]
theorem HL.idxV {t e n : TypeId} {td : TypeDesc} {x y : Operand} {cs : List Value} {kk : IntKind} {m : Int} (j : Nat) (hs : stat N ops ⟨some d, .index t x y, ty, pos, af, gd⟩ σ = true) (hx : lookO σ x = some (.agg ⟨cs⟩)) (hy : lookO σ y = some (.int kk m)) (hT : P.underlying t = some (.array n e)) (hE : P.underlying e = some td) (hp : plainT td = true) (hS : (P.info? e).map (·.size) = some 1) (hj : m = (j : Int)) (hlt : j < n) (hu : cs[j]? = some u)
    (h : HL P N ops l ((d, u) :: σ) B H K) : HL P N ops (⟨some d, .index t x y, ty, pos, af, gd⟩ :: l) σ B H K := HL.rd hs (fun w _ => hx_idxV j hT hE hp hS hx hy hj hlt hu w) h
theorem HR.exit {id : Nat} {k' : List Item} (he : exitTo id k = some k') (h : HR P f N k' σ B H R) : HR P f N (.code (.exit id) :: k) σ B H R := fun w hw => Run.exit he (h w hw)
theorem HR.inBlock {id : Nat} (h : HR P f N k σ B H R) : HR P f N (.inBlock id :: k) σ B H R := fun w hw => Run.inBlock (h w hw)
end
end Go.GX
