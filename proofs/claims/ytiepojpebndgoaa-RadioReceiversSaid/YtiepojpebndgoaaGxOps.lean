/- What single operations yield: integers, strings, slices, memory. Conditions: as each lemma says. -/
import Derived.Test.YtiepojpebndgoaaGxRegion
namespace Go.GX
open Go.RowKit
set_option linter.unusedVariables false
set_option linter.unusedSectionVars false
set_option linter.unusedSimpArgs false

abbrev str (l : List UInt8) : Value := .string ⟨l.toArray⟩

section
variable {P : Program} {σ : Store} {w : World} {d : Option Tmp} {x y i : Operand} {t t' ty : TypeId} {pos : String} {af : Array Edge} {gd : Option (Nat × Bool)}

theorem wrap_i64 {n : Int} (h : -9223372036854775808 ≤ n ∧ n ≤ 9223372036854775807) : IntKind.i64.wrap n = n := by
  simp only [IntKind.wrap, IntKind.bits, IntKind.signed]
  simp
  omega

theorem wrap_u8 {n : Int} (h : 0 ≤ n ∧ n ≤ 255) : IntKind.u8.wrap n = n := by
  simp only [IntKind.wrap, IntKind.bits, IntKind.signed]
  simp
  omega

theorem ex_add {a b : Int} (hx : evO σ x = .int .i64 a) (hy : evO σ y = .int .i64 b) (h : -9223372036854775808 ≤ a + b ∧ a + b ≤ 9223372036854775807) :
    (execOp (evO σ) ⟨d, .binOp .add t x y t', ty, pos, af, gd⟩).run P w = .ok (.value (.int .i64 (a + b))) w := by
  have := wrap_i64 h
  simp [execOp, hx, hy, eqGuard, binOp, Op.intArith, this]

/-- A counter's step: the sum as a natural number. -/
theorem ex_inc {k : Nat} (hx : evO σ x = .int .i64 (k : Int)) (h : (k : Int) + 1 ≤ 9223372036854775807) :
    (execOp (evO σ) ⟨d, .binOp .add t x (.const (.int .i64 1)) t', ty, pos, af, gd⟩).run P w = .ok (.value (.int .i64 ((k + 1 : Nat) : Int))) w := by
  have := ex_add (P := P) (w := w) (d := d) (t := t) (t' := t') (ty := ty) (pos := pos) (af := af) (gd := gd) (y := .const (.int .i64 1)) hx rfl (by omega)
  rw [this]; simp

theorem ex_sub {a b : Int} (hx : evO σ x = .int .i64 a) (hy : evO σ y = .int .i64 b) (h : -9223372036854775808 ≤ a - b ∧ a - b ≤ 9223372036854775807) :
    (execOp (evO σ) ⟨d, .binOp .sub t x y t', ty, pos, af, gd⟩).run P w = .ok (.value (.int .i64 (a - b))) w := by
  have := wrap_i64 h
  simp [execOp, hx, hy, eqGuard, binOp, Op.intArith, this]

theorem ex_mul {a b : Int} (hx : evO σ x = .int .i64 a) (hy : evO σ y = .int .i64 b) (h : -9223372036854775808 ≤ a * b ∧ a * b ≤ 9223372036854775807) :
    (execOp (evO σ) ⟨d, .binOp .mul t x y t', ty, pos, af, gd⟩).run P w = .ok (.value (.int .i64 (a * b))) w := by
  have := wrap_i64 h
  simp [execOp, hx, hy, eqGuard, binOp, Op.intArith, this]

/-- An integer made another kind's, which holds it. -/
theorem ex_conv {k k' : IntKind} {n : Int} {ds : TypeDesc} (hS : P.underlying t = some ds) (hD : P.underlying t' = some (.int k)) (hx : evO σ x = .int k' n) (hw : k.wrap n = n) :
    (execOp (evO σ) ⟨d, .convert t t' x, ty, pos, af, gd⟩).run P w = .ok (.value (.int k n)) w := by
  simp [execOp, hx, convert, underlying, hS, hD, Conv.intToInt, hw]

theorem ex_idx {s : List UInt8} {k : IntKind} {n : Int} (hT : P.underlying t = some .string) (hx : evO σ x = str s) (hi : evO σ i = .int k n) (j : Nat) (hj : n = (j : Int)) (hlt : j < s.length) :
    (execOp (evO σ) ⟨d, .index t x i, ty, pos, af, gd⟩).run P w = .ok (.value (.int .u8 ((s.getD j 0).toNat : Int))) w := by
  subst hj
  have h1 : (⟨s.toArray⟩ : ByteArray)[j]? = some (s.getD j 0) := by
    have : (⟨s.toArray⟩ : ByteArray)[j]? = s[j]? := by
      have hsz : (⟨s.toArray⟩ : ByteArray).size = s.length := by simp [ByteArray.size]
      rw [getElem?_def]
      split
      · rename_i h; rw [List.getElem?_eq_getElem (by omega)]; rfl
      · rename_i h; rw [List.getElem?_eq_none (by omega)]
    rw [this, List.getD_eq_getElem?_getD, List.getElem?_eq_getElem hlt]; rfl
  simp [execOp, hx, hi, Instr.index, asIntOf, underlying, hT, h1]

theorem ex_lenS {s : List UInt8} (hT : P.underlying t = some .string) (hx : evO σ x = str s) :
    (execOp (evO σ) ⟨d, .call ⟨.builtin .len, #[x], #[t]⟩, ty, pos, af, gd⟩).run P w = .ok (.value (.int .i64 (s.length : Int))) w := by
  have := run_len_string (P := P) (w := w) t ty ⟨s.toArray⟩ hT
  have hsz : (⟨s.toArray⟩ : ByteArray).size = s.length := by simp [ByteArray.size]
  simp [execOp, resolve, hx, invoke, builtin, this, hsz, goInt]

theorem ex_lenV {a : Option Addr} {n c : Nat} {e : TypeId} (hT : P.underlying t = some (.slice e)) (hx : evO σ x = .slice a n c) :
    (execOp (evO σ) ⟨d, .call ⟨.builtin .len, #[x], #[t]⟩, ty, pos, af, gd⟩).run P w = .ok (.value (.int .i64 (n : Int))) w := by
  simp [execOp, resolve, hx, invoke, builtin, Builtin.len_, underlying, hT, goInt]

theorem ex_seq {a b : List UInt8} (hx : evO σ x = str a) (hy : evO σ y = str b) :
    (execOp (evO σ) ⟨d, .binOp .eql t x y t', ty, pos, af, gd⟩).run P w = .ok (.value (.bool (a == b))) w := by
  simp [execOp, hx, hy, eqGuard, binOp, Op.stringOp]

theorem ex_sne {a b : List UInt8} (hx : evO σ x = str a) (hy : evO σ y = str b) :
    (execOp (evO σ) ⟨d, .binOp .neq t x y t', ty, pos, af, gd⟩).run P w = .ok (.value (.bool (!(a == b)))) w := by
  simp [execOp, hx, hy, eqGuard, binOp, Op.stringOp]

theorem ex_slt {a b : List UInt8} (hx : evO σ x = str a) (hy : evO σ y = str b) :
    (execOp (evO σ) ⟨d, .binOp .lss t x y t', ty, pos, af, gd⟩).run P w = .ok (.value (.bool (Op.bytesLess a b))) w := by
  simp [execOp, hx, hy, eqGuard, binOp, Op.stringOp]

theorem ex_sle {a b : List UInt8} (hx : evO σ x = str a) (hy : evO σ y = str b) :
    (execOp (evO σ) ⟨d, .binOp .leq t x y t', ty, pos, af, gd⟩).run P w = .ok (.value (.bool (Op.bytesLess a b || a == b))) w := by
  simp [execOp, hx, hy, eqGuard, binOp, Op.stringOp]

theorem ex_cat {a b : List UInt8} (hx : evO σ x = str a) (hy : evO σ y = str b) (h : a.length + b.length ≤ 9223372036854775807) :
    (execOp (evO σ) ⟨d, .binOp .add t x y t', ty, pos, af, gd⟩).run P w = .ok (.value (str (a ++ b))) w := by
  have := run_string_add_sum (P := P) (w := w) ⟨a.toArray⟩ ⟨b.toArray⟩ (by simpa [ByteArray.size] using h)
  rw [ByteArray.mk_append_mk] at this
  simp [execOp, hx, hy, eqGuard, binOp, this]

theorem ex_sub2 {s : List UInt8} {k k' : IntKind} {n m : Int} {lo hi : Operand} (hT : P.underlying t = some .string) (hx : evO σ x = str s) (hl : evO σ lo = .int k n) (hh : evO σ hi = .int k' m)
    (a b : Nat) (ha : n = (a : Int)) (hb : m = (b : Int)) (h1 : a ≤ b) (h2 : b ≤ s.length) :
    (execOp (evO σ) ⟨d, .slice t x (some lo) (some hi) none, ty, pos, af, gd⟩).run P w = .ok (.value (str ((s.drop a).take (b - a)))) w := by
  subst ha; subst hb
  have hsz : (⟨s.toArray⟩ : ByteArray).size = s.length := by simp [ByteArray.size]
  simp [execOp, hx, hl, hh, Instr.sliceAt, Instr.slice, Instr.sliceBounds, Instr.sliceBound, asIntOf, underlying, hT, hsz, h1, h2, ByteArray.extract_mk]

theorem ex_subFrom {s : List UInt8} {k : IntKind} {n : Int} {lo : Operand} (hT : P.underlying t = some .string) (hx : evO σ x = str s) (hl : evO σ lo = .int k n)
    (a : Nat) (ha : n = (a : Int)) (h1 : a ≤ s.length) :
    (execOp (evO σ) ⟨d, .slice t x (some lo) none none, ty, pos, af, gd⟩).run P w = .ok (.value (str (s.drop a))) w := by
  subst ha
  have hsz : (⟨s.toArray⟩ : ByteArray).size = s.length := by simp [ByteArray.size]
  have e : List.take (s.length - a) (List.drop a s) = List.drop a s := List.take_of_length_le (by simp)
  simp [execOp, hx, hl, Instr.sliceAt, Instr.slice, Instr.sliceBounds, Instr.sliceBound, asIntOf, underlying, hT, hsz, h1, ByteArray.extract_mk, e]

theorem ex_subTo {s : List UInt8} {k : IntKind} {m : Int} {hi : Operand} (hT : P.underlying t = some .string) (hx : evO σ x = str s) (hh : evO σ hi = .int k m)
    (b : Nat) (hb : m = (b : Int)) (h2 : b ≤ s.length) :
    (execOp (evO σ) ⟨d, .slice t x none (some hi) none, ty, pos, af, gd⟩).run P w = .ok (.value (str (s.take b))) w := by
  subst hb
  have hsz : (⟨s.toArray⟩ : ByteArray).size = s.length := by simp [ByteArray.size]
  simp [execOp, hx, hh, Instr.sliceAt, Instr.slice, Instr.sliceBounds, Instr.sliceBound, asIntOf, underlying, hT, hsz, h2, ByteArray.extract_mk]

theorem ex_min2 {k k' : IntKind} {a b : Int} {ts : Array TypeId} (hx : evO σ x = .int k a) (hy : evO σ y = .int k' b) :
    (execOp (evO σ) ⟨d, .call ⟨.builtin .min, #[x, y], ts⟩, ty, pos, af, gd⟩).run P w = .ok (.value (.int k (if b < a then b else a))) w := by
  simp [execOp, resolve, hx, hy, invoke, builtin, run_min_int2]

theorem ex_max2 {k k' : IntKind} {a b : Int} {ts : Array TypeId} (hx : evO σ x = .int k a) (hy : evO σ y = .int k' b) :
    (execOp (evO σ) ⟨d, .call ⟨.builtin .max, #[x, y], ts⟩, ty, pos, af, gd⟩).run P w = .ok (.value (.int k (if b > a then b else a))) w := by
  simp [execOp, resolve, hx, hy, invoke, builtin, run_max_int2]

/-! ### Memory -/
def plainT : TypeDesc → Bool
  | .struct _ | .array _ _ => false
  | _ => true

theorem run_loadVar1 {td : TypeDesc} {p : Addr} {v : Value} (hT : P.underlying t = some td) (hp : plainT td = true) (hc : w.cell? p = some v) : (loadVar t p).run P w = .ok v w := by
  have : (isAgg t).run P w = .ok false w := by
    simp [isAgg, underlying, hT]
    cases td <;> simp_all [plainT]
  simp [loadVar, this, load, Sem.run, hc]

theorem ex_load1 {td : TypeDesc} {p : Addr} {v : Value} (hT : P.underlying t = some td) (hp : plainT td = true) (hx : evO σ x = .pointer (some p)) (hc : w.cell? p = some v) :
    (execOp (evO σ) ⟨d, .load t x, ty, pos, af, gd⟩).run P w = .ok (.value v) w := by
  have := run_loadVar1 (t := t) hT hp hc
  simp [execOp, hx, Instr.loadAt, Instr.sureAddr, this]

/-- The place of element j of a slice. -/
theorem ex_idxAddr {b off n c : Nat} {e sz : Nat} {k : IntKind} {m : Int} (hT : P.underlying t = some (.slice e)) (hS : (P.info? e).map (·.size) = some sz) (hx : evO σ x = .slice (some ⟨b, off, none⟩) n c) (hi : evO σ i = .int k m)
    (j : Nat) (hj : m = (j : Int)) (hlt : j < n) :
    (execOp (evO σ) ⟨d, .indexAddr t x i, ty, pos, af, gd⟩).run P w = .ok (.value (.pointer (some ⟨b, off + j * sz, none⟩))) w := by
  subst hj
  obtain ⟨ti, h1, h2⟩ : ∃ ti, P.info? e = some ti ∧ ti.size = sz := by
    cases h : P.info? e with
    | none => rw [h] at hS; cases hS
    | some ti => rw [h] at hS; exact ⟨ti, rfl, by simpa using hS⟩
  have hadd : (⟨b, off, none⟩ : Addr).add (j * sz) = ⟨b, off + j * sz, none⟩ := by unfold Addr.add; split <;> simp_all
  simp [execOp, hx, hi, Instr.indexAt, asIntOf, underlying, hT, sizeOf, typeInfo, h1, h2, hlt, hadd]
end
end Go.GX
