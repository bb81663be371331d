/- One evaluator for the operations that only compute, and one for the plain control; each is sound. Conditions: none. -/
import Derived.Test.YtmjhhmilgebbbaaGxOps
namespace Go.GX
open Go.RowKit
set_option linter.unusedVariables false

def sameK : IntKind → IntKind → Bool
  | .i8, .i8 | .i16, .i16 | .i32, .i32 | .i64, .i64 | .u8, .u8 | .u16, .u16 | .u32, .u32 | .u64, .u64 => true
  | _, _ => false

theorem sameK_eq {k k' : IntKind} (h : sameK k k' = true) : k = k' := by
  cases k <;> cases k' <;> first | rfl | cases h

/-- Comparisons and bit operations of integers; sums and products of every kind but int (of int: 'arithZ'). -/
def binI (op : BinOp) (k : IntKind) (a b : Int) : Option Value :=
  match op, k with
  | .eql, _ => some (.bool (a == b))
  | .neq, _ => some (.bool (a != b))
  | .lss, _ => some (.bool (decide (a < b)))
  | .leq, _ => some (.bool (decide (a ≤ b)))
  | .gtr, _ => some (.bool (decide (a > b)))
  | .geq, _ => some (.bool (decide (a ≥ b)))
  | _, _ => none

def binS (op : BinOp) (a b : List UInt8) : Option Value :=
  match op with
  | .eql => some (.bool (a == b))
  | .neq => some (.bool (!(a == b)))
  | .lss => some (.bool (Op.bytesLess a b))
  | .leq => some (.bool (Op.bytesLess a b || a == b))
  | .gtr => some (.bool (!(Op.bytesLess a b || a == b)))
  | .geq => some (.bool (!Op.bytesLess a b))
  | _ => none

def nthV : List Value → Nat → Option Value
  | [], _ => none
  | v :: _, 0 => some v
  | _ :: r, n + 1 => nthV r n

theorem nthV_eq (l : List Value) (n : Nat) : nthV l n = l[n]? := by
  induction l generalizing n with
  | nil => simp [nthV]
  | cons v l ih => cases n <;> simp [nthV, ih]

def evOp (P : Program) (σ : Store) : Op → Option Value
  | .move x => lookO σ x
  | .assign x => lookO σ x
  | .pick c x y => match lookO σ c with
    | some (.bool true) => lookO σ x
    | some (.bool false) => lookO σ y
    | _ => none
  | .binOp op t x y _ => match lookO σ x, lookO σ y with
    | some (.int k a), some (.int k' b) => match sameK k k' with
      | true => binI op k a b
      | false => none
    | some (.string ⟨⟨a⟩⟩), some (.string ⟨⟨b⟩⟩) => binS op a b
    | some (.bool a), some (.bool b) => match P.underlying t, op with
      | some .bool, .eql => some (.bool (a == b))
      | some .bool, .neq => some (.bool (a != b))
      | _, _ => none
    | _, _ => none
  | .unOp .not _ x => match lookO σ x with
    | some (.bool b) => some (.bool (!b))
    | _ => none
  | .nilCheck x => match lookO σ x with
    | some (.pointer (some p)) => some (.pointer (some p))
    | _ => none
  | .extract x i => match lookO σ x with
    | some (.tuple ⟨vs⟩) => nthV vs i
    | _ => none
  | .call ⟨.builtin .len, ⟨[x]⟩, ⟨[t]⟩⟩ => match P.underlying t, lookO σ x with
    | some .string, some (.string ⟨⟨a⟩⟩) => some (.int .i64 (a.length : Int))
    | some (.slice _), some (.slice _ n _) => some (.int .i64 (n : Int))
    | _, _ => none
  | .call ⟨.builtin .min, ⟨[x, y]⟩, _⟩ => match lookO σ x, lookO σ y with
    | some (.int k a), some (.int _ b) => some (.int k (if b < a then b else a))
    | _, _ => none
  | .call ⟨.builtin .max, ⟨[x, y]⟩, _⟩ => match lookO σ x, lookO σ y with
    | some (.int k a), some (.int _ b) => some (.int k (if b > a then b else a))
    | _, _ => none
  | _ => none

section
variable {P : Program} {f : FuncId} {N : Nat} {k : List Item} {σ : Store} {w w' : World} {R : Ending → World → Prop} {ops l : List Oper} {K : Act → World → Prop} {d : Nat} {op : Op} {ty : TypeId} {pos : String} {af : Array Edge} {gd : Option (Nat × Bool)} {v : Value}

theorem evOp_run {d : Option Tmp} (h : evOp P σ op = some v) : (execOp (evO σ) ⟨d, op, ty, pos, af, gd⟩).run P w = .ok (.value v) w := by
  unfold evOp at h
  split at h
  · simp [execOp, evO_of_lookO h]
  · simp [execOp, evO_of_lookO h]
  · split at h
    · rename_i hc; simp [execOp, evO_of_lookO h, evO_of_lookO hc, asBool]
    · rename_i hc; simp [execOp, evO_of_lookO h, evO_of_lookO hc, asBool]
    · cases h
  · split at h
    · rename_i op _ x y _ k a k' b hx hy
      split at h
      · rename_i hk
        have e := sameK_eq hk
        subst e
        unfold binI at h
        split at h <;> cases h <;> simp [execOp, evO_of_lookO hx, evO_of_lookO hy, eqGuard, binOp, Op.intCmp]
      · cases h
    · rename_i op _ x y _ a b hx hy
      unfold binS at h
      split at h <;> cases h <;> simp [execOp, evO_of_lookO hx, evO_of_lookO hy, eqGuard, binOp, Op.stringOp]
    · rename_i op _ x y _ a b hx hy
      split at h
      · rename_i ht; cases h; simp [execOp, evO_of_lookO hx, evO_of_lookO hy, eqGuard, binOp, run_equal_bool _ _ _ _ ht]
      · rename_i ht; cases h; simp [execOp, evO_of_lookO hx, evO_of_lookO hy, eqGuard, binOp, run_equal_bool _ _ _ _ ht]; cases a <;> cases b <;> rfl
      · cases h
    · cases h
  · split at h
    · rename_i hx; cases h; simp [execOp, evO_of_lookO hx, Op.unary]
    · cases h
  · split at h
    · rename_i hx; cases h; simp [execOp, evO_of_lookO hx]
    · cases h
  · split at h
    · rename_i hx; rw [nthV_eq] at h; simp [execOp, evO_of_lookO hx, Instr.extract, h]
    · cases h
  · split at h
    · rename_i hT hx; cases h
      exact ex_lenS hT (evO_of_lookO hx)
    · rename_i hT hx; cases h
      exact ex_lenV hT (evO_of_lookO hx)
    · cases h
  · split at h
    · rename_i hx hy; cases h
      exact ex_min2 (evO_of_lookO hx) (evO_of_lookO hy)
    · cases h
  · split at h
    · rename_i hx hy; cases h
      exact ex_max2 (evO_of_lookO hx) (evO_of_lookO hy)
    · cases h
  · cases h

theorem RunL.ev (hs : stat N ops ⟨some d, op, ty, pos, af, gd⟩ σ = true) (he : evOp P σ op = some v) (h : RunL P N ops l ((d, v) :: σ) w K) : RunL P N ops (⟨some d, op, ty, pos, af, gd⟩ :: l) σ w K :=
  RunL.op hs (evOp_run he) h

theorem RunL.ev0 (hs : stat N ops ⟨none, op, ty, pos, af, gd⟩ σ = true) (he : evOp P σ op = some v) (h : RunL P N ops l σ w K) : RunL P N ops (⟨none, op, ty, pos, af, gd⟩ :: l) σ w K :=
  RunL.op0 hs (evOp_run he) h

/-- What fits an integer kind. -/
def fits (k : IntKind) (n : Int) : Prop :=
  match k with
  | .i64 => -9223372036854775808 ≤ n ∧ n ≤ 9223372036854775807
  | .i32 => -2147483648 ≤ n ∧ n ≤ 2147483647
  | .i16 => -32768 ≤ n ∧ n ≤ 32767
  | .i8 => -128 ≤ n ∧ n ≤ 127
  | .u64 => 0 ≤ n ∧ n ≤ 18446744073709551615
  | .u32 => 0 ≤ n ∧ n ≤ 4294967295
  | .u16 => 0 ≤ n ∧ n ≤ 65535
  | .u8 => 0 ≤ n ∧ n ≤ 255

theorem wrap_fits {k : IntKind} {n : Int} (h : fits k n) : k.wrap n = n := by
  cases k <;> simp only [fits] at h <;> simp only [IntKind.wrap, IntKind.bits, IntKind.signed] <;> simp <;> omega

/-- The same, as a proposition that reduces to the bounds. -/
def fitsP (k : IntKind) (n : Int) (f : Prop → Option (Value × Prop)) : Option (Value × Prop) :=
  match k with
  | .i64 => f (-9223372036854775808 ≤ n ∧ n ≤ 9223372036854775807)
  | .i32 => f (-2147483648 ≤ n ∧ n ≤ 2147483647)
  | .i16 => f (-32768 ≤ n ∧ n ≤ 32767)
  | .i8 => f (-128 ≤ n ∧ n ≤ 127)
  | .u64 => f (0 ≤ n ∧ n ≤ 18446744073709551615)
  | .u32 => f (0 ≤ n ∧ n ≤ 4294967295)
  | .u16 => f (0 ≤ n ∧ n ≤ 65535)
  | .u8 => f (0 ≤ n ∧ n ≤ 255)

theorem fitsP_eq (k : IntKind) (n : Int) (f : Prop → Option (Value × Prop)) : fitsP k n f = f (fits k n) := by cases k <;> rfl

/-- An element's place. -/
def placeAt (off j : Nat) (sz : Nat) : Nat :=
  match sz with
  | 1 => off + j
  | sz => off + j * sz

theorem placeAt_eq (off j sz : Nat) : placeAt off j sz = off + j * sz := by
  unfold placeAt; split <;> simp

def shOk (k : IntKind) (b : Nat) : Bool :=
  match k with
  | .i64 | .u64 => Nat.ble b 64
  | .i32 | .u32 => Nat.ble b 32
  | .i16 | .u16 => Nat.ble b 16
  | .i8 | .u8 => Nat.ble b 8

theorem shOk_le {k : IntKind} {b : Nat} (h : shOk k b = true) : b ≤ k.bits := by cases k <;> exact Nat.le_of_ble_eq_true h

/-- A power of two, as a numeral. -/
def pwK (b : Nat) (f : Int → Option (Value × Prop)) : Option (Value × Prop) :=
  match b with
  | 0 => f 1
  | 1 => f 2
  | 2 => f 4
  | 3 => f 8
  | 4 => f 16
  | 5 => f 32
  | 6 => f 64
  | 7 => f 128
  | 8 => f 256
  | 9 => f 512
  | 10 => f 1024
  | 11 => f 2048
  | 12 => f 4096
  | 13 => f 8192
  | 14 => f 16384
  | 15 => f 32768
  | 16 => f 65536
  | 20 => f 1048576
  | 24 => f 16777216
  | 28 => f 268435456
  | 31 => f 2147483648
  | 32 => f 4294967296
  | 40 => f 1099511627776
  | 48 => f 281474976710656
  | 56 => f 72057594037927936
  | b => f (2 ^ b)

theorem pwK_eq (b : Nat) (f : Int → Option (Value × Prop)) : pwK b f = f (2 ^ b) := by
  unfold pwK
  split <;> rfl

theorem bits_nat (k : IntKind) (a : Nat) (h : fits k (a : Int)) : (BitVec.ofInt k.bits (a : Int)).toNat = a := by
  have : (BitVec.ofInt k.bits (a : Int)) = BitVec.ofNat k.bits a := by simp
  rw [this, BitVec.toNat_ofNat]
  apply Nat.mod_eq_of_lt
  cases k <;> simp only [fits] at h <;> simp only [IntKind.bits] <;> omega

def nthF : List Field → Nat → Option Field
  | [], _ => none
  | f :: _, 0 => some f
  | _ :: r, n + 1 => nthF r n
theorem nthF_eq (l : List Field) (n : Nat) : nthF l n = l[n]? := by
  induction l generalizing n with
  | nil => simp [nthF]
  | cons v l ih => cases n <;> simp [nthF, ih]

/-- An offset added, 0 left out. -/
def plusO (off o : Nat) : Nat :=
  match o with
  | 0 => off
  | o => match off with
    | 0 => o
    | off => off + o
theorem plusO_eq (off o : Nat) : plusO off o = off + o := by unfold plusO; split <;> (try split) <;> simp

/-- A small number, as a numeral. -/
def natK (b : Nat) (f : Nat → Option (Value × Prop)) : Option (Value × Prop) :=
  match b with
  | 0 => f 0
  | 1 => f 1
  | 2 => f 2
  | 3 => f 3
  | 4 => f 4
  | 5 => f 5
  | 6 => f 6
  | 7 => f 7
  | 8 => f 8
  | 9 => f 9
  | 10 => f 10
  | 11 => f 11
  | 12 => f 12
  | 13 => f 13
  | 14 => f 14
  | 15 => f 15
  | 16 => f 16
  | 17 => f 17
  | 18 => f 18
  | 19 => f 19
  | 20 => f 20
  | 21 => f 21
  | 22 => f 22
  | 23 => f 23
  | 24 => f 24
  | 25 => f 25
  | 26 => f 26
  | 27 => f 27
  | 28 => f 28
  | 29 => f 29
  | 30 => f 30
  | 31 => f 31
  | 32 => f 32
  | b => f b
theorem natK_eq (b : Nat) (f : Nat → Option (Value × Prop)) : natK b f = f b := by
  unfold natK
  split <;> rfl

/-- An operand that is a natural number. -/
def natO (σ : Store) (x : Operand) (f : Nat → Option (Value × Prop)) : Option (Value × Prop) :=
  match x with
  | .const (.int _ (.ofNat j)) => natK j f
  | x => match lookO σ x with
    | some (.int _ (.ofNat j)) => f j
    | _ => none
theorem natO_spec {σ : Store} {x : Operand} {f : Nat → Option (Value × Prop)} {r : Value × Prop} (h : natO σ x f = some r) : ∃ k j, evO σ x = .int k (.ofNat j) ∧ f j = some r := by
  unfold natO at h
  split at h
  · rw [natK_eq] at h; exact ⟨_, _, rfl, h⟩
  · split at h
    · rename_i hl; exact ⟨_, _, evO_of_lookO hl, h⟩
    · cases h

def evC (P : Program) (σ : Store) : Op → Option (Value × Prop)
  | .binOp op _ x y _ => match op, lookO σ x, lookO σ y with
    | .add, some (.int k a), some (.int k' b) => match sameK k k' with
      | true => fitsP k (a + b) fun c => some (.int k (a + b), c)
      | false => none
    | .sub, some (.int k a), some (.int k' b) => match sameK k k' with
      | true => fitsP k (a - b) fun c => some (.int k (a - b), c)
      | false => none
    | .mul, some (.int k a), some (.int k' b) => match sameK k k' with
      | true => fitsP k (a * b) fun c => some (.int k (a * b), c)
      | false => none
    | .quo, some (.int k a), some (.int k' b) => match sameK k k' with
      | true => fitsP k a fun c => some (.int k (a / b), c ∧ 0 ≤ a ∧ 0 < b)
      | false => none
    | .rem, some (.int k a), some (.int k' b) => match sameK k k' with
      | true => some (.int k (a % b), 0 ≤ a ∧ 0 < b)
      | false => none
    | .shr, some (.int k a), some (.int _ (.ofNat b)) => match shOk k b with
      | true => pwK b fun m => some (.int k (a / m), 0 ≤ a)
      | false => none
    | .shl, some (.int k a), some (.int _ (.ofNat b)) => match shOk k b with
      | true => pwK b fun m => fitsP k (a * m) fun c1 => some (.int k (a * m), c1)
      | false => none
    | .and, some (.int k (.ofNat a)), some (.int k' (.ofNat b)) => match sameK k k' with
      | true => fitsP k (a : Int) fun c => fitsP k (b : Int) fun c' => some (.int k ((a &&& b : Nat) : Int), c ∧ c')
      | false => none
    | .or, some (.int k (.ofNat a)), some (.int k' (.ofNat b)) => match sameK k k' with
      | true => fitsP k (a : Int) fun c => fitsP k (b : Int) fun c' => some (.int k ((a ||| b : Nat) : Int), c ∧ c')
      | false => none
    | .xor, some (.int k (.ofNat a)), some (.int k' (.ofNat b)) => match sameK k k' with
      | true => fitsP k (a : Int) fun c => fitsP k (b : Int) fun c' => some (.int k ((a ^^^ b : Nat) : Int), c ∧ c')
      | false => none
    | .add, some (.string ⟨⟨a⟩⟩), some (.string ⟨⟨b⟩⟩) => some (.string ⟨⟨a ++ b⟩⟩, a.length + b.length ≤ 9223372036854775807)
    | _, _, _ => none
  | .unOp .neg _ x => match lookO σ x with
    | some (.int k a) => fitsP k (0 - a) fun c => some (.int k (-a), c)
    | _ => none
  | .convert s t x => match lookO σ x with
    | some (.int _ a) => match P.underlying s, P.underlying t with
      | some _, some (.int k) => fitsP k a fun c => some (.int k a, c)
      | _, _ => none
    | _ => none
  | .index t x i => match P.underlying t, lookO σ x with
    | some .string, some (.string ⟨⟨s⟩⟩) => natO σ i fun j => some (.int .u8 ((s.getD j 0).toNat : Int), j < s.length)
    | _, _ => none
  | .slice t x (some lo) (some hi) none => match P.underlying t, lookO σ x with
    | some .string, some (.string ⟨⟨s⟩⟩) => natO σ lo fun a => natO σ hi fun b => some (.string ⟨⟨(s.drop a).take (b - a)⟩⟩, a ≤ b ∧ b ≤ s.length)
    | _, _ => none
  | .slice t x (some lo) none none => match P.underlying t, lookO σ x with
    | some .string, some (.string ⟨⟨s⟩⟩) => natO σ lo fun a => some (.string ⟨⟨s.drop a⟩⟩, a ≤ s.length)
    | _, _ => none
  | .slice t x none (some hi) none => match P.underlying t, lookO σ x with
    | some .string, some (.string ⟨⟨s⟩⟩) => natO σ hi fun b => some (.string ⟨⟨s.take b⟩⟩, b ≤ s.length)
    | _, _ => none
  | .fieldAddr s x i => match P.underlying s, lookO σ x with
    | some (.struct ⟨fl⟩), some (.pointer (some ⟨b, off, none⟩)) => match nthF fl i with
      | some fd => match P.info? fd.type with
        | some ti => match ti.size with
          | 0 => none
          | _ + 1 => some (.pointer (some ⟨b, plusO off fd.offset, none⟩), 0 < 1)
        | none => none
      | none => none
    | _, _ => none
  | .indexAddr t x i => match P.underlying t, lookO σ x with
    | some (.slice e), some (.slice (some ⟨b, off, none⟩) n _) => match P.info? e with
      | some ti => natO σ i fun j => some (.pointer (some ⟨b, placeAt off j ti.size, none⟩), j < n)
      | none => none
    | _, _ => none
  | _ => none

theorem land_lt {n x y : Nat} (hx : x < 2 ^ n) (hy : y < 2 ^ n) : x &&& y < 2 ^ n := Nat.and_lt_two_pow x hy

theorem bits_and_run {k : IntKind} {a b : Nat} {t t' : TypeId} {x y : Operand} {d : Option Tmp} (hx : lookO σ x = some (.int k (.ofNat a))) (hy : lookO σ y = some (.int k (.ofNat b))) (h1 : fits k (a : Int)) (h2 : fits k (b : Int)) :
    (execOp (evO σ) ⟨d, .binOp .and t x y t', ty, pos, af, gd⟩).run P w = .ok (.value (.int k ((a &&& b : Nat) : Int))) w := by
  have e1 := bits_nat k a h1
  have e2 := bits_nat k b h2
  have g : (BitVec.ofInt k.bits (Int.ofNat a) &&& BitVec.ofInt k.bits (Int.ofNat b)).toNat = a &&& b := by
    rw [BitVec.toNat_and]
    show (BitVec.ofInt k.bits (a : Int)).toNat &&& (BitVec.ofInt k.bits (b : Int)).toNat = _
    rw [e1, e2]
  have hlt : ∀ {c : Nat}, c < 2 ^ k.bits → (c : Int) ≤ (2 ^ k.bits : Nat) - 1 := fun h => by omega
  have g2 : k.wrap ((a &&& b : Nat) : Int) = ((a &&& b : Nat) : Int) := by
    apply wrap_fits
    cases k <;> simp only [fits] at h1 h2 ⊢ <;> refine ⟨by omega, ?_⟩
    all_goals
      first
        | (have := land_lt (n := 63) (x := a) (y := b) (by omega) (by omega); omega)
        | (have := land_lt (n := 31) (x := a) (y := b) (by omega) (by omega); omega)
        | (have := land_lt (n := 15) (x := a) (y := b) (by omega) (by omega); omega)
        | (have := land_lt (n := 7) (x := a) (y := b) (by omega) (by omega); omega)
        | (have := land_lt (n := 64) (x := a) (y := b) (by omega) (by omega); omega)
        | (have := land_lt (n := 32) (x := a) (y := b) (by omega) (by omega); omega)
        | (have := land_lt (n := 16) (x := a) (y := b) (by omega) (by omega); omega)
        | (have := land_lt (n := 8) (x := a) (y := b) (by omega) (by omega); omega)
  have e3 : evO σ x = .int k (.ofNat a) := evO_of_lookO hx
  have e4 : evO σ y = .int k (.ofNat b) := evO_of_lookO hy
  simp only [execOp, e3, e4, eqGuard, binOp, Op.intBits, g, g2]
  simp

theorem bits_or_run {k : IntKind} {a b : Nat} {t t' : TypeId} {x y : Operand} {d : Option Tmp} (hx : lookO σ x = some (.int k (.ofNat a))) (hy : lookO σ y = some (.int k (.ofNat b))) (h1 : fits k (a : Int)) (h2 : fits k (b : Int)) :
    (execOp (evO σ) ⟨d, .binOp .or t x y t', ty, pos, af, gd⟩).run P w = .ok (.value (.int k ((a ||| b : Nat) : Int))) w := by
  have e1 := bits_nat k a h1
  have e2 := bits_nat k b h2
  have g : (BitVec.ofInt k.bits (Int.ofNat a) ||| BitVec.ofInt k.bits (Int.ofNat b)).toNat = a ||| b := by
    rw [BitVec.toNat_or]
    show (BitVec.ofInt k.bits (a : Int)).toNat ||| (BitVec.ofInt k.bits (b : Int)).toNat = _
    rw [e1, e2]
  have hlt : ∀ {c : Nat}, c < 2 ^ k.bits → (c : Int) ≤ (2 ^ k.bits : Nat) - 1 := fun h => by omega
  have g2 : k.wrap ((a ||| b : Nat) : Int) = ((a ||| b : Nat) : Int) := by
    apply wrap_fits
    cases k <;> simp only [fits] at h1 h2 ⊢ <;> refine ⟨by omega, ?_⟩
    all_goals
      first
        | (have := Nat.or_lt_two_pow (n := 63) (x := a) (y := b) (by omega) (by omega); omega)
        | (have := Nat.or_lt_two_pow (n := 31) (x := a) (y := b) (by omega) (by omega); omega)
        | (have := Nat.or_lt_two_pow (n := 15) (x := a) (y := b) (by omega) (by omega); omega)
        | (have := Nat.or_lt_two_pow (n := 7) (x := a) (y := b) (by omega) (by omega); omega)
        | (have := Nat.or_lt_two_pow (n := 64) (x := a) (y := b) (by omega) (by omega); omega)
        | (have := Nat.or_lt_two_pow (n := 32) (x := a) (y := b) (by omega) (by omega); omega)
        | (have := Nat.or_lt_two_pow (n := 16) (x := a) (y := b) (by omega) (by omega); omega)
        | (have := Nat.or_lt_two_pow (n := 8) (x := a) (y := b) (by omega) (by omega); omega)
  have e3 : evO σ x = .int k (.ofNat a) := evO_of_lookO hx
  have e4 : evO σ y = .int k (.ofNat b) := evO_of_lookO hy
  simp only [execOp, e3, e4, eqGuard, binOp, Op.intBits, g, g2]
  simp

theorem bits_xor_run {k : IntKind} {a b : Nat} {t t' : TypeId} {x y : Operand} {d : Option Tmp} (hx : lookO σ x = some (.int k (.ofNat a))) (hy : lookO σ y = some (.int k (.ofNat b))) (h1 : fits k (a : Int)) (h2 : fits k (b : Int)) :
    (execOp (evO σ) ⟨d, .binOp .xor t x y t', ty, pos, af, gd⟩).run P w = .ok (.value (.int k ((a ^^^ b : Nat) : Int))) w := by
  have e1 := bits_nat k a h1
  have e2 := bits_nat k b h2
  have g : (BitVec.ofInt k.bits (Int.ofNat a) ^^^ BitVec.ofInt k.bits (Int.ofNat b)).toNat = a ^^^ b := by
    rw [BitVec.toNat_xor]
    show (BitVec.ofInt k.bits (a : Int)).toNat ^^^ (BitVec.ofInt k.bits (b : Int)).toNat = _
    rw [e1, e2]
  have hlt : ∀ {c : Nat}, c < 2 ^ k.bits → (c : Int) ≤ (2 ^ k.bits : Nat) - 1 := fun h => by omega
  have g2 : k.wrap ((a ^^^ b : Nat) : Int) = ((a ^^^ b : Nat) : Int) := by
    apply wrap_fits
    cases k <;> simp only [fits] at h1 h2 ⊢ <;> refine ⟨by omega, ?_⟩
    all_goals
      first
        | (have := Nat.xor_lt_two_pow (n := 63) (x := a) (y := b) (by omega) (by omega); omega)
        | (have := Nat.xor_lt_two_pow (n := 31) (x := a) (y := b) (by omega) (by omega); omega)
        | (have := Nat.xor_lt_two_pow (n := 15) (x := a) (y := b) (by omega) (by omega); omega)
        | (have := Nat.xor_lt_two_pow (n := 7) (x := a) (y := b) (by omega) (by omega); omega)
        | (have := Nat.xor_lt_two_pow (n := 64) (x := a) (y := b) (by omega) (by omega); omega)
        | (have := Nat.xor_lt_two_pow (n := 32) (x := a) (y := b) (by omega) (by omega); omega)
        | (have := Nat.xor_lt_two_pow (n := 16) (x := a) (y := b) (by omega) (by omega); omega)
        | (have := Nat.xor_lt_two_pow (n := 8) (x := a) (y := b) (by omega) (by omega); omega)
  have e3 : evO σ x = .int k (.ofNat a) := evO_of_lookO hx
  have e4 : evO σ y = .int k (.ofNat b) := evO_of_lookO hy
  simp only [execOp, e3, e4, eqGuard, binOp, Op.intBits, g, g2]
  simp

theorem fieldAddr_run {s : TypeId} {x : Operand} {fl : List Field} {i : Nat} {fd : Field} {ti : TypeInfo} {b off : Nat} {d : Option Tmp} (hT : P.underlying s = some (.struct fl.toArray)) (hx : lookO σ x = some (.pointer (some ⟨b, off, none⟩))) (hf : fl[i]? = some fd) (hti : P.info? fd.type = some ti) (hz : 0 < ti.size) :
    (execOp (evO σ) ⟨d, .fieldAddr s x i, ty, pos, af, gd⟩).run P w = .ok (.value (.pointer (some ⟨b, off + fd.offset, none⟩))) w := by
  have hadd : (⟨b, off, none⟩ : Addr).add fd.offset = ⟨b, off + fd.offset, none⟩ := by unfold Addr.add; split <;> simp_all
  have hz' : ¬ ti.size = 0 := by omega
  simp [execOp, evO_of_lookO hx, Instr.fieldAt, underlying, hT, hf, Instr.sureAddr, fieldPlace, sizeOf, typeInfo, hti, hz', hadd]

theorem evC_run {c : Prop} {d : Option Tmp} (h : evC P σ op = some (v, c)) (hc : c) : (execOp (evO σ) ⟨d, op, ty, pos, af, gd⟩).run P w = .ok (.value v) w := by
  unfold evC at h
  split at h
  · split at h
    · rename_i hx hy
      split at h
      · rename_i hk; have e := sameK_eq hk; subst e
        rw [fitsP_eq] at h; cases h
        have := wrap_fits hc
        simp [execOp, evO_of_lookO hx, evO_of_lookO hy, eqGuard, binOp, Op.intArith, this]
      · cases h
    · rename_i hx hy
      split at h
      · rename_i hk; have e := sameK_eq hk; subst e
        rw [fitsP_eq] at h; cases h
        have := wrap_fits hc
        simp [execOp, evO_of_lookO hx, evO_of_lookO hy, eqGuard, binOp, Op.intArith, this]
      · cases h
    · rename_i hx hy
      split at h
      · rename_i hk; have e := sameK_eq hk; subst e
        rw [fitsP_eq] at h; cases h
        have := wrap_fits hc
        simp [execOp, evO_of_lookO hx, evO_of_lookO hy, eqGuard, binOp, Op.intArith, this]
      · cases h
    · rename_i k a _ b hx hy
      split at h
      · rename_i hk; have e := sameK_eq hk; subst e
        rw [fitsP_eq] at h; cases h
        obtain ⟨h1, h2, h3⟩ := hc
        have e1 : a.tdiv b = a / b := Int.tdiv_eq_ediv_of_nonneg h2
        have h4 : fits k (a / b) := by
          have g1 : 0 ≤ a / b := Int.ediv_nonneg h2 (by omega)
          have g2 : a / b ≤ a := Int.ediv_le_self _ h2
          cases k <;> simp only [fits] at h1 ⊢ <;> omega
        have := wrap_fits h4
        have h5 : ¬ b = 0 := by omega
        simp [execOp, evO_of_lookO hx, evO_of_lookO hy, eqGuard, binOp, Op.intDiv, e1, this, h5]
      · cases h
    · rename_i k a _ b hx hy
      split at h
      · rename_i hk; have e := sameK_eq hk; subst e
        cases h
        obtain ⟨h2, h3⟩ := hc
        have e1 : a.tmod b = a % b := Int.tmod_eq_emod_of_nonneg h2
        have h5 : ¬ b = 0 := by omega
        simp [execOp, evO_of_lookO hx, evO_of_lookO hy, eqGuard, binOp, Op.intDiv, e1, h5]
      · cases h
    · rename_i k a _ b hx hy
      split at h
      · rename_i hsh
        rw [pwK_eq] at h; cases h
        have h2 := shOk_le hsh
        have h4 : min (b : Int).toNat k.bits = b := by simp; omega
        have h5 : a.fdiv (2 ^ b) = a / 2 ^ b := by rw [Int.fdiv_eq_ediv_of_nonneg]; exact Int.le_of_lt (Int.pow_pos (by decide))
        simp [execOp, evO_of_lookO hx, evO_of_lookO hy, eqGuard, binOp, Op.shift]
        simp_all
        intro h; exfalso; omega
      · cases h
    · rename_i k a _ b hx hy
      split at h
      · rename_i hsh
        rw [pwK_eq, fitsP_eq] at h; cases h
        have h2 := shOk_le hsh
        have h4 : min (b : Int).toNat k.bits = b := by simp; omega
        have h5 := wrap_fits hc
        simp [execOp, evO_of_lookO hx, evO_of_lookO hy, eqGuard, binOp, Op.shift]
        simp_all
        intro h; exfalso; omega
      · cases h
    · rename_i k a _ b hx hy
      split at h
      · rename_i hk; have e := sameK_eq hk; subst e
        rw [fitsP_eq, fitsP_eq] at h; cases h
        exact bits_and_run hx hy hc.1 hc.2
      · cases h
    · rename_i k a _ b hx hy
      split at h
      · rename_i hk; have e := sameK_eq hk; subst e
        rw [fitsP_eq, fitsP_eq] at h; cases h
        exact bits_or_run hx hy hc.1 hc.2
      · cases h
    · rename_i k a _ b hx hy
      split at h
      · rename_i hk; have e := sameK_eq hk; subst e
        rw [fitsP_eq, fitsP_eq] at h; cases h
        exact bits_xor_run hx hy hc.1 hc.2
      · cases h
    · rename_i hx hy; cases h
      exact ex_cat (evO_of_lookO hx) (evO_of_lookO hy) hc
    · cases h
  · split at h
    · rename_i hx; rw [fitsP_eq] at h; cases h
      have := wrap_fits hc
      simp only [Int.zero_sub] at this
      simp [execOp, evO_of_lookO hx, Op.unary, Op.intArith, this]
    · cases h
  · split at h
    · rename_i hx
      split at h
      · rename_i hS hT; rw [fitsP_eq] at h; cases h
        exact ex_conv hS hT (evO_of_lookO hx) (wrap_fits hc)
      · cases h
    · cases h
  · split at h
    · rename_i hT hx
      obtain ⟨_, j, hi, h⟩ := natO_spec h
      cases h
      exact ex_idx hT (evO_of_lookO hx) hi _ rfl hc
    · cases h
  · split at h
    · rename_i hT hx
      obtain ⟨_, a, hl, h⟩ := natO_spec h
      obtain ⟨_, b, hh, h⟩ := natO_spec h
      cases h
      exact ex_sub2 hT (evO_of_lookO hx) hl hh _ _ rfl rfl hc.1 hc.2
    · cases h
  · split at h
    · rename_i hT hx
      obtain ⟨_, a, hl, h⟩ := natO_spec h
      cases h
      exact ex_subFrom hT (evO_of_lookO hx) hl _ rfl hc
    · cases h
  · split at h
    · rename_i hT hx
      obtain ⟨_, a, hl, h⟩ := natO_spec h
      cases h
      exact ex_subTo hT (evO_of_lookO hx) hl _ rfl hc
    · cases h
  · split at h
    · rename_i hT hx
      split at h
      · rename_i fd hfd
        split at h
        · rename_i ti hti
          split at h
          · cases h
          · rename_i m hm; cases h
            rw [nthF_eq] at hfd
            rw [plusO_eq]
            exact fieldAddr_run hT hx hfd hti (by omega)
        · cases h
      · cases h
    · cases h
  · split at h
    · rename_i hT hx
      split at h
      · rename_i ti hti
        obtain ⟨_, j, hi, h⟩ := natO_spec h
        cases h
        rw [placeAt_eq]
        exact ex_idxAddr hT (by rw [hti]; rfl) (evO_of_lookO hx) hi _ rfl hc
      · cases h
    · cases h
  · cases h

theorem RunL.evc {c : Prop} (hs : stat N ops ⟨some d, op, ty, pos, af, gd⟩ σ = true) (he : evC P σ op = some (v, c)) (hc : c) (h : RunL P N ops l ((d, v) :: σ) w K) :
    RunL P N ops (⟨some d, op, ty, pos, af, gd⟩ :: l) σ w K :=
  RunL.op hs (evC_run he hc) h

theorem RunQ.ev {C : World → Prop} {KQ : Act → Prop} (hs : stat N ops ⟨some d, op, ty, pos, af, gd⟩ σ = true) (he : evOp P σ op = some v) (h : RunQ P N C ops l ((d, v) :: σ) KQ) : RunQ P N C ops (⟨some d, op, ty, pos, af, gd⟩ :: l) σ KQ :=
  RunQ.op hs (fun _ _ => evOp_run he) h
theorem RunQ.evc {C : World → Prop} {KQ : Act → Prop} {c : Prop} (hs : stat N ops ⟨some d, op, ty, pos, af, gd⟩ σ = true) (he : evC P σ op = some (v, c)) (hc : c) (h : RunQ P N C ops l ((d, v) :: σ) KQ) :
    RunQ P N C ops (⟨some d, op, ty, pos, af, gd⟩ :: l) σ KQ :=
  RunQ.op hs (fun _ _ => evC_run he hc) h

/-- Plain control, some steps at once. -/
def ctlGo : Nat → List Item → Option (List Item)
  | n + 1, .code (.seq a b) :: k => ctlGo n (.code a :: .code b :: k)
  | n + 1, .code .skip :: k => ctlGo n k
  | n + 1, .inBlock _ :: k => ctlGo n k
  | n + 1, .code (.block id c) :: k => ctlGo n (.code c :: .inBlock id :: k)
  | n + 1, .code (.exit id) :: k => match exitTo id k with
    | some k' => ctlGo n k'
    | none => none
  | _, k => some k

def ctl (k : List Item) : Option (List Item) :=
  match k with
  | .code (.seq _ _) :: _ => ctlGo 40 k
  | .code .skip :: _ => ctlGo 40 k
  | .inBlock _ :: _ => ctlGo 40 k
  | .code (.block _ _) :: _ => ctlGo 40 k
  | .code (.exit _) :: _ => ctlGo 40 k
  | _ => none

theorem Run.ctlGo {n : Nat} {k' : List Item} (hk : ctlGo n k = some k') (h : Run P f N k' σ w R) : Run P f N k σ w R := by
  induction n generalizing k with
  | zero =>
    have : GX.ctlGo 0 k = some k := by unfold GX.ctlGo; cases k <;> rfl
    rw [this] at hk; cases hk; exact h
  | succ n ih =>
    unfold GX.ctlGo at hk
    split at hk
    · rename_i e; cases e; exact Run.seq (ih hk)
    · rename_i e; cases e; exact Run.skip (ih hk)
    · rename_i e; cases e; exact Run.inBlock (ih hk)
    · rename_i e; cases e; exact Run.block (ih hk)
    · rename_i e; cases e
      split at hk
      · rename_i he; exact Run.exit he (ih hk)
      · cases hk
    · cases hk; exact h

theorem Run.ctl {k' : List Item} (hk : ctl k = some k') (h : Run P f N k' σ w R) : Run P f N k σ w R := by
  unfold GX.ctl at hk
  split at hk
  all_goals first | exact Run.ctlGo hk h | cases hk
end
end Go.GX
