/- The rules for single operations, each in two forms. Printed by a program (genrules.py). Conditions: as each says. -/
import Derived.Test.YtiepojpebndgoaaGxEval
namespace Go.GX
open Go.RowKit
set_option linter.unusedVariables false
set_option linter.unusedSectionVars false
set_option linter.unusedSimpArgs false
section
variable {P : Program} {f : FuncId} {N : Nat} {k : List Item} {σ : Store} {w w' : World} {R : Ending → World → Prop} {ops l : List Oper} {K : Act → World → Prop} {KQ : Act → Prop} {C : World → Prop} {d : Nat} {op : Op} {ty : TypeId} {pos : String} {af : Array Edge} {gd : Option (Nat × Bool)} {v : Value}

theorem RunL.load1 {p : Addr} {t : TypeId} {x : Operand} {td : TypeDesc} (hs : stat N ops ⟨some d, .load t x, ty, pos, af, gd⟩ σ = true) (hT : P.underlying t = some td) (hp : plainT td = true) (hx : lookO σ x = some (.pointer (some p))) (hc : w.cell? p = some v)
    (h : RunL P N ops l ((d, v) :: σ) w K) : RunL P N ops (⟨some d, .load t x, ty, pos, af, gd⟩ :: l) σ w K :=
  RunL.op hs (ex_load1 hT hp (evO_of_lookO hx) hc) h
theorem RunQ.load1 {p : Addr} {t : TypeId} {x : Operand} {td : TypeDesc} (hs : stat N ops ⟨some d, .load t x, ty, pos, af, gd⟩ σ = true) (hT : P.underlying t = some td) (hp : plainT td = true) (hx : lookO σ x = some (.pointer (some p))) (hc : ∀ w, C w → w.cell? p = some v)
    (h : RunQ P N C ops l ((d, v) :: σ) KQ) : RunQ P N C ops (⟨some d, .load t x, ty, pos, af, gd⟩ :: l) σ KQ :=
  RunQ.op hs (fun w hw => ex_load1 hT hp (evO_of_lookO hx) (hc w hw)) h
theorem RunL.idx {s : List UInt8} {kk : IntKind} {n : Int} {t : TypeId} {x i : Operand} (j : Nat) (hs : stat N ops ⟨some d, .index t x i, ty, pos, af, gd⟩ σ = true) (hT : P.underlying t = some .string) (hx : lookO σ x = some (str s)) (hi : lookO σ i = some (.int kk n)) (hj : n = (j : Int)) (hlt : j < s.length)
    (h : RunL P N ops l ((d, .int .u8 ((s.getD j 0).toNat : Int)) :: σ) w K) : RunL P N ops (⟨some d, .index t x i, ty, pos, af, gd⟩ :: l) σ w K :=
  RunL.op hs (ex_idx hT (evO_of_lookO hx) (evO_of_lookO hi) j hj hlt) h
theorem RunQ.idx {s : List UInt8} {kk : IntKind} {n : Int} {t : TypeId} {x i : Operand} (j : Nat) (hs : stat N ops ⟨some d, .index t x i, ty, pos, af, gd⟩ σ = true) (hT : P.underlying t = some .string) (hx : lookO σ x = some (str s)) (hi : lookO σ i = some (.int kk n)) (hj : n = (j : Int)) (hlt : j < s.length)
    (h : RunQ P N C ops l ((d, .int .u8 ((s.getD j 0).toNat : Int)) :: σ) KQ) : RunQ P N C ops (⟨some d, .index t x i, ty, pos, af, gd⟩ :: l) σ KQ :=
  RunQ.op hs (fun _ _ => ex_idx hT (evO_of_lookO hx) (evO_of_lookO hi) j hj hlt) h
theorem RunL.idxN {s : List UInt8} {kk : IntKind} {j : Nat} {t : TypeId} {x i : Operand} (hs : stat N ops ⟨some d, .index t x i, ty, pos, af, gd⟩ σ = true) (hT : P.underlying t = some .string) (hx : lookO σ x = some (str s)) (hi : lookO σ i = some (.int kk (j : Int))) (hlt : j < s.length)
    (h : RunL P N ops l ((d, .int .u8 ((s.getD j 0).toNat : Int)) :: σ) w K) : RunL P N ops (⟨some d, .index t x i, ty, pos, af, gd⟩ :: l) σ w K :=
  RunL.op hs (ex_idx hT (evO_of_lookO hx) (evO_of_lookO hi) j rfl hlt) h
theorem RunQ.idxN {s : List UInt8} {kk : IntKind} {j : Nat} {t : TypeId} {x i : Operand} (hs : stat N ops ⟨some d, .index t x i, ty, pos, af, gd⟩ σ = true) (hT : P.underlying t = some .string) (hx : lookO σ x = some (str s)) (hi : lookO σ i = some (.int kk (j : Int))) (hlt : j < s.length)
    (h : RunQ P N C ops l ((d, .int .u8 ((s.getD j 0).toNat : Int)) :: σ) KQ) : RunQ P N C ops (⟨some d, .index t x i, ty, pos, af, gd⟩ :: l) σ KQ :=
  RunQ.op hs (fun _ _ => ex_idx hT (evO_of_lookO hx) (evO_of_lookO hi) j rfl hlt) h
theorem RunL.cat {a b : List UInt8} {t t' : TypeId} {x y : Operand} (hs : stat N ops ⟨some d, .binOp .add t x y t', ty, pos, af, gd⟩ σ = true) (hx : lookO σ x = some (str a)) (hy : lookO σ y = some (str b)) (hb : a.length + b.length ≤ 9223372036854775807)
    (h : RunL P N ops l ((d, str (a ++ b)) :: σ) w K) : RunL P N ops (⟨some d, .binOp .add t x y t', ty, pos, af, gd⟩ :: l) σ w K :=
  RunL.op hs (ex_cat (evO_of_lookO hx) (evO_of_lookO hy) hb) h
theorem RunQ.cat {a b : List UInt8} {t t' : TypeId} {x y : Operand} (hs : stat N ops ⟨some d, .binOp .add t x y t', ty, pos, af, gd⟩ σ = true) (hx : lookO σ x = some (str a)) (hy : lookO σ y = some (str b)) (hb : a.length + b.length ≤ 9223372036854775807)
    (h : RunQ P N C ops l ((d, str (a ++ b)) :: σ) KQ) : RunQ P N C ops (⟨some d, .binOp .add t x y t', ty, pos, af, gd⟩ :: l) σ KQ :=
  RunQ.op hs (fun _ _ => ex_cat (evO_of_lookO hx) (evO_of_lookO hy) hb) h
theorem RunL.sub2 {s : List UInt8} {kk k' : IntKind} {n m : Int} {t : TypeId} {x lo hi : Operand} (a b : Nat) (hs : stat N ops ⟨some d, .slice t x (some lo) (some hi) none, ty, pos, af, gd⟩ σ = true) (hT : P.underlying t = some .string) (hx : lookO σ x = some (str s)) (hl : lookO σ lo = some (.int kk n)) (hh : lookO σ hi = some (.int k' m)) (ha : n = (a : Int)) (hb : m = (b : Int)) (h1 : a ≤ b) (h2 : b ≤ s.length)
    (h : RunL P N ops l ((d, str ((s.drop a).take (b - a))) :: σ) w K) : RunL P N ops (⟨some d, .slice t x (some lo) (some hi) none, ty, pos, af, gd⟩ :: l) σ w K :=
  RunL.op hs (ex_sub2 hT (evO_of_lookO hx) (evO_of_lookO hl) (evO_of_lookO hh) a b ha hb h1 h2) h
theorem RunQ.sub2 {s : List UInt8} {kk k' : IntKind} {n m : Int} {t : TypeId} {x lo hi : Operand} (a b : Nat) (hs : stat N ops ⟨some d, .slice t x (some lo) (some hi) none, ty, pos, af, gd⟩ σ = true) (hT : P.underlying t = some .string) (hx : lookO σ x = some (str s)) (hl : lookO σ lo = some (.int kk n)) (hh : lookO σ hi = some (.int k' m)) (ha : n = (a : Int)) (hb : m = (b : Int)) (h1 : a ≤ b) (h2 : b ≤ s.length)
    (h : RunQ P N C ops l ((d, str ((s.drop a).take (b - a))) :: σ) KQ) : RunQ P N C ops (⟨some d, .slice t x (some lo) (some hi) none, ty, pos, af, gd⟩ :: l) σ KQ :=
  RunQ.op hs (fun _ _ => ex_sub2 hT (evO_of_lookO hx) (evO_of_lookO hl) (evO_of_lookO hh) a b ha hb h1 h2) h
theorem RunL.subFrom {s : List UInt8} {kk : IntKind} {n : Int} {t : TypeId} {x lo : Operand} (a : Nat) (hs : stat N ops ⟨some d, .slice t x (some lo) none none, ty, pos, af, gd⟩ σ = true) (hT : P.underlying t = some .string) (hx : lookO σ x = some (str s)) (hl : lookO σ lo = some (.int kk n)) (ha : n = (a : Int)) (h1 : a ≤ s.length)
    (h : RunL P N ops l ((d, str (s.drop a)) :: σ) w K) : RunL P N ops (⟨some d, .slice t x (some lo) none none, ty, pos, af, gd⟩ :: l) σ w K :=
  RunL.op hs (ex_subFrom hT (evO_of_lookO hx) (evO_of_lookO hl) a ha h1) h
theorem RunQ.subFrom {s : List UInt8} {kk : IntKind} {n : Int} {t : TypeId} {x lo : Operand} (a : Nat) (hs : stat N ops ⟨some d, .slice t x (some lo) none none, ty, pos, af, gd⟩ σ = true) (hT : P.underlying t = some .string) (hx : lookO σ x = some (str s)) (hl : lookO σ lo = some (.int kk n)) (ha : n = (a : Int)) (h1 : a ≤ s.length)
    (h : RunQ P N C ops l ((d, str (s.drop a)) :: σ) KQ) : RunQ P N C ops (⟨some d, .slice t x (some lo) none none, ty, pos, af, gd⟩ :: l) σ KQ :=
  RunQ.op hs (fun _ _ => ex_subFrom hT (evO_of_lookO hx) (evO_of_lookO hl) a ha h1) h
theorem RunL.subTo {s : List UInt8} {kk : IntKind} {m : Int} {t : TypeId} {x hi : Operand} (b : Nat) (hs : stat N ops ⟨some d, .slice t x none (some hi) none, ty, pos, af, gd⟩ σ = true) (hT : P.underlying t = some .string) (hx : lookO σ x = some (str s)) (hh : lookO σ hi = some (.int kk m)) (hb : m = (b : Int)) (h2 : b ≤ s.length)
    (h : RunL P N ops l ((d, str (s.take b)) :: σ) w K) : RunL P N ops (⟨some d, .slice t x none (some hi) none, ty, pos, af, gd⟩ :: l) σ w K :=
  RunL.op hs (ex_subTo hT (evO_of_lookO hx) (evO_of_lookO hh) b hb h2) h
theorem RunQ.subTo {s : List UInt8} {kk : IntKind} {m : Int} {t : TypeId} {x hi : Operand} (b : Nat) (hs : stat N ops ⟨some d, .slice t x none (some hi) none, ty, pos, af, gd⟩ σ = true) (hT : P.underlying t = some .string) (hx : lookO σ x = some (str s)) (hh : lookO σ hi = some (.int kk m)) (hb : m = (b : Int)) (h2 : b ≤ s.length)
    (h : RunQ P N C ops l ((d, str (s.take b)) :: σ) KQ) : RunQ P N C ops (⟨some d, .slice t x none (some hi) none, ty, pos, af, gd⟩ :: l) σ KQ :=
  RunQ.op hs (fun _ _ => ex_subTo hT (evO_of_lookO hx) (evO_of_lookO hh) b hb h2) h
theorem RunL.conv {kk k' : IntKind} {n : Int} {t t' : TypeId} {x : Operand} {ds : TypeDesc} (hs : stat N ops ⟨some d, .convert t t' x, ty, pos, af, gd⟩ σ = true) (hS : P.underlying t = some ds) (hD : P.underlying t' = some (.int kk)) (hx : lookO σ x = some (.int k' n)) (hw : kk.wrap n = n)
    (h : RunL P N ops l ((d, .int kk n) :: σ) w K) : RunL P N ops (⟨some d, .convert t t' x, ty, pos, af, gd⟩ :: l) σ w K :=
  RunL.op hs (ex_conv hS hD (evO_of_lookO hx) hw) h
theorem RunQ.conv {kk k' : IntKind} {n : Int} {t t' : TypeId} {x : Operand} {ds : TypeDesc} (hs : stat N ops ⟨some d, .convert t t' x, ty, pos, af, gd⟩ σ = true) (hS : P.underlying t = some ds) (hD : P.underlying t' = some (.int kk)) (hx : lookO σ x = some (.int k' n)) (hw : kk.wrap n = n)
    (h : RunQ P N C ops l ((d, .int kk n) :: σ) KQ) : RunQ P N C ops (⟨some d, .convert t t' x, ty, pos, af, gd⟩ :: l) σ KQ :=
  RunQ.op hs (fun _ _ => ex_conv hS hD (evO_of_lookO hx) hw) h
theorem RunL.idxAddr {b off n c e sz : Nat} {kk : IntKind} {m : Int} {t : TypeId} {x i : Operand} (j : Nat) (hs : stat N ops ⟨some d, .indexAddr t x i, ty, pos, af, gd⟩ σ = true) (hT : P.underlying t = some (.slice e)) (hS : (P.info? e).map (·.size) = some sz) (hx : lookO σ x = some (.slice (some ⟨b, off, none⟩) n c)) (hi : lookO σ i = some (.int kk m)) (hj : m = (j : Int)) (hlt : j < n)
    (h : RunL P N ops l ((d, .pointer (some ⟨b, off + j * sz, none⟩)) :: σ) w K) : RunL P N ops (⟨some d, .indexAddr t x i, ty, pos, af, gd⟩ :: l) σ w K :=
  RunL.op hs (ex_idxAddr hT hS (evO_of_lookO hx) (evO_of_lookO hi) j hj hlt) h
theorem RunQ.idxAddr {b off n c e sz : Nat} {kk : IntKind} {m : Int} {t : TypeId} {x i : Operand} (j : Nat) (hs : stat N ops ⟨some d, .indexAddr t x i, ty, pos, af, gd⟩ σ = true) (hT : P.underlying t = some (.slice e)) (hS : (P.info? e).map (·.size) = some sz) (hx : lookO σ x = some (.slice (some ⟨b, off, none⟩) n c)) (hi : lookO σ i = some (.int kk m)) (hj : m = (j : Int)) (hlt : j < n)
    (h : RunQ P N C ops l ((d, .pointer (some ⟨b, off + j * sz, none⟩)) :: σ) KQ) : RunQ P N C ops (⟨some d, .indexAddr t x i, ty, pos, af, gd⟩ :: l) σ KQ :=
  RunQ.op hs (fun _ _ => ex_idxAddr hT hS (evO_of_lookO hx) (evO_of_lookO hi) j hj hlt) h
end
end Go.GX
