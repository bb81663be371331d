/- A part of the proof: contracts of the program's functions. Conditions: none. -/
import Derived.Carry
import Derived.Deep.MidRow
import Derived.Deep.Quiet
import Derived.Laws.IdiomRangeMap
import Derived.Laws.MakeOwn
import Derived.Laws.StructEq
import Derived.Laws.Tables
import Derived.Lib.AppendStr
import Derived.Lib.AppendZerosOnto
import Derived.Lib.OthersKept
import Derived.Lib.Overlaps
import Derived.Lib.OwnBridge
import Derived.Lib.SlicesCompact
import Derived.MapKept
import Derived.Orders
import Derived.OrdersHeld
import Derived.Sort.Grow
import Derived.StillTail
import Derived.WalkKit
import Derived.WalkLawsBesides
import Derived.WalkSpells
import Derived.Test.YtgfdoognildoeaaGreatMB1
import Derived.Test.YtgfdoognildoeaaGreatMB2
import Derived.Test.YtgfdoognildoeaaGreatMB3
set_option linter.unusedVariables false
set_option linter.unusedSectionVars false
set_option linter.unusedSimpArgs false
set_option maxRecDepth 100000
set_option maxHeartbeats 4000000
namespace Go.GX
open Go.RowKit
theorem ins_grow {β : Type} {xs X Z : List β} {p q s : Nat} (hx : xs.length = p + s) (hX : X.length = q) (hZ : Z.length = q + s) :
  ((xs.take p ++ Z).take p ++ X.take q ++ (xs.take p ++ Z).drop (p + q)).take (p + q) ++ ((xs.drop p).take s).take s ++ ((xs.take p ++ Z).take p ++ X.take q ++ (xs.take p ++ Z).drop (p + q)).drop (p + q + s) = xs.take p ++ X ++ xs.drop p := by
 have l1 : (xs.take p).length = p := by simp; omega
 have e1 : (xs.take p ++ Z).take p = xs.take p := by rw [List.take_append_of_le_length (by omega), List.take_of_length_le (by omega)]
 have e2 : (xs.take p ++ Z).drop (p + q) = Z.drop q := by rw [List.drop_append, List.drop_eq_nil_of_le (by omega), l1, List.nil_append]; congr 1; omega
 have e3 : X.take q = X := List.take_of_length_le (by omega)
 rw [e1, e2, e3]
 have l2 : (xs.take p ++ X).length = p + q := by simp [l1, hX]
 have e4 : (xs.take p ++ X ++ Z.drop q).take (p + q) = xs.take p ++ X := by rw [List.take_append_of_le_length (by omega), List.take_of_length_le (by omega)]
 have e5 : (xs.take p ++ X ++ Z.drop q).drop (p + q + s) = [] := List.drop_eq_nil_of_le (by rw [List.length_append, l2, List.length_drop]; omega)
 have e6 : (xs.drop p).take s = xs.drop p := List.take_of_length_le (by rw [List.length_drop]; omega)
 rw [e4, e5, List.append_nil, e6, e6]
theorem ins_shift {β : Type} {xs X J : List β} {p q s u : Nat} (hx : xs.length = p + s) (hX : X.length = q) (hJ : J.length = q) (hu : s ≤ u) :
  ((xs ++ J).take (p + q) ++ (((xs ++ J).drop p).take u).take s ++ (xs ++ J).drop (p + q + s)).take p ++ X.take q ++ ((xs ++ J).take (p + q) ++ (((xs ++ J).drop p).take u).take s ++ (xs ++ J).drop (p + q + s)).drop (p + q) = xs.take p ++ X ++ xs.drop p := by
 have l1 : ((xs ++ J).take (p + q)).length = p + q := by simp; omega
 have e1 : (xs ++ J).drop (p + q + s) = [] := List.drop_eq_nil_of_le (by simp; omega)
 have e2 : (((xs ++ J).drop p).take u).take s = xs.drop p := by
  rw [List.take_take, Nat.min_eq_left hu, List.drop_append_of_le_length (by omega), List.take_append_of_le_length (by rw [List.length_drop]; omega), List.take_of_length_le (by rw [List.length_drop]; omega)]
 rw [e1, e2, List.append_nil]
 have e3 : ((xs ++ J).take (p + q) ++ xs.drop p).take p = xs.take p := by
  rw [List.take_append_of_le_length (by omega), List.take_take, Nat.min_eq_left (by omega), List.take_append_of_le_length (by omega)]
 have e4 : ((xs ++ J).take (p + q) ++ xs.drop p).drop (p + q) = xs.drop p := by
  rw [List.drop_append, List.drop_eq_nil_of_le (by omega), l1, Nat.sub_self]; simp
 have e6 : X.take q = X := List.take_of_length_le (by omega)
 rw [e3, e4, e6]
theorem shift_mem {β : Type} {xs J : List β} {p s u : Nat} (hx : xs.length = p + s) (hu : s ≤ u) {b : β} (hb : b ∈ (((xs ++ J).drop p).take u).take s) : b ∈ xs := by
 rw [List.take_take, Nat.min_eq_left hu, List.drop_append_of_le_length (by omega), List.take_append_of_le_length (by rw [List.length_drop]; omega)] at hb
 exact List.mem_of_mem_drop (List.mem_of_mem_take hb)
section
variable {P : Program} {f : FuncId} {N : Nat} {k : List Item} {σ : Store} {B : Base} {H : List Chunk} {R : Ending → World → Prop} {ops l : List Oper} {o : Oper} {K : Act → World → Prop}
variable {d : Nat} {d' : Option Nat} {ty : TypeId} {pos : String} {af : Array Edge} {gd : Option (Nat × Bool)} {u v : Value}
def cutV (sz : Nat) (ad : Option Addr) (a b m : Nat) : Value := .slice (if m = a then ad else ad.map (·.add (a * sz))) (b - a) (m - a)
theorem cutV_lit {sz g off a b m : Nat} (h : a < m) : cutV sz (some ⟨g, off, none⟩) a b m = .slice (some ⟨g, off + a * sz, none⟩) (b - a) (m - a) := by
 unfold cutV
 rw [if_neg (by omega)]
 simp only [Option.map_some]
 unfold Addr.add; split <;> simp_all
theorem run_cut {t e sz : TypeId} {ad : Option Addr} {n c a b m : Nat} {lo hi mx : Option Value} (hT : P.underlying t = some (.slice e)) (hS : (P.info? e).map (·.size) = some sz)
  (hlo : (lo = none ∧ a = 0) ∨ ∃ k, lo = some (.int k (a : Int))) (hhi : (hi = none ∧ mx = none ∧ b = n) ∨ ∃ k, hi = some (.int k (b : Int))) (hmx : (mx = none ∧ m = c) ∨ ∃ k, mx = some (.int k (m : Int))) (h1 : a ≤ b) (h2 : b ≤ m) (h3 : m ≤ c) (w : World) :
  (Instr.sliceAt t (.slice ad n c) lo hi mx).run P w = .ok (cutV sz ad a b m) w := by
 obtain ⟨ti, g1, g2⟩ : ∃ ti, P.info? e = some ti ∧ ti.size = sz := by
  cases h : P.info? e with
  | none => rw [h] at hS; cases hS
  | some ti => rw [h] at hS; exact ⟨ti, rfl, by simpa using hS⟩
 have e0 : (sizeOf e).run P w = .ok sz w := by simp [sizeOf, typeInfo, g1, g2]
 have h4 : b ≤ c := by omega
 rcases hlo with ⟨rfl, rfl⟩ | ⟨k1, rfl⟩ <;> rcases hhi with ⟨rfl, rfl, rfl⟩ | ⟨k2, rfl⟩ <;> rcases hmx with ⟨h5, rfl⟩ | ⟨k3, h5⟩ <;> (first | (cases h5; done) | skip) <;> (try subst h5) <;>
  simp [Instr.sliceAt, Instr.slice, Instr.sliceBounds, Instr.sliceBound, asIntOf, underlying, hT, e0, cutV, h1, h2, h3, h4]
theorem hx_cut {t e sz : TypeId} {x : Operand} {ad : Option Addr} {n c a b m : Nat} {lo hi mx : Option Operand} (hT : P.underlying t = some (.slice e)) (hS : (P.info? e).map (·.size) = some sz) (hx : lookO σ x = some (.slice ad n c))
  (hlo : (lo = none ∧ a = 0) ∨ ∃ y k, lo = some y ∧ lookO σ y = some (.int k (a : Int))) (hhi : (hi = none ∧ mx = none ∧ b = n) ∨ ∃ y k, hi = some y ∧ lookO σ y = some (.int k (b : Int))) (hmx : (mx = none ∧ m = c) ∨ ∃ y k, mx = some y ∧ lookO σ y = some (.int k (m : Int))) (h1 : a ≤ b) (h2 : b ≤ m) (h3 : m ≤ c) (w : World) :
  (execOp (evO σ) ⟨d', .slice t x lo hi mx, ty, pos, af, gd⟩).run P w = .ok (.value (cutV sz ad a b m)) w := by
 have := run_cut (P := P) (t := t) (ad := ad) (n := n) (c := c) (lo := lo.map (evO σ)) (hi := hi.map (evO σ)) (mx := mx.map (evO σ)) hT hS (a := a) (b := b) (m := m) (by
  rcases hlo with ⟨rfl, h⟩ | ⟨y, k, rfl, h⟩
  ·exact .inl ⟨rfl, h⟩
  ·exact .inr ⟨k, by simp [evO_of_lookO h]⟩) (by
  rcases hhi with ⟨rfl, rfl, h⟩ | ⟨y, k, rfl, h⟩
  ·exact .inl ⟨rfl, rfl, h⟩
  ·exact .inr ⟨k, by simp [evO_of_lookO h]⟩) (by
  rcases hmx with ⟨rfl, h⟩ | ⟨y, k, rfl, h⟩
  ·exact .inl ⟨rfl, h⟩
  ·exact .inr ⟨k, by simp [evO_of_lookO h]⟩) h1 h2 h3 w
 simp [execOp, evO_of_lookO hx, this]
theorem HL.cut {t e sz : TypeId} {x : Operand} {ad : Option Addr} {n c : Nat} {lo hi mx : Option Operand} (a b m : Nat) (hs : stat N ops ⟨some d, .slice t x lo hi mx, ty, pos, af, gd⟩ σ = true) (hT : P.underlying t = some (.slice e)) (hS : (P.info? e).map (·.size) = some sz) (hx : lookO σ x = some (.slice ad n c))
  (hlo : (lo = none ∧ a = 0) ∨ ∃ y k, lo = some y ∧ lookO σ y = some (.int k (a : Int))) (hhi : (hi = none ∧ mx = none ∧ b = n) ∨ ∃ y k, hi = some y ∧ lookO σ y = some (.int k (b : Int))) (hmx : (mx = none ∧ m = c) ∨ ∃ y k, mx = some y ∧ lookO σ y = some (.int k (m : Int))) (h1 : a ≤ b) (h2 : b ≤ m) (h3 : m ≤ c)
  (h : HL P N ops l ((d, cutV sz ad a b m) :: σ) B H K) : HL P N ops (⟨some d, .slice t x lo hi mx, ty, pos, af, gd⟩ :: l) σ B H K := HL.rd hs (fun w _ => hx_cut hT hS hx hlo hhi hmx h1 h2 h3 w) h
theorem HD.cut {F : List Chunk} {j : Nat} {p : List (Nat × Bool)} {t e sz : TypeId} {x : Operand} {ad : Option Addr} {n c : Nat} {lo hi mx : Option Operand} (a b m : Nat) (ho : ops[j]? = some ⟨some d, .slice t x lo hi mx, ty, pos, af, gd⟩) (hs : stat N ops ⟨some d, .slice t x lo hi mx, ty, pos, af, gd⟩ σ = true) (hT : P.underlying t = some (.slice e)) (hS : (P.info? e).map (·.size) = some sz) (hx : lookO σ x = some (.slice ad n c))
  (hlo : (lo = none ∧ a = 0) ∨ ∃ y k, lo = some y ∧ lookO σ y = some (.int k (a : Int))) (hhi : (hi = none ∧ mx = none ∧ b = n) ∨ ∃ y k, hi = some y ∧ lookO σ y = some (.int k (b : Int))) (hmx : (mx = none ∧ m = c) ∨ ∃ y k, mx = some y ∧ lookO σ y = some (.int k (m : Int))) (h1 : a ≤ b) (h2 : b ≤ m) (h3 : m ≤ c)
  (h : HD P N ops p ((d, cutV sz ad a b m) :: σ) B H F K) : HD P N ops ((j, true) :: p) σ B H F K := HD.rd ho hs (fun w _ => hx_cut hT hS hx hlo hhi hmx h1 h2 h3 w) h
theorem Vw.put {w : World} {e sz n g off cap : Nat} {cur : Array Value} {xs us : List Value} (hl : xs.length = n * sz) (hg : w.heap[g]? = some (.cells cur e (0, 0))) (hnc : n ≤ cap) (hcm : cap ≤ maxLen) (hcs : off + cap * sz ≤ cur.size) (htake : (cur.toList.drop off).take (n * sz) = xs) (j : Nat) (hfit : j + us.length ≤ xs.length) :
  Vw (w.setRow g (cur.toList.take (off + j) ++ us ++ cur.toList.drop (off + j + us.length)).toArray) (.slice (some ⟨g, off, none⟩) n cap) e sz n (xs.take j ++ us ++ xs.drop (j + us.length)) := by
 have hsz : n * sz ≤ cap * sz := Nat.mul_le_mul_right _ hnc
 refine ⟨by simp; omega, .inr ⟨g, off, cap, _, rfl, setRow_heap w g cur _ e _ hg, hnc, hcm, by simp; omega, ?_⟩⟩
 have hcl : cur.toList.length = cur.size := Array.length_toList
 rw [← htake]
 have e2 : cur.toList.take (off + j) = cur.toList.take off ++ (cur.toList.drop off).take j := by rw [List.take_add]
 rw [e2]
 simp only [List.append_assoc]
 rw [List.drop_append_of_le_length (by simp; omega), List.drop_eq_nil_of_le (by simp; omega), List.nil_append]
 rw [List.take_take, Nat.min_eq_left (by omega)]
 have hl3 : ((cur.toList.drop off).take j).length = j := by simp; omega
 rw [List.take_append, List.take_of_length_le (by omega), hl3]
 congr 1
 rw [List.take_append, List.take_of_length_le (by omega)]
 congr 1
 rw [List.drop_take, List.drop_drop]
 congr 1
 ·omega
 ·congr 1; omega
theorem run_copyV {t t' e sz : TypeId} {w : World} {g o dl dc m sl sc : Nat} {a : Addr} {cur : Array Value} {e' : TypeId} {cs : List Value} (hu : P.underlying t = some (.slice e)) (hs : (P.info? e).map (·.size) = some sz)
  (hg : w.heap[g]? = some (.cells cur e' (0, 0))) (hm : Nat.min sl dl = m) (hn : cs.length = m * sz) (hsrc : ∀ j v, cs[j]? = some v → w.cell? (a.add j) = some v) (hfit : o + cs.length ≤ cur.size) (h1 : ∀ v ∈ cs, v.oneCell' = true) :
  (Builtin.copy_ #[t, t'] ty #[.slice (some ⟨g, o, none⟩) dl dc, .slice (some a) sl sc]).run P w =
   .ok (.int .i64 (m : Int)) (w.setRow g (cur.toList.take o ++ cs ++ cur.toList.drop (o + cs.length)).toArray) := by
 have hst := run_storeCells_at P g o e' cs 0 cur w hg (by simpa using hfit) h1
 cases hq : P.info? e with
 | none => simp [hq] at hs
 | some i =>
  have hi : i.size = sz := by simpa [hq] using hs
  have hf := run_firstCells_some (P := P) w i.size m a sl sc cs (by rw [hi]; exact hn) hsrc
  simp only [Nat.add_zero] at hst
  simp [Builtin.copy_, run_underlying hu, Builtin.lenOf, sizeOf, typeInfo, hq, hm, hf, hst, goInt]
theorem HL.copyO {t t' e sz : TypeId} {x y : Operand} {n m2 : Nat} {xs ns : List Value} {v2 : Value} (a m : Nat) (i : Nat) (hi : nthC H i = some (ownC v e sz n xs)) (hv2 : Rd B H v2 ns m2) (hs : stat N ops ⟨some d, .call ⟨.builtin .copy, #[x, y], #[t, t']⟩, ty, pos, af, gd⟩ σ = true)
  (hu : P.underlying t = some (.slice e)) (hS : (P.info? e).map (·.size) = some sz) (hx : lookO σ x = some (subV sz v a n)) (hy : lookO σ y = some v2) (hl : ns.length = m2 * sz) (h1 : ∀ u ∈ ns.take (m * sz), u.oneCell' = true) (hm : Nat.min m2 (n - a) = m) (hpos : 0 < m)
  (h : HL P N ops l ((d, .int .i64 (m : Int)) :: σ) B (setC H i (ownC v e sz n (xs.take (a * sz) ++ ns.take (m * sz) ++ xs.drop (a * sz + m * sz)))) K) : HL P N ops (⟨some d, .call ⟨.builtin .copy, #[x, y], #[t, t']⟩, ty, pos, af, gd⟩ :: l) σ B H K := by
 have hm' : min m2 (n - a) = m := hm
 refine HL.opX (α := Unit) (fun _ => .int .i64 (m : Int)) (fun _ => setC H i (ownC v e sz n (xs.take (a * sz) ++ ns.take (m * sz) ++ xs.drop (a * sz + m * sz)))) (fun _ => True) hs (fun w hw => ?_) (fun _ _ => h)
 have hv : Vw w v e sz n xs := hw.nth hi
 obtain ⟨hxl, hv⟩ := hv
 rcases hv with ⟨rfl, rfl⟩ | ⟨g, off, cap, cur, rfl, hg, hnc, hcm, hcs, htake⟩
 ·omega
 ·have hsz : n * sz ≤ cap * sz := Nat.mul_le_mul_right _ hnc
  have hsub : subV sz (.slice (some ⟨g, off, none⟩) n cap) a n = .slice (some ⟨g, off + a * sz, none⟩) (n - a) (cap - a) := by
   have hne : ¬ cap = a := by omega
   simp only [subV, hne, if_false]
   unfold Addr.add; split <;> simp_all
  have hmul : a * sz + m * sz ≤ n * sz := by rw [← Nat.add_mul]; exact Nat.mul_le_mul_right _ (by omega)
  have hml : m * sz ≤ m2 * sz := Nat.mul_le_mul_right _ (by omega)
  have htl : (ns.take (m * sz)).length = m * sz := by rw [List.length_take, hl]; omega
  rcases hv2.is hw with ⟨_, h0, _⟩ | ⟨b, off2, cap2, rfl, hc⟩
  ·omega
  ·have hadd : ∀ j, (⟨b, off2, none⟩ : Addr).add j = ⟨b, off2 + j, none⟩ := fun j => by unfold Addr.add; split <;> simp_all
   have hr := run_copyV (P := P) (t' := t') (ty := ty) (w := w) (g := g) (o := off + a * sz) (dl := n - a) (dc := cap - a) (m := m) (sl := m2) (sc := cap2) (a := ⟨b, off2, none⟩) (cur := cur) (e' := e) (cs := ns.take (m * sz)) hu hS hg hm htl (fun j u hu => by
    rw [hadd]
    rw [List.getElem?_take] at hu
    split at hu
    ·exact hc j u hu
    ·cases hu) (by omega) h1
   have hp := Vw.put (us := ns.take (m * sz)) hxl hg hnc hcm hcs htake (a * sz) (by rw [htl, hxl]; omega)
   rw [htl] at hp hr
   refine ⟨(), w.setRow g (cur.toList.take (off + a * sz) ++ ns.take (m * sz) ++ cur.toList.drop (off + a * sz + m * sz)).toArray, ?_, trivial, hw.upd hi I I I (by simp) (fun k hk hne => setRow_other w g k _ (fun e => hne (by rw [e]; rfl))) hp (fun k hk => .inl hk)⟩
   simp [execOp, resolve, evO_of_lookO hx, evO_of_lookO hy, invoke, builtin, hsub, hr]
theorem Vw.row {w : World} {e sz n : Nat} {xs : List Value} (h : Vw w v e sz n xs) (hn : 0 < n) : ∃ g off cap, v = .slice (some ⟨g, off, none⟩) n cap ∧ n ≤ cap ∧ cap ≤ maxLen := by
 rcases h.2 with ⟨rfl, rfl⟩ | ⟨g, off, cap, cur, rfl, _, h1, h2, _⟩
 ·omega
 ·exact ⟨g, off, cap, rfl, h1, h2⟩
theorem HR.row {e sz n : Nat} {xs : List Value} (i : Nat) (hi : nthC H i = some (ownC v e sz n xs)) (hn : 0 < n) (h : ∀ g off cap, v = .slice (some ⟨g, off, none⟩) n cap → n ≤ cap → cap ≤ maxLen → HR P f N k σ B H R) : HR P f N k σ B H R :=
 HR.know (Q := ∃ g off cap, v = .slice (some ⟨g, off, none⟩) n cap ∧ n ≤ cap ∧ cap ≤ maxLen) (fun w hw => Vw.row (hw.vw hi) hn) fun ⟨g, off, cap, h1, h2, h3⟩ => h g off cap h1 h2 h3
theorem HL.row {e sz n : Nat} {xs : List Value} (i : Nat) (hi : nthC H i = some (ownC v e sz n xs)) (hn : 0 < n) (h : ∀ g off cap, v = .slice (some ⟨g, off, none⟩) n cap → n ≤ cap → cap ≤ maxLen → HL P N ops l σ B H K) : HL P N ops l σ B H K :=
 HL.know (Q := ∃ g off cap, v = .slice (some ⟨g, off, none⟩) n cap ∧ n ≤ cap ∧ cap ≤ maxLen) (fun w hw => Vw.row (hw.vw hi) hn) fun ⟨g, off, cap, h1, h2, h3⟩ => h g off cap h1 h2 h3
theorem Sat.cutK {w : World} {g off c e sz n m : Nat} {xs zs : List Value} (hw : Sat B (ownC (.slice (some ⟨g, off, none⟩) n c) e sz n xs :: H) w) (hm : m ≤ n) (hz : xs.take (m * sz) = zs) : Sat B (ownC (.slice (some ⟨g, off, none⟩) m c) e sz m zs :: H) w := by
 refine Sat.as (c' := ownC (.slice (some ⟨g, off, none⟩) m c) e sz m zs) 0 hw I (fun h => ?_) (fun _ h => h)
 have h2 := Vw.sub (show Vw w (.slice (some ⟨g, off, none⟩) n c) e sz n xs from h) (l := 0) (h := m) (Nat.zero_le _) hm
 have e1 : subV sz (.slice (some ⟨g, off, none⟩) n c) 0 m = .slice (some ⟨g, off, none⟩) m c := by simp only [subV]; split <;> simp [Addr.add]
 rw [e1, Nat.sub_zero, Nat.zero_mul, List.drop_zero, hz] at h2
 exact h2
theorem HL.extO {t e sz : TypeId} {x y : Operand} {kk : IntKind} {g off n c : Nat} {xs : List Value} (n' : Nat) (i : Nat) (hi : nthC H i = some (ownC (.slice (some ⟨g, off, none⟩) n c) e sz n xs)) (hs : stat N ops ⟨some d, .slice t x none (some y) none, ty, pos, af, gd⟩ σ = true) (hT : P.underlying t = some (.slice e)) (hS : (P.info? e).map (·.size) = some sz)
  {mm : Int} (hx : lookO σ x = some (.slice (some ⟨g, off, none⟩) n c)) (hy : lookO σ y = some (.int kk mm)) (hmm : mm = (n' : Int)) (h1 : n ≤ n') (h2 : n' ≤ c)
  (h : ∀ junk : List Value, junk.length = (n' - n) * sz → HL P N ops l ((d, .slice (some ⟨g, off, none⟩) n' c) :: σ) B (setC H i (ownC (.slice (some ⟨g, off, none⟩) n' c) e sz n' (xs ++ junk))) K) : HL P N ops (⟨some d, .slice t x none (some y) none, ty, pos, af, gd⟩ :: l) σ B H K := by
 subst hmm
 refine HL.opX (α := List Value) (fun _ => .slice (some ⟨g, off, none⟩) n' c) (fun junk => setC H i (ownC (.slice (some ⟨g, off, none⟩) n' c) e sz n' (xs ++ junk))) (fun junk => junk.length = (n' - n) * sz) hs (fun w hw => ?_) h
 obtain ⟨hxl, hv⟩ : Vw w (.slice (some ⟨g, off, none⟩) n c) e sz n xs := hw.nth hi
 rcases hv with ⟨hh, _⟩ | ⟨g', off', cap', cur, hh, hg, hnc, hcm, hcs, htake⟩
 ·cases hh
 ·cases hh
  have hcl : cur.toList.length = cur.size := Array.length_toList
  have hsz : n' * sz ≤ c * sz := Nat.mul_le_mul_right _ h2
  have hsz1 : n * sz ≤ n' * sz := Nat.mul_le_mul_right _ h1
  have hr := hx_cut (P := P) (σ := σ) (d' := some d) (ty := ty) (pos := pos) (af := af) (gd := gd) (t := t) (x := x) (ad := some ⟨g, off, none⟩) (n := n) (c := c) (lo := none) (hi := some y) (mx := none) (a := 0) (b := n') (m := c) hT hS hx (.inl ⟨rfl, rfl⟩) (.inr ⟨y, kk, rfl, hy⟩) (.inl ⟨rfl, rfl⟩) (Nat.zero_le _) h2 (Nat.le_refl _) w
  have hcv : cutV sz (some ⟨g, off, none⟩) 0 n' c = .slice (some ⟨g, off, none⟩) n' c := by
   unfold cutV
   split
   ·simp
   ·simp [Addr.add]
  rw [hcv] at hr
  refine ⟨((cur.toList.drop off).take (n' * sz)).drop (n * sz), w, hr, ?_, hw.upd hi I I I (Nat.le_refl _) (fun _ _ _ => rfl) ?_ (fun k hk => .inl hk)⟩
  ·rw [List.length_drop, List.length_take, List.length_drop, hcl, Nat.sub_mul]; omega
  ·have e3 : xs ++ ((cur.toList.drop off).take (n' * sz)).drop (n * sz) = (cur.toList.drop off).take (n' * sz) := by
    rw [← htake]
    conv => rhs; rw [← List.take_append_drop (n * sz) ((cur.toList.drop off).take (n' * sz))]
    rw [List.take_take, Nat.min_eq_left hsz1]
   refine ⟨?_, .inr ⟨g, off, c, cur, rfl, hg, h2, hcm, hcs, ?_⟩⟩
   ·rw [e3, List.length_take, List.length_drop, hcl]; omega
   ·exact e3.symm
theorem HL.appSelf {t e sz bytes : TypeId} {x y : Operand} {g off n c : Nat} {xs : List Value} (a b : Nat) (i : Nat) (hi : nthC H i = some (ownC (.slice (some ⟨g, off, none⟩) n c) e sz n xs)) (hE : Elem P t e sz bytes) (hs : stat N ops ⟨some d, .call ⟨.builtin .append, #[x, y], #[t, t]⟩, ty, pos, af, gd⟩ σ = true)
  (hx : lookO σ x = some (subV sz (.slice (some ⟨g, off, none⟩) n c) 0 a)) (hy : lookO σ y = some (subV sz (.slice (some ⟨g, off, none⟩) n c) b n)) (hab : a ≤ b) (hbn : b ≤ n) (hnc' : n ≤ c) (h1 : ∀ u ∈ xs, u.oneCell' = true)
  (h : HL P N ops l ((d, .slice (some ⟨g, off, none⟩) (a + (n - b)) c) :: σ) B (setC H i (ownC (.slice (some ⟨g, off, none⟩) n c) e sz n (xs.take (a * sz) ++ xs.drop (b * sz) ++ xs.drop (a * sz + (n - b) * sz)))) K) : HL P N ops (⟨some d, .call ⟨.builtin .append, #[x, y], #[t, t]⟩, ty, pos, af, gd⟩ :: l) σ B H K := by
 refine HL.opX (α := Unit) (fun _ => .slice (some ⟨g, off, none⟩) (a + (n - b)) c) (fun _ => setC H i (ownC (.slice (some ⟨g, off, none⟩) n c) e sz n (xs.take (a * sz) ++ xs.drop (b * sz) ++ xs.drop (a * sz + (n - b) * sz)))) (fun _ => True) hs (fun w hw => ?_) (fun _ _ => h)
 have hvw : Vw w (.slice (some ⟨g, off, none⟩) n c) e sz n xs := hw.nth hi
 obtain ⟨ti, z, g1, g2, g3, g4, g5⟩ := hE.info
 have hsub := hvw.sub (l := b) (h := n) hbn (Nat.le_refl _)
 obtain ⟨hxl, hv⟩ := hvw
 rcases hv with ⟨hh, _⟩ | ⟨g', off', cap', cur, hh, hg, hnc, hcm, hcs, htake⟩
 ·cases hh
 ·cases hh
  have hcl : cur.toList.length = cur.size := Array.length_toList
  have m1 : a * sz ≤ b * sz := Nat.mul_le_mul_right _ hab
  have m2 : b * sz ≤ n * sz := Nat.mul_le_mul_right _ hbn
  have m3 : n * sz ≤ c * sz := Nat.mul_le_mul_right _ hnc
  have hnl : (xs.drop (b * sz)).length = (n - b) * sz := by rw [List.length_drop, hxl, Nat.sub_mul]
  have hnl2 : ((xs.drop (b * sz)).take ((n - b) * sz)) = xs.drop (b * sz) := List.take_of_length_le (by omega)
  rw [hnl2] at hsub
  have hx0 : subV sz (.slice (some ⟨g, off, none⟩) n c) 0 a = .slice (some ⟨g, off, none⟩) a c := by
   simp only [subV]; split <;> simp [Addr.add]
  rw [hx0] at hx
  rcases hsub.sl.1 with ⟨hz, h0, _⟩ | ⟨b2, off2, cap2, hv2, hc2⟩
  · -- nothing is appended
   have hbn' : b = n := by omega
   subst hbn'
   have hnil : xs.drop (b * sz) = [] := List.drop_eq_nil_of_le (by omega)
   have hy2 : ∃ a0 c0, subV sz (.slice (some ⟨g, off, none⟩) b c) b b = .slice (some a0) 0 c0 := by
    simp only [subV, Nat.sub_self, Option.map_some]
    split
    ·exact ⟨_, _, rfl⟩
    ·exact ⟨_, _, rfl⟩
   obtain ⟨a0, c0, ha0⟩ := hy2
   rw [ha0] at hy
   refine ⟨(), w, ?_, trivial, hw.upd hi I I I (Nat.le_refl _) (fun _ _ _ => rfl) ?_ (fun k hk => .inl hk)⟩
   ·have hac : a ≤ c := by omega
    simp [execOp, resolve, evO_of_lookO hx, evO_of_lookO hy, invoke, builtin, Builtin.append_, run_underlying hE.slice, sizeOf, typeInfo, g1, Builtin.lenOf, Builtin.firstCells, loadCells, loadCellsFrom, hac, storeCells]
   ·have : xs.take (a * sz) ++ xs.drop (b * sz) ++ xs.drop (a * sz + (b - b) * sz) = xs := by
     rw [hnil, Nat.sub_self, Nat.zero_mul, Nat.add_zero, List.append_nil, List.take_append_drop]
    rw [this]
    exact ⟨hxl, .inr ⟨g, off, c, cur, rfl, hg, hnc, hcm, hcs, htake⟩⟩
  ·have hadd : ∀ j, (⟨b2, off2, none⟩ : Addr).add j = ⟨b2, off2 + j, none⟩ := fun j => by unfold Addr.add; split <;> simp_all
   rw [hv2] at hy
   subst g3
   have hfit : a * ti.size + (xs.drop (b * ti.size)).length ≤ xs.length := by rw [hnl, hxl, Nat.sub_mul]; omega
   have hr := run_append_roomV (w := w) (P := P) t ty e ti hE.slice g1 g off a c cur hg ⟨b2, off2, none⟩ (n - b) cap2 (xs.drop (b * ti.size)) hnl (fun j u hu => by rw [hadd]; exact hc2 j u hu) (fun u hu => h1 u (List.mem_of_mem_drop hu)) (by omega) (by rw [hxl] at hfit; omega)
   refine ⟨(), w.setRow g (cur.toList.take (off + a * ti.size) ++ xs.drop (b * ti.size) ++ cur.toList.drop (off + a * ti.size + (xs.drop (b * ti.size)).length)).toArray, ?_, trivial, hw.upd hi I I I (by simp) (fun k hk hne => setRow_other w g k _ (fun e => hne (by rw [e]; rfl))) ?_ (fun k hk => .inl hk)⟩
   ·simp [execOp, resolve, evO_of_lookO hx, evO_of_lookO hy, invoke, builtin, hr]
   ·have := Vw.put (us := xs.drop (b * ti.size)) hxl hg hnc hcm hcs htake (a * ti.size) hfit
    rw [hnl] at this ⊢
    exact this
theorem zeroCells_flat {z : Value} {sz n : Nat} (hzl : (cellsL z).length = sz) (hsz : 0 < sz) : (Builtin.zeroCells z.cells n).toList = (List.replicate n (cellsL z)).flatten := by
 apply List.ext_getElem?
 intro j
 have e1 : z.cells = (cellsL z).toArray := cellsL_eq z
 by_cases hj : j < n * sz
 ·rw [flat_rep _ (by omega) n j (by rw [hzl]; exact hj)]
  rw [e1]
  have hmod : j % sz < sz := Nat.mod_lt _ hsz
  have hlt : j < n * (cellsL z).length := by rw [hzl]; exact hj
  simp only [Builtin.zeroCells, List.size_toArray, Array.getElem?_toList, Array.getElem?_map, Array.getElem?_range, hzl]
  rw [if_pos hj, Option.map_some]
  rw [getElem!_pos (cellsL z).toArray (j % sz) (by simpa [hzl] using hmod)]
  rw [List.getElem?_eq_getElem (by rw [hzl]; exact hmod)]
  congr 1
 ·have a1 : (Builtin.zeroCells z.cells n).toList.length = n * sz := by rw [Array.length_toList, size_zeroCells, e1, List.size_toArray, hzl]
  have a2 : ((List.replicate n (cellsL z)).flatten).length = n * sz := by rw [flat_rep_length, hzl]
  rw [List.getElem?_eq_none (by omega), List.getElem?_eq_none (by omega)]
theorem HL.appGrow {t tn e sz bytes : TypeId} {x y : Operand} {g off n c : Nat} {xs : List Value} {kq kn : IntKind} {z : Value} {mm : Int} (a m : Nat) (i : Nat) (hi : nthC H i = some (ownC (.slice (some ⟨g, off, none⟩) n c) e sz n xs)) (hE : Elem P t e sz bytes) (hz : (P.info? e).bind (·.zero) = some z) (htn : P.underlying tn = some (.int kn)) (hs : stat N ops ⟨some d, .call ⟨.builtin .append, #[x, y], #[t, tn]⟩, ty, pos, af, gd⟩ σ = true)
  (hx : lookO σ x = some (subV sz (.slice (some ⟨g, off, none⟩) n c) 0 a)) (hy : lookO σ y = some (.int kq mm)) (hmm : mm = (m : Int)) (han : a ≤ n) (hroom : c < a + m) (hac : n ≤ c) (hm0 : 0 < m) (hb : (a + m) * bytes ≤ 140737488355328) (h63 : a + m ≤ 9223372036854775807)
  (h : ∀ v', HL P N ops l ((d, v') :: σ) B (ownC v' e sz (a + m) (xs.take (a * sz) ++ (List.replicate m (cellsL z)).flatten) :: H) K) : HL P N ops (⟨some d, .call ⟨.builtin .append, #[x, y], #[t, tn]⟩, ty, pos, af, gd⟩ :: l) σ B H K := by
 subst hmm
 refine HL.opX (fun v => v) (fun v' => ownC v' e sz (a + m) (xs.take (a * sz) ++ (List.replicate m (cellsL z)).flatten) :: H) (fun _ => True) hs (fun w hw => ?_) (fun v' _ => h v')
 have hvw : Vw w (.slice (some ⟨g, off, none⟩) n c) e sz n xs := hw.nth hi
 obtain ⟨ti, z', g1, g2, g3, g4, g5⟩ := hE.info
 have hzz : z' = z := by rw [g1] at hz; simpa [g2] using hz
 subst hzz
 have hpos := hE.pos
 have hsub := hvw.sub (l := 0) (h := a) (Nat.zero_le _) han
 have hx0 : subV sz (.slice (some ⟨g, off, none⟩) n c) 0 a = .slice (some ⟨g, off, none⟩) a c := by
  simp only [subV]; split <;> simp [Addr.add]
 rw [hx0] at hx hsub
 simp only [Nat.zero_mul, List.drop_zero, Nat.sub_zero] at hsub
 obtain ⟨hxl, hv⟩ := hsub
 rcases hv with ⟨hh, _⟩ | ⟨g', off', cap', cur, hh, hg, hnc, hcm, hcs, htake⟩
 ·cases hh
 ·cases hh
  subst g3
  subst g4
  have holds : ∀ j u, (xs.take (a * ti.size))[j]? = some u → w.drew.cell? ((⟨g, off, none⟩ : Addr).add j) = some u := by
   intro j u hu
   have ha : (⟨g, off, none⟩ : Addr).add j = ⟨g, off + j, none⟩ := by unfold Addr.add; split <;> simp_all
   rw [ha]
   show w.cell? _ = _
   rw [cell_of_row w g (off + j) cur e (0, 0) hg]
   rw [← htake, List.getElem?_take] at hu
   split at hu
   ·simpa using hu
   ·cases hu
  have hzl : (cellsL z').length = ti.size := by
   have := g5; rw [cellsL_eq] at this; simpa using this
  have hfl : ((List.replicate m (cellsL z')).flatten).length = m * ti.size := by rw [flat_rep_length, hzl]
  have hzc : (Builtin.zeroCells z'.cells m).toList = (List.replicate m (cellsL z')).flatten := zeroCells_flat hzl hpos
  have hlen : (xs.take (a * ti.size) ++ (List.replicate m (cellsL z')).flatten).length = (a + m) * ti.size := by rw [List.length_append, hxl, hfl, Nat.add_mul]
  have hf := run_firstCells_some (P := P) w.drew ti.size a ⟨g, off, none⟩ a c (xs.take (a * ti.size)) hxl holds
  have hmb : m * ti.bytes ≤ 281474976710656 := by
   have : m * ti.bytes ≤ (a + m) * ti.bytes := Nat.mul_le_mul_right _ (by omega)
   omega
  have hr := Lib.run_append_grow_zeros (P := P) w t tn ty e ti z' kq kn hE.slice htn g1 g2 (some ⟨g, off, none⟩) a c (xs.take (a * ti.size)) hf m hm0 hpos hroom (by omega) hmb (growslice_fits (by omega) hb)
  have hge := grownCap_ge w (a + m) c e
  have hcm' : grownCap w (a + m) c e ≤ maxLen := grownCap_le_maxLen w (a + m) c e (by unfold maxLen; omega)
  refine ⟨_, _, ?_, trivial, hw.push (w' := w.drew.alloc (.cells ((xs.take (a * ti.size)).toArray ++ Builtin.zeroCells z'.cells m ++ Builtin.zeroCells z'.cells (grownCap w (a + m) c e - (a + m))) e)) ⟨rfl, rfl, rfl, by simp, fun k hk => heap_alloc_old w.drew _ hk⟩ ⟨hlen, .inr ⟨w.heap.size, 0, _, _, rfl, heap_alloc_new w.drew _, hge, hcm', ?_, ?_⟩⟩ (fun k hk => by cases hk; exact Nat.le_refl _)⟩
  ·simp [execOp, resolve, evO_of_lookO hx, evO_of_lookO hy, invoke, builtin, hr]
  ·simp only [Array.size_append, List.size_toArray, size_zeroCells, g5, hxl, ← Nat.add_mul]
   have : a + m + (grownCap w (a + m) c e - (a + m)) = grownCap w (a + m) c e := by omega
   rw [this]; omega
  ·simp only [Array.toList_append, List.append_assoc, List.drop_zero, hzc]
   rw [← List.append_assoc, ← hlen]
   exact List.take_left
theorem run_clearV {w : World} {t e sz : TypeId} {ty : TypeId} {z : Value} {g o n c : Nat} {cur : Array Value} {e' : TypeId} (ht : P.underlying t = some (.slice e)) (hz : (P.info? e).bind (·.zero) = some z) (hzl : (cellsL z).length = sz) (h1 : allOne (cellsL z) = true)
  (hg : w.heap[g]? = some (.cells cur e' (0, 0))) (hfit : o + n * sz ≤ cur.size) (hsz : 0 < sz) :
  (Builtin.clear_ #[t] ty #[.slice (some ⟨g, o, none⟩) n c]).run P w = .ok (.tuple #[]) (w.setRow g (cur.toList.take o ++ (List.replicate n (cellsL z)).flatten ++ cur.toList.drop (o + n * sz)).toArray) := by
 have hzc : (Builtin.zeroCells z.cells n).toList = (List.replicate n (cellsL z)).flatten := zeroCells_flat hzl hsz
 have hfl : ((List.replicate n (cellsL z)).flatten).length = n * sz := by rw [flat_rep_length, hzl]
 have hst := run_storeCells_at P g o e' ((List.replicate n (cellsL z)).flatten) 0 cur w hg (by rw [hfl]; omega) (fun u hu => by
  obtain ⟨l, hl, hu⟩ := List.mem_flatten.1 hu
  rw [List.eq_of_mem_replicate hl] at hu
  exact allOne_spec h1 u hu)
 simp only [Nat.add_zero, hfl] at hst
 cases n with
 | zero =>
  simp only [List.replicate_zero, List.flatten_nil, List.append_nil, Nat.zero_mul, Nat.add_zero, List.take_append_drop, Array.toArray_toList]
  rw [setRow_self w g cur e' (0, 0) hg]
  simp [Builtin.clear_, run_underlying ht]
 | succ n =>
  simp [Builtin.clear_, run_underlying ht, zero_run hz, hzc, hst]
theorem HL.clearO {t e sz : TypeId} {x : Operand} {z : Value} {g off n c : Nat} {xs : List Value} (a : Nat) (i : Nat) (hi : nthC H i = some (ownC (.slice (some ⟨g, off, none⟩) n c) e sz n xs)) (hs : stat N ops ⟨none, .call ⟨.builtin .clear, #[x], #[t]⟩, ty, pos, af, gd⟩ σ = true)
  (hT : P.underlying t = some (.slice e)) (hz : (P.info? e).bind (·.zero) = some z) (hzl : (cellsL z).length = sz) (h1 : allOne (cellsL z) = true) (hsz : 0 < sz) (hx : lookO σ x = some (.slice (some ⟨g, off + a * sz, none⟩) (n - a) (c - a))) (han : a ≤ n)
  (h : HL P N ops l σ B (setC H i (ownC (.slice (some ⟨g, off, none⟩) n c) e sz n (xs.take (a * sz) ++ (List.replicate (n - a) (cellsL z)).flatten))) K) : HL P N ops (⟨none, .call ⟨.builtin .clear, #[x], #[t]⟩, ty, pos, af, gd⟩ :: l) σ B H K := by
 refine HL.op0 (α := Unit) (fun _ => .tuple #[]) (fun _ => setC H i (ownC (.slice (some ⟨g, off, none⟩) n c) e sz n (xs.take (a * sz) ++ (List.replicate (n - a) (cellsL z)).flatten))) (fun _ => True) hs (fun w hw => ?_) (fun _ _ => h)
 obtain ⟨hxl, hv⟩ : Vw w (.slice (some ⟨g, off, none⟩) n c) e sz n xs := hw.nth hi
 rcases hv with ⟨hh, _⟩ | ⟨g', off', cap', cur, hh, hg, hnc, hcm, hcs, htake⟩
 ·cases hh
 ·cases hh
  have m1 : a * sz + (n - a) * sz = n * sz := by rw [← Nat.add_mul]; congr 1; omega
  have m2 : n * sz ≤ c * sz := Nat.mul_le_mul_right _ hnc
  have hfl : ((List.replicate (n - a) (cellsL z)).flatten).length = (n - a) * sz := by rw [flat_rep_length, hzl]
  have hr := run_clearV (P := P) (ty := ty) (c := c - a) (n := n - a) (o := off + a * sz) hT hz hzl h1 hg (by omega) hsz
  have hp := Vw.put (us := (List.replicate (n - a) (cellsL z)).flatten) hxl hg hnc hcm hcs htake (a * sz) (by rw [hfl, hxl]; omega)
  rw [hfl, List.drop_eq_nil_of_le (by omega : xs.length ≤ a * sz + (n - a) * sz), List.append_nil] at hp
  refine ⟨(), w.setRow g (cur.toList.take (off + a * sz) ++ (List.replicate (n - a) (cellsL z)).flatten ++ cur.toList.drop (off + a * sz + (n - a) * sz)).toArray, ?_, trivial, hw.upd hi I I I (by simp) (fun k hk hne => setRow_other w g k _ (fun e => hne (by rw [e]; rfl))) hp (fun k hk => .inl hk)⟩
  simp [execOp, resolve, evO_of_lookO hx, invoke, builtin, hr]
theorem hx_subI {t e sz : TypeId} {x : Operand} {lo hi : Option Operand} {n a b : Nat} {cs : List Value} (hv : Rd B H v cs n) (hT : P.underlying t = some (.slice e)) (hS : (P.info? e).map (·.size) = some sz) (hx : lookO σ x = some v)
  (hlo : (lo = none ∧ a = 0) ∨ ∃ y k m, lo = some y ∧ lookO σ y = some (.int k m) ∧ m = (a : Int)) (hhi : (hi = none ∧ b = n) ∨ ∃ y k m, hi = some y ∧ lookO σ y = some (.int k m) ∧ m = (b : Int)) (h1 : a ≤ b) (h2 : b ≤ n) :
  ∀ w, Sat B H w → (execOp (evO σ) ⟨d', .slice t x lo hi none, ty, pos, af, gd⟩).run P w = .ok (.value (subV sz v a b)) w :=
 hx_sub hv hT hS hx (hlo.imp id fun ⟨y, k, m, h3, h4, h5⟩ => ⟨y, k, h3, by rw [h4, h5]⟩) (hhi.imp id fun ⟨y, k, m, h3, h4, h5⟩ => ⟨y, k, h3, by rw [h4, h5]⟩) h1 h2
theorem HL.subI {t e sz : TypeId} {x : Operand} {lo hi : Option Operand} {n : Nat} (a b : Nat) {cs : List Value} (hv : Rd B H v cs n) (hs : stat N ops ⟨some d, .slice t x lo hi none, ty, pos, af, gd⟩ σ = true) (hT : P.underlying t = some (.slice e)) (hS : (P.info? e).map (·.size) = some sz) (hx : lookO σ x = some v)
  (hlo : (lo = none ∧ a = 0) ∨ ∃ y k m, lo = some y ∧ lookO σ y = some (.int k m) ∧ m = (a : Int)) (hhi : (hi = none ∧ b = n) ∨ ∃ y k m, hi = some y ∧ lookO σ y = some (.int k m) ∧ m = (b : Int)) (h1 : a ≤ b) (h2 : b ≤ n)
  (h : HL P N ops l ((d, subV sz v a b) :: σ) B H K) : HL P N ops (⟨some d, .slice t x lo hi none, ty, pos, af, gd⟩ :: l) σ B H K := HL.rd hs (hx_subI hv hT hS hx hlo hhi h1 h2) h
theorem hx_cap {x : Operand} {t e : TypeId} {ad : Option Addr} {n c : Nat} (hT : P.underlying t = some (.slice e)) (hx : lookO σ x = some (.slice ad n c)) (w : World) :
  (execOp (evO σ) ⟨d', .call ⟨.builtin .cap, #[x], #[t]⟩, ty, pos, af, gd⟩).run P w = .ok (.value (.int .i64 (c : Int))) w := by
 simp [execOp, resolve, evO_of_lookO hx, invoke, builtin, Builtin.cap_, run_underlying hT, goInt]
theorem HL.capO {x : Operand} {t e : TypeId} {ad : Option Addr} {n c : Nat} (hs : stat N ops ⟨some d, .call ⟨.builtin .cap, #[x], #[t]⟩, ty, pos, af, gd⟩ σ = true) (hT : P.underlying t = some (.slice e)) (hx : lookO σ x = some (.slice ad n c))
  (h : HL P N ops l ((d, .int .i64 (c : Int)) :: σ) B H K) : HL P N ops (⟨some d, .call ⟨.builtin .cap, #[x], #[t]⟩, ty, pos, af, gd⟩ :: l) σ B H K := HL.rd hs (fun w _ => hx_cap hT hx w) h
theorem HL.ovl {g : FuncId} {fn : Func} {x y : Operand} {tys : Array TypeId} {tS tR e sz : TypeId} {ga oa na ca gb ob nb cb o2 n2 c2 : Nat} {xa xb : List Value} {ea sza eb szb : Nat} (i j : Nat) (hi : nthC H i = some (ownC (.slice (some ⟨ga, oa, none⟩) na ca) ea sza na xa)) (hj : nthC H j = some (ownC (.slice (some ⟨gb, ob, none⟩) nb cb) eb szb nb xb)) (hij : i ≠ j)
    (hs : stat N ops ⟨some d, .call ⟨.value (.func g), #[x, y], tys⟩, ty, pos, af, gd⟩ σ = true) (hx : lookO σ x = some (.slice (some ⟨ga, oa, none⟩) na ca)) (hy : lookO σ y = some (.slice (some ⟨gb, o2, none⟩) n2 c2))
    (hT : P.underlying tS = some (.slice e)) (hS : (P.info? e).map (·.size) = some sz) (hcb : 0 < cb) (hszb : 0 < szb)
    (hf : P.funcs[g]? = some fn) (hname : (fn.name == "runtime.NumGoroutine") = false) (hb : fn.body.isNone = true) (hn : Extern.findNext fn = none) (he : Extern.find fn = some (Extern.SlicesOverlaps.overlaps #[tS, tS] #[tR]))
    (h : HL P N ops l ((d, .bool false) :: σ) B H K) : HL P N ops (⟨some d, .call ⟨.value (.func g), #[x, y], tys⟩, ty, pos, af, gd⟩ :: l) σ B H K := by
  refine HL.rd hs (fun w hw => ?_) h
  have hz : ∀ w, (Go.sizeOf e).run P w = .ok sz w := by
    intro w
    cases hq : P.info? e with
    | none => rw [hq] at hS; cases hS
    | some ti => rw [hq] at hS; simp at hS; simp [sizeOf, typeInfo, hq, hS]
  have hne : ga ≠ gb := fun e' => hw.all.apart hi hj hij ga I (by rw [e']; rfl)
  obtain ⟨_, h1⟩ : Vw w (.slice (some ⟨ga, oa, none⟩) na ca) ea sza na xa := hw.nth hi
  obtain ⟨_, h2⟩ : Vw w (.slice (some ⟨gb, ob, none⟩) nb cb) eb szb nb xb := hw.nth hj
  rcases h1 with ⟨h1, _⟩ | ⟨ga', oa', ca', cura, h1, hga, hna, hca, hcsa, _⟩
  · cases h1
  cases h1
  rcases h2 with ⟨h2, _⟩ | ⟨gb', ob', cb', curb, h2, hgb, hnb, hcb', hcsb, _⟩
  · cases h2
  cases h2
  have hk : curb.size ≠ 0 := by
    have : 1 * 1 ≤ cb * szb := Nat.mul_le_mul hcb hszb
    omega
  have hov := Lib.run_overlaps_apart (P := P) w tS tR e hT sz hz ⟨ga, oa, none⟩ ⟨gb, o2, none⟩ na ca n2 c2 hne ea eb cura.size curb.size (by simp [World.shape?, hga]) (by simp [World.shape?, hgb]) hk (by simp [World.frozen?, hga]) (by simp [World.frozen?, hga])
  have hc := run_callFunc_extern hf hname hb hn he #[.slice (some ⟨ga, oa, none⟩) na ca, .slice (some ⟨gb, o2, none⟩) n2 c2] w
  rw [hov] at hc
  have e1 : evO σ (.func g) = .func (.func g) #[] #[] := rfl
  simp [execOp, resolve, Deferred.ofValue, e1, evO_of_lookO hx, evO_of_lookO hy, invoke, hc]
end
end Go.GX
namespace Go.GX
open Go.RowKit
def AllQ (w : World) : List Chunk → Prop
 | [] => True
 | c :: H => c.p w ∧ (∀ d ∈ H, ∀ k, c.foot k → ¬ d.foot k) ∧ AllQ w H
theorem AllQ.mem {w : World} : ∀ {H : List Chunk}, AllQ w H → ∀ c ∈ H, c.p w
 | [], _, c, hc => by cases hc
 | d :: H, h, c, hc => by
  rcases List.mem_cons.1 hc with rfl | hc
  ·exact h.1
  ·exact AllQ.mem h.2.2 c hc
theorem AllQ.loc {w w' : World} : ∀ {H : List Chunk}, (∀ k, feet H k → w'.heap[k]? = w.heap[k]?) → AllQ w H → AllQ w' H
 | [], _, _ => trivial
 | c :: H, h, ha => ⟨c.loc w w' (fun k hk => h k ⟨c, List.mem_cons_self .., hk⟩) ha.1, ha.2.1, AllQ.loc (fun k ⟨d, hd, hk⟩ => h k ⟨d, List.mem_cons_of_mem _ hd, hk⟩) ha.2.2⟩
def groupC (G : List Chunk) : Chunk where
 foot := feet G
 p := fun w => AllQ w G
 loc := fun _ _ h hp => AllQ.loc h hp
 lt := fun w hp k ⟨c, hc, hk⟩ => c.lt w (AllQ.mem hp c hc) k hk
theorem AllP.q {B : Base} {w : World} : ∀ {H : List Chunk}, AllP B w H → AllQ w H
 | [], _ => trivial
 | c :: H, h => ⟨h.1, h.2.2.1, AllP.q h.2.2.2⟩
theorem AllP.of_q {B : Base} {w : World} : ∀ {H : List Chunk}, AllQ w H → (∀ k, feet H k → B.w.heap.size ≤ k ∨ B.X k) → AllP B w H
 | [], _, _ => trivial
 | c :: H, h, hb => ⟨h.1, fun k hk => hb k ⟨c, List.mem_cons_self .., hk⟩, h.2.1, AllP.of_q h.2.2 fun k ⟨d, hd, hk⟩ => hb k ⟨d, List.mem_cons_of_mem _ hd, hk⟩⟩
theorem Sat.group {B : Base} {G H : List Chunk} {w : World} (h : Sat B (G ++ H) w) : Sat B (groupC G :: H) w := by
 obtain ⟨h1, h2, h3⟩ := h.all.split
 exact ⟨h.os, h.tape, h.output, h.size, h.block, h1.q, fun k ⟨c, hc, hk⟩ => (h1.mem c hc).2 k hk, fun d hd k ⟨c, hc, hk⟩ => h3 c hc d hd k hk, h2⟩
theorem Sat.ungroup {B : Base} {G H : List Chunk} {w : World} (h : Sat B (groupC G :: H) w) : Sat B (G ++ H) w := by
 obtain ⟨h1, h2, h3, h4⟩ := h.all
 exact ⟨h.os, h.tape, h.output, h.size, h.block, AllP.append (AllP.of_q h1 h2) h4 fun c hc d hd k hk => h3 d hd k ⟨c, hc, hk⟩⟩
theorem AllP.sub {B : Base} {w : World} {H : List Chunk} (ha : AllP B w H) {H' : List Chunk} (hs : ∃ L, H.Perm (H' ++ L)) : AllP B w H' := by
 obtain ⟨L, hp⟩ := hs
 have key : ∀ {H K : List Chunk}, H.Perm K → AllP B w H → AllP B w K := by
  intro H K hp
  induction hp with
  | nil => exact id
  | cons c hp ih => exact fun h => ⟨h.1, h.2.1, fun d hd => h.2.2.1 d (hp.mem_iff.2 hd), ih h.2.2.2⟩
  | swap c d l => exact fun h => ⟨h.2.2.2.1, h.2.2.2.2.1, fun e he k hk => by
    rcases List.mem_cons.1 he with rfl | he
    ·exact fun hk' => h.2.2.1 c (List.mem_cons_self ..) k hk' hk
    ·exact h.2.2.2.2.2.1 e he k hk, h.1, h.2.1, fun e he => h.2.2.1 e (List.mem_cons_of_mem _ he), h.2.2.2.2.2.2⟩
  | trans _ _ ih1 ih2 => exact fun h => ih2 (ih1 h)
 exact (AllP.split (key hp ha)).1
theorem Sat.sub {B : Base} {H H' : List Chunk} {w : World} (h : Sat B H w) (hs : ∃ L, H.Perm (H' ++ L)) : Sat B H' w := ⟨h.os, h.tape, h.output, h.size, h.block, h.all.sub hs⟩
theorem Ent.group {B : Base} {G H : List Chunk} : Ent B (G ++ H) (groupC G :: H) := fun _ h => h.group
theorem Ent.gtake {B : Base} {A C H : List Chunk} {c : Chunk} : Ent B (groupC (A ++ c :: C) :: H) (c :: groupC (A ++ C) :: H) := fun w h => by
 have h1 := h.ungroup
 have h2 : Sat B ((A ++ C) ++ (c :: H)) w := h1.sub ⟨[], by
  simp only [List.append_assoc, List.cons_append, List.append_nil]
  exact List.Perm.append_left A (List.perm_middle.symm)⟩
 have h3 := h2.group
 exact h3.sub ⟨[], by simp only [List.append_nil]; exact List.Perm.swap _ _ _⟩
theorem Ent.gdrop {B : Base} {G G' H : List Chunk} (L : List Chunk) (hp : G.Perm (G' ++ L)) : Ent B (groupC G :: H) (groupC G' :: H) := fun w h => by
 have h1 := h.ungroup
 have h2 : Sat B (G' ++ H) w := h1.sub ⟨L, by
  refine (List.Perm.append_right H hp).trans ?_
  simp only [List.append_assoc]
  exact List.Perm.append_left G' List.perm_append_comm⟩
 exact h2.group
theorem Ent.gjoin {B : Base} {G G' H : List Chunk} : Ent B (groupC G :: groupC G' :: H) (groupC (G' ++ G) :: H) := fun w h => by
 have h1 := h.ungroup
 have h2 : Sat B (groupC G' :: (G ++ H)) w := h1.sub ⟨[], by simp only [List.append_nil]; exact List.perm_middle⟩
 have h3 := h2.ungroup
 rw [← List.append_assoc] at h3
 exact h3.group
theorem Ent.gnil {B : Base} {H : List Chunk} : Ent B H (groupC [] :: H) := fun w h => Sat.group (G := []) h
theorem Rd.group {B : Base} {H G : List Chunk} {v : Value} {e sz n : Nat} {xs : List Value} (i : Nat) (hi : nthC H i = some (groupC G)) (hc : ownC v e sz n xs ∈ G) : Rd B H v xs n := fun w hw => (show Vw w v e sz n xs from AllQ.mem (hw.nth hi) _ hc).sl
section
variable {P : Program} {f : FuncId} {N : Nat} {k : List Item} {σ : Store} {B : Base} {H : List Chunk} {R : Ending → World → Prop} {ops l : List Oper} {o : Oper} {K : Act → World → Prop} {KQ : Act → Prop}
variable {d : Nat} {d' : Option Nat} {ty : TypeId} {pos : String} {af : Array Edge} {gd : Option (Nat × Bool)} {u v : Value}
def eqOne (P : Program) (t : TypeId) (x y : Value) : Option Bool := match eqCell P t x y with
 | some b => some b
 | none => match x, y with
  | .agg ⟨us⟩, .agg ⟨vs⟩ => if P.stoodInHeld t = false then eqStruct P t us vs else none
  | _, _ => none
def eqFields2 (P : Program) (xs ys : List Value) : List Field → Option Bool
  | [] => some true
  | f :: fs => match f.name == "_", partE P f.type xs f.offset, partE P f.type ys f.offset with
    | false, some x, some y => match eqOne P f.type x y, eqFields2 P xs ys fs with
      | some b, some r => some (b && r)
      | _, _ => none
    | _, _, _ => none
theorem eqOne_run {t : TypeId} {x y : Value} {b : Bool} (h : eqOne P t x y = some b) (n : Nat) (w : World) : (Op.equalIn (n + 2) t x y).run P w = .ok b w := by
 unfold eqOne at h
 split at h
 ·rename_i b' hb
  cases h
  exact (eqCell_run hb (n + 1) w).1
 ·split at h
  ·rename_i us vs hq
   by_cases hp : P.stoodInHeld t = false
   rotate_left
   ·rw [if_neg hp] at h; cases h
   rw [if_pos hp] at h
   unfold eqStruct at h
   split at h
   ·rename_i fl hu
    have hf : P.fieldsOf t = ⟨fl⟩ := by unfold Program.fieldsOf; rw [hu]
    have := run_equalIn_struct (P := P) w (n + 1) t ⟨us⟩ ⟨vs⟩ (by rw [hf, hu]) hp
    rw [this, hf]
    exact eqFieldsE_run n w h
   ·cases h
  ·cases h
theorem eqFields2_run {xs ys : List Value} (n : Nat) (w : World) : ∀ {fs : List Field} {b : Bool}, eqFields2 P xs ys fs = some b → (Op.eqFields (n + 2) ⟨xs⟩ ⟨ys⟩ fs).run P w = .ok b w
  | [], b, h => by simp [eqFields2] at h; subst h; simp [Op.eqFields]
  | f :: fs, b, h => by
    unfold eqFields2 at h
    split at h
    · rename_i x y hn hx hy
      split at h
      · rename_i b' r hb hr
        cases h
        have h1 := eqOne_run hb n w
        have p1 := partE_run hx w
        have p2 := partE_run hy w
        have hn' : f.name ≠ "_" := by simpa using hn
        have ih := eqFields2_run n w hr
        simp only [Op.eqFields, hn', ne_eq, not_false_eq_true, if_true, Sem.run_bind, p1, p2, Result.andThen_ok, h1]
        cases b' <;> simp [ih]
      · cases h
    · cases h
def eqStruct2 (P : Program) (t : TypeId) (xs ys : List Value) : Option Bool :=
 match P.underlying t with
 | some (.struct ⟨fl⟩) => eqFields2 P xs ys fl
 | _ => none
theorem eqStruct2_run {t : TypeId} {xs ys : List Value} {b : Bool} (hp : P.stoodInHeld t = false) (h : eqStruct2 P t xs ys = some b) (w : World) : (Op.equal t (.agg ⟨xs⟩) (.agg ⟨ys⟩)).run P w = .ok b w := by
 unfold eqStruct2 at h
 split at h
 ·rename_i fl hu
  have hf : P.fieldsOf t = ⟨fl⟩ := by unfold Program.fieldsOf; rw [hu]
  have := run_equalIn_struct (P := P) w 9999 t ⟨xs⟩ ⟨ys⟩ (by rw [hf, hu]) hp
  unfold Op.equal
  show (Op.equalIn (9999 + 1) t (.agg ⟨xs⟩) (.agg ⟨ys⟩)).run P w = _
  rw [this, hf]
  exact eqFields2_run 9997 w h
 ·cases h
theorem hx_neS2 {t t' : TypeId} {x y : Operand} {xs ys : List Value} {b : Bool} (hp : P.stoodInHeld t = false) (hm : P.eqGuardType P.depth t = false) (hx : lookO σ x = some (.agg ⟨xs⟩)) (hy : lookO σ y = some (.agg ⟨ys⟩)) (h : eqStruct2 P t xs ys = some b) (w : World) :
  (execOp (evO σ) ⟨d', .binOp .neq t x y t', ty, pos, af, gd⟩).run P w = .ok (.value (.bool (!b))) w := by
 have h1 := eqStruct2_run hp h w
 have h2 := run_eqGuard_agg (P := P) w .neq t x y ⟨xs⟩ ⟨ys⟩ hm
 simp [execOp, evO_of_lookO hx, evO_of_lookO hy, h2, binOp, h1]
theorem RunQ.neS2 {C : World → Prop} {t t' : TypeId} {x y : Operand} {xs ys : List Value} {b : Bool} (hs : stat N ops ⟨some d, .binOp .neq t x y t', ty, pos, af, gd⟩ σ = true) (hp : P.stoodInHeld t = false) (hm : P.eqGuardType P.depth t = false) (hx : lookO σ x = some (.agg ⟨xs⟩)) (hy : lookO σ y = some (.agg ⟨ys⟩)) (hb : eqStruct2 P t xs ys = some b)
  (h : RunQ P N C ops l ((d, .bool (!b)) :: σ) KQ) : RunQ P N C ops (⟨some d, .binOp .neq t x y t', ty, pos, af, gd⟩ :: l) σ KQ := RunQ.op hs (fun w _ => hx_neS2 hp hm hx hy hb w) h
end
end Go.GX
namespace Go.GX
open Go.RowKit
structure Ed where
 a : Int
 b : Int
 deriving DecidableEq
def edC (e : Ed) : List Value := [.int .i64 e.a, .int .i64 e.b]
theorem edC_len (e : Ed) : (edC e).length = 2 := rfl
namespace Tp
def okN (n : Int) : Bool := decide (n ≥ 0) && decide (n ≤ 250)
def okE (e : Ed) : Bool := okN e.a && okN e.b && (e.a != e.b)
def link (e : Ed) : Ed := ⟨if e.b < e.a then e.b else e.a, if e.b > e.a then e.b else e.a⟩
def same (a b : Ed) : Bool := (a.a == b.a && (a.b == b.b && true)) || (a.a == b.b && a.b == b.a)
theorem same_link (x y : Ed) : same x y = decide (link x = link y) := by
 obtain ⟨a, b⟩ := x
 obtain ⟨c, d⟩ := y
 simp only [same, link]
 rw [Bool.eq_iff_iff]
 simp only [Bool.or_eq_true, Bool.and_eq_true, beq_iff_eq, and_true, decide_eq_true_eq, Ed.mk.injEq]
 split <;> split <;> split <;> split <;> omega
def chk (pre : List Ed) : List Ed → Int
 | [] => 0
 | e :: r => if okE e = false then 2 else if link e ∈ pre.map link then 9 else chk (pre ++ [e]) r
def check (l : List Ed) : Int := if l.length > 256 then 3 else chk [] l
theorem chk_at {l : List Ed} {j : Nat} {e : Ed} (he : l[j]? = some e) (hok : okE e = true) (hn : link e ∉ (l.take j).map link) : chk (l.take j) (l.drop j) = chk (l.take (j + 1)) (l.drop (j + 1)) := by
 rw [drop_get he, chk, if_neg (by rw [hok]; decide), if_neg hn, take_succ_get he]
theorem chk_bad {l : List Ed} {j : Nat} {e : Ed} (he : l[j]? = some e) (hok : okE e = false) : chk (l.take j) (l.drop j) = 2 := by
 rw [drop_get he, chk, if_pos hok]
theorem chk_dup {l : List Ed} {j : Nat} {e : Ed} (he : l[j]? = some e) (hok : okE e = true) (hn : link e ∈ (l.take j).map link) : chk (l.take j) (l.drop j) = 9 := by
 rw [drop_get he, chk, if_neg (by rw [hok]; decide), if_pos hn]
end Tp
end Go.GX
namespace Go.GX.Tp
open Go.GX
def nodes : List Int := (List.range 251).map Int.ofNat
theorem mem_nodes {n : Int} : n ∈ nodes ↔ okN n = true := by
  simp only [nodes, List.mem_map, List.mem_range, okN, Bool.and_eq_true, decide_eq_true_eq]
  constructor
  · rintro ⟨k, hk, rfl⟩
    exact ⟨Int.natCast_nonneg k, by have : (k : Int) ≤ 250 := by omega
                                    exact this⟩
  · rintro ⟨h1, h2⟩
    exact ⟨n.toNat, by omega, by simp; omega⟩
theorem nodes_sorted : nodes.Pairwise (· < ·) := by
 unfold nodes
 rw [List.pairwise_map]
 exact List.pairwise_lt_range.imp fun h => by simpa using h
def linked (l : List Ed) (a b : Int) : Bool := l.any fun e => okE e && same e ⟨a, b⟩
theorem linked_iff {l : List Ed} {a b : Int} : linked l a b = true ↔ ∃ e ∈ l, okE e = true ∧ (e = ⟨a, b⟩ ∨ e = ⟨b, a⟩) := by
 simp only [linked, List.any_eq_true, Bool.and_eq_true, same, Bool.or_eq_true, beq_iff_eq, and_true]
 constructor
 ·rintro ⟨⟨x, y⟩, he, hok, h⟩
  refine ⟨⟨x, y⟩, he, hok, ?_⟩
  rcases h with ⟨h1, h2⟩ | ⟨h1, h2⟩
  ·left; simp_all
  ·right; simp_all
 ·rintro ⟨⟨x, y⟩, he, hok, h⟩
  refine ⟨⟨x, y⟩, he, hok, ?_⟩
  rcases h with h | h
  ·left; simp_all
  ·right; simp_all
theorem linked_symm {l : List Ed} {a b : Int} : linked l a b = linked l b a := by
 rw [Bool.eq_iff_iff, linked_iff, linked_iff]
 constructor <;> (rintro ⟨e, h1, h2, h3⟩; exact ⟨e, h1, h2, h3.symm⟩)
theorem linked_ok {l : List Ed} {a b : Int} (h : linked l a b = true) : okN a = true ∧ okN b = true ∧ a ≠ b := by
 obtain ⟨e, _, hok, h⟩ := linked_iff.1 h
 simp only [okE, Bool.and_eq_true, bne_iff_ne, ne_eq] at hok
 rcases h with rfl | rfl
 ·exact ⟨hok.1.1, hok.1.2, hok.2⟩
 ·exact ⟨hok.1.2, hok.1.1, fun e => hok.2 e.symm⟩
def nbrs (l : List Ed) (n : Int) : List Int := nodes.filter (linked l n)
theorem mem_nbrs {l : List Ed} {n k : Int} : k ∈ nbrs l n ↔ linked l n k = true := by
 simp only [nbrs, List.mem_filter, mem_nodes]
 exact ⟨fun h => h.2, fun h => ⟨(linked_ok h).2.1, h⟩⟩
theorem nbrs_sorted (l : List Ed) (n : Int) : (nbrs l n).Pairwise (· < ·) := nodes_sorted.sublist List.filter_sublist
theorem nbrs_len (l : List Ed) (n : Int) : (nbrs l n).length ≤ 251 := by
 have := List.length_filter_le (linked l n) nodes
 have h2 : nodes.length = 251 := by simp [nodes]
 unfold nbrs; omega
theorem sorted_ext : ∀ {a b : List Int}, a.Pairwise (· < ·) → b.Pairwise (· < ·) → (∀ x, x ∈ a ↔ x ∈ b) → a = b
 | [], [], _, _, _ => rfl
 | [], y :: b, _, _, h => by have := (h y).2 (List.mem_cons_self ..); cases this
 | x :: a, [], _, _, h => by have := (h x).1 (List.mem_cons_self ..); cases this
 | x :: a, y :: b, ha, hb, h => by
  obtain ⟨ha1, ha2⟩ := List.pairwise_cons.1 ha
  obtain ⟨hb1, hb2⟩ := List.pairwise_cons.1 hb
  have hxy : x = y := by
   rcases List.mem_cons.1 ((h x).1 (List.mem_cons_self ..)) with e | e
   ·exact e
   ·rcases List.mem_cons.1 ((h y).2 (List.mem_cons_self ..)) with e' | e'
    ·exact e'.symm
    ·have := hb1 x e; have := ha1 y e'; omega
  subst hxy
  congr 1
  refine sorted_ext ha2 hb2 fun z => ?_
  constructor
  ·intro hz
   rcases List.mem_cons.1 ((h z).1 (List.mem_cons_of_mem _ hz)) with e | e
   ·subst e; have := ha1 z hz; omega
   ·exact e
  ·intro hz
   rcases List.mem_cons.1 ((h z).2 (List.mem_cons_of_mem _ hz)) with e | e
   ·subst e; have := hb1 z hz; omega
   ·exact e
theorem sort_unique {a : List Int} {s : List Int} (hp : s.Perm a) (hs : s.Pairwise (· ≤ ·)) (hn : a.Nodup) {b : List Int} (hb : b.Pairwise (· < ·)) (hm : ∀ x, x ∈ a ↔ x ∈ b) : s = b := by
 refine sorted_ext ?_ hb fun x => by rw [hp.mem_iff, hm]
 have hn' : s.Nodup := hp.nodup_iff.2 hn
 exact (hs.and hn').imp fun ⟨h1, h2⟩ => by omega
structure Adj (l : List Ed) (adj : Int → List Int) : Prop where
 nodup : ∀ n, (adj n).Nodup
 mem : ∀ n x, x ∈ adj n ↔ linked l n x = true
theorem Adj.nil : Adj [] fun _ => [] := ⟨fun _ => List.nodup_nil, fun n x => by simp [linked]⟩
theorem linked_snoc {l : List Ed} {e : Ed} {a b : Int} : linked (l ++ [e]) a b = (linked l a b || (okE e && same e ⟨a, b⟩)) := by simp [linked]
theorem link_in {l : List Ed} {a b : Int} (hab : a ≠ b) (h1 : okN a = true) (h2 : okN b = true) : linked l a b = true ↔ ∃ e ∈ l, okE e = true ∧ link e = link ⟨a, b⟩ := by
 rw [linked_iff]
 have : ∀ e : Ed, (e = ⟨a, b⟩ ∨ e = ⟨b, a⟩) ↔ link e = link ⟨a, b⟩ := by
  intro e
  have := same_link e ⟨a, b⟩
  have h3 : (same e ⟨a, b⟩ = true) ↔ (e = ⟨a, b⟩ ∨ e = ⟨b, a⟩) := by
   obtain ⟨x, y⟩ := e
   simp [same]
  rw [← h3, this, decide_eq_true_eq]
 exact ⟨fun ⟨e, h1, h2, h3⟩ => ⟨e, h1, h2, (this e).1 h3⟩, fun ⟨e, h1, h2, h3⟩ => ⟨e, h1, h2, (this e).2 h3⟩⟩
def upd (adj : Int → List Int) (n : Int) (xs : List Int) : Int → List Int := fun k => if k = n then xs else adj k
theorem Adj.skip {l : List Ed} {adj : Int → List Int} {e : Ed} (h : Adj l adj) (hs : okE e = false ∨ ∃ e' ∈ l, okE e' = true ∧ link e' = link e) : Adj (l ++ [e]) adj := by
 refine ⟨h.nodup, fun n x => ?_⟩
 rw [h.mem, linked_snoc]
 rcases hs with hs | ⟨e', h1, h2, h3⟩
 ·simp [hs]
 ·constructor
  ·intro h; simp [h]
  ·intro hh
   rcases Bool.or_eq_true_iff.1 hh with hh | hh
   ·exact hh
   ·obtain ⟨hok, hsm⟩ := Bool.and_eq_true_iff.1 hh
    rw [same_link, decide_eq_true_eq] at hsm
    simp only [linked, List.any_eq_true, Bool.and_eq_true]
    exact ⟨e', h1, h2, by rw [same_link, h3, hsm]; simp⟩
theorem Adj.add {l : List Ed} {adj : Int → List Int} {e : Ed} (h : Adj l adj) (hok : okE e = true) (hs : ∀ e' ∈ l, okE e' = true → link e' ≠ link e) : Adj (l ++ [e]) (upd (upd adj e.a (adj e.a ++ [e.b])) e.b (adj e.b ++ [e.a])) := by
 obtain ⟨a, b⟩ := e
 have hok' := hok
 simp only [okE, Bool.and_eq_true, bne_iff_ne, ne_eq] at hok'
 obtain ⟨⟨ha, hb⟩, hab⟩ := hok'
 have hn : linked l a b = false := by
  rw [← Bool.not_eq_true]
  intro hl
  obtain ⟨e', h1, h2, h3⟩ := (link_in hab ha hb).1 hl
  exact hs e' h1 h2 h3
 have hn2 : linked l b a = false := by rw [linked_symm]; exact hn
 have nb : b ∉ adj a := fun hm => by rw [h.mem, hn] at hm; cases hm
 have na : a ∉ adj b := fun hm => by rw [h.mem, hn2] at hm; cases hm
 have nd : ∀ (n x : Int), x ∉ adj n → (adj n ++ [x]).Nodup := fun n x hx => List.nodup_append.2 ⟨h.nodup n, by simp, fun y hy z hz => by simp at hz; subst hz; exact fun e => hx (e ▸ hy)⟩
 refine ⟨fun n => ?_, fun n x => ?_⟩
 ·simp only [upd]
  split
  ·exact nd _ _ na
  ·split
   ·exact nd _ _ nb
   ·exact h.nodup n
 ·rw [linked_snoc, hok]
  simp only [upd, same, Bool.true_and]
  by_cases h1 : n = b
  ·subst h1
   have : ¬ n = a := fun e => hab e.symm
   rw [if_pos rfl, List.mem_append, h.mem]
   simp only [List.mem_singleton, Bool.or_eq_true, Bool.and_eq_true, beq_iff_eq, and_true]
   grind
  ·rw [if_neg h1]
   by_cases h2 : n = a
   ·subst h2
    rw [if_pos rfl, List.mem_append, h.mem]
    simp only [List.mem_singleton, Bool.or_eq_true, Bool.and_eq_true, beq_iff_eq, and_true]
    grind
   ·rw [if_neg h2, h.mem]
    simp only [Bool.or_eq_true, Bool.and_eq_true, beq_iff_eq, and_true]
    grind
theorem Adj.len {l : List Ed} {adj : Int → List Int} (h : Adj l adj) (n : Int) : (adj n).length ≤ 251 := by
 have h1 : (adj n).Subset nodes := fun x hx => mem_nodes.2 (linked_ok ((h.mem n x).1 hx)).2.1
 have := List.Nodup.length_le_of_subset (h.nodup n) h1
 simpa [nodes] using this
end Go.GX.Tp
namespace Tf
open Go.GX
abbrev srt (b : List Int) : List Int := b.mergeSort fun x y => decide (x ≤ y)
abbrev dif (b : List Int) : List Int := Go.Lib.compact (srt b)
theorem srt_sorted (b : List Int) : (srt b).Pairwise fun x y => x ≤ y := by
 have := List.pairwise_mergeSort (le := fun x y : Int => decide (x ≤ y)) (fun a b c h1 h2 => by simp only [decide_eq_true_eq] at *; omega) (fun a b => by simp only [Bool.or_eq_true, decide_eq_true_eq]; omega) b
 exact this.imp fun h => by simpa using h
theorem upTo_spec {zs : List Int} (hs : zs.Pairwise fun x y => x ≤ y) : ∀ m, m ≤ zs.length → (Go.Lib.compactUpTo zs.toArray m).Pairwise (fun x y => x < y) ∧ ∀ x, x ∈ Go.Lib.compactUpTo zs.toArray m ↔ x ∈ zs.take m
 | 0, _ => by simp [Go.Lib.compactUpTo]
 | m + 1, hm => by
  obtain ⟨h1, h2⟩ := upTo_spec hs m (by omega)
  obtain ⟨a, ha⟩ := getSome (show m < zs.length by omega)
  have hma : zs.toArray[m]! = a := by
   obtain ⟨hl, he⟩ := List.getElem?_eq_some_iff.1 ha
   rw [getElem!_pos zs.toArray m (by simpa using hl)]; simpa using he
  rw [Go.Lib.compactUpTo_succ, take_succ_get ha, hma]
  by_cases hk : Go.Lib.keeps zs.toArray m = true
  ·rw [if_pos hk]
   refine ⟨List.pairwise_append.2 ⟨h1, List.pairwise_singleton _ _, fun x hx y hy => ?_⟩, fun x => by simp [h2 x]⟩
   rw [List.mem_singleton] at hy
   subst hy
   have hx := (h2 x).1 hx
   obtain ⟨j, hj⟩ := List.getElem?_of_mem hx
   have hjm : j < m := by have := (List.getElem?_eq_some_iff.1 hj).1; simp at this; omega
   rw [List.getElem?_take_of_lt hjm] at hj
   have hm0 : m ≠ 0 := by omega
   obtain ⟨c, hc⟩ := getSome (show m - 1 < zs.length by omega)
   have hmc : zs.toArray[m - 1]! = c := by
    obtain ⟨hl, he⟩ := List.getElem?_eq_some_iff.1 hc
    rw [getElem!_pos zs.toArray (m - 1) (by simpa using hl)]; simpa using he
   have hne : y ≠ c := by
    have := hk; simp only [Go.Lib.keeps, hma, hmc, decide_eq_true_eq] at this
    rcases this with h | h
    ·exact absurd h hm0
    ·exact h
   obtain ⟨l1, e1⟩ := List.getElem?_eq_some_iff.1 hj
   obtain ⟨l2, e2⟩ := List.getElem?_eq_some_iff.1 hc
   obtain ⟨l3, e3⟩ := List.getElem?_eq_some_iff.1 ha
   have hcy : c ≤ y := by
    have := List.pairwise_iff_getElem.1 hs (m - 1) m l2 l3 (by omega)
    omega
   have hxc : x ≤ c := by
    by_cases hjm' : j = m - 1
    ·subst hjm'; rw [hj] at hc; cases hc; omega
    ·have := List.pairwise_iff_getElem.1 hs j (m - 1) l1 l2 (by omega)
     omega
   omega
  ·rw [if_neg hk, List.append_nil]
   refine ⟨h1, fun x => ?_⟩
   rw [h2 x]
   simp only [List.mem_append, List.mem_singleton]
   refine ⟨.inl, fun h => h.elim id fun h => ?_⟩
   subst h
   simp only [Go.Lib.keeps, hma, decide_eq_true_eq, not_or, ne_eq, Decidable.not_not] at hk
   obtain ⟨hm0, hk⟩ := hk
   obtain ⟨c, hc⟩ := getSome (show m - 1 < zs.length by omega)
   have hmc : zs.toArray[m - 1]! = c := by
    obtain ⟨hl, he⟩ := List.getElem?_eq_some_iff.1 hc
    rw [getElem!_pos zs.toArray (m - 1) (by simpa using hl)]; simpa using he
   rw [hk, hmc]
   exact List.mem_of_getElem? (show (zs.take m)[m - 1]? = some c by rw [List.getElem?_take_of_lt (by omega)]; exact hc)
theorem dif_asc (b : List Int) : (dif b).Pairwise fun x y => x < y := (upTo_spec (srt_sorted b) (srt b).length (Nat.le_refl _)).1
theorem dif_mem (b : List Int) (x : Int) : x ∈ dif b ↔ x ∈ b := by
 have := (upTo_spec (srt_sorted b) (srt b).length (Nat.le_refl _)).2 x
 rw [List.take_length] at this
 exact this.trans List.mem_mergeSort
end Tf
namespace Ra
open Go.GX Tp
structure Air where
 e : List Ed
 o : List Int
 n : List Int
structure Fr where
 kd : Int
 fr : Int
 dst : Int
 so : Int
 ta : Int
 sq : Int
 hp : Int
 ur : Bool
 da : List UInt8
def check (a : Air) : Int := if Tp.check a.e ≠ 0 then Tp.check a.e else if (a.o ++ a.n).all okN = false then 2 else if a.o.length > 24 ∨ a.n.length > 24 then 3 else 0
theorem check_e {a : Air} (h : ¬ Tp.check a.e = 0) : check a = Tp.check a.e := by simp [check, h]
theorem check_2 {a : Air} (h : Tp.check a.e = 0) (h2 : (a.o ++ a.n).all okN = false) : check a = 2 := by unfold check; rw [if_neg (by simp [h]), if_pos h2]
theorem check_3 {a : Air} (h : Tp.check a.e = 0) (h2 : (a.o ++ a.n).all okN = true) (h3 : a.o.length > 24 ∨ a.n.length > 24) : check a = 3 := by unfold check; rw [if_neg (by simp [h]), if_neg (by rw [h2]; decide), if_pos h3]
theorem check_0 {a : Air} (h : Tp.check a.e = 0) (h2 : (a.o ++ a.n).all okN = true) (h3 : ¬ (a.o.length > 24 ∨ a.n.length > 24)) : check a = 0 := by unfold check; rw [if_neg (by simp [h]), if_neg (by rw [h2]; decide), if_neg h3]
def san (a : Air) : Air := if check a = 0 then a else ⟨[], [], []⟩
theorem san_ok {a : Air} (h : check a = 0) : san a = a := by simp [san, h]
theorem san_no {a : Air} (h : ¬ check a = 0) : san a = ⟨[], [], []⟩ := by simp [san, h]
theorem all_take {α : Type} {f : α → Bool} {l : List α} {k : Nat} {x : α} (hx : l[k]? = some x) : (l.take (k + 1)).all f = ((l.take k).all f && f x) := by
 rw [take_succ_get hx]; simp
theorem all_at {α : Type} {f : α → Bool} {l : List α} {k : Nat} {x : α} (hx : l[k]? = some x) (hf : f x = false) : l.all f = false := by
 rw [← Bool.not_eq_true, List.all_eq_true]; intro h; rw [h x (List.mem_of_getElem? hx)] at hf; cases hf
def hears (a : Air) (n : Int) : Bool := !decide (n ∈ a.o) && !decide (n ∈ a.n)
def takes (a : Air) (dst n : Int) : Bool := hears a n && ((dst == 255) || (dst == n))
def heard (a : Air) (f : Fr) : List Int := (nbrs a.e f.fr).filter (takes a f.dst)
def recv (a : Air) (f : Fr) : List Int := if f.fr ∈ a.o then [] else heard a f
def acked (a : Air) (f : Fr) : Bool := !decide (f.fr ∈ a.o) && ((f.dst == 255) || (decide (0 < (heard a f).length) && !decide (f.fr ∈ a.n)))
theorem heard_len (a : Air) (f : Fr) : (heard a f).length ≤ 251 := Nat.le_trans (List.length_filter_le _ _) (nbrs_len _ _)
theorem recv_len (a : Air) (f : Fr) : (recv a f).length ≤ 251 := by
 unfold recv; split
 ·simp
 ·exact heard_len a f
theorem filter_take {α : Type} {f : α → Bool} {l : List α} {k : Nat} {x : α} (hx : l[k]? = some x) : (l.take (k + 1)).filter f = (l.take k).filter f ++ if f x = true then [x] else [] := by
 rw [take_succ_get hx, List.filter_append]; simp only [List.filter_cons, List.filter_nil]
end Ra
namespace Nd
open Go.GX Tp
abbrev Fr := Ra.Fr
abbrev By := List UInt8
def fr0 : Fr := ⟨0, 0, 0, 0, 0, 0, 0, false, []⟩
instance : DecidableEq Ra.Fr := fun a b =>
 decidable_of_iff (a.kd = b.kd ∧ a.fr = b.fr ∧ a.dst = b.dst ∧ a.so = b.so ∧ a.ta = b.ta ∧ a.sq = b.sq ∧ a.hp = b.hp ∧ a.ur = b.ur ∧ a.da = b.da)
  ⟨fun h => by obtain ⟨h1, h2, h3, h4, h5, h6, h7, h8, h9⟩ := h; cases a; cases b; simp_all, fun h => by subst h; simp⟩
structure Ro where
 dest : Int
 sq : Int
 cost : Int
 nx : Int
deriving DecidableEq
structure Li where
 nd : Int
 bi : Int
 ct : Int
deriving DecidableEq
structure Sn where
 f : Fr
 tr : Int
 wt : Int
deriving DecidableEq
structure Ma where
 f : Fr
 si : Int
deriving DecidableEq
structure Pr where
 so : Int
 sq : Int
deriving DecidableEq
structure De where
 so : Int
 te : By
deriving DecidableEq
structure Pt where
 so : Int
 id : Int
 ct : Int
 si : Int
 hv : List Bool
 da : List By
deriving DecidableEq
structure Nd where
 addr : Int
 poll : Int
 parent : Int
 table : List Ro
 links : List Li
 out : List Sn
 children : List Int
 boxes : List Ma
 seen : List Pr
 parts : List Pt
 inbox : List De
 seq : Int
 lost : Int
deriving DecidableEq
def nd0 : Nd := ⟨0, 0, 0, [], [], [], [], [], [], [], [], 0, 0⟩
abbrev maxTick : Int := 1099511627776
def firstE (f : Nat → Int) : Nat → Int
 | 0 => 0
 | n + 1 => if firstE f n ≠ 0 then firstE f n else f n
def clamp (n lo hi : Int) : Int := max lo (min n hi)
def tick (n : Int) : Int := clamp n 0 maxTick
def lastIdx {α : Type} (p : α → Bool) : List α → Option Nat
 | [] => none
 | a :: l => match lastIdx p l with
  | some i => some (i + 1)
  | none => if p a then some 0 else none
def ins {α : Type} (p : α → Bool) (l : List α) (x : α) : List α := l.takeWhile p ++ x :: l.dropWhile p
def okT (n : Int) : Bool := okN n || (n == 255)
def frange (f : Fr) : Bool := !okN f.fr || !okN f.so || !okT f.dst || !okT f.ta || decide (f.sq < 0) || decide (f.sq > 65535) || decide (f.hp < 0) || decide (f.hp > 15)
def fform (f : Fr) : Bool := !(f.fr == f.dst) && (!((f.kd == 1) || (f.kd == 4)) || ((f.dst == 255) && (f.ta == 255))) && (!(f.kd == 3) || (decide (f.da = []) && !(f.dst == 255)))
def fchk (f : Fr) : Int :=
 if f.kd < 1 ∨ f.kd > 4 then 7 else if frange f = true then 2 else if f.da.length > 109 then 3 else if fform f = false then 4 else 0
def lrange (x : Li) : Bool := decide (x.nd < 0) || decide (x.nd > 250) || decide (x.ct < 0) || decide (x.ct > 16) || decide (x.bi < 0) || decide (x.bi ≥ 2 ^ x.ct.toNat)
def lbad (l : List Li) (i : Nat) : Int := match l[i]? with
 | none => 0
 | some x => if lrange x = true then 2 else if 0 < i ∧ (match l[i - 1]? with | some y => decide (x.nd ≤ y.nd) | none => false) = true then 14 else 0
def lchk (l : List Li) : Int := if l.length > 24 then 3 else firstE (lbad l) l.length
def lval (l : List Li) : List Li := if lchk l = 0 then l else []
def lpos (l : List Li) (n : Int) : Nat := (l.takeWhile fun x => decide (x.nd < n)).length
def lat (l : List Li) (n : Int) : Option Li := l.find? fun x => x.nd == n
def lupd (x : Li) (ok : Bool) : Li := ⟨x.nd, (2 * x.bi + (if ok then 1 else 0)) % 65536, min (x.ct + 1) 16⟩
def lseen (l : List Li) (n : Int) (ok : Bool) : List Li :=
 if n < 0 ∨ n > 250 then lval l else
 match lat (lval l) n with
 | some x => (lval l).set (lpos (lval l) n) (lupd x ok)
 | none => if (lval l).length = 24 then lval l else (lval l).take (lpos (lval l) n) ++ lupd ⟨n, 0, 0⟩ ok :: (lval l).drop (lpos (lval l) n)
def lforget (l : List Li) (n : Int) : List Li := (lval l).filter fun x => !(x.nd == n)
def pop : Nat → Nat → Int
 | 0, _ => 0
 | k + 1, b => if b = 0 then 0 else ((b % 2 : Nat) : Int) + pop k (b / 2)
def ones (b : Int) : Int := pop 64 b.toNat
def cdiv (a b : Int) : Int := -((-a) / b)
def lcost (l : List Li) (n : Int) : Int := match lat (lval l) n with
 | some x => if ones x.bi = 0 then 255 else cdiv (10 * x.ct) (ones x.bi)
 | none => 255
def fin (r : Ro) : Bool := decide (r.cost ≥ 0) && decide (r.cost ≤ 200)
def usable (r : Ro) : Bool := okN r.dest && !(decide (r.sq < 0) || decide (r.sq > 65535)) && ((fin r && (r.sq % 2 == 0)) || (r.cost == 255))
def rrange (r : Ro) : Bool := !usable r || (fin r && !okN r.nx) || (!fin r && !(r.nx == 255))
def rbad (l : List Ro) (i : Nat) : Int := match l[i]? with
 | none => 0
 | some x => if rrange x = true then 2 else if 0 < i ∧ (match l[i - 1]? with | some y => decide (x.dest ≤ y.dest) | none => false) = true then 14 else 0
def lim (n : Int) : Int := clamp n 0 250
def rform (self : Int) (r : Ro) : Bool := if r.dest = self then !((r.cost == 0) && (r.nx == self)) else (r.cost == 0) || (r.nx == self)
def rown (self : Int) : Ro := ⟨self, 0, 0, self⟩
def rnew (self : Int) : List Ro := [rown (lim self)]
def rchk (t : List Ro) (self : Int) : Int :=
 if t.length > 24 then 3 else if okN self = false then 2 else if firstE (rbad t) t.length ≠ 0 then firstE (rbad t) t.length
 else if (t.any fun r => r.dest == self) = false then 8 else if t.any (rform self) = true then 4 else 0
def rtab (t : List Ro) (self : Int) : List Ro := if rchk t (lim self) = 0 then t else rnew self
def better (a b : Ro) : Bool := decide (a.sq > b.sq) || ((a.sq == b.sq) && decide (a.cost < b.cost))
def rat (t : List Ro) (d : Int) : Option Ro := t.find? fun x => x.dest == d
def rpos (t : List Ro) (d : Int) : Nat := (t.takeWhile fun x => decide (x.dest < d)).length
def rbump (t : List Ro) (self : Int) : List Ro := match rat (rtab t self) (lim self) with
 | some r => if r.sq < 65534 then (rtab t self).set (rpos (rtab t self) (lim self)) ⟨r.dest, r.sq + 2, r.cost, r.nx⟩ else rtab t self
 | none => rtab t self
def radd (fr cost : Int) (a : Ro) : Ro := if fin a = true ∧ a.cost + cost ≤ 200 then ⟨a.dest, a.sq, a.cost + cost, fr⟩ else ⟨a.dest, a.sq, 255, 255⟩
def rlearn (t : List Ro) (fr : Int) (r : Ro) : List Ro := match rat t r.dest with
 | some o => if (if fin r then better r o else (o.nx == fr) && decide (o.sq < r.sq)) then t.set (rpos t r.dest) r else t
 | none => if fin r = true ∧ t.length < 24 then t.take (rpos t r.dest) ++ r :: t.drop (rpos t r.dest) else t
def rstep (self fr cost : Int) (t : List Ro) (a : Ro) : List Ro := if usable a = false ∨ a.dest = lim self then t else rlearn t fr (radd fr cost a)
def rupd (t : List Ro) (self fr cost : Int) (adv : List Ro) : List Ro :=
 if okN fr = false ∨ fr = lim self ∨ cost < 1 ∨ cost > 200 then rtab t self else adv.foldl (rstep self fr cost) (rtab t self)
def rbrk (t : List Ro) (self next : Int) : List Ro :=
 (rtab t self).map fun r => if okN next = true ∧ r.nx = next ∧ r.dest ≠ lim self then ⟨r.dest, r.sq + 1, 255, 255⟩ else r
def rhop (t : List Ro) (d : Int) : Int × Bool := match rat t d with
 | some r => if fin r then (r.nx, true) else (0, false)
 | none => (0, false)
def u8 (n : Int) : UInt8 := UInt8.ofNat (n % 256).toNat
def renc1 (r : Ro) : By := [u8 r.dest, u8 (r.sq / 256), u8 r.sq, u8 r.cost]
def renc (t : List Ro) : By := (((t.filter usable).take 24).map renc1).flatten
def rdec1 (s : By) : Ro := ⟨((s.getD 0 0).toNat : Int), (((s.getD 1 0).toNat * 256 + (s.getD 2 0).toNat : Nat) : Int), ((s.getD 3 0).toNat : Int), 255⟩
def rdecs (s : By) : Nat → List Ro
 | 0 => []
 | n + 1 => rdecs s n ++ [rdec1 (s.drop (4 * n))]
def dbad (l : List Ro) (i : Nat) : Int := match l[i]? with
 | none => 0
 | some x => if usable x = false then 2 else if 0 < i ∧ (match l[i - 1]? with | some y => decide (x.dest ≤ y.dest) | none => false) = true then 14 else 0
def rdec (s : By) : List Ro × Int :=
 if s.length % 4 ≠ 0 then ([], 5) else if s.length > 96 then ([], 3)
 else if firstE (dbad (rdecs s (s.length / 4))) (s.length / 4) ≠ 0 then ([], firstE (dbad (rdecs s (s.length / 4))) (s.length / 4)) else (rdecs s (s.length / 4), 0)
def qput {α : Type} (dr ur : α → Bool) (q : List α) (x : α) : List α × Bool :=
 if ur x = false then (if (q.take 16).length = 16 then (q.take 16, false) else (q.take 16 ++ [x], true))
 else if (q.take 16).length = 16 then (match lastIdx dr (q.take 16) with
  | none => (q.take 16, false)
  | some i => (ins ur ((q.take 16).eraseIdx i) x, true))
 else (ins ur (q.take 16) x, true)
def sur (s : Sn) : Bool := s.f.ur
def sdr (s : Sn) : Bool := !s.f.ur && decide (s.tr ≤ 0)
def mput (q : List Sn) (f : Fr) : List Sn × Bool := qput sdr sur q ⟨f, 0, 0⟩
def mtries (s : Sn) : Int := min (max s.tr 0) 7 + 1
def mres (q : List Sn) (i : Nat) (ok : Bool) : List Sn × Bool := match (q.take 16)[i]? with
 | none => (q.take 16, false)
 | some s => if ok then ((q.take 16).eraseIdx i, false) else if mtries s = 8 then ((q.take 16).eraseIdx i, true)
  else ((q.take 16).set i ⟨s.f, mtries s, if s.f.ur then 0 else min (mtries s) 4⟩, false)
def mtick1 (s : Sn) : Sn := if s.wt > 0 then ⟨s.f, s.tr, s.wt - 1⟩ else s
def mtick (q : List Sn) : List Sn := (q.take 16).map mtick1
def last {α : Type} (n : Nat) (l : List α) : List α := l.drop (l.length - n)
def mfresh (l : List Pr) (p : Pr) : List Pr × Bool := if p ∈ last 32 l then (last 32 l, false) else (last 32 (last 32 l ++ [p]), true)
def bur (s : Ma) : Bool := s.f.ur
def bdr (s : Ma) : Bool := !s.f.ur
def bput (q : List Ma) (f : Fr) (now : Int) : List Ma × Bool := qput bdr bur q ⟨f, tick now⟩
def bold (now life : Int) (m : Ma) : Bool := decide (tick now - tick m.si > tick life)
def bexp (l : List Ma) (now life : Int) : List Ma := (l.take 16).filter fun m => !bold now life m
def bstep (to now life : Int) (s : Fr × List Ma × Bool) (m : Ma) : Fr × List Ma × Bool :=
 if bold now life m then s else if !s.2.2 && (m.f.dst == to) then (m.f, s.2.1, true) else (s.1, s.2.1 ++ [m], s.2.2)
def btake (l : List Ma) (to now life : Int) : Fr × List Ma × Bool := (l.take 16).foldl (bstep to now life) (fr0, [], false)
def fits (i c n : Int) : Bool := if i ≠ c - 1 then n == 64 else if c = 1 then decide (n ≤ 64) else if c = 16 then decide (n ≥ 1) && decide (n ≤ 40) else decide (n ≥ 1) && decide (n ≤ 64)
def b8 (s : By) (i : Nat) : Int := ((s.getD i 0).toNat : Int)
def pchk (s : By) : Int := if s.length < 3 then 5 else if b8 s 2 < 1 ∨ b8 s 2 > 16 ∨ b8 s 1 ≥ b8 s 2 ∨ fits (b8 s 1) (b8 s 2) ((s.length : Int) - 3) = false then 4 else 0
def pone (p : Pt) (i : Nat) : Bool := if p.hv.getD i false then fits i p.ct ((p.da.getD i []).length : Int) else decide (p.da.getD i [] = [])
def phead (p : Pt) : Bool := decide (p.id < 0) || decide (p.id > 255) || decide (p.ct < 2) || decide (p.ct > 16) || decide (p.si < 0) || decide (p.si > maxTick) || !((p.hv.length : Int) == p.ct) || !((p.da.length : Int) == p.ct)
def pnum (l : List Bool) : Nat := l.countP id
def pvalid (p : Pt) : Bool := !phead p && (List.range p.hv.length).all (pone p) && decide (0 < pnum p.hv) && decide ((pnum p.hv : Int) < p.ct)
def pis (s i : Int) (p : Pt) : Bool := (p.so == s) && (p.id == i)
def pfind (l : List Pt) (s i : Int) : Option Nat := l.findIdx? (pis s i)
def pstep (out : List Pt) (p : Pt) : List Pt := if pvalid p && (pfind out p.so p.id).isNone then out ++ [p] else out
def porder (l : List Pt) : List Pt := last 8 (l.foldl pstep [])
def pexp (l : List Pt) (now life : Int) : List Pt := (porder l).filter fun p => decide (tick now - p.si ≤ tick life)
def pbegin (s id c now : Int) : Pt := ⟨s, id, c, tick now, List.replicate c.toNat false, List.replicate c.toNat []⟩
def pmark (p : Pt) (i : Nat) (d : By) : Pt := if p.hv.getD i false then p else ⟨p.so, p.id, p.ct, p.si, p.hv.set i true, p.da.set i d⟩
def pz : Pt := ⟨0, 0, 0, 0, [], []⟩
def pdrop (l : List Pt) (s id c : Int) : List Pt × Option Nat := match pfind l s id with
 | some a => if (l.getD a pz).ct = c then (l, some a) else (l.eraseIdx a, none)
 | none => (l, none)
def proom (l : List Pt) : List Pt := if l.length = 8 then l.eraseIdx 0 else l
def pnew (o : List Pt × Option Nat) (s id c now : Int) : List Pt × Nat := match o.2 with
 | some a => (o.1, a)
 | none => (proom o.1 ++ [pbegin s id c now], (proom o.1).length)
structure PA where
 l : List Pt
 t : By
 ok : Bool
 e : Int
def pput (o : List Pt × Nat) (i : Nat) (d : By) : PA :=
 if (pmark (o.1.getD o.2 pz) i d).hv.all id then ⟨o.1.eraseIdx o.2, (pmark (o.1.getD o.2 pz) i d).da.flatten, true, 0⟩ else ⟨o.1.set o.2 (pmark (o.1.getD o.2 pz) i d), [], false, 0⟩
def padd (l : List Pt) (s now : Int) (x : By) : PA :=
 if pchk x ≠ 0 then ⟨[], [], false, pchk x⟩
 else if b8 x 2 = 1 then ⟨(pdrop (porder l) s (b8 x 0) 1).1, x.drop 3, true, 0⟩
 else pput (pnew (pdrop (porder l) s (b8 x 0) (b8 x 2)) s (b8 x 0) (b8 x 2) now) (b8 x 1).toNat (x.drop 3)
def child (l : List Int) (c : Int) : List Int := if c ∈ l then l else l.takeWhile (fun x => decide (x < c)) ++ c :: l.dropWhile (fun x => decide (x < c))
def kids (addr : Int) (l : List Int) : List Int := (l.filter fun c => okN c && !(c == addr)).foldl child []
def order (n : Nd) : Nd :=
 {addr := clamp n.addr 0 250, poll := if n.poll < 1 then 0 else max n.poll 4,
  parent := if okN n.parent = false ∨ n.parent = clamp n.addr 0 250 then 255 else n.parent,
  table := if rchk n.table (clamp n.addr 0 250) = 0 then n.table else [rown (clamp n.addr 0 250)],
  links := lval n.links, out := n.out.take 16, children := kids (clamp n.addr 0 250) n.children, boxes := n.boxes.take 16, seen := last 32 n.seen,
  parts := n.parts, inbox := n.inbox.take 256, seq := if n.seq < 0 ∨ n.seq > 65535 then 0 else n.seq, lost := clamp n.lost 0 maxTick }
def lose (n : Nd) : Nd := { n with lost := min (n.lost + 1) maxTick }
def queue (n : Nd) (f : Fr) : Nd × Bool :=
 let r := mput n.out f
 (if r.2 = false ∨ r.1.length = n.out.length then lose { n with out := r.1 } else { n with out := r.1 }, r.2)
def box (n : Nd) (f : Fr) (now : Int) : Nd :=
 let r := bput n.boxes f now
 if r.2 = false ∨ r.1.length = n.boxes.length then lose { n with boxes := r.1 } else { n with boxes := r.1 }
def deliver (n : Nd) (d : De) : Nd := if n.inbox.length ≥ 256 then lose n else { n with inbox := n.inbox ++ [d] }
def new (addr poll : Int) : Nd := order ⟨addr, poll, 255, [], [], [], [], [], [], [], [], 0, 0⟩
def awake (n : Nd) (now : Int) : Bool := ((order n).poll == 0) || ((order n).parent == 255) || decide (0 < (order n).parts.length) || decide (tick now % (order n).poll < 3)
def number (n : Nd) : Int := match rat n.table n.addr with
 | some r => r.sq
 | none => 0
def waits (n : Nd) (k : Int) : Bool := n.out.any fun x => x.f.kd == k
def stale (x : Sn) : Bool := (x.f.kd == 2) && !(x.f.dst == 255) && decide (x.tr > 0)
def asleep (n : Nd) (now : Int) : Nd := ((n.out.filter stale).map (·.f)).foldl (fun n f => box n f now) { n with out := n.out.filter fun x => !stale x }
def beaconF (n : Nd) : Fr := ⟨1, n.addr, 255, n.addr, 255, number n, 0, false, renc n.table⟩
def pollF (n : Nd) : Fr := ⟨3, n.addr, n.parent, n.addr, n.parent, number n, 0, true, []⟩
def bumped (n : Nd) : Nd := { n with table := rbump n.table n.addr }
def beacon (n : Nd) : Nd := if waits n 1 = false ∧ n.out.length < 16 then (queue (bumped n) (beaconF (bumped n))).1 else bumped n
def poll (n : Nd) : Nd := if waits n 3 = false then (queue (bumped n) (pollF (bumped n))).1 else bumped n
def tickN (n : Nd) (now : Int) : Nd :=
 let s := order n
 let a := asleep { s with out := mtick s.out, boxes := bexp s.boxes (tick now) 120, parts := pexp s.parts (tick now) 120 } (tick now)
 let b := if a.poll = 0 ∧ tick now % 8 = a.addr % 8 then beacon a else a
 if b.poll > 0 ∧ b.parent ≠ 255 ∧ tick now % b.poll = 0 then poll b else b
def hop (n : Nd) (ta : Int) : Int × Bool := if n.poll > 0 then (n.parent, !(n.parent == 255)) else rhop n.table ta
def isChild (n : Nd) (c : Int) : Bool := decide (c ∈ n.children) && (rhop n.table c).2 && ((rhop n.table c).1 == c)
def talks (now : Int) : Nat → Nd → Nat → Nd × Fr × Bool
 | 0, n, _ => (n, fr0, false)
 | k + 1, n, i => match n.out[i]? with
  | none => (n, fr0, false)
  | some x =>
   if x.wt > 0 then talks now k n (i + 1)
   else if x.f.kd ≠ 2 ∨ x.f.dst ≠ 255 then (n, x.f, true)
   else if n.poll = 0 ∧ isChild n x.f.ta = true then talks now k (box { n with out := n.out.eraseIdx i } { x.f with dst := x.f.ta } now) i
   else if (hop n x.f.ta).2 then (n, { x.f with dst := (hop n x.f.ta).1 }, true)
   else if (mres n.out i false).2 then talks now k (lose { n with out := (mres n.out i false).1 }) i
   else talks now k { n with out := (mres n.out i false).1 } (i + 1)
def talk (n : Nd) (now : Int) : Nd × Fr × Bool := talks (tick now) 17 (order n) 0
def giveUp (n : Nd) (to : Int) : Nd :=
 if okN to = false then lose n
 else { lose n with table := rbrk n.table n.addr to, links := lforget n.links to, children := n.children.filter fun c => !(c == to), parent := if n.parent = to then 255 else n.parent }
def hits (f : Fr) (x : Sn) : Bool := (x.f.kd == f.kd) && (x.f.so == f.so) && (x.f.sq == f.sq)
def result (n : Nd) (f : Fr) (ok : Bool) : Nd :=
 let s := order n
 match s.out.findIdx? (hits f) with
 | none => s
 | some i =>
  let a := { s with out := (mres s.out i ok).1 }
  let b := if okN f.dst then { a with links := lseen a.links f.dst ok } else a
  if (mres s.out i ok).2 then giveUp b f.dst else b
def advertised (n : Nd) (f : Fr) : Nd :=
 let a := { n with links := lseen n.links f.fr true }
 if (rdec f.da).2 ≠ 0 then a
 else
  let b := { a with table := rupd a.table a.addr f.fr (lcost a.links f.fr) (rdec f.da).1 }
  if b.poll > 0 ∧ b.parent = 255 ∧ (rhop (rdec f.da).1 0).2 = true then { b with parent := f.fr } else b
def drain (fr now : Int) : Nat → Nd → Nd
 | 0, n => n
 | k + 1, n =>
  let r := btake n.boxes fr now 120
  if r.2.2 then drain fr now k (queue { n with boxes := r.2.1 } { r.1 with fr := n.addr }).1 else { n with boxes := r.2.1 }
def polled (n : Nd) (f : Fr) (now : Int) : Nd :=
 drain f.fr now 17 { n with children := child n.children f.fr, table := rupd n.table n.addr f.fr 10 [⟨f.fr, f.sq, 0, 0⟩] }
def received (n : Nd) (f : Fr) (now : Int) : Nd :=
 let r := mfresh n.seen ⟨f.so, f.sq⟩
 let a := { n with seen := r.1 }
 if r.2 = false then a
 else if f.ta = a.addr then
  let p := padd a.parts f.so now f.da
  if p.e ≠ 0 then a else if p.ok then deliver { a with parts := p.l } ⟨f.so, p.t⟩ else { a with parts := p.l }
 else if a.poll > 0 ∨ f.hp = 15 then lose a
 else (queue a { f with fr := a.addr, dst := 255, hp := f.hp + 1 }).1
def hear (n : Nd) (now : Int) (f : Fr) : Nd :=
 let s := order n
 if fchk f ≠ 0 ∨ f.fr = s.addr ∨ (f.dst ≠ s.addr ∧ f.dst ≠ 255) then s
 else if f.kd = 1 then advertised s f
 else if f.kd = 3 ∧ f.dst = s.addr ∧ s.poll = 0 then polled s f (tick now)
 else if f.kd = 2 ∧ f.dst = s.addr then received s f (tick now)
 else s
end Nd
namespace Nd
open Go.GX Tp
theorem firstE_step {f : Nat → Int} {k : Nat} (h : firstE f k = 0) (h2 : f k = 0) : firstE f (k + 1) = 0 := by simp [firstE, h, h2]
theorem firstE_stay {f : Nat → Int} {k : Nat} (h : firstE f k ≠ 0) : ∀ {n : Nat}, k ≤ n → firstE f n = firstE f k
  | 0, hn => by obtain rfl : k = 0 := by omega
                rfl
  | n + 1, hn => by
    by_cases hk : k = n + 1
    · rw [hk]
    · have := firstE_stay h (n := n) (by omega)
      show (if firstE f n ≠ 0 then firstE f n else f n) = _
      rw [this, if_pos h]
theorem firstE_at {f : Nat → Int} {k n : Nat} (h : firstE f k = 0) (h2 : f k ≠ 0) (hk : k < n) : firstE f n = f k := by
 have h3 : firstE f (k + 1) = f k := by simp [firstE, h]
 rw [firstE_stay (k := k + 1) (by rw [h3]; exact h2) hk, h3]
theorem firstE_all {f : Nat → Int} : ∀ {n : Nat}, firstE f n = 0 → ∀ k, k < n → f k = 0
 | 0, _, k, hk => by omega
 | n + 1, h, k, hk => by
  unfold firstE at h
  split at h
  ·rename_i h2; exact absurd h h2
  ·rename_i h2
   by_cases e : k = n
   ·rw [e]; exact h
   ·exact firstE_all (n := n) (by simpa using h2) k (by omega)
theorem firstE_none {f : Nat → Int} : ∀ {n : Nat}, (∀ k, k < n → f k = 0) → firstE f n = 0
 | 0, _ => rfl
 | n + 1, h => firstE_step (firstE_none fun k hk => h k (by omega)) (h n (by omega))
section
variable {α : Type} {key : α → Int}
def Asc (key : α → Int) (l : List α) : Prop := l.Pairwise fun a b => key a < key b
theorem Asc.nil : Asc key [] := List.Pairwise.nil
theorem asc_of {l : List α} (h : ∀ i a b, l[i]? = some a → l[i + 1]? = some b → key a < key b) : Asc key l := by
 induction l with
 | nil => exact Asc.nil
 | cons x l ih =>
  have ih' := ih fun i a b ha hb => h (i + 1) a b (by simpa using ha) (by simpa using hb)
  refine List.Pairwise.cons ?_ ih'
  cases l with
  | nil => intro b hb; cases hb
  | cons y l =>
   have hxy : key x < key y := h 0 x y I I
   intro b hb
   rcases List.mem_cons.1 hb with rfl | hb
   ·exact hxy
   ·have := (List.pairwise_cons.1 ih').1 b hb
    exact Int.lt_trans hxy this
theorem Asc.lt {l : List α} (h : Asc key l) {i j : Nat} {a b : α} (hij : i < j) (ha : l[i]? = some a) (hb : l[j]? = some b) : key a < key b := by
 obtain ⟨hi, rfl⟩ := List.getElem?_eq_some_iff.1 ha
 obtain ⟨hj, rfl⟩ := List.getElem?_eq_some_iff.1 hb
 exact List.pairwise_iff_getElem.1 h i j hi hj hij
structure Split (key : α → Int) (l : List α) (n : Int) (A C : List α) : Prop where
 eq : l = A ++ C
 lo : ∀ a ∈ A, key a < n
 tw : l.takeWhile (fun x => decide (key x < n)) = A
 dw : l.dropWhile (fun x => decide (key x < n)) = C
 hi : (l.find? (fun x => key x == n) = none ∧ ∀ c ∈ C, n < key c) ∨ ∃ x D, C = x :: D ∧ key x = n ∧ l.find? (fun x => key x == n) = some x ∧ ∀ c ∈ D, n < key c
theorem tw_skip {p : α → Bool} : ∀ {A C : List α}, (∀ a ∈ A, p a = true) → (∀ c, C.head? = some c → p c = false) → (A ++ C).takeWhile p = A ∧ (A ++ C).dropWhile p = C
 | [], [], _, _ => ⟨rfl, rfl⟩
 | [], c :: C, _, h => by simp [List.takeWhile_cons, List.dropWhile_cons, h c rfl]
 | a :: A, C, h, h2 => by
  have ih := tw_skip (A := A) (C := C) (fun x hx => h x (List.mem_cons_of_mem _ hx)) h2
  simp [List.takeWhile_cons, List.dropWhile_cons, h a (List.mem_cons_self ..), ih.1, ih.2]
theorem Asc.split {l : List α} (h : Asc key l) (n : Int) : ∃ A C, Split key l n A C := by
 induction l with
 | nil => exact ⟨[], [], ⟨rfl, (fun a ha => by cases ha), rfl, rfl, .inl ⟨rfl, fun c hc => by cases hc⟩⟩⟩
 | cons x l ih =>
  obtain ⟨h1, h2⟩ := List.pairwise_cons.1 h
  by_cases hx : key x < n
  ·obtain ⟨A, C, s⟩ := ih h2
   refine ⟨x :: A, C, ⟨by rw [s.eq]; rfl, ?_, ?_, ?_, ?_⟩⟩
   ·intro a ha
    rcases List.mem_cons.1 ha with rfl | ha
    ·exact hx
    ·exact s.lo a ha
   ·simp [List.takeWhile_cons, hx, s.tw]
   ·simp [List.dropWhile_cons, hx, s.dw]
   ·have hne : (key x == n) = false := by simp; omega
    rw [List.find?_cons_of_neg (by simp [hne])]
    exact s.hi
  ·refine ⟨[], x :: l, ⟨rfl, (fun a ha => by cases ha), by simp [List.takeWhile_cons, hx], by simp [List.dropWhile_cons, hx], ?_⟩⟩
   by_cases he : key x = n
   ·refine .inr ⟨x, l, rfl, he, by rw [List.find?_cons_of_pos (by simp [he])], fun c hc => by have := h1 c hc; omega⟩
   ·refine .inl ⟨?_, fun c hc => ?_⟩
    ·rw [List.find?_eq_none]
     intro c hc
     rcases List.mem_cons.1 hc with rfl | hc
     ·simpa using he
     ·have := h1 c hc
      simp; omega
    ·rcases List.mem_cons.1 hc with rfl | hc
     ·omega
     ·have := h1 c hc; omega
theorem tw_len {l : List α} {n : Int} {i : Nat} (hi : i ≤ l.length) (h1 : ∀ k a, k < i → l[k]? = some a → key a < n) (h2 : ∀ a, l[i]? = some a → n ≤ key a) : (l.takeWhile (fun x => decide (key x < n))).length = i := by
 have e : l = l.take i ++ l.drop i := (List.take_append_drop i l).symm
 have := tw_skip (p := fun x => decide (key x < n)) (A := l.take i) (C := l.drop i) (fun a ha => by
  obtain ⟨k, hk⟩ := List.getElem?_of_mem ha
  rw [List.getElem?_take] at hk
  split at hk
  ·exact decide_eq_true (h1 k a (by assumption) hk)
  ·cases hk) (fun c hc => by
  rw [List.head?_drop] at hc
  exact decide_eq_false (by have := h2 c hc; omega))
 rw [← e] at this
 rw [this.1]; simp; omega
theorem set_mid {A C : List α} {x y : α} {i : Nat} (h : A.length = i) : (A ++ x :: C).set i y = A ++ y :: C := by
 subst h; simp
theorem get_mid {A C : List α} {x : α} {i : Nat} (h : A.length = i) : (A ++ x :: C)[i]? = some x := by
 subst h; simp
theorem Asc.ins {A C : List α} {n : Int} (h : Asc key (A ++ C)) (hA : ∀ a ∈ A, key a < n) (hC : ∀ c ∈ C, n < key c) {x : α} (hx : key x = n) : Asc key (A ++ x :: C) := by
 obtain ⟨h1, h2, h3⟩ := List.pairwise_append.1 h
 refine List.pairwise_append.2 ⟨h1, List.Pairwise.cons (fun c hc => by rw [hx]; exact hC c hc) h2, fun a ha b hb => ?_⟩
 rcases List.mem_cons.1 hb with rfl | hb
 ·rw [hx]; exact hA a ha
 ·exact h3 a ha b hb
theorem Asc.map_same {l : List α} (f : α → α) (hf : ∀ a, key (f a) = key a) (h : Asc key l) : Asc key (l.map f) := by
 unfold Asc
 rw [List.pairwise_map]
 exact h.imp fun {a b} hab => by rw [hf, hf]; exact hab
theorem Asc.filter {l : List α} (p : α → Bool) (h : Asc key l) : Asc key (l.filter p) := List.Pairwise.filter p h
end
theorem lbad_zero {l : List Li} {i : Nat} {x : Li} (hx : l[i]? = some x) (h : lbad l i = 0) : lrange x = false ∧ ∀ y, 0 < i → l[i - 1]? = some y → y.nd < x.nd := by
 unfold lbad at h
 rw [hx] at h
 simp only at h
 by_cases h1 : lrange x = true
 ·rw [if_pos h1] at h; exact absurd h (by decide)
 ·rw [if_neg h1] at h
  refine ⟨by simpa using h1, fun y hi hy => ?_⟩
  rw [hy] at h
  by_cases h3 : x.nd ≤ y.nd
  ·rw [if_pos ⟨hi, decide_eq_true h3⟩] at h; exact absurd h (by decide)
  ·exact Int.not_le.1 h3
theorem lchk_asc {l : List Li} (h : lchk l = 0) : l.length ≤ 24 ∧ (∀ x ∈ l, lrange x = false) ∧ Asc (·.nd) l := by
 unfold lchk at h
 split at h
 ·cases h
 ·rename_i h1
  have h2 := firstE_all h
  refine ⟨by omega, fun x hx => ?_, asc_of fun i a b ha hb => ?_⟩
  ·obtain ⟨i, hi⟩ := List.getElem?_of_mem hx
   exact (lbad_zero hi (h2 i (List.getElem?_eq_some_iff.1 hi).1)).1
  ·exact (lbad_zero hb (h2 (i + 1) (List.getElem?_eq_some_iff.1 hb).1)).2 a (by omega) (by simpa using ha)
theorem lchk_of {l : List Li} (h1 : l.length ≤ 24) (h2 : ∀ x ∈ l, lrange x = false) (h3 : Asc (·.nd) l) : lchk l = 0 := by
 unfold lchk
 rw [if_neg (by omega)]
 refine firstE_none fun k hk => ?_
 obtain ⟨x, hx⟩ := getSome hk
 unfold lbad
 rw [hx]
 simp only
 rw [if_neg (by rw [h2 x (List.mem_of_getElem? hx)]; decide), if_neg]
 rintro ⟨hk0, hh⟩
 obtain ⟨y, hy⟩ := getSome (l := l) (j := k - 1) (by omega)
 rw [hy] at hh
 have := h3.lt (i := k - 1) (j := k) (by omega) hy hx
 have hh := of_decide_eq_true hh
 omega
theorem lval_ok (l : List Li) : lchk (lval l) = 0 := by
 unfold lval
 split
 ·assumption
 ·rfl
theorem lval_len (l : List Li) : (lval l).length ≤ 24 := (lchk_asc (lval_ok l)).1
theorem lval_asc (l : List Li) : Asc (·.nd) (lval l) := (lchk_asc (lval_ok l)).2.2
theorem rbad_zero {l : List Ro} {i : Nat} {x : Ro} (hx : l[i]? = some x) (h : rbad l i = 0) : rrange x = false ∧ ∀ y, 0 < i → l[i - 1]? = some y → y.dest < x.dest := by
 unfold rbad at h
 rw [hx] at h
 simp only at h
 by_cases h1 : rrange x = true
 ·rw [if_pos h1] at h; exact absurd h (by decide)
 ·rw [if_neg h1] at h
  refine ⟨by simpa using h1, fun y hi hy => ?_⟩
  rw [hy] at h
  by_cases h3 : x.dest ≤ y.dest
  ·rw [if_pos ⟨hi, decide_eq_true h3⟩] at h; exact absurd h (by decide)
  ·exact Int.not_le.1 h3
structure Tab (me : Int) (t : List Ro) : Prop where
 len : t.length ≤ 24
 ok : okN me = true
 rng : ∀ r ∈ t, rrange r = false
 asc : Asc (·.dest) t
 own : (t.any fun r => r.dest == me) = true
 form : ∀ r ∈ t, rform me r = false
theorem rchk_tab {t : List Ro} {self : Int} (h : rchk t self = 0) : Tab self t := by
 unfold rchk at h
 split at h
 ·cases h
 rename_i h1
 split at h
 ·cases h
 rename_i h2
 split at h
 ·rename_i h3; exact absurd h h3
 rename_i h3
 split at h
 ·cases h
 rename_i h4
 split at h
 ·cases h
 rename_i h5
 have h3 : firstE (rbad t) t.length = 0 := by simpa using h3
 have h3' := firstE_all h3
 refine ⟨by omega, by simpa using h2, fun x hx => ?_, asc_of fun i a b ha hb => ?_, by simpa using h4, fun r hr => ?_⟩
 ·obtain ⟨i, hi⟩ := List.getElem?_of_mem hx
  exact (rbad_zero hi (h3' i (List.getElem?_eq_some_iff.1 hi).1)).1
 ·exact (rbad_zero hb (h3' (i + 1) (List.getElem?_eq_some_iff.1 hb).1)).2 a (by omega) (by simpa using ha)
 ·rw [← Bool.not_eq_true]
  intro h6
  exact h5 (List.any_eq_true.2 ⟨r, hr, h6⟩)
theorem Tab.chk {t : List Ro} {self : Int} (h : Tab self t) : rchk t self = 0 := by
 unfold rchk
 have h0 : firstE (rbad t) t.length = 0 := by
  refine firstE_none fun k hk => ?_
  obtain ⟨x, hx⟩ := getSome hk
  unfold rbad
  rw [hx]
  simp only
  rw [if_neg (by rw [h.rng x (List.mem_of_getElem? hx)]; decide), if_neg]
  rintro ⟨hk0, hh⟩
  obtain ⟨y, hy⟩ := getSome (l := t) (j := k - 1) (by omega)
  rw [hy] at hh
  have := h.asc.lt (i := k - 1) (j := k) (by omega) hy hx
  have hh := of_decide_eq_true hh
  omega
 rw [if_neg (by have := h.len; omega), if_neg (by rw [h.ok]; decide), if_neg (by simp [h0]), if_neg (by rw [h.own]; decide), if_neg]
 intro h6
 obtain ⟨r, hr, h7⟩ := List.any_eq_true.1 h6
 rw [h.form r hr] at h7; cases h7
theorem lim_ok (n : Int) : okN (lim n) = true := by unfold okN lim clamp; simp; omega
theorem lim_of {n : Int} (h : okN n = true) : lim n = n := by unfold okN at h; unfold lim clamp; simp at h; omega
theorem rown_tab {s : Int} (h : okN s = true) : Tab s [rown s] := by
 have h' := h
 simp only [okN, Bool.and_eq_true, decide_eq_true_eq] at h'
 refine ⟨by simp, h, fun r hr => ?_, ?_, by simp [rown], fun r hr => ?_⟩
 ·rw [List.mem_singleton] at hr
  subst hr
  simp [rrange, usable, fin, rown, h]
 ·simp [Asc]
 ·rw [List.mem_singleton] at hr
  subst hr
  simp [rform, rown]
theorem rtab_tab (t : List Ro) (self : Int) : Tab (lim self) (rtab t self) := by
 unfold rtab
 split
 ·rename_i h; exact rchk_tab h
 ·exact rown_tab (lim_ok self)
theorem Tab.get {t : List Ro} {self : Int} (h : Tab self t) : ∃ r, rat t self = some r ∧ r.dest = self ∧ r.cost = 0 ∧ r.nx = self := by
 obtain ⟨r, hr, he⟩ := List.any_eq_true.1 h.own
 obtain ⟨x, hx⟩ : ∃ x, rat t self = some x := by
  cases hf : rat t self with
  | some x => exact ⟨x, rfl⟩
  | none => exact absurd he (by simpa using List.find?_eq_none.1 hf r hr)
 have hxd : x.dest = self := by simpa using List.find?_some hx
 have hform := h.form x (List.mem_of_find?_eq_some hx)
 rw [rform, if_pos hxd] at hform
 simp only [Bool.not_eq_false', Bool.and_eq_true, beq_iff_eq] at hform
 exact ⟨x, hx, hxd, hform.1, hform.2⟩
section
variable {α : Type}
theorem lastIdx_none {p : α → Bool} : ∀ {l : List α}, lastIdx p l = none → ∀ a ∈ l, p a = false
 | [], _, a, ha => by cases ha
 | x :: l, h, a, ha => by
  unfold lastIdx at h
  split at h
  ·cases h
  ·rename_i h1
   split at h
   ·cases h
   ·rename_i h2
    rcases List.mem_cons.1 ha with rfl | ha
    ·simpa using h2
    ·exact lastIdx_none h1 a ha
theorem lastIdx_some {p : α → Bool} : ∀ {l : List α} {i : Nat}, lastIdx p l = some i → ∃ a, l[i]? = some a ∧ p a = true ∧ ∀ j b, i < j → l[j]? = some b → p b = false
 | [], i, h => by cases h
 | x :: l, i, h => by
  unfold lastIdx at h
  split at h
  ·rename_i k h1
   cases h
   obtain ⟨a, ha, hp, hj⟩ := lastIdx_some h1
   refine ⟨a, by simpa using ha, hp, fun j b hij hb => ?_⟩
   obtain ⟨j, rfl⟩ : ∃ m, j = m + 1 := ⟨j - 1, by omega⟩
   exact hj j b (by omega) (by simpa using hb)
  ·rename_i h1
   split at h
   ·rename_i h2
    cases h
    refine ⟨x, rfl, h2, fun j b hij hb => ?_⟩
    obtain ⟨j, rfl⟩ : ∃ m, j = m + 1 := ⟨j - 1, by omega⟩
    exact lastIdx_none h1 b (List.mem_of_getElem? (by simpa using hb))
   ·cases h
theorem lastIdx_is {p : α → Bool} {l : List α} {i : Nat} {a : α} (ha : l[i]? = some a) (hp : p a = true) (hj : ∀ j b, i < j → l[j]? = some b → p b = false) : lastIdx p l = some i := by
 cases h : lastIdx p l with
 | none => rw [lastIdx_none h a (List.mem_of_getElem? ha)] at hp; cases hp
 | some k =>
  obtain ⟨b, hb, hpb, hk⟩ := lastIdx_some h
  rcases Nat.lt_trichotomy i k with hik | rfl | hik
  ·rw [hj k b hik hb] at hpb; cases hpb
  ·rfl
  ·rw [hk i a hik ha] at hp; cases hp
theorem lastIdx_isNone {p : α → Bool} {l : List α} (h : ∀ a ∈ l, p a = false) : lastIdx p l = none := by
 cases h1 : lastIdx p l with
 | none => rfl
 | some k =>
  obtain ⟨b, hb, hpb, hk⟩ := lastIdx_some h1
  rw [h b (List.mem_of_getElem? hb)] at hpb; cases hpb
theorem tw_at {p : α → Bool} {l : List α} {i : Nat} (hi : i ≤ l.length) (h1 : ∀ k a, k < i → l[k]? = some a → p a = true) (h2 : ∀ a, l[i]? = some a → p a = false) : l.takeWhile p = l.take i ∧ l.dropWhile p = l.drop i := by
 have e : l = l.take i ++ l.drop i := (List.take_append_drop i l).symm
 have := tw_skip (p := p) (A := l.take i) (C := l.drop i) (fun a ha => by
  obtain ⟨k, hk⟩ := List.getElem?_of_mem ha
  rw [List.getElem?_take] at hk
  split at hk
  ·exact h1 k a (by assumption) hk
  ·cases hk) (fun c hc => by
  rw [List.head?_drop] at hc
  exact h2 c hc)
 rwa [← e] at this
theorem ins_at {p : α → Bool} {l : List α} {i : Nat} {x : α} (hi : i ≤ l.length) (h1 : ∀ k a, k < i → l[k]? = some a → p a = true) (h2 : ∀ a, l[i]? = some a → p a = false) : ins p l x = l.take i ++ x :: l.drop i := by
 obtain ⟨e1, e2⟩ := tw_at hi h1 h2
 rw [ins, e1, e2]
end
end Nd
