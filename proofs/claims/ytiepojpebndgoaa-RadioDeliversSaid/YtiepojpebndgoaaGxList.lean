/- Lists of elements as cells. Conditions: none. -/
import Derived.Test.YtiepojpebndgoaaGxHp4
namespace Go.GX
open Go.RowKit
set_option linter.unusedVariables false
set_option linter.unusedSectionVars false
set_option linter.unusedSimpArgs false
section
variable {α : Type} {E : α → List Value} {sz : Nat}
def cellsOf (E : α → List Value) (l : List α) : List Value := (l.map E).flatten
theorem cellsOf_nil : cellsOf E [] = [] := rfl
theorem cellsOf_app (l l' : List α) : cellsOf E (l ++ l') = cellsOf E l ++ cellsOf E l' := by simp [cellsOf]
theorem cellsOf_one (a : α) : cellsOf E [a] = E a := by simp [cellsOf]
theorem cellsOf_len (hE : ∀ a, (E a).length = sz) : ∀ (l : List α), (cellsOf E l).length = l.length * sz
  | [] => by simp [cellsOf]
  | a :: l => by
    have := cellsOf_len hE l
    unfold cellsOf at this ⊢
    rw [List.map_cons, List.flatten_cons, List.length_append, this, hE, List.length_cons, Nat.add_mul]; omega
theorem cellsOf_drop (hE : ∀ a, (E a).length = sz) : ∀ (j : Nat) (l : List α), (cellsOf E l).drop (j * sz) = cellsOf E (l.drop j)
  | 0, l => by simp
  | j + 1, [] => by simp [cellsOf]
  | j + 1, a :: l => by
    have := cellsOf_drop hE j l
    unfold cellsOf at this ⊢
    rw [List.map_cons, List.flatten_cons, List.drop_append, hE, List.drop_eq_nil_of_le (by rw [hE, Nat.add_mul]; omega), List.nil_append, show (j + 1) * sz - sz = j * sz by rw [Nat.add_mul]; omega, this]
    rfl
theorem cellsOf_take (hE : ∀ a, (E a).length = sz) : ∀ (j : Nat) (l : List α), (cellsOf E l).take (j * sz) = cellsOf E (l.take j)
  | 0, l => by simp [cellsOf]
  | j + 1, [] => by simp [cellsOf]
  | j + 1, a :: l => by
    have := cellsOf_take hE j l
    unfold cellsOf at this ⊢
    rw [List.map_cons, List.flatten_cons, List.take_append, hE, List.take_of_length_le (by rw [hE, Nat.add_mul]; omega), show (j + 1) * sz - sz = j * sz by rw [Nat.add_mul]; omega, this]
    rfl
theorem cellsOf_get (hE : ∀ a, (E a).length = sz) {l : List α} {j : Nat} {a : α} (ha : l[j]? = some a) : ∀ (i : Nat) u, (E a)[i]? = some u → (cellsOf E l)[j * sz + i]? = some u := by
  intro i u hu
  obtain ⟨hj, he⟩ := List.getElem?_eq_some_iff.1 ha
  rw [← List.getElem?_drop, cellsOf_drop hE, List.drop_eq_getElem_cons hj, he]
  show ((a :: l.drop (j + 1)).map E).flatten[i]? = _
  rw [List.map_cons, List.flatten_cons, List.getElem?_append_left (List.getElem?_eq_some_iff.1 hu).1]
  exact hu
theorem cellsOf_get1 {f : α → Value} {l : List α} {j : Nat} {a : α} (ha : l[j]? = some a) : (cellsOf (fun x => [f x]) l)[j * 1]? = some (f a) := by
  have := cellsOf_get (E := fun x => [f x]) (sz := 1) (fun _ => rfl) ha 0 (f a) rfl
  simpa using this
theorem cellsOf_one1 (f : α → Value) (l : List α) : cellsOf (fun x => [f x]) l = l.map f := by
  induction l with
  | nil => rfl
  | cons a l ih => unfold cellsOf at ih ⊢; simp [ih]
theorem getSome {l : List α} {j : Nat} (h : j < l.length) : ∃ a, l[j]? = some a := ⟨l[j], List.getElem?_eq_getElem h⟩
theorem take_succ_get {l : List α} {j : Nat} {a : α} (ha : l[j]? = some a) : l.take (j + 1) = l.take j ++ [a] := by
  obtain ⟨hj, he⟩ := List.getElem?_eq_some_iff.1 ha
  rw [← he, List.take_succ_eq_append_getElem hj]
theorem drop_get {l : List α} {j : Nat} {a : α} (ha : l[j]? = some a) : l.drop j = a :: l.drop (j + 1) := by
  obtain ⟨hj, he⟩ := List.getElem?_eq_some_iff.1 ha
  rw [← he]; exact List.drop_eq_getElem_cons hj
theorem find_at {p : α → Bool} {l : List α} {j : Nat} {a : α} (ha : l[j]? = some a) (hno : ∀ x ∈ l.take j, p x = false) (hp : p a = true) : l.find? p = some a := by
  obtain ⟨hj, he⟩ := List.getElem?_eq_some_iff.1 ha
  have e : l = l.take j ++ a :: l.drop (j + 1) := by rw [← drop_get ha, List.take_append_drop]
  rw [e, List.find?_append, List.find?_eq_none.2 (fun x hx => by simp [hno x hx])]
  simp [hp]
theorem one_allcells {E : α → List Value} (h1 : ∀ a, allOne (E a) = true) (l : List α) : ∀ u ∈ cellsOf E l, u.oneCell' = true := by
  intro u hu
  unfold cellsOf at hu
  obtain ⟨c, hc, hu⟩ := List.mem_flatten.1 hu
  obtain ⟨a, _, rfl⟩ := List.mem_map.1 hc
  exact allOne_spec (h1 a) u hu
end
abbrev iC (n : Int) : List Value := [.int .i64 n]
theorem iC_len (n : Int) : (iC n).length = 1 := rfl
section
variable {P : Program} {N : Nat} {σ : Store} {B : Base} {H : List Chunk} {ops l : List Oper} {K : Act → World → Prop} {d : Nat} {ty : TypeId} {pos : String} {af : Array Edge} {gd : Option (Nat × Bool)}
theorem HR.skip {f : FuncId} {k : List Item} {R : Ending → World → Prop} (h : HR P f N k σ B H R) : HR P f N (.code .skip :: k) σ B H R := fun w hw => Run.skip (h w hw)
/-- What is known now becomes the ground. -/
theorem HR.rebase {f : FuncId} {k : List Item} {R : Ending → World → Prop} (h : ∀ w, Sat B H w → HR P f N k σ (base w) [] R) : HR P f N k σ B H R := fun w hw => h w hw w (Sat.start w)
theorem HL.rebase (h : ∀ w, Sat B H w → HL P N ops l σ (base w) [] K) : HL P N ops l σ B H K := fun w hw => h w hw w (Sat.start w)
theorem HL.setHd {t : Nat} {v v' : Value} (e : v = v') (h : HL P N ops l ((t, v') :: σ) B H K) : HL P N ops l ((t, v) :: σ) B H K := by subst e; exact h
/-- An own slice is handed back. -/
theorem HL.callO {g : FuncId} {args : List Operand} {a1 : List Value} {tys : Array TypeId} {e sz n : Nat} {xs : List Value} (hg : IsFn P g)
    (hs : stat N ops ⟨some d, .call ⟨.value (.func g), args.toArray, tys⟩, ty, pos, af, gd⟩ σ = true) (ha : vals σ args = some a1)
    (hc : ∀ w, Sat B H w → Calls P g a1.toArray w fun e' w' => ∃ v, e' = .returned v ∧ Sat (base w) [ownC v e sz n xs] w')
    (h : ∀ v, HL P N ops l ((d, v) :: σ) B (ownC v e sz n xs :: H) K) : HL P N ops (⟨some d, .call ⟨.value (.func g), args.toArray, tys⟩, ty, pos, af, gd⟩ :: l) σ B H K :=
  HL.callX (r := fun v => v) (Q := fun _ => True) (G := fun v => [ownC v e sz n xs]) hg hs ha (fun w hw => (hc w hw).mono fun e' w' ⟨v, h1, h2⟩ => ⟨v, h1, trivial, h2⟩) (fun v _ => h v)

/-- A store into an element of one's own slice: cells j .. of it. -/
theorem HL.storeEs {v u : Value} {t e sz n j : Nat} {x y : Operand} {xs us : List Value} (i : Nat) (hi : nthC H i = some (ownC v e sz n xs)) (hs : stat N ops ⟨none, .store t x y, ty, pos, af, gd⟩ σ = true)
    (hx : lookO σ x = some (elemPtr v j)) (hy : lookO σ y = some u) (hus : cellsL u = us) (hm : (P.info? t).map (·.size) = some us.length) (hone : allOne us = true) (hfit : j + us.length ≤ xs.length) (hne : us ≠ [])
    (h : HL P N ops l σ B (setC H i (ownC v e sz n (xs.take j ++ us ++ xs.drop (j + us.length)))) K) : HL P N ops (⟨none, .store t x y, ty, pos, af, gd⟩ :: l) σ B H K := by
  refine HL.opU hs (fun w hw => ?_) h
  have hv : Vw w v e sz n xs := hw.nth hi
  have hpos : 0 < us.length := List.length_pos_iff.2 hne
  obtain ⟨hl, hv⟩ := hv
  rcases hv with ⟨rfl, rfl⟩ | ⟨g, off, cap, cur, rfl, hg, hnc, hcm, hcs, htake⟩
  · have : xs.length = 0 := by rw [hl]; omega
    omega
  · have hx' : lookO σ x = some (.pointer (some ⟨g, off + j, none⟩)) := hx
    have hsz : n * sz ≤ cap * sz := Nat.mul_le_mul_right _ hnc
    have hfit2 : off + j + us.length ≤ cur.size := by omega
    have e1 : (sizeOf t).run P w = .ok us.length w := by
      cases h : P.info? t with
      | none => rw [h] at hm; cases hm
      | some ti => rw [h] at hm; simp at hm; simp [sizeOf, typeInfo, h, hm]
    have hst := run_storeCells_at P g (off + j) e us 0 cur w hg (by simpa using hfit2) (allOne_spec hone)
    simp only [Nat.add_zero] at hst
    have hc : u.cells = us.toArray := by rw [cellsL_eq, hus]
    have hr : (storeVar t ⟨g, off + j, none⟩ u).run P w = .ok () (w.setRow g (cur.toList.take (off + j) ++ us ++ cur.toList.drop (off + j + us.length)).toArray) := by
      unfold storeVar
      rw [Sem.run_bind, e1]
      simp only [Result.andThen_ok, hc]
      simp [hst]
    refine ⟨w.setRow g (cur.toList.take (off + j) ++ us ++ cur.toList.drop (off + j + us.length)).toArray, ?_, hw.upd hi rfl rfl rfl (by simp) (fun k hk hne => setRow_other w g k _ (fun e => hne (by rw [e]; rfl))) ⟨?_, .inr ⟨g, off, cap, _, rfl, setRow_heap w g cur _ e _ hg, hnc, hcm, ?_, ?_⟩⟩ (fun k hk => .inl hk)⟩
    · simp [execOp, evO_of_lookO hx', evO_of_lookO hy, Instr.storeAt, Instr.sureAddr, hr]
    · simp; omega
    · simp; omega
    · have hcl : cur.toList.length = cur.size := Array.length_toList
      rw [← htake]
      have e2 : cur.toList.take (off + j) = cur.toList.take off ++ (cur.toList.drop off).take j := by rw [List.take_add]
      rw [e2]
      simp only [List.append_assoc]
      rw [List.drop_append_of_le_length (by simp; omega), List.drop_eq_nil_of_le (by simp; omega), List.nil_append]
      rw [List.take_take, Nat.min_eq_left (by omega)]
      have hl3 : ((cur.toList.drop off).take j).length = j := by simp; omega
      rw [List.take_append, List.take_of_length_le (by omega), hl3]
      congr 1
      rw [List.take_append, List.take_of_length_le (by omega)]
      congr 1
      rw [List.drop_take, List.drop_drop, show n * sz - (j + us.length) = n * sz - j - us.length by omega]
      congr 2
      omega
theorem HL.storeE {v u : Value} {t e sz n j : Nat} {x y : Operand} {xs : List Value} (i : Nat) (hi : nthC H i = some (ownC v e sz n xs)) (hs : stat N ops ⟨none, .store t x y, ty, pos, af, gd⟩ σ = true)
    (hx : lookO σ x = some (elemPtr v j)) (hy : lookO σ y = some u) (hus : cellsL u = [u]) (hm : (P.info? t).map (·.size) = some 1) (hone : allOne [u] = true) (hj : j < xs.length)
    (h : HL P N ops l σ B (setC H i (ownC v e sz n (xs.set j u))) K) : HL P N ops (⟨none, .store t x y, ty, pos, af, gd⟩ :: l) σ B H K := by
  refine HL.storeEs i hi hs hx hy hus hm hone (by simp; omega) (by simp) ?_
  have : xs.take j ++ [u] ++ xs.drop (j + [u].length) = xs.set j u := by
    rw [List.set_eq_take_append_cons_drop, if_pos hj]; simp
  rw [this]; exact h
end
theorem cells1_set {α : Type} {f : α → Value} (l : List α) (j : Nat) (a : α) : (cellsOf (fun x => [f x]) l).set (j * 1) (f a) = cellsOf (fun x => [f x]) (l.set j a) := by
  rw [cellsOf_one1, cellsOf_one1, Nat.mul_one, List.map_set]
end Go.GX
