/- Arguments of a law, opened: numbers, texts, lists, structs, one in another. Conditions: none. -/
import Derived.Test.YtiepojpebndgoaaGxList
import Derived.SliceStrings
namespace Go.GX
open Go.RowKit Go.ChangeShapes Go.WideShapes
set_option linter.unusedVariables false
set_option linter.unusedSectionVars false
set_option linter.unusedSimpArgs false
section
variable {H : Type} {enc : TypeId × Value → H} {P : Program} {w : World}
/-- Cells of type t that read are those of some a, of which 'good' is known. -/
def Opens (enc : TypeId × Value → H) (P : Program) (w : World) (t : TypeId) {α : Type} (E : α → List Value) (good : α → Prop) : Prop :=
  ∀ (fuel : Nat) (cs : List Value) (x : DataW H × List MemPlace), DataW.trod enc P w 0 (fun _ => true) true fuel t cs = some x → ∃ a, cs = E a ∧ good a

theorem Opens.int {t : TypeId} {k : IntKind} (ht : P.underlying t = some (.int k)) : Opens enc P w t (fun n : Int => [Value.int k n]) (fun n => (Lit.int k n).wf = true) := by
  intro fuel cs x h
  cases fuel with
  | zero => cases h
  | succ fuel =>
    unfold DataW.trod at h
    rw [ht] at h
    split at h
    all_goals first
      | cases h; done
      | (rename_i h1; cases h1; done)
      | skip
    rename_i k0 k' n h1
    cases h1
    split at h
    · rename_i hk; obtain ⟨rfl, hw⟩ := hk; exact ⟨n, rfl, hw⟩
    · cases h
theorem Opens.str {t : TypeId} (ht : P.underlying t = some .string) : Opens enc P w t (fun s : List UInt8 => [str s]) (fun s => s.length ≤ 9223372036854775807) := by
  intro fuel cs x h
  cases fuel with
  | zero => cases h
  | succ fuel =>
    unfold DataW.trod at h
    rw [ht] at h
    split at h
    all_goals first
      | cases h; done
      | (rename_i h1; cases h1; done)
      | skip
    rename_i s h1
    split at h
    · rename_i hs; exact ⟨s.data.toList, rfl, by unfold maxLen at hs; have : s.data.toList.length = s.size := rfl; omega⟩
    · cases h
theorem Opens.bool {t : TypeId} (ht : P.underlying t = some .bool) : Opens enc P w t (fun b : Bool => [Value.bool b]) (fun _ => True) := by
  intro fuel cs x h
  cases fuel with
  | zero => cases h
  | succ fuel =>
    unfold DataW.trod at h
    rw [ht] at h
    split at h
    all_goals first
      | cases h; done
      | (rename_i h1; cases h1; done)
      | skip
    rename_i b h1
    exact ⟨b, rfl, trivial⟩

theorem mapM_some {α β : Type} {f : α → Option β} : ∀ {l : List α} {r : List β}, l.mapM f = some r → ∀ a ∈ l, ∃ b, f a = some b
  | [], r, h, a, ha => by cases ha
  | x :: l, r, h, a, ha => by
    simp only [List.mapM_cons, Option.bind_eq_bind, Option.pure_def] at h
    cases hx : f x with
    | none => rw [hx] at h; cases h
    | some b =>
      rw [hx] at h
      simp only [Option.bind_some] at h
      cases hl : l.mapM f with
      | none => rw [hl] at h; cases h
      | some r' =>
        rcases List.mem_cons.1 ha with rfl | ha
        · exact ⟨b, hx⟩
        · exact mapM_some hl a ha

theorem cells?_get {base n : Nat} {a : Addr} {cs : List Value} (h : w.cells? base a n = some cs) : cs.length = n ∧ ∀ (j : Nat) u, cs[j]? = some u → w.cell? (a.add j) = some u := by
  unfold World.cells? at h
  split at h
  · have key : ∀ (l : List Nat) (r : List Value), l.mapM (fun i => w.cell? (a.add i)) = some r → r.length = l.length ∧ ∀ (j : Nat) u, r[j]? = some u → ∃ i, l[j]? = some i ∧ w.cell? (a.add i) = some u := by
      intro l
      induction l with
      | nil => intro r h; simp at h; subst h; exact ⟨rfl, fun j u hu => by simp at hu⟩
      | cons i l ih =>
        intro r h
        simp only [List.mapM_cons, Option.bind_eq_bind, Option.pure_def] at h
        cases hx : w.cell? (a.add i) with
        | none => rw [hx] at h; cases h
        | some b =>
          rw [hx] at h
          simp only [Option.bind_some] at h
          cases hl : l.mapM (fun i => w.cell? (a.add i)) with
          | none => rw [hl] at h; cases h
          | some r' =>
            rw [hl] at h
            simp only [Option.bind_some, Option.some.injEq] at h
            subst h
            obtain ⟨h1, h2⟩ := ih r' hl
            refine ⟨by simp [h1], fun j u hu => ?_⟩
            cases j with
            | zero => simp at hu; subst hu; exact ⟨i, rfl, hx⟩
            | succ j => simp at hu; simpa using h2 j u hu
    obtain ⟨h1, h2⟩ := key _ _ h
    refine ⟨by simpa using h1, fun j u hu => ?_⟩
    obtain ⟨i, hi, hc⟩ := h2 j u hu
    have hj : j < n := by
      have := (List.getElem?_eq_some_iff.1 hi).1; simpa using this
    simp [hj] at hi
    subst hi; exact hc
  · cases h

/-- A slice, by its value and its elements. -/
theorem Opens.slice {t e : TypeId} {α : Type} {E : α → List Value} {good : α → Prop} {sz : Nat} (ht : P.underlying t = some (.slice e)) (hc : P.cellsOf e = sz) (hpos : 0 < sz) (hE : ∀ a, (E a).length = sz) (he : Opens enc P w e E good) :
    Opens enc P w t (fun p : Value × List α => [p.1]) (fun p => Sl w p.1 (cellsOf E p.2) p.2.length ∧ p.2.length ≤ 9223372036854775807 ∧ ∀ a ∈ p.2, good a) := by
  intro fuel cs x h
  cases fuel with
  | zero => cases h
  | succ fuel =>
    unfold DataW.trod at h
    simp only [ht] at h
    split at h
    all_goals first
      | cases h; done
      | (rename_i h1; cases h1; done)
      | skip
    · exact ⟨(.slice none 0 0, []), rfl, Sl.nil w, by simp, fun a ha => by cases ha⟩
    · rename_i e0 a len cap h1
      cases h1
      split at h
      · rename_i hb
        rw [hc] at h
        cases hm : (List.range len).mapM (fun i => (w.cells? 0 (a.add (i * sz)) sz).bind (DataW.trod enc P w 0 (fun _ => true) true fuel e)) with
        | none => rw [hm] at h; cases h
        | some r =>
          clear h
          have hx := mapM_some hm
          have : ∀ i, i < len → ∃ b : α, good b ∧ ∀ (j : Nat) u, (E b)[j]? = some u → w.cell? ((a.add (i * sz)).add j) = some u := by
            intro i hi
            obtain ⟨y, hy⟩ := hx i (List.mem_range.2 hi)
            cases hcs : w.cells? 0 (a.add (i * sz)) sz with
            | none => rw [hcs] at hy; cases hy
            | some cs =>
              rw [hcs] at hy
              obtain ⟨b, rfl, hg⟩ := he fuel cs y hy
              exact ⟨b, hg, (cells?_get hcs).2⟩
          have hlist : ∀ n, n ≤ len → ∃ l : List α, l.length = n ∧ (∀ b ∈ l, good b) ∧ ∀ (i : Nat) b, l[i]? = some b → ∀ (j : Nat) u, (E b)[j]? = some u → w.cell? ((a.add (i * sz)).add j) = some u := by
            intro n
            induction n with
            | zero => intro _; exact ⟨[], rfl, (fun b hb => by cases hb), fun i b hb => by simp at hb⟩
            | succ n ih =>
              intro hn
              obtain ⟨l, h1, h2, h3⟩ := ih (by omega)
              obtain ⟨b, g1, g2⟩ := this n (by omega)
              refine ⟨l ++ [b], by simp [h1], fun c hc => ?_, fun i c hc => ?_⟩
              · rcases List.mem_append.1 hc with hc | hc
                · exact h2 c hc
                · simp at hc; subst hc; exact g1
              · by_cases hi : i < l.length
                · rw [List.getElem?_append_left hi] at hc; exact h3 i c hc
                · have : i = n := by have := (List.getElem?_eq_some_iff.1 hc).1; simp at this; omega
                  subst this
                  rw [List.getElem?_append_right (by omega), h1] at hc
                  simp at hc; subst hc; exact g2
          obtain ⟨l, h1, h2, h3⟩ := hlist len (Nat.le_refl _)
          refine ⟨(.slice (some a) len cap, l), rfl, ⟨?_, some a, cap, by simp [h1], by rw [h1]; exact hb.2.1⟩, by rw [h1]; have := hb.2.2; have := hb.2.1; unfold maxLen at *; omega, h2⟩
          by_cases h0 : len = 0
          · subst h0
            have : l = [] := List.eq_nil_of_length_eq_zero h1
            subst this
            exact .inl ⟨.inr ⟨a, cap, rfl⟩, rfl, rfl⟩
          · obtain ⟨b, off, spot⟩ := a
            obtain ⟨b0, hb0⟩ := getSome (show 0 < l.length by omega)
            obtain ⟨u0, hu0⟩ := getSome (show 0 < (E b0).length by rw [hE]; exact hpos)
            have hc0 := h3 0 b0 hb0 0 u0 hu0
            have hspot : spot = none := by simpa [Addr.add] using World.cell?_spot hc0
            subst hspot
            have hadd : ∀ b off j, (⟨b, off, none⟩ : Addr).add j = ⟨b, off + j, none⟩ := fun b off j => by unfold Addr.add; split <;> simp_all
            refine .inr ⟨b, off, cap, by simp [h1], fun j u hu => ?_⟩
            have hjl : j < (cellsOf E l).length := (List.getElem?_eq_some_iff.1 hu).1
            rw [cellsOf_len hE, h1] at hjl
            have hdiv : j / sz < len := Nat.div_lt_of_lt_mul (by rw [Nat.mul_comm]; exact hjl)
            have hmod : j % sz < sz := Nat.mod_lt _ hpos
            obtain ⟨c, hc⟩ := getSome (show j / sz < l.length by omega)
            obtain ⟨u', hu'⟩ := getSome (show j % sz < (E c).length by rw [hE]; exact hmod)
            have hj : j / sz * sz + j % sz = j := by rw [Nat.mul_comm]; exact Nat.div_add_mod j sz
            have hg := cellsOf_get hE hc (j % sz) u' hu'
            rw [hj, hu] at hg
            cases hg
            have := h3 _ c hc _ u hu'
            rw [hadd, hadd, Nat.add_assoc, hj] at this
            exact this
      · cases h

/-- A struct: each field reads. -/
theorem Opens.fields {t : TypeId} {fs : Array Field} (ht : P.underlying t = some (.struct fs)) {fuel : Nat} {cs : List Value} {x : DataW H × List MemPlace} (h : DataW.trod enc P w 0 (fun _ => true) true fuel t cs = some x) :
    cs.length = P.cellsOf t ∧ ∀ f ∈ fs.toList, ∃ fuel' y, DataW.trod enc P w 0 (fun _ => true) true fuel' f.type ((cs.drop f.offset).take (P.cellsOf f.type)) = some y := by
  cases fuel with
  | zero => cases h
  | succ fuel =>
    unfold DataW.trod at h
    simp only [ht] at h
    split at h
    · rename_i hl
      refine ⟨hl, fun f hf => ?_⟩
      cases hm : fs.toList.mapM (fun f => DataW.trod enc P w 0 (fun _ => true) true fuel f.type ((cs.drop f.offset).take (P.cellsOf f.type))) with
      | none => rw [hm] at h; cases h
      | some r => obtain ⟨y, hy⟩ := mapM_some hm f hf; exact ⟨fuel, y, hy⟩
    · cases h
theorem Opens.array {t e n : TypeId} (ht : P.underlying t = some (.array n e)) {fuel : Nat} {cs : List Value} {x : DataW H × List MemPlace} (h : DataW.trod enc P w 0 (fun _ => true) true fuel t cs = some x) :
    cs.length = P.cellsOf t ∧ ∀ i, i < n → ∃ fuel' y, DataW.trod enc P w 0 (fun _ => true) true fuel' e ((cs.drop (i * P.cellsOf e)).take (P.cellsOf e)) = some y := by
  cases fuel with
  | zero => cases h
  | succ fuel =>
    unfold DataW.trod at h
    simp only [ht] at h
    split at h
    · rename_i hl
      refine ⟨hl, fun i hi => ?_⟩
      cases hm : (List.range n).mapM (fun i => DataW.trod enc P w 0 (fun _ => true) true fuel e ((cs.drop (i * P.cellsOf e)).take (P.cellsOf e))) with
      | none => rw [hm] at h; cases h
      | some r => obtain ⟨y, hy⟩ := mapM_some hm i (List.mem_range.2 hi); exact ⟨fuel, y, hy⟩
    · cases h
/-- A list is its parts. -/
theorem parts_eq {cs p : List Value} {o n m : Nat} (h : (cs.drop o).take n = p) (hp : p.length = n) (ho : o + n = m) : cs.drop o = p ++ cs.drop m := by
  rw [← h, ← ho, ← List.drop_drop, List.take_append_drop]
end
end Go.GX
