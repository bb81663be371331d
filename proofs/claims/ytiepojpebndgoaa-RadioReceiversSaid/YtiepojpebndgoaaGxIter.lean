/- Ranging over a map that is not written meanwhile. Conditions: none. -/
import Derived.Test.YtiepojpebndgoaaGxSort
namespace Go.GX
open Go.RowKit
set_option linter.unusedVariables false
set_option linter.unusedSectionVars false
set_option linter.unusedSimpArgs false
section
variable {K : Type} [DecidableEq K] {P : Program} {kt : TypeId} {enc : K → Value}
/-- The iterator in block r over the map in block b; 'seen': the keys that it has handed out, the last one first. -/
def IterAt (enc : K → Value) (w : World) (r b : Nat) (m : List (K × Value)) (seen : List K) : Prop :=
  r ≠ b ∧ ∃ (es : Array MapEntry) (clock : Nat) (ents : List MapEntry), w.heap[b]? = some (.map es clock) ∧ w.heap[r]? = some (.mapIter (some b) clock (ents.map (·.born)).reverse.toArray clock) ∧
    es.toList.map (fun e => (e.key, e.val)) = m.map (fun p => (enc p.1, p.2)) ∧ MapKept.Stamped es clock ∧ (∀ x ∈ ents, x ∈ es.toList) ∧ ents.map (·.key) = seen.map enc
def iterC (enc : K → Value) (r b : Nat) (m : List (K × Value)) (seen : List K) : Chunk where
  foot := fun k => k = r ∨ k = b
  p := fun w => IterAt enc w r b m seen
  loc := fun w w' h hp => by
    obtain ⟨hne, es, clock, ents, h1, h2, h3⟩ := hp
    exact ⟨hne, es, clock, ents, by rw [h b (.inr rfl)]; exact h1, by rw [h r (.inl rfl)]; exact h2, h3⟩
  lt := fun w hp k hk => by
    obtain ⟨hne, es, clock, ents, h1, h2, h3⟩ := hp
    rcases hk with rfl | rfl
    · exact (Array.getElem?_eq_some_iff.1 h2).1
    · exact (Array.getElem?_eq_some_iff.1 h1).1
theorem IterAt.map {w : World} {r b : Nat} {m : List (K × Value)} {seen : List K} (h : IterAt enc w r b m seen) : MapAt enc w b m := by
  obtain ⟨hne, es, clock, ents, h1, h2, h3, h4, _⟩ := h
  exact ⟨es, clock, h1, h3, h4⟩

theorem key_inj {l : List MapEntry} (hn : (l.map (·.key)).Nodup) {x e : MapEntry} (hx : x ∈ l) (he : e ∈ l) (h : x.key = e.key) : x = e := by
  induction l with
  | nil => cases hx
  | cons a l ih =>
    simp only [List.map_cons, List.nodup_cons] at hn
    rcases List.mem_cons.1 hx with rfl | hx' <;> rcases List.mem_cons.1 he with rfl | he'
    · rfl
    · exact absurd (List.mem_map.2 ⟨e, he', h.symm⟩) hn.1
    · exact absurd (List.mem_map.2 ⟨x, hx', h⟩) hn.1
    · exact ih hn.2 hx' he'
/-- One step. -/
theorem run_nextM {w : World} {ty : TypeId} {r b : Nat} {m : List (K × Value)} {seen : List K} (hinj : ∀ a b : K, enc a = enc b → a = b) (h : IterAt enc w r b m seen) :
    ((∀ p ∈ m, p.1 ∈ seen) ∧ (Instr.next (.pointer (some ⟨r, 0, none⟩)) false ty).run P w = .ok (.tuple #[.bool false]) w) ∨
    ∃ k u w', (k, u) ∈ m ∧ k ∉ seen ∧ (Instr.next (.pointer (some ⟨r, 0, none⟩)) false ty).run P w = .ok (.tuple #[.bool true, enc k, u]) w' ∧ IterAt enc w' r b m (k :: seen) ∧ w.grownBy w' (some r) ∧ w'.heap.size = w.heap.size := by
  obtain ⟨hne, es, clock, ents, hb, hr, hm, hst, hin, hk⟩ := h
  have hold : ∀ x ∈ es.toList, x.born < clock := hst.1
  have hrlt := (Array.getElem?_eq_some_iff.1 hr).1
  have start : (Instr.next (.pointer (some ⟨r, 0, none⟩)) false ty).run P w = (do
      let left := leftOf es (ents.map (·.born)).reverse.toArray
      let old := left.filter (·.born < clock)
      let new := left.filter (·.born ≥ clock)
      let candidates := (if old.isEmpty then #[none] else #[]) ++ (old ++ new).map some
      match candidates[← choose (.mapNext candidates.size)]? with
      | some (some e) => do
        setObj r (.mapIter (some b) clock ((ents.map (·.born)).reverse.toArray.push e.born) clock)
        pure (.tuple #[.bool true, e.key, e.val])
      | some none => pure (.tuple #[.bool false])
      | none => stuck "Next: no such candidate" : Sem Value).run P w := by
    simp only [Instr.next, getObj, Sem.run_bind, Sem.run, hr, hb, Result.andThen, next_test_false _ es clock clock hold (Nat.le_refl _), Bool.false_eq_true, if_false]
    rfl
  rw [start]
  have hmem : ∀ x ∈ (leftOf es (ents.map (·.born)).reverse.toArray).toList, x.born < clock := fun x hx => hold x (mem_left hx).1
  have hbornin : ∀ x ∈ es.toList, (ents.map (·.born)).reverse.toArray.contains x.born = true → x ∈ ents := by
    intro x hx hc
    simp at hc
    obtain ⟨y, hy, hyb⟩ := hc
    have := born_inj hst.2.1 (hin y hy) hx hyb
    rw [← this]; exact hy
  have keyof : ∀ e ∈ es.toList, ∃ p ∈ m, e.key = enc p.1 ∧ e.val = p.2 := by
    intro e he
    have : (e.key, e.val) ∈ es.toList.map (fun e => (e.key, e.val)) := List.mem_map.2 ⟨e, he, rfl⟩
    rw [hm] at this
    obtain ⟨p, hp, h⟩ := List.mem_map.1 this
    simp only [Prod.mk.injEq] at h
    exact ⟨p, hp, h.1.symm, h.2.symm⟩
  have ofkey : ∀ p ∈ m, ∃ e ∈ es.toList, e.key = enc p.1 := by
    intro p hp
    have : (enc p.1, p.2) ∈ m.map (fun p => (enc p.1, p.2)) := List.mem_map.2 ⟨p, hp, rfl⟩
    rw [← hm] at this
    obtain ⟨e, he, h⟩ := List.mem_map.1 this
    simp only [Prod.mk.injEq] at h
    exact ⟨e, he, h.1⟩
  have hleft : ∀ x ∈ es.toList, (ents.map (·.born)).reverse.toArray.contains x.born = false → x ∈ (leftOf es (ents.map (·.born)).reverse.toArray).toList := by
    intro x hx hc
    unfold leftOf
    simp only [Array.toList_filter, List.mem_filter]
    exact ⟨hx, by rw [hc]; rfl⟩
  have hnotin : ∀ x ∈ (leftOf es (ents.map (·.born)).reverse.toArray).toList, x ∉ ents := by
    intro x hx hc
    have := (mem_left hx).2
    simp at this
    exact this x hc rfl
  generalize hL : leftOf es (ents.map (·.born)).reverse.toArray = L at hmem hleft hnotin ⊢
  have hLes : ∀ x ∈ L.toList, x ∈ es.toList := fun x hx => by rw [← hL] at hx; exact (mem_left hx).1
  have e1 : L.filter (fun x => decide (x.born < clock)) = L := Array.filter_eq_self.2 (fun x hx => by simpa using hmem x (by simpa using hx))
  have e2 : L.filter (fun x => decide (x.born ≥ clock)) = #[] := by
    rw [Array.filter_eq_empty_iff]
    intro x hx
    have := hmem x (by simpa using hx)
    simp
    omega
  simp only [e1, e2, Array.append_empty]
  by_cases h0 : L.size = 0
  · left
    have hLe : L = #[] := Array.eq_empty_of_size_eq_zero h0
    subst hLe
    refine ⟨fun p hp => ?_, by simp [choose, Sem.run, Question.forced]⟩
    obtain ⟨e, he, hek⟩ := ofkey p hp
    have hc : (ents.map (·.born)).reverse.toArray.contains e.born = true := by
      cases hc : (ents.map (·.born)).reverse.toArray.contains e.born with
      | true => rfl
      | false => have := hleft e he hc; simp at this
    have hx := hbornin e he hc
    have : e.key ∈ ents.map (·.key) := List.mem_map.2 ⟨e, hx, rfl⟩
    rw [hk, hek] at this
    obtain ⟨q, hq, hqe⟩ := List.mem_map.1 this
    rw [← hinj _ _ hqe]; exact hq
  · right
    have hne' : L.isEmpty = false := by simp [Array.isEmpty, h0]
    simp only [hne', Bool.false_eq_true, if_false, Array.empty_append, Array.size_map]
    have hch : ∃ (j : Nat) (w1 : World), j < L.size ∧ w1.heap = w.heap ∧ w1.os = w.os ∧ w1.tape = w.tape ∧ w1.output = w.output ∧ (choose (Question.mapNext L.size)).run P w = .ok j w1 := by
      by_cases hf : L.size ≤ 1
      · exact ⟨0, w, by omega, rfl, rfl, rfl, rfl, by simp [choose, Sem.run, Question.forced, hf]⟩
      · exact ⟨_, w.drew, Nat.mod_lt _ (by omega), rfl, rfl, rfl, rfl, by
          simp only [choose, Sem.run, Question.forced, decide_eq_true_eq, hf, if_false, Question.cut]
          rfl⟩
    obtain ⟨j, w1, hj, a1, a2, a3, a4, hrun⟩ := hch
    have hLj : L[j] ∈ L.toList := by simp
    have hes := hLes _ hLj
    obtain ⟨p, hp, hpk, hpv⟩ := keyof _ hes
    have hset : ∀ o', (setObj r o').run P w1 = .ok () { w1 with heap := w1.heap.setIfInBounds r o' } := fun o' => by
      simp only [setObj, Sem.run]
      rw [a1, hr]
    refine ⟨p.1, p.2, { w1 with heap := w1.heap.setIfInBounds r (.mapIter (some b) clock ((ents.map (·.born)).reverse.toArray.push L[j].born) clock) }, hp, ?_, ?_, ⟨hne, es, clock, L[j] :: ents, ?_, ?_, hm, hst, ?_, ?_⟩, ⟨a2, a3, a4, ?_, ?_⟩, ?_⟩
    · intro hs
      have : enc p.1 ∈ ents.map (·.key) := by rw [hk]; exact List.mem_map.2 ⟨p.1, hs, rfl⟩
      obtain ⟨x, hx, hxk⟩ := List.mem_map.1 this
      have hnk := hst.2.2
      have hxe : x = L[j] := key_inj hnk (hin x hx) hes (by rw [hxk, hpk])
      exact hnotin _ hLj (hxe ▸ hx)
    · simp only [Sem.run_bind, hrun, Result.andThen, Array.getElem?_map, Array.getElem?_eq_getElem hj, Option.map_some, hset]
      rw [hpk, hpv]
      rfl
    · simp only [a1]
      rw [Array.getElem?_setIfInBounds_ne hne]; exact hb
    · simp only [a1]
      rw [Array.getElem?_setIfInBounds_self_of_lt hrlt]
      congr 2
      simp
    · intro x hx
      rcases List.mem_cons.1 hx with rfl | hx
      · exact hes
      · exact hin x hx
    · simp [hk, hpk]
    · simp [a1]
    · intro k hk' hne2
      simp only [a1]
      rw [Array.getElem?_setIfInBounds_ne (fun e => hne2 (by rw [e]))]
    · simp [a1]

theorem run_entryM {w : World} {r b : Nat} {m : List (K × Value)} {k : K} {u : Value} {seen : List K} (hinj : ∀ a b : K, enc a = enc b → a = b) (h : IterAt enc w r b m (k :: seen)) (hu : (k, u) ∈ m) : (Instr.entry (.pointer (some ⟨r, 0, none⟩))).run P w = .ok (.tuple #[enc k, u]) w := by
  have hnd : NodupM m := h.map.nodup
  obtain ⟨hne, es, clock, ents, hb, hr, hm, hst, hin, hk⟩ := h
  cases ents with
  | nil => simp at hk
  | cons e ents =>
    simp only [List.map_cons, List.cons.injEq] at hk
    have he := hin e (List.mem_cons_self ..)
    have hf : es.find? (·.born == e.born) = some e := by rw [← Array.find?_toList]; exact find_born e es.toList hst.2.1 he
    have hv : e.val = u := by
      have : (e.key, e.val) ∈ es.toList.map (fun e => (e.key, e.val)) := List.mem_map.2 ⟨e, he, rfl⟩
      rw [hm] at this
      obtain ⟨p, hp, h⟩ := List.mem_map.1 this
      simp only [Prod.mk.injEq] at h
      have hpk : p.1 = k := hinj _ _ (h.1.trans hk.1)
      have g1 := getM_of_mem hnd (show (p.1, p.2) ∈ m from hp)
      have g2 := getM_of_mem hnd hu
      rw [hpk, g2] at g1
      cases g1
      exact h.2.symm
    have hback : (List.map (fun x => x.born) (e :: ents)).reverse.toArray.back? = some e.born := by simp
    simp only [Instr.entry, getObj, Sem.run_bind, Sem.run, hr, hb, Result.andThen, hback, bne_self_eq_false, Bool.false_eq_true, if_false, hf, hk.1, hv]
    rfl

variable {f : FuncId} {N : Nat} {k : List Item} {σ : Store} {B : Base} {H H' : List Chunk} {R : Ending → World → Prop} {ops l : List Oper} {o : Oper} {KK : Act → World → Prop}
  {d : Nat} {op : Op} {ty : TypeId} {pos : String} {af : Array Edge} {gd : Option (Nat × Bool)} {v u : Value} {w : World} {t et : TypeId} {b r : Nat} {m : List (K × Value)}
theorem HL.rangeM {x : Operand} (i : Nat) (hi : nthC H i = some (mapC enc b m)) (hs : stat N ops ⟨some d, .range t x, ty, pos, af, gd⟩ σ = true) (hm : P.underlying t = some (.map kt et)) (hx : lookO σ x = some (.map (some b)))
    (h : ∀ r, HL P N ops l ((d, .pointer (some ⟨r, 0, none⟩)) :: σ) B (setC H i (iterC enc r b m [])) KK) : HL P N ops (⟨some d, .range t x, ty, pos, af, gd⟩ :: l) σ B H KK := by
  refine HL.opX (fun r : Nat => .pointer (some ⟨r, 0, none⟩)) (fun r => setC H i (iterC enc r b m [])) (fun _ => True) hs (fun w hw => ?_) (fun r _ => h r)
  have hM : MapAt enc w b m := hw.nth hi
  obtain ⟨es, clock, h1, h2, h3⟩ := hM
  have hlt := (Array.getElem?_eq_some_iff.1 h1).1
  refine ⟨w.heap.size, w.alloc (.mapIter (some b) clock #[] clock), ?_, trivial, hw.upd hi rfl rfl rfl (by simp) (fun k hk _ => heap_alloc_old w _ hk) ⟨by omega, es, clock, [], ?_, heap_alloc_new w _, h2, h3, (fun x hx => by cases hx), rfl⟩ (fun k hk => ?_)⟩
  · simp [execOp, evO_of_lookO hx, run_range_map w t kt et b es clock hm h1]
  · rw [heap_alloc_old w _ hlt]; exact h1
  · rcases hk with rfl | rfl
    · exact .inr (Nat.le_refl _)
    · exact .inl rfl
theorem HL.nextM {x : Operand} {seen : List K} (i : Nat) (hi : nthC H i = some (iterC enc r b m seen)) (hinj : ∀ a b : K, enc a = enc b → a = b) (hs : stat N ops ⟨some d, .next x false, ty, pos, af, gd⟩ σ = true) (hx : lookO σ x = some (.pointer (some ⟨r, 0, none⟩)))
    (hend : (∀ p ∈ m, p.1 ∈ seen) → HL P N ops l ((d, .tuple ⟨[.bool false]⟩) :: σ) B H KK)
    (hnext : ∀ k u, (k, u) ∈ m → k ∉ seen → HL P N ops l ((d, .tuple ⟨[.bool true, enc k, u]⟩) :: σ) B (setC H i (iterC enc r b m (k :: seen))) KK) : HL P N ops (⟨some d, .next x false, ty, pos, af, gd⟩ :: l) σ B H KK := by
  intro w hw
  have hI : IterAt enc w r b m seen := hw.nth hi
  rcases run_nextM (P := P) (ty := ty) hinj hI with ⟨h1, h2⟩ | ⟨k, u, w', h1, h2, h3, h4, h5, h6⟩
  · exact RunL.op hs (by simp [execOp, evO_of_lookO hx, h2]) (hend h1 w hw)
  · exact RunL.op hs (by simp [execOp, evO_of_lookO hx, h3]) (hnext k u h1 h2 w' (hw.updG hi h5 (fun k hk => by cases hk; exact .inl rfl) h4 (fun k hk => .inl hk)))
theorem HL.entryM {x : Operand} {k : K} {seen : List K} (i : Nat) (hi : nthC H i = some (iterC enc r b m (k :: seen))) (hinj : ∀ a b : K, enc a = enc b → a = b) (hu : (k, u) ∈ m) (hs : stat N ops ⟨some d, .entry x, ty, pos, af, gd⟩ σ = true) (hx : lookO σ x = some (.pointer (some ⟨r, 0, none⟩)))
    (h : HL P N ops l ((d, .tuple ⟨[enc k, u]⟩) :: σ) B H KK) : HL P N ops (⟨some d, .entry x, ty, pos, af, gd⟩ :: l) σ B H KK := by
  refine HL.rd hs (fun w hw => ?_) h
  have hI : IterAt enc w r b m (k :: seen) := hw.nth hi
  simp [execOp, evO_of_lookO hx, run_entryM hinj hI hu]
/-- The map is a map again. -/
theorem HR.iterEnd {seen : List K} (i : Nat) (hi : nthC H i = some (iterC enc r b m seen)) (h : HR P f N k σ B (setC H i (mapC enc b m)) R) : HR P f N k σ B H R :=
  HR.as i hi (fun w hp => IterAt.map hp) (fun k hk => .inr hk) h
end
end Go.GX
