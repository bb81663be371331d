/- Ranging over a map that is not written meanwhile. Conditions: none. -/
import Derived.Lib.SlicesCompact
import Derived.Test.YtfjomclebkgocaaRows
import Derived.Test.YtfjomclebkgocaaPart2
import Derived.Test.YtfjomclebkgocaaPart3
namespace Go.GX
open Go.RowKit
set_option linter.unusedVariables false
set_option linter.unusedSectionVars false
set_option linter.unusedSimpArgs false
section
variable {K : Type} [DecidableEq K] {P : Program} {kt : TypeId} {enc : K → Value}
/-- The iterator in block r over the map in block b; 'seen': the keys that it has handed out, the last one first. -/
def IterAt (enc : K → Value) (w : World) (r b : Nat) (m : List (K × Value)) (seen : List K) : Prop :=
  r ≠ b ∧ ∃ (es : Array MapEntry) (clock : Nat) (ents : List MapEntry), w.heap[b]? = some (.map es clock) ∧ w.heap[r]? = some (.mapIter (some b) clock (ents.map (·.born)).reverse.toArray clock) ∧
    es.toList.map (fun e => (e.key, e.val)) = m.map (fun p => (enc p.1, p.2)) ∧ MapKept.Stamped es clock ∧ (∀ x ∈ ents, x ∈ es.toList) ∧ ents.map (·.key) = seen.map enc
def iterC (enc : K → Value) (r b : Nat) (m : List (K × Value)) (seen : List K) : Chunk where
  foot := fun k => k = r ∨ k = b
  p := fun w => IterAt enc w r b m seen
  loc := fun w w' h hp => by
    obtain ⟨hne, es, clock, ents, h1, h2, h3⟩ := hp
    exact ⟨hne, es, clock, ents, by rw [h b (.inr rfl)]; exact h1, by rw [h r (.inl rfl)]; exact h2, h3⟩
  lt := fun w hp k hk => by
    obtain ⟨hne, es, clock, ents, h1, h2, h3⟩ := hp
    rcases hk with rfl | rfl
    · exact (Array.getElem?_eq_some_iff.1 h2).1
    · exact (Array.getElem?_eq_some_iff.1 h1).1
theorem IterAt.map {w : World} {r b : Nat} {m : List (K × Value)} {seen : List K} (h : IterAt enc w r b m seen) : MapAt enc w b m := by
  obtain ⟨hne, es, clock, ents, h1, h2, h3, h4, _⟩ := h
  exact ⟨es, clock, h1, h3, h4⟩

theorem key_inj {l : List MapEntry} (hn : (l.map (·.key)).Nodup) {x e : MapEntry} (hx : x ∈ l) (he : e ∈ l) (h : x.key = e.key) : x = e := by
  induction l with
  | nil => cases hx
  | cons a l ih =>
    simp only [List.map_cons, List.nodup_cons] at hn
    rcases List.mem_cons.1 hx with rfl | hx' <;> rcases List.mem_cons.1 he with rfl | he'
    · rfl
    · exact absurd (List.mem_map.2 ⟨e, he', h.symm⟩) hn.1
    · exact absurd (List.mem_map.2 ⟨x, hx', h⟩) hn.1
    · exact ih hn.2 hx' he'
/-- One step. -/
theorem run_nextM {w : World} {ty : TypeId} {r b : Nat} {m : List (K × Value)} {seen : List K} (hinj : ∀ a b : K, enc a = enc b → a = b) (h : IterAt enc w r b m seen) :
    ((∀ p ∈ m, p.1 ∈ seen) ∧ (Instr.next (.pointer (some ⟨r, 0, none⟩)) false ty).run P w = .ok (.tuple #[.bool false]) w) ∨
    ∃ k u w', (k, u) ∈ m ∧ k ∉ seen ∧ (Instr.next (.pointer (some ⟨r, 0, none⟩)) false ty).run P w = .ok (.tuple #[.bool true, enc k, u]) w' ∧ IterAt enc w' r b m (k :: seen) ∧ w.grownBy w' (some r) ∧ w'.heap.size = w.heap.size := by
  obtain ⟨hne, es, clock, ents, hb, hr, hm, hst, hin, hk⟩ := h
  have hold : ∀ x ∈ es.toList, x.born < clock := hst.1
  have hrlt := (Array.getElem?_eq_some_iff.1 hr).1
  have start : (Instr.next (.pointer (some ⟨r, 0, none⟩)) false ty).run P w = (do
      let left := leftOf es (ents.map (·.born)).reverse.toArray
      let old := left.filter (·.born < clock)
      let new := left.filter (·.born ≥ clock)
      let candidates := (if old.isEmpty then #[none] else #[]) ++ (old ++ new).map some
      match candidates[← choose (.mapNext candidates.size)]? with
      | some (some e) => do
        setObj r (.mapIter (some b) clock ((ents.map (·.born)).reverse.toArray.push e.born) clock)
        pure (.tuple #[.bool true, e.key, e.val])
      | some none => pure (.tuple #[.bool false])
      | none => stuck "Next: no such candidate" : Sem Value).run P w := by
    simp only [Instr.next, getObj, Sem.run_bind, Sem.run, hr, hb, Result.andThen, next_test_false _ es clock clock hold (Nat.le_refl _), Bool.false_eq_true, if_false]
    rfl
  rw [start]
  have hmem : ∀ x ∈ (leftOf es (ents.map (·.born)).reverse.toArray).toList, x.born < clock := fun x hx => hold x (mem_left hx).1
  have hbornin : ∀ x ∈ es.toList, (ents.map (·.born)).reverse.toArray.contains x.born = true → x ∈ ents := by
    intro x hx hc
    simp at hc
    obtain ⟨y, hy, hyb⟩ := hc
    have := born_inj hst.2.1 (hin y hy) hx hyb
    rw [← this]; exact hy
  have keyof : ∀ e ∈ es.toList, ∃ p ∈ m, e.key = enc p.1 ∧ e.val = p.2 := by
    intro e he
    have : (e.key, e.val) ∈ es.toList.map (fun e => (e.key, e.val)) := List.mem_map.2 ⟨e, he, rfl⟩
    rw [hm] at this
    obtain ⟨p, hp, h⟩ := List.mem_map.1 this
    simp only [Prod.mk.injEq] at h
    exact ⟨p, hp, h.1.symm, h.2.symm⟩
  have ofkey : ∀ p ∈ m, ∃ e ∈ es.toList, e.key = enc p.1 := by
    intro p hp
    have : (enc p.1, p.2) ∈ m.map (fun p => (enc p.1, p.2)) := List.mem_map.2 ⟨p, hp, rfl⟩
    rw [← hm] at this
    obtain ⟨e, he, h⟩ := List.mem_map.1 this
    simp only [Prod.mk.injEq] at h
    exact ⟨e, he, h.1⟩
  have hleft : ∀ x ∈ es.toList, (ents.map (·.born)).reverse.toArray.contains x.born = false → x ∈ (leftOf es (ents.map (·.born)).reverse.toArray).toList := by
    intro x hx hc
    unfold leftOf
    simp only [Array.toList_filter, List.mem_filter]
    exact ⟨hx, by rw [hc]; rfl⟩
  have hnotin : ∀ x ∈ (leftOf es (ents.map (·.born)).reverse.toArray).toList, x ∉ ents := by
    intro x hx hc
    have := (mem_left hx).2
    simp at this
    exact this x hc rfl
  generalize hL : leftOf es (ents.map (·.born)).reverse.toArray = L at hmem hleft hnotin ⊢
  have hLes : ∀ x ∈ L.toList, x ∈ es.toList := fun x hx => by rw [← hL] at hx; exact (mem_left hx).1
  have e1 : L.filter (fun x => decide (x.born < clock)) = L := Array.filter_eq_self.2 (fun x hx => by simpa using hmem x (by simpa using hx))
  have e2 : L.filter (fun x => decide (x.born ≥ clock)) = #[] := by
    rw [Array.filter_eq_empty_iff]
    intro x hx
    have := hmem x (by simpa using hx)
    simp
    omega
  simp only [e1, e2, Array.append_empty]
  by_cases h0 : L.size = 0
  · left
    have hLe : L = #[] := Array.eq_empty_of_size_eq_zero h0
    subst hLe
    refine ⟨fun p hp => ?_, by simp [choose, Sem.run, Question.forced]⟩
    obtain ⟨e, he, hek⟩ := ofkey p hp
    have hc : (ents.map (·.born)).reverse.toArray.contains e.born = true := by
      cases hc : (ents.map (·.born)).reverse.toArray.contains e.born with
      | true => rfl
      | false => have := hleft e he hc; simp at this
    have hx := hbornin e he hc
    have : e.key ∈ ents.map (·.key) := List.mem_map.2 ⟨e, hx, rfl⟩
    rw [hk, hek] at this
    obtain ⟨q, hq, hqe⟩ := List.mem_map.1 this
    rw [← hinj _ _ hqe]; exact hq
  · right
    have hne' : L.isEmpty = false := by simp [Array.isEmpty, h0]
    simp only [hne', Bool.false_eq_true, if_false, Array.empty_append, Array.size_map]
    have hch : ∃ (j : Nat) (w1 : World), j < L.size ∧ w1.heap = w.heap ∧ w1.os = w.os ∧ w1.tape = w.tape ∧ w1.output = w.output ∧ (choose (Question.mapNext L.size)).run P w = .ok j w1 := by
      by_cases hf : L.size ≤ 1
      · exact ⟨0, w, by omega, rfl, rfl, rfl, rfl, by simp [choose, Sem.run, Question.forced, hf]⟩
      · exact ⟨_, w.drew, Nat.mod_lt _ (by omega), rfl, rfl, rfl, rfl, by
          simp only [choose, Sem.run, Question.forced, decide_eq_true_eq, hf, if_false, Question.cut]
          rfl⟩
    obtain ⟨j, w1, hj, a1, a2, a3, a4, hrun⟩ := hch
    have hLj : L[j] ∈ L.toList := by simp
    have hes := hLes _ hLj
    obtain ⟨p, hp, hpk, hpv⟩ := keyof _ hes
    have hset : ∀ o', (setObj r o').run P w1 = .ok () { w1 with heap := w1.heap.setIfInBounds r o' } := fun o' => by
      simp only [setObj, Sem.run]
      rw [a1, hr]
    refine ⟨p.1, p.2, { w1 with heap := w1.heap.setIfInBounds r (.mapIter (some b) clock ((ents.map (·.born)).reverse.toArray.push L[j].born) clock) }, hp, ?_, ?_, ⟨hne, es, clock, L[j] :: ents, ?_, ?_, hm, hst, ?_, ?_⟩, ⟨a2, a3, a4, ?_, ?_⟩, ?_⟩
    · intro hs
      have : enc p.1 ∈ ents.map (·.key) := by rw [hk]; exact List.mem_map.2 ⟨p.1, hs, rfl⟩
      obtain ⟨x, hx, hxk⟩ := List.mem_map.1 this
      have hnk := hst.2.2
      have hxe : x = L[j] := key_inj hnk (hin x hx) hes (by rw [hxk, hpk])
      exact hnotin _ hLj (hxe ▸ hx)
    · simp only [Sem.run_bind, hrun, Result.andThen, Array.getElem?_map, Array.getElem?_eq_getElem hj, Option.map_some, hset]
      rw [hpk, hpv]
      rfl
    · simp only [a1]
      rw [Array.getElem?_setIfInBounds_ne hne]; exact hb
    · simp only [a1]
      rw [Array.getElem?_setIfInBounds_self_of_lt hrlt]
      congr 2
      simp
    · intro x hx
      rcases List.mem_cons.1 hx with rfl | hx
      · exact hes
      · exact hin x hx
    · simp [hk, hpk]
    · simp [a1]
    · intro k hk' hne2
      simp only [a1]
      rw [Array.getElem?_setIfInBounds_ne (fun e => hne2 (by rw [e]))]
    · simp [a1]

theorem run_entryM {w : World} {r b : Nat} {m : List (K × Value)} {k : K} {u : Value} {seen : List K} (hinj : ∀ a b : K, enc a = enc b → a = b) (h : IterAt enc w r b m (k :: seen)) (hu : (k, u) ∈ m) : (Instr.entry (.pointer (some ⟨r, 0, none⟩))).run P w = .ok (.tuple #[enc k, u]) w := by
  have hnd : NodupM m := h.map.nodup
  obtain ⟨hne, es, clock, ents, hb, hr, hm, hst, hin, hk⟩ := h
  cases ents with
  | nil => simp at hk
  | cons e ents =>
    simp only [List.map_cons, List.cons.injEq] at hk
    have he := hin e (List.mem_cons_self ..)
    have hf : es.find? (·.born == e.born) = some e := by rw [← Array.find?_toList]; exact find_born e es.toList hst.2.1 he
    have hv : e.val = u := by
      have : (e.key, e.val) ∈ es.toList.map (fun e => (e.key, e.val)) := List.mem_map.2 ⟨e, he, rfl⟩
      rw [hm] at this
      obtain ⟨p, hp, h⟩ := List.mem_map.1 this
      simp only [Prod.mk.injEq] at h
      have hpk : p.1 = k := hinj _ _ (h.1.trans hk.1)
      have g1 := getM_of_mem hnd (show (p.1, p.2) ∈ m from hp)
      have g2 := getM_of_mem hnd hu
      rw [hpk, g2] at g1
      cases g1
      exact h.2.symm
    have hback : (List.map (fun x => x.born) (e :: ents)).reverse.toArray.back? = some e.born := by simp
    simp only [Instr.entry, getObj, Sem.run_bind, Sem.run, hr, hb, Result.andThen, hback, bne_self_eq_false, Bool.false_eq_true, if_false, hf, hk.1, hv]
    rfl

variable {f : FuncId} {N : Nat} {k : List Item} {σ : Store} {B : Base} {H H' : List Chunk} {R : Ending → World → Prop} {ops l : List Oper} {o : Oper} {KK : Act → World → Prop}
  {d : Nat} {op : Op} {ty : TypeId} {pos : String} {af : Array Edge} {gd : Option (Nat × Bool)} {v u : Value} {w : World} {t et : TypeId} {b r : Nat} {m : List (K × Value)}
theorem HL.rangeM {x : Operand} (i : Nat) (hi : nthC H i = some (mapC enc b m)) (hs : stat N ops ⟨some d, .range t x, ty, pos, af, gd⟩ σ = true) (hm : P.underlying t = some (.map kt et)) (hx : lookO σ x = some (.map (some b)))
    (h : ∀ r, HL P N ops l ((d, .pointer (some ⟨r, 0, none⟩)) :: σ) B (setC H i (iterC enc r b m [])) KK) : HL P N ops (⟨some d, .range t x, ty, pos, af, gd⟩ :: l) σ B H KK := by
  refine HL.opX (fun r : Nat => .pointer (some ⟨r, 0, none⟩)) (fun r => setC H i (iterC enc r b m [])) (fun _ => True) hs (fun w hw => ?_) (fun r _ => h r)
  have hM : MapAt enc w b m := hw.nth hi
  obtain ⟨es, clock, h1, h2, h3⟩ := hM
  have hlt := (Array.getElem?_eq_some_iff.1 h1).1
  refine ⟨w.heap.size, w.alloc (.mapIter (some b) clock #[] clock), ?_, trivial, hw.upd hi rfl rfl rfl (by simp) (fun k hk _ => heap_alloc_old w _ hk) ⟨by omega, es, clock, [], ?_, heap_alloc_new w _, h2, h3, (fun x hx => by cases hx), rfl⟩ (fun k hk => ?_)⟩
  · simp [execOp, evO_of_lookO hx, run_range_map w t kt et b es clock hm h1]
  · rw [heap_alloc_old w _ hlt]; exact h1
  · rcases hk with rfl | rfl
    · exact .inr (Nat.le_refl _)
    · exact .inl rfl
theorem HL.nextM {x : Operand} {seen : List K} (i : Nat) (hi : nthC H i = some (iterC enc r b m seen)) (hinj : ∀ a b : K, enc a = enc b → a = b) (hs : stat N ops ⟨some d, .next x false, ty, pos, af, gd⟩ σ = true) (hx : lookO σ x = some (.pointer (some ⟨r, 0, none⟩)))
    (hend : (∀ p ∈ m, p.1 ∈ seen) → HL P N ops l ((d, .tuple ⟨[.bool false]⟩) :: σ) B H KK)
    (hnext : ∀ k u, (k, u) ∈ m → k ∉ seen → HL P N ops l ((d, .tuple ⟨[.bool true, enc k, u]⟩) :: σ) B (setC H i (iterC enc r b m (k :: seen))) KK) : HL P N ops (⟨some d, .next x false, ty, pos, af, gd⟩ :: l) σ B H KK := by
  intro w hw
  have hI : IterAt enc w r b m seen := hw.nth hi
  rcases run_nextM (P := P) (ty := ty) hinj hI with ⟨h1, h2⟩ | ⟨k, u, w', h1, h2, h3, h4, h5, h6⟩
  · exact RunL.op hs (by simp [execOp, evO_of_lookO hx, h2]) (hend h1 w hw)
  · exact RunL.op hs (by simp [execOp, evO_of_lookO hx, h3]) (hnext k u h1 h2 w' (hw.updG hi h5 (fun k hk => by cases hk; exact .inl rfl) h4 (fun k hk => .inl hk)))
theorem HL.entryM {x : Operand} {k : K} {seen : List K} (i : Nat) (hi : nthC H i = some (iterC enc r b m (k :: seen))) (hinj : ∀ a b : K, enc a = enc b → a = b) (hu : (k, u) ∈ m) (hs : stat N ops ⟨some d, .entry x, ty, pos, af, gd⟩ σ = true) (hx : lookO σ x = some (.pointer (some ⟨r, 0, none⟩)))
    (h : HL P N ops l ((d, .tuple ⟨[enc k, u]⟩) :: σ) B H KK) : HL P N ops (⟨some d, .entry x, ty, pos, af, gd⟩ :: l) σ B H KK := by
  refine HL.rd hs (fun w hw => ?_) h
  have hI : IterAt enc w r b m (k :: seen) := hw.nth hi
  simp [execOp, evO_of_lookO hx, run_entryM hinj hI hu]
/-- The map is a map again. -/
theorem HR.iterEnd {seen : List K} (i : Nat) (hi : nthC H i = some (iterC enc r b m seen)) (h : HR P f N k σ B (setC H i (mapC enc b m)) R) : HR P f N k σ B H R :=
  HR.as i hi (fun w hp => IterAt.map hp) (fun k hk => .inr hk) h
end
end Go.GX

/- The rules for cells of variables, in short form. Conditions: as each says. -/
namespace Go.GX
open Go.RowKit
set_option linter.unusedVariables false
set_option linter.unusedSectionVars false
set_option linter.unusedSimpArgs false
def plainTy (P : Program) (t : TypeId) : Bool := match P.underlying t with
  | some td => plainT td
  | none => false
theorem plainTy_spec {P : Program} {t : TypeId} (h : plainTy P t = true) : ∃ td, P.underlying t = some td ∧ plainT td = true := by
  unfold plainTy at h
  split at h
  · rename_i td hu; exact ⟨td, hu, h⟩
  · cases h
/-- What a load of type t from cells cs at o yields. -/
def ldV (P : Program) (t : TypeId) (cs : List Value) (o : Nat) : Option Value := match P.underlying t with
  | some td => match plainT td with
    | true => nthV cs o
    | false => match P.info? t with
      | some ti => match rngV cs o ti.size with
        | some us => some (.agg ⟨us⟩)
        | none => none
      | none => none
  | none => none
/-- The cells behind a store of type t. -/
def stV (P : Program) (t : TypeId) (cs : List Value) (o : Nat) (u : Value) : Option (List Value) := match P.info? t with
  | some ti => match Nat.beq ti.size (lenV (cellsL u)), allOne (cellsL u), Nat.ble (o + lenV (cellsL u)) (lenV cs) with
    | true, true, true => some (putR cs o (cellsL u))
    | _, _, _ => none
  | none => none
section
variable {P : Program} {f : FuncId} {N : Nat} {k : List Item} {σ : Store} {B : Base} {H H' F : List Chunk} {R : Ending → World → Prop} {ops l : List Oper} {o : Oper} {K : Act → World → Prop} {KQ : Act → Prop}
  {d : Nat} {op : Op} {ty : TypeId} {pos : String} {af : Array Edge} {gd : Option (Nat × Bool)} {v u : Value} {w : World} {d' : Option Tmp}
theorem isRow_of {td : TypeDesc} (h : plainT td = false) : td.isRow = true := by cases td <;> first | rfl | (simp [plainT] at h)
theorem hx_ld {t : TypeId} {x : Operand} {b j : Nat} {T : TypeId} {cs : List Value} (i : Nat) (hx : lookO σ x = some (.pointer (some ⟨b, j, none⟩))) (hi : nthC H i = some (blkC b cs T)) (hu : ldV P t cs j = some u) :
    ∀ w, Sat B H w → (execOp (evO σ) ⟨d', .load t x, ty, pos, af, gd⟩).run P w = .ok (.value u) w := by
  unfold ldV at hu
  split at hu
  · rename_i td hT
    split at hu
    · rename_i hp; exact hx_loadB i hi hT hp hx hu
    · rename_i hp
      split at hu
      · rename_i ti hti
        split at hu
        · rename_i us hus; cases hu; exact hx_loadR i hi hT (isRow_of hp) (by rw [hti]; rfl) hx hus
        · cases hu
      · cases hu
  · cases hu
/-- A load from a variable of one's own. -/
theorem HL.L {t : TypeId} {x : Operand} {b j : Nat} {T : TypeId} {cs : List Value} (i : Nat) (hx : lookO σ x = some (.pointer (some ⟨b, j, none⟩))) (hi : nthC H i = some (blkC b cs T)) (hs : stat N ops ⟨some d, .load t x, ty, pos, af, gd⟩ σ = true) (hu : ldV P t cs j = some u)
    (h : HL P N ops l ((d, u) :: σ) B H K) : HL P N ops (⟨some d, .load t x, ty, pos, af, gd⟩ :: l) σ B H K := HL.rd hs (hx_ld i hx hi hu) h
theorem HQ.L {t : TypeId} {x : Operand} {b j : Nat} {T : TypeId} {cs : List Value} (i : Nat) (hx : lookO σ x = some (.pointer (some ⟨b, j, none⟩))) (hi : nthC H i = some (blkC b cs T)) (hs : stat N ops ⟨some d, .load t x, ty, pos, af, gd⟩ σ = true) (hu : ldV P t cs j = some u)
    (h : HQ P N ops l ((d, u) :: σ) B H KQ) : HQ P N ops (⟨some d, .load t x, ty, pos, af, gd⟩ :: l) σ B H KQ := RunQ.op hs (hx_ld i hx hi hu) h
theorem HD.L {t : TypeId} {x : Operand} {b j n : Nat} {p : List (Nat × Bool)} {T : TypeId} {cs : List Value} (i : Nat) (hx : lookO σ x = some (.pointer (some ⟨b, j, none⟩))) (hi : nthC F i = some (blkC b cs T)) (ho : ops[n]? = some ⟨some d, .load t x, ty, pos, af, gd⟩) (hs : stat N ops ⟨some d, .load t x, ty, pos, af, gd⟩ σ = true) (hu : ldV P t cs j = some u)
    (h : HD P N ops p ((d, u) :: σ) B H F K) : HD P N ops ((n, true) :: p) σ B H F K := HD.rd ho hs (hx_ld i hx hi hu) h
/-- A store into one. -/
theorem HL.S {t : TypeId} {x y : Operand} {b o : Nat} {T : TypeId} {cs cs' : List Value} (i : Nat) (hx : lookO σ x = some (.pointer (some ⟨b, o, none⟩))) (hi : nthC H i = some (blkC b cs T)) (hs : stat N ops ⟨none, .store t x y, ty, pos, af, gd⟩ σ = true) (hy : lookO σ y = some u) (hc : stV P t cs o u = some cs')
    (h : HL P N ops l σ B (setC H i (blkC b cs' T)) K) : HL P N ops (⟨none, .store t x y, ty, pos, af, gd⟩ :: l) σ B H K := by
  unfold stV at hc
  split at hc
  · rename_i ti hti
    split at hc
    · rename_i h1 h2 h3
      cases hc
      exact HL.storeR i hx hi hs hy rfl (by rw [hti, ← Nat.eq_of_beq_eq_true h1]; rfl) h2 h3 h
    · cases hc
  · cases hc
end
end Go.GX

/- More rules: function values, arrays, drawn regions with guards. Conditions: as each says. -/
namespace Go.GX
open Go.RowKit
set_option linter.unusedVariables false
set_option linter.unusedSectionVars false
set_option linter.unusedSimpArgs false
section
variable {P : Program} {f : FuncId} {N : Nat} {k : List Item} {σ : Store} {B : Base} {H H' F : List Chunk} {R : Ending → World → Prop} {ops l : List Oper} {o : Oper} {K : Act → World → Prop} {KQ : Act → Prop} {C : World → Prop}
  {d : Nat} {op : Op} {ty : TypeId} {pos : String} {af : Array Edge} {gd : Option (Nat × Bool)} {v u : Value} {w : World} {d' : Option Tmp} {p : List (Nat × Bool)} {i : Nat} {S : World → Prop}

/-! ### A call of a function value -/
theorem hx_callV {g : FuncId} {x : Operand} {args : List Operand} {a1 caps : List Value} {tys : Array TypeId} (hg : IsFn P g) (hx : lookO σ x = some (.func (.func g) #[] caps.toArray)) (ha : vals σ args = some a1) :
    (execOp (evO σ) ⟨d', .call ⟨.value x, args.toArray, tys⟩, ty, pos, af, gd⟩).run P w = .ok (.enter g ((a1 ++ caps).toArray)) w := by
  obtain ⟨fn, c, hf, hb, hn⟩ := hg.out
  have hn' : ¬ fn.name = "runtime.NumGoroutine" := by simpa using hn
  have e := vals_eq ha
  simp [execOp, resolve, evO_of_lookO hx, Deferred.ofValue, invoke, callFunc, hf, hn', hb, e]
theorem HL.callV {r : Value} {g : FuncId} {x : Operand} {args : List Operand} {a1 caps : List Value} {tys : Array TypeId} (hg : IsFn P g) (hx : lookO σ x = some (.func (.func g) #[] caps.toArray))
    (hs : stat N ops ⟨some d, .call ⟨.value x, args.toArray, tys⟩, ty, pos, af, gd⟩ σ = true) (ha : vals σ args = some a1)
    (hc : ∀ w, Sat B H w → Calls P g ((a1 ++ caps).toArray) w fun e w' => e = .returned r ∧ Below w.heap.size w w')
    (h : HL P N ops l ((d, r) :: σ) B H K) : HL P N ops (⟨some d, .call ⟨.value x, args.toArray, tys⟩, ty, pos, af, gd⟩ :: l) σ B H K :=
  fun w hw => RunL.enter hs (hx_callV hg hx ha) ((hc w hw).mono fun e w' ⟨h1, h2⟩ => ⟨r, h1, h w' (hw.grow h2)⟩)

/-! ### An array's element -/
def idxA (P : Program) (σ : Store) (t : TypeId) (x i : Operand) : Option Value := match P.underlying t, lookO σ x, lookO σ i with
  | some (.array n e), some (.pointer (some ⟨b, o, none⟩)), some (.int _ (.ofNat j)) => match P.info? e, Nat.blt j n with
    | some ti, true => some (.pointer (some ⟨b, placeAt o j ti.size, none⟩))
    | _, _ => none
  | _, _, _ => none
theorem hx_idxAv {t e sz n : Nat} {x i : Operand} {b o j : Nat} {kk : IntKind} {m : Int} (hT : P.underlying t = some (.array n e)) (hS : (P.info? e).map (·.size) = some sz) (hx : lookO σ x = some (.pointer (some ⟨b, o, none⟩))) (hi : lookO σ i = some (.int kk m)) (hj : m = (j : Int)) (hlt : j < n) :
    ∀ w, (execOp (evO σ) ⟨d', .indexAddr t x i, ty, pos, af, gd⟩).run P w = .ok (.value (.pointer (some ⟨b, o + j * sz, none⟩))) w := by
  intro w
  subst hj
  obtain ⟨ti, h1, h2⟩ : ∃ ti, P.info? e = some ti ∧ ti.size = sz := by
    cases h : P.info? e with
    | none => rw [h] at hS; cases hS
    | some ti => rw [h] at hS; exact ⟨ti, rfl, by simpa using hS⟩
  have hadd : (⟨b, o, none⟩ : Addr).add (j * sz) = ⟨b, o + j * sz, none⟩ := by unfold Addr.add; split <;> simp_all
  simp [execOp, evO_of_lookO hx, evO_of_lookO hi, Instr.indexAt, Instr.sureAddr, asIntOf, underlying, hT, sizeOf, typeInfo, h1, h2, hlt, hadd]
theorem hx_idxA {t : TypeId} {x i : Operand} (h : idxA P σ t x i = some v) : ∀ w, (execOp (evO σ) ⟨d', .indexAddr t x i, ty, pos, af, gd⟩).run P w = .ok (.value v) w := by
  intro w
  unfold idxA at h
  split at h
  · rename_i hT hx hi
    split at h
    · rename_i ti hti hb
      cases h
      rw [placeAt_eq]
      exact hx_idxAv hT (by rw [hti]; rfl) hx hi rfl (by simpa using hb) w
    · cases h
  · cases h
theorem HL.idxA {t : TypeId} {x y : Operand} (hs : stat N ops ⟨some d, .indexAddr t x y, ty, pos, af, gd⟩ σ = true) (hb : idxA P σ t x y = some v) (h : HL P N ops l ((d, v) :: σ) B H K) : HL P N ops (⟨some d, .indexAddr t x y, ty, pos, af, gd⟩ :: l) σ B H K := HL.rd hs (fun w _ => hx_idxA hb w) h
theorem HQ.idxA {t : TypeId} {x y : Operand} (hs : stat N ops ⟨some d, .indexAddr t x y, ty, pos, af, gd⟩ σ = true) (hb : idxA P σ t x y = some v) (h : HQ P N ops l ((d, v) :: σ) B H KQ) : HQ P N ops (⟨some d, .indexAddr t x y, ty, pos, af, gd⟩ :: l) σ B H KQ := RunQ.op hs (fun w _ => hx_idxA hb w) h
theorem HD.idxA {t : TypeId} {x y : Operand} (ho : ops[i]? = some ⟨some d, .indexAddr t x y, ty, pos, af, gd⟩) (hs : stat N ops ⟨some d, .indexAddr t x y, ty, pos, af, gd⟩ σ = true) (hb : idxA P σ t x y = some v) (h : HD P N ops p ((d, v) :: σ) B H F K) : HD P N ops ((i, true) :: p) σ B H F K := HD.rd ho hs (fun w _ => hx_idxA hb w) h

/-! ### Drawn regions along a plan: slices, guards -/
theorem HD.lenR {t e : TypeId} {x : Operand} {n : Nat} {cs : List Value} (hv : Rd B F v cs n) (ho : ops[i]? = some ⟨some d, .call ⟨.builtin .len, #[x], #[t]⟩, ty, pos, af, gd⟩) (hs : stat N ops ⟨some d, .call ⟨.builtin .len, #[x], #[t]⟩, ty, pos, af, gd⟩ σ = true) (hT : P.underlying t = some (.slice e)) (hx : lookO σ x = some v)
    (h : HD P N ops p ((d, .int .i64 (n : Int)) :: σ) B H F K) : HD P N ops ((i, true) :: p) σ B H F K := HD.rd ho hs (hx_len hv hT hx) h
theorem HD.idxR {t e sz bytes : TypeId} {x y : Operand} {n : Nat} {cs : List Value} {kk : IntKind} {m : Int} (hv : Rd B F v cs n) (hE : Elem P t e sz bytes) (j : Nat) (ho : ops[i]? = some ⟨some d, .indexAddr t x y, ty, pos, af, gd⟩) (hs : stat N ops ⟨some d, .indexAddr t x y, ty, pos, af, gd⟩ σ = true) (hx : lookO σ x = some v) (hi : lookO σ y = some (.int kk m)) (hj : m = (j : Int)) (hlt : j < n)
    (h : HD P N ops p ((d, elemPtr v (j * sz)) :: σ) B H F K) : HD P N ops ((i, true) :: p) σ B H F K := HD.rd ho hs (hx_idx hv hE j hx hi hj hlt) h
theorem HD.loadI {t : TypeId} {td : TypeDesc} {x : Operand} {n j : Nat} {cs : List Value} (hv : Rd B F v cs n) (ho : ops[i]? = some ⟨some d, .load t x, ty, pos, af, gd⟩) (hs : stat N ops ⟨some d, .load t x, ty, pos, af, gd⟩ σ = true) (hT : P.underlying t = some td) (hp : plainT td = true) (hx : lookO σ x = some (elemPtr v j)) (hu : cs[j]? = some u)
    (h : HD P N ops p ((d, u) :: σ) B H F K) : HD P N ops ((i, true) :: p) σ B H F K := HD.rd ho hs (hx_loadI hv hT hp hx hu) h
theorem HD.loadE {t : TypeId} {td : TypeDesc} {x : Operand} {n j : Nat} {cs us : List Value} (hv : Rd B F v cs n) (ho : ops[i]? = some ⟨some d, .load t x, ty, pos, af, gd⟩) (hs : stat N ops ⟨some d, .load t x, ty, pos, af, gd⟩ σ = true) (hT : P.underlying t = some td) (hr : td.isRow = true) (hm : (P.info? t).map (·.size) = some us.length) (hne : us ≠ []) (hx : lookO σ x = some (elemPtr v j)) (hu : ∀ (i : Nat) u, us[i]? = some u → cs[j + i]? = some u)
    (h : HD P N ops p ((d, .agg ⟨us⟩) :: σ) B H F K) : HD P N ops ((i, true) :: p) σ B H F K := HD.rd ho hs (hx_loadE hv hT hr hm hne hx hu) h
theorem HD.field {t : TypeId} {x : Operand} {q : Nat} (ho : ops[i]? = some ⟨some d, .field t x q, ty, pos, af, gd⟩) (hs : stat N ops ⟨some d, .field t x q, ty, pos, af, gd⟩ σ = true) (hb : fldV P σ t x q = some v)
    (h : HD P N ops p ((d, v) :: σ) B H F K) : HD P N ops ((i, true) :: p) σ B H F K := HD.rd ho hs (fun w _ => hx_field hb w) h
theorem RunD.setV (t : Nat) {v v' : Value} (hl : look σ t = some v) (e : v = v') (h : RunD P N S ops p ((t, v') :: σ) w K) : RunD P N S ops p σ w K := by
  intro hS a ha
  exact h hS a (ha.weaken fun t' u hu => by
    rw [look_cons] at hu
    split at hu
    · rename_i e'; subst e'; cases hu; rw [← e]; exact hl
    · exact hu)
theorem HD.setV (t : Nat) {v v' : Value} (hl : look σ t = some v) (e : v = v') (h : HD P N ops p ((t, v') :: σ) B H F K) : HD P N ops p σ B H F K := fun w hw => RunD.setV t hl e (h w hw)
theorem HD.setB (t : Nat) {b : Bool} (c : Bool) (hl : look σ t = some (.bool b)) (e : b = c) (h : HD P N ops p ((t, .bool c) :: σ) B H F K) : HD P N ops p σ B H F K := HD.setV t hl (by rw [e]) h
theorem HD.split (t : Nat) {b : Bool} (hl : look σ t = some (.bool b)) (h1 : b = true → HD P N ops p ((t, .bool true) :: σ) B H F K) (h2 : b = false → HD P N ops p ((t, .bool false) :: σ) B H F K) : HD P N ops p σ B H F K := by
  cases hb : b with
  | true => exact HD.setB t true hl hb (h1 hb)
  | false => exact HD.setB t false hl hb (h2 hb)
theorem HD.know {Q : Prop} (hq : ∀ w, Sat B H w → Q) (h : Q → HD P N ops p σ B H F K) : HD P N ops p σ B H F K := fun w hw => h (hq w hw) w hw
theorem RunQ.setV (t : Nat) {v v' : Value} (hl : look σ t = some v) (e : v = v') (h : RunQ P N C ops l ((t, v') :: σ) KQ) : RunQ P N C ops l σ KQ := by
  intro a ha
  exact h a (ha.weaken fun t' u hu => by
    rw [look_cons] at hu
    split at hu
    · rename_i e'; subst e'; cases hu; rw [← e]; exact hl
    · exact hu)
theorem RunQ.setB (t : Nat) {b : Bool} (c : Bool) (hl : look σ t = some (.bool b)) (e : b = c) (h : RunQ P N C ops l ((t, .bool c) :: σ) KQ) : RunQ P N C ops l σ KQ := RunQ.setV t hl (by rw [e]) h
theorem HL.split (t : Nat) {b : Bool} (hl : look σ t = some (.bool b)) (h1 : b = true → HL P N ops l ((t, .bool true) :: σ) B H K) (h2 : b = false → HL P N ops l ((t, .bool false) :: σ) B H K) : HL P N ops l σ B H K := by
  cases hb : b with
  | true => exact HL.setB t true hl hb (h1 hb)
  | false => exact HL.setB t false hl hb (h2 hb)
theorem RunQ.split (t : Nat) {b : Bool} (hl : look σ t = some (.bool b)) (h1 : b = true → RunQ P N C ops l ((t, .bool true) :: σ) KQ) (h2 : b = false → RunQ P N C ops l ((t, .bool false) :: σ) KQ) : RunQ P N C ops l σ KQ := by
  cases hb : b with
  | true => exact RunQ.setB t true hl hb (h1 hb)
  | false => exact RunQ.setB t false hl hb (h2 hb)
/-- A call that comes up alone. -/
theorem HD.callB {r : Value} {g : FuncId} {args : List Operand} {a1 : List Value} {tys : Array TypeId} (is : List Nat) (hF : pickC H is = some F) (hd : distinctN is = true) (hg : IsFn P g) (ho : ops[i]? = some ⟨some d, .call ⟨.value (.func g), args.toArray, tys⟩, ty, pos, af, gd⟩)
    (hs : stat N ops ⟨some d, .call ⟨.value (.func g), args.toArray, tys⟩, ty, pos, af, gd⟩ σ = true) (ha : vals σ args = some a1)
    (hc : ∀ w, Sat B H w → Calls P g a1.toArray w fun e w' => e = .returned r ∧ Below w.heap.size w w')
    (h : HD P N ops p ((d, r) :: σ) B H F K) : HD P N ops ((i, false) :: p) σ B H F K := HD.one ho (HL.callB hg hs ha hc (HL.back is hF hd h))
end
/-! ### Own slices out of the library's contracts -/
theorem Sat.ofOwn {w w' : World} {v : Value} {e sz n : Nat} {xs : List Value} (hb : Below w.heap.size w w') (ho : w'.ownsRow w.heap.size e sz v n xs) : Sat (base w) [ownC v e sz n xs] w' :=
  (Sat.start w).push hb (Vw.of_own ho) (ownsRow_ge ho)
theorem Sat.vw {B : Base} {H : List Chunk} {w : World} {v : Value} {e sz n i : Nat} {xs : List Value} (hw : Sat B H w) (hi : nthC H i = some (ownC v e sz n xs)) : Vw w v e sz n xs := hw.nth hi
theorem Sat.putOwn0 {α : Type} [Inhabited α] {enc : α → Value} {w : World} {e n g off cap q : Nat} {zs ys : List α} (h : Vw w (.slice (some ⟨g, off, none⟩) n cap) e 1 n (cellsOf (fun x => [enc x]) zs)) (hy : ys.length = n) :
    Sat ⟨w, feet [ownC (.slice (some ⟨g, off, none⟩) n cap) e 1 n (cellsOf (fun x => [enc x]) zs)]⟩ [ownC (.slice (some ⟨g, off, none⟩) n cap) e 1 n (cellsOf (fun x => [enc x]) ys)] (Sort.putRow enc (Sort.ahead w q) g off ys.toArray) := by
  have h1 := Sat.putOwn (q := q) (os := #[]) (enc := enc) (zs := zs) (ys := ys) h hy
  have e1 : Sort.grow (Sort.putRow enc (Sort.ahead w q) g off ys.toArray) #[] = Sort.putRow enc (Sort.ahead w q) g off ys.toArray := by
    unfold Sort.grow; rw [Array.append_empty]
  rw [e1] at h1
  exact h1
/-- The first elements of an own slice. -/
theorem Sat.cutOwn {B : Base} {w : World} {g off cap e n h : Nat} {α : Type} {f : α → Value} {ys zs : List α} (hw : Sat B [ownC (.slice (some ⟨g, off, none⟩) n cap) e 1 n (cellsOf (fun x => [f x]) ys)] w) (hh : h ≤ n) (hz : ys.take h = zs) :
    Sat B [ownC (.slice (some ⟨g, off, none⟩) h cap) e 1 h (cellsOf (fun x => [f x]) zs)] w := by
  refine hw.as 0 rfl (fun hv => ?_) (fun k hk => hk)
  have hv := Vw.sub (sz := 1) (h := h) (l := 0) (show Vw _ _ _ _ _ _ from hv) (Nat.zero_le _) hh
  have e1 : subV 1 (.slice (some ⟨g, off, none⟩) n cap) 0 h = .slice (some ⟨g, off, none⟩) h cap := by
    unfold subV; simp [Addr.add]
  rw [e1] at hv
  have e2 : ((cellsOf (fun x => [f x]) ys).drop (0 * 1)).take ((h - 0) * 1) = cellsOf (fun x => [f x]) zs := by
    rw [cellsOf_one1, cellsOf_one1, ← hz]; simp
  rw [e2] at hv
  exact hv
/-- An own slice's value is a slice. -/
theorem Vw.shape {w : World} {v : Value} {e sz n : Nat} {xs : List Value} (h : Vw w v e sz n xs) : ∃ a c, v = .slice a n c := by
  rcases h.2 with ⟨rfl, rfl⟩ | ⟨g, off, cap, cur, rfl, _⟩
  · exact ⟨_, _, rfl⟩
  · exact ⟨_, _, rfl⟩
theorem HL.shape {P : Program} {N : Nat} {σ : Store} {B : Base} {H : List Chunk} {ops l : List Oper} {K : Act → World → Prop} {v : Value} {e sz n : Nat} {xs : List Value} (i : Nat) (hi : nthC H i = some (ownC v e sz n xs)) (h : ∀ a c, v = .slice a n c → HL P N ops l σ B H K) : HL P N ops l σ B H K :=
  HL.know (fun w hw => (Sat.vw hw hi).shape) fun ⟨a, c, e⟩ => h a c e
end Go.GX

/- More rules: a slice held against nil, an empty slice's literal. Conditions: as each says. -/
namespace Go.GX
open Go.RowKit
set_option linter.unusedVariables false
set_option linter.unusedSectionVars false
set_option linter.unusedSimpArgs false
section
variable {P : Program} {f : FuncId} {N : Nat} {k : List Item} {σ : Store} {B : Base} {H H' F : List Chunk} {R : Ending → World → Prop} {ops l : List Oper} {o : Oper} {K : Act → World → Prop} {KQ : Act → Prop} {C : World → Prop}
  {d : Nat} {op : Op} {ty : TypeId} {pos : String} {af : Array Edge} {gd : Option (Nat × Bool)} {v u : Value} {w : World} {d' : Option Tmp} {p : List (Nat × Bool)} {i : Nat} {S : World → Prop}
theorem run_eqSl (w : World) (n : Nat) (t e : TypeId) (a : Option Addr) (m c m' c' : Nat) (h : P.underlying t = some (.slice e)) : (Op.equalIn (n + 1) t (.slice a m c) (.slice none m' c')).run P w = .ok a.isNone w := by
  cases a <;> simp [Op.equalIn, run_underlying h]
theorem hx_eqNil {t e t' : TypeId} {x y : Operand} {a : Option Addr} {m c m' c' : Nat} (hT : P.underlying t = some (.slice e)) (hx : lookO σ x = some (.slice a m c)) (hy : lookO σ y = some (.slice none m' c')) :
    ∀ w, (execOp (evO σ) ⟨d', .binOp .eql t x y t', ty, pos, af, gd⟩).run P w = .ok (.value (.bool a.isNone)) w := by
  intro w
  have h1 := run_eqSl w 9999 t e a m c m' c' hT
  simp [execOp, evO_of_lookO hx, evO_of_lookO hy, eqGuard, binOp, Op.equal, Op.maxDepth, h1]
theorem hx_neNil {t e t' : TypeId} {x y : Operand} {a : Option Addr} {m c m' c' : Nat} (hT : P.underlying t = some (.slice e)) (hx : lookO σ x = some (.slice a m c)) (hy : lookO σ y = some (.slice none m' c')) :
    ∀ w, (execOp (evO σ) ⟨d', .binOp .neq t x y t', ty, pos, af, gd⟩).run P w = .ok (.value (.bool (!a.isNone))) w := by
  intro w
  have h1 := run_eqSl w 9999 t e a m c m' c' hT
  simp [execOp, evO_of_lookO hx, evO_of_lookO hy, eqGuard, binOp, Op.equal, Op.maxDepth, h1]
theorem HL.eqNil {t e t' : TypeId} {x y : Operand} {a : Option Addr} {m c m' c' : Nat} (hs : stat N ops ⟨some d, .binOp .eql t x y t', ty, pos, af, gd⟩ σ = true) (hT : P.underlying t = some (.slice e)) (hx : lookO σ x = some (.slice a m c)) (hy : lookO σ y = some (.slice none m' c'))
    (h : HL P N ops l ((d, .bool a.isNone) :: σ) B H K) : HL P N ops (⟨some d, .binOp .eql t x y t', ty, pos, af, gd⟩ :: l) σ B H K := HL.rd hs (fun w _ => hx_eqNil hT hx hy w) h
theorem HL.neNil {t e t' : TypeId} {x y : Operand} {a : Option Addr} {m c m' c' : Nat} (hs : stat N ops ⟨some d, .binOp .neq t x y t', ty, pos, af, gd⟩ σ = true) (hT : P.underlying t = some (.slice e)) (hx : lookO σ x = some (.slice a m c)) (hy : lookO σ y = some (.slice none m' c'))
    (h : HL P N ops l ((d, .bool (!a.isNone)) :: σ) B H K) : HL P N ops (⟨some d, .binOp .neq t x y t', ty, pos, af, gd⟩ :: l) σ B H K := HL.rd hs (fun w _ => hx_neNil hT hx hy w) h
theorem HQ.eqNil {t e t' : TypeId} {x y : Operand} {a : Option Addr} {m c m' c' : Nat} (hs : stat N ops ⟨some d, .binOp .eql t x y t', ty, pos, af, gd⟩ σ = true) (hT : P.underlying t = some (.slice e)) (hx : lookO σ x = some (.slice a m c)) (hy : lookO σ y = some (.slice none m' c'))
    (h : HQ P N ops l ((d, .bool a.isNone) :: σ) B H KQ) : HQ P N ops (⟨some d, .binOp .eql t x y t', ty, pos, af, gd⟩ :: l) σ B H KQ := RunQ.op hs (fun w _ => hx_eqNil hT hx hy w) h
/-- An empty slice's literal: a new block of no cells. -/
theorem HL.bslice0 {t e sz bytes : TypeId} (hE : Elem P t e sz bytes) (hs : stat N ops ⟨some d, .buildSlice t 0 #[], ty, pos, af, gd⟩ σ = true)
    (h : ∀ v', HL P N ops l ((d, v') :: σ) B (ownC v' e sz 0 [] :: H) K) : HL P N ops (⟨some d, .buildSlice t 0 #[], ty, pos, af, gd⟩ :: l) σ B H K := by
  intro w hw
  obtain ⟨i, z, g1, g2, g3, g4, g5⟩ := hE.info
  have hr : (execOp (evO σ) ⟨some d, .buildSlice t 0 #[], ty, pos, af, gd⟩).run P w = .ok (.value (.slice (some ⟨w.heap.size, 0, none⟩) 0 0)) (w.alloc (.cells #[] e)) := by
    have e0 : (sizeOf e).run P w = .ok sz w := by simp [sizeOf, typeInfo, g1, g3]
    simp [execOp, Instr.buildSlice, run_underlying hE.slice, e0, Instr.fill, newRow]
    congr 2
    exact Array.eq_empty_of_size_eq_zero (by simp)
  refine RunL.op hs hr (h _ _ (hw.push ((Below.refl _ _).alloc (Nat.le_refl _) _) ⟨by simp, .inr ⟨w.heap.size, 0, 0, #[], rfl, heap_alloc_new w _, Nat.le_refl _, by unfold maxLen; omega, by simp, by simp⟩⟩ (fun k hk => by cases hk; exact Nat.le_refl _)))
end
end Go.GX

/- Rules for integers that wrap: sums, products, shifts, conversions. Conditions: as each says. -/
namespace Go.GX
open Go.RowKit
set_option linter.unusedVariables false
set_option linter.unusedSectionVars false
set_option linter.unusedSimpArgs false
section
variable {P : Program} {f : FuncId} {N : Nat} {k : List Item} {σ : Store} {B : Base} {H H' F : List Chunk} {R : Ending → World → Prop} {ops l : List Oper} {o : Oper} {K : Act → World → Prop} {KQ : Act → Prop} {C : World → Prop}
  {d : Nat} {op : Op} {ty : TypeId} {pos : String} {af : Array Edge} {gd : Option (Nat × Bool)} {v u : Value} {w : World} {d' : Option Tmp} {p : List (Nat × Bool)} {i : Nat} {S : World → Prop}

/-- Integer operations of every kind, in the kind's own arithmetic. -/
def wI (op : BinOp) (k : IntKind) (a b : Int) : Option Int :=
  match op with
  | .add => some (k.wrap (a + b))
  | .sub => some (k.wrap (a - b))
  | .mul => some (k.wrap (a * b))
  | .shl => some (k.wrap (a * 2 ^ (min b.toNat k.bits)))
  | .shr => some (a.fdiv (2 ^ (min b.toNat k.bits)))
  | .xor => some (k.wrap ((BitVec.ofInt k.bits a ^^^ BitVec.ofInt k.bits b).toNat))
  | .or => some (k.wrap ((BitVec.ofInt k.bits a ||| BitVec.ofInt k.bits b).toNat))
  | .and => some (k.wrap ((BitVec.ofInt k.bits a &&& BitVec.ofInt k.bits b).toNat))
  | _ => none
def isSh : BinOp → Bool
  | .shl => true
  | .shr => true
  | _ => false
theorem hx_wI {t t' : TypeId} {x y : Operand} {op : BinOp} {k k' : IntKind} {a b r c : Int} (hx : lookO σ x = some (.int k a)) (hy : lookO σ y = some (.int k' b)) (hk : k = k' ∨ isSh op = true) (hb : isSh op = true → 0 ≤ b) (hw : wI op k a b = some r) (hc : r = c) :
    ∀ w, (execOp (evO σ) ⟨d', .binOp op t x y t', ty, pos, af, gd⟩).run P w = .ok (.value (.int k c)) w := by
  intro w
  subst hc
  have hb' : isSh op = true → ¬ b < 0 := fun h => by have := hb h; omega
  unfold wI at hw
  split at hw <;> cases hw
  all_goals first
    | (have hb' := hb' rfl
       simp [execOp, evO_of_lookO hx, evO_of_lookO hy, eqGuard, binOp, Op.shift, hb']; done)
    | (have hk : k = k' := by rcases hk with h | h
                              · exact h
                              · cases h
       subst hk
       simp [execOp, evO_of_lookO hx, evO_of_lookO hy, eqGuard, binOp, Op.intArith, Op.intBits]; done)
theorem HL.wI {t t' : TypeId} {x y : Operand} {op : BinOp} {k k' : IntKind} {a b r : Int} (c : Int) (hs : stat N ops ⟨some d, .binOp op t x y t', ty, pos, af, gd⟩ σ = true) (hx : lookO σ x = some (.int k a)) (hy : lookO σ y = some (.int k' b)) (hw : GX.wI op k a b = some r) (hk : k = k' ∨ isSh op = true) (hb : isSh op = true → 0 ≤ b) (hc : r = c)
    (h : HL P N ops l ((d, .int k c) :: σ) B H K) : HL P N ops (⟨some d, .binOp op t x y t', ty, pos, af, gd⟩ :: l) σ B H K := HL.rd hs (fun w _ => hx_wI hx hy hk hb hw hc w) h
theorem HQ.wI {t t' : TypeId} {x y : Operand} {op : BinOp} {k k' : IntKind} {a b r : Int} (c : Int) (hs : stat N ops ⟨some d, .binOp op t x y t', ty, pos, af, gd⟩ σ = true) (hx : lookO σ x = some (.int k a)) (hy : lookO σ y = some (.int k' b)) (hw : GX.wI op k a b = some r) (hk : k = k' ∨ isSh op = true) (hb : isSh op = true → 0 ≤ b) (hc : r = c)
    (h : HQ P N ops l ((d, .int k c) :: σ) B H KQ) : HQ P N ops (⟨some d, .binOp op t x y t', ty, pos, af, gd⟩ :: l) σ B H KQ := RunQ.op hs (fun w _ => hx_wI hx hy hk hb hw hc w) h
theorem HD.wI {t t' : TypeId} {x y : Operand} {op : BinOp} {k k' : IntKind} {a b r : Int} (c : Int) (ho : ops[i]? = some ⟨some d, .binOp op t x y t', ty, pos, af, gd⟩) (hs : stat N ops ⟨some d, .binOp op t x y t', ty, pos, af, gd⟩ σ = true) (hx : lookO σ x = some (.int k a)) (hy : lookO σ y = some (.int k' b)) (hw : GX.wI op k a b = some r) (hk : k = k' ∨ isSh op = true) (hb : isSh op = true → 0 ≤ b) (hc : r = c)
    (h : HD P N ops p ((d, .int k c) :: σ) B H F K) : HD P N ops ((i, true) :: p) σ B H F K := HD.rd ho hs (fun w _ => hx_wI hx hy hk hb hw hc w) h
theorem hx_cv {s t : TypeId} {x : Operand} {ks k k' : IntKind} {a c : Int} (hx : lookO σ x = some (.int k a)) (hS : P.underlying s = some (.int ks)) (hT : P.underlying t = some (.int k')) (hc : k'.wrap a = c) :
    ∀ w, (execOp (evO σ) ⟨d', .convert s t x, ty, pos, af, gd⟩).run P w = .ok (.value (.int k' c)) w := by
  intro w
  subst hc
  simp [execOp, evO_of_lookO hx, convert, underlying, hS, hT, Conv.intToInt]
theorem HL.cv {s t : TypeId} {x : Operand} {ks k k' : IntKind} {a : Int} (c : Int) (hs : stat N ops ⟨some d, .convert s t x, ty, pos, af, gd⟩ σ = true) (hx : lookO σ x = some (.int k a)) (hS : P.underlying s = some (.int ks)) (hT : P.underlying t = some (.int k')) (hc : k'.wrap a = c)
    (h : HL P N ops l ((d, .int k' c) :: σ) B H K) : HL P N ops (⟨some d, .convert s t x, ty, pos, af, gd⟩ :: l) σ B H K := HL.rd hs (fun w _ => hx_cv hx hS hT hc w) h
theorem HD.cv {s t : TypeId} {x : Operand} {ks k k' : IntKind} {a : Int} (c : Int) (ho : ops[i]? = some ⟨some d, .convert s t x, ty, pos, af, gd⟩) (hs : stat N ops ⟨some d, .convert s t x, ty, pos, af, gd⟩ σ = true) (hx : lookO σ x = some (.int k a)) (hS : P.underlying s = some (.int ks)) (hT : P.underlying t = some (.int k')) (hc : k'.wrap a = c)
    (h : HD P N ops p ((d, .int k' c) :: σ) B H F K) : HD P N ops ((i, true) :: p) σ B H F K := HD.rd ho hs (fun w _ => hx_cv hx hS hT hc w) h
theorem hx_compl {t : TypeId} {x : Operand} {k : IntKind} {a c : Int} (hx : lookO σ x = some (.int k a)) (hc : k.wrap ((BitVec.ofInt k.bits (if k.signed then -1 else k.max) ^^^ BitVec.ofInt k.bits a).toNat) = c) :
    ∀ w, (execOp (evO σ) ⟨d', .unOp .xor t x, ty, pos, af, gd⟩).run P w = .ok (.value (.int k c)) w := by
  intro w
  subst hc
  simp [execOp, evO_of_lookO hx, Op.unary, Op.intBits]
theorem HL.compl {t : TypeId} {x : Operand} {k : IntKind} {a : Int} (c : Int) (hs : stat N ops ⟨some d, .unOp .xor t x, ty, pos, af, gd⟩ σ = true) (hx : lookO σ x = some (.int k a)) (hc : k.wrap ((BitVec.ofInt k.bits (if k.signed then -1 else k.max) ^^^ BitVec.ofInt k.bits a).toNat) = c)
    (h : HL P N ops l ((d, .int k c) :: σ) B H K) : HL P N ops (⟨some d, .unOp .xor t x, ty, pos, af, gd⟩ :: l) σ B H K := HL.rd hs (fun w _ => hx_compl hx hc w) h
/-! ### Bytes and arrays -/
theorem hx_bstr {t t2 e : TypeId} {x : Operand} {l' : List UInt8} (hv : Rd B H v (bcells l') l'.length) (hE : P.underlying t = some (.slice e)) (he : P.underlying e = some (.int .u8)) (hd : P.underlying t2 = some .string) (hx : lookO σ x = some v) :
    ∀ w, Sat B H w → (execOp (evO σ) ⟨d', .convert t t2 x, ty, pos, af, gd⟩).run P w = .ok (.value (str l')) w := by
  intro w hw
  simp [execOp, evO_of_lookO hx, run_bytes_str hE he hd (hv.is hw)]
theorem HL.bstr {t t2 e : TypeId} {x : Operand} {l' : List UInt8} (hv : Rd B H v (bcells l') l'.length) (hs : stat N ops ⟨some d, .convert t t2 x, ty, pos, af, gd⟩ σ = true) (hx : lookO σ x = some v) (hE : P.underlying t = some (.slice e)) (he : P.underlying e = some (.int .u8)) (hd : P.underlying t2 = some .string)
    (h : HL P N ops l ((d, str l') :: σ) B H K) : HL P N ops (⟨some d, .convert t t2 x, ty, pos, af, gd⟩ :: l) σ B H K := HL.rd hs (hx_bstr hv hE he hd hx) h
theorem HD.bstr {t t2 e : TypeId} {x : Operand} {l' : List UInt8} (hv : Rd B F v (bcells l') l'.length) (ho : ops[i]? = some ⟨some d, .convert t t2 x, ty, pos, af, gd⟩) (hs : stat N ops ⟨some d, .convert t t2 x, ty, pos, af, gd⟩ σ = true) (hx : lookO σ x = some v) (hE : P.underlying t = some (.slice e)) (he : P.underlying e = some (.int .u8)) (hd : P.underlying t2 = some .string)
    (h : HD P N ops p ((d, str l') :: σ) B H F K) : HD P N ops ((i, true) :: p) σ B H F K := HD.rd ho hs (hx_bstr hv hE he hd hx) h
/-- The whole of an array, as a slice. -/
theorem hx_arrSl {t e n : TypeId} {x : Operand} {b : Nat} (hT : P.underlying t = some (.array n e)) (hS : ((P.info? e).map (·.size)).isSome = true) (hx : lookO σ x = some (.pointer (some ⟨b, 0, none⟩))) :
    ∀ w, (execOp (evO σ) ⟨d', .slice t x none none none, ty, pos, af, gd⟩).run P w = .ok (.value (.slice (some ⟨b, 0, none⟩) n n)) w := by
  intro w
  obtain ⟨ti, h1⟩ : ∃ ti, P.info? e = some ti := by
    cases h : P.info? e with
    | none => rw [h] at hS; cases hS
    | some ti => exact ⟨ti, rfl⟩
  have hadd : ∀ m, (⟨b, 0, none⟩ : Addr).add (0 * m) = ⟨b, 0, none⟩ := fun m => by unfold Addr.add; split <;> simp_all
  simp [execOp, evO_of_lookO hx, Instr.sliceAt, Instr.sureAddr, Instr.sliceBounds, underlying, hT, sizeOf, typeInfo, h1]
  intro _
  unfold Addr.add; split <;> simp_all
theorem HL.arrSl {t e n : TypeId} {x : Operand} {b : Nat} (hs : stat N ops ⟨some d, .slice t x none none none, ty, pos, af, gd⟩ σ = true) (hx : lookO σ x = some (.pointer (some ⟨b, 0, none⟩))) (hT : P.underlying t = some (.array n e)) (hS : ((P.info? e).map (·.size)).isSome = true)
    (h : HL P N ops l ((d, .slice (some ⟨b, 0, none⟩) n n) :: σ) B H K) : HL P N ops (⟨some d, .slice t x none none none, ty, pos, af, gd⟩ :: l) σ B H K := HL.rd hs (fun w _ => hx_arrSl hT hS hx w) h
theorem HD.arrSl {t e n : TypeId} {x : Operand} {b : Nat} (ho : ops[i]? = some ⟨some d, .slice t x none none none, ty, pos, af, gd⟩) (hs : stat N ops ⟨some d, .slice t x none none none, ty, pos, af, gd⟩ σ = true) (hx : lookO σ x = some (.pointer (some ⟨b, 0, none⟩))) (hT : P.underlying t = some (.array n e)) (hS : ((P.info? e).map (·.size)).isSome = true)
    (h : HD P N ops p ((d, .slice (some ⟨b, 0, none⟩) n n) :: σ) B H F K) : HD P N ops ((i, true) :: p) σ B H F K := HD.rd ho hs (fun w _ => hx_arrSl hT hS hx w) h
theorem Rd.blk {b n : Nat} {T : TypeId} {cs : List Value} (i : Nat) (hi : nthC H i = some (blkC b cs T)) : Rd B H (.slice (some ⟨b, 0, none⟩) n n) cs n := by
  intro w hw
  have hb : Blk w b cs T := hw.nth hi
  refine ⟨.inr ⟨b, 0, n, rfl, fun j u hu => ?_⟩, _, _, rfl, Nat.le_refl _⟩
  rw [Nat.zero_add, hb.cell]; exact hu
/-- An array's element, of an array that is a value. -/
theorem hx_idxV {t e n : TypeId} {td : TypeDesc} {x y : Operand} {cs : List Value} {kk : IntKind} {m : Int} (j : Nat) (hT : P.underlying t = some (.array n e)) (hE : P.underlying e = some td) (hp : plainT td = true) (hS : (P.info? e).map (·.size) = some 1) (hx : lookO σ x = some (.agg ⟨cs⟩)) (hy : lookO σ y = some (.int kk m)) (hj : m = (j : Int)) (hlt : j < n) (hu : cs[j]? = some u) :
    ∀ w, (execOp (evO σ) ⟨d', .index t x y, ty, pos, af, gd⟩).run P w = .ok (.value u) w := by
  intro w
  subst hj
  obtain ⟨ti, h1, h2⟩ : ∃ ti, P.info? e = some ti ∧ ti.size = 1 := by
    cases h : P.info? e with
    | none => rw [h] at hS; cases hS
    | some ti => rw [h] at hS; exact ⟨ti, rfl, by simpa using hS⟩
  have ha : (isAgg e).run P w = .ok false w := by
    cases td <;> simp_all [isAgg, underlying, plainT]
  simp [execOp, evO_of_lookO hx, evO_of_lookO hy, Instr.index, asIntOf, underlying, hT, sizeOf, typeInfo, h1, h2, hlt, part, ha, hu]
theorem HL.idxV {t e n : TypeId} {td : TypeDesc} {x y : Operand} {cs : List Value} {kk : IntKind} {m : Int} (j : Nat) (hs : stat N ops ⟨some d, .index t x y, ty, pos, af, gd⟩ σ = true) (hx : lookO σ x = some (.agg ⟨cs⟩)) (hy : lookO σ y = some (.int kk m)) (hT : P.underlying t = some (.array n e)) (hE : P.underlying e = some td) (hp : plainT td = true) (hS : (P.info? e).map (·.size) = some 1) (hj : m = (j : Int)) (hlt : j < n) (hu : cs[j]? = some u)
    (h : HL P N ops l ((d, u) :: σ) B H K) : HL P N ops (⟨some d, .index t x y, ty, pos, af, gd⟩ :: l) σ B H K := HL.rd hs (fun w _ => hx_idxV j hT hE hp hS hx hy hj hlt hu w) h
theorem ldV_at {t : TypeId} {td : TypeDesc} {cs : List Value} {j : Nat} (hT : P.underlying t = some td) (hp : plainT td = true) (hu : cs[j]? = some u) : ldV P t cs j = some u := by
  unfold ldV; rw [hT]; simp only [hp]; rw [nthV_eq]; exact hu
theorem stV_at {t : TypeId} {cs : List Value} {j : Nat} (hm : (P.info? t).map (·.size) = some 1) (hc : cellsL u = [u]) (h1 : allOne [u] = true) (hj : j < cs.length) : stV P t cs j u = some (cs.set j u) := by
  obtain ⟨ti, g1, g2⟩ : ∃ ti, P.info? t = some ti ∧ ti.size = 1 := by
    cases h : P.info? t with
    | none => rw [h] at hm; cases hm
    | some ti => rw [h] at hm; exact ⟨ti, rfl, by simpa using hm⟩
  unfold stV
  rw [g1]
  simp only [hc, h1, g2]
  have e1 : Nat.beq 1 (lenV [u]) = true := rfl
  have e2 : Nat.ble (j + lenV [u]) (lenV cs) = true := by rw [lenV_eq, lenV_eq]; exact Nat.ble_eq_true_of_le (by simp; omega)
  rw [e1, e2]
  show some (putR cs j [u]) = _
  rw [putR_eq (by simp; omega), List.set_eq_take_append_cons_drop, if_pos hj]
  simp
theorem HL.idxAv {t e n : TypeId} {x y : Operand} {b o : Nat} {kk : IntKind} {m : Int} (j sz : Nat) (hs : stat N ops ⟨some d, .indexAddr t x y, ty, pos, af, gd⟩ σ = true) (hT : P.underlying t = some (.array n e)) (hS : (P.info? e).map (·.size) = some sz) (hx : lookO σ x = some (.pointer (some ⟨b, o, none⟩))) (hi : lookO σ y = some (.int kk m)) (hj : m = (j : Int)) (hlt : j < n)
    (h : HL P N ops l ((d, .pointer (some ⟨b, o + j * sz, none⟩)) :: σ) B H K) : HL P N ops (⟨some d, .indexAddr t x y, ty, pos, af, gd⟩ :: l) σ B H K := HL.rd hs (fun w _ => hx_idxAv hT hS hx hi hj hlt w) h
theorem HD.idxAv {t e n : TypeId} {x y : Operand} {b o : Nat} {kk : IntKind} {m : Int} (j sz : Nat) (ho : ops[i]? = some ⟨some d, .indexAddr t x y, ty, pos, af, gd⟩) (hs : stat N ops ⟨some d, .indexAddr t x y, ty, pos, af, gd⟩ σ = true) (hT : P.underlying t = some (.array n e)) (hS : (P.info? e).map (·.size) = some sz) (hx : lookO σ x = some (.pointer (some ⟨b, o, none⟩))) (hi : lookO σ y = some (.int kk m)) (hj : m = (j : Int)) (hlt : j < n)
    (h : HD P N ops p ((d, .pointer (some ⟨b, o + j * sz, none⟩)) :: σ) B H F K) : HD P N ops ((i, true) :: p) σ B H F K := HD.rd ho hs (fun w _ => hx_idxAv hT hS hx hi hj hlt w) h
theorem run_eqPt (w : World) (n : Nat) (t e : TypeId) (a : Addr) (h : P.underlying t = some (.pointer e)) : (Op.equalIn (n + 1) t (.pointer (some a)) (.pointer none)).run P w = .ok false w := by
  simp [Op.equalIn, run_underlying h]
/-- A pointer held against nil. -/
theorem hx_eqPn {t e t' : TypeId} {x y : Operand} {a : Addr} (hT : P.underlying t = some (.pointer e)) (hx : lookO σ x = some (.pointer (some a))) (hy : lookO σ y = some (.pointer none)) :
    ∀ w, (execOp (evO σ) ⟨d', .binOp .eql t x y t', ty, pos, af, gd⟩).run P w = .ok (.value (.bool false)) w := by
  intro w
  have h1 := run_eqPt w 9999 t e a hT
  simp [execOp, evO_of_lookO hx, evO_of_lookO hy, eqGuard, binOp, Op.equal, Op.maxDepth, h1]
theorem HL.eqPn {t e t' : TypeId} {x y : Operand} {a : Addr} (hs : stat N ops ⟨some d, .binOp .eql t x y t', ty, pos, af, gd⟩ σ = true) (hT : P.underlying t = some (.pointer e)) (hx : lookO σ x = some (.pointer (some a))) (hy : lookO σ y = some (.pointer none))
    (h : HL P N ops l ((d, .bool false) :: σ) B H K) : HL P N ops (⟨some d, .binOp .eql t x y t', ty, pos, af, gd⟩ :: l) σ B H K := HL.rd hs (fun w _ => hx_eqPn hT hx hy w) h
theorem Sat.same {w : World} {c : Chunk} (h : c.p w) : Sat ⟨w, feet [c]⟩ [c] w :=
  ⟨rfl, rfl, rfl, Nat.le_refl _, fun _ _ _ => rfl, h, fun k hk => .inr ⟨c, List.mem_cons_self .., hk⟩, (fun d hd => by cases hd), trivial⟩
theorem Sat.sameB {w : World} {b : Nat} {cs : List Value} {T : TypeId} (hb : Blk w b cs T) : Sat ⟨w, feet [blkC b cs T]⟩ [blkC b cs T] w := Sat.same (c := blkC b cs T) hb
theorem Sat.blk {w : World} {b i : Nat} {cs : List Value} {T : TypeId} (hw : Sat B H w) (hi : nthC H i = some (blkC b cs T)) : Blk w b cs T := hw.nth hi
theorem wrapU64 (n : Nat) : IntKind.u64.wrap (n : Int) = ((n % 18446744073709551616 : Nat) : Int) := by
  simp only [IntKind.wrap, IntKind.bits, IntKind.signed]; simp
theorem wrapU8 (n : Nat) : IntKind.u8.wrap (n : Int) = ((n % 256 : Nat) : Int) := by
  simp only [IntKind.wrap, IntKind.bits, IntKind.signed]; simp
theorem u8n (n : Nat) : ((UInt8.ofNat n).toNat : Int) = ((n % 256 : Nat) : Int) := by rw [UInt8.toNat_ofNat']
theorem HR.exit {id : Nat} {k' : List Item} (he : exitTo id k = some k') (h : HR P f N k' σ B H R) : HR P f N (.code (.exit id) :: k) σ B H R := fun w hw => Run.exit he (h w hw)
theorem HR.inBlock {id : Nat} (h : HR P f N k σ B H R) : HR P f N (.inBlock id :: k) σ B H R := fun w hw => Run.inBlock (h w hw)
end
end Go.GX

/- The plain functions of layer 4: what its Go functions compute, on lists of bytes. Conditions: none. -/
namespace Nm
def lett (c : Int) : Bool := decide (c ≥ 97) && decide (c ≤ 122)
def badc (c : Int) (first : Bool) : Bool := !lett c && (first || (c != 95 && c != 45 && (decide (c < 48) || decide (c > 57))))
def badAt (s : List UInt8) (k : Nat) : Bool := badc ((s.getD k 0).toNat : Int) ((k : Int) == 0)
def valid (s : List UInt8) : Bool := !(decide ((s.length : Int) < 1) || decide ((s.length : Int) > 24)) && (List.range s.length).all fun k => !badAt s k
theorem valid_false {s : List UInt8} {k : Nat} (hk : k < s.length) (h : badAt s k = true) : valid s = false := by
  unfold valid
  rw [Bool.and_eq_false_iff]; right
  rw [List.all_eq_false]
  exact ⟨k, by simpa using hk, by simp [h]⟩
theorem valid_true {s : List UInt8} (h1 : (decide ((s.length : Int) < 1) || decide ((s.length : Int) > 24)) = false) (h : ∀ k, k < s.length → badAt s k = false) : valid s = true := by
  unfold valid
  rw [h1]
  simp only [Bool.not_false, Bool.true_and, List.all_eq_true, List.mem_range]
  intro k hk; rw [h k hk]; rfl
end Nm
namespace Nm
def hexdigs : List UInt8 := [48, 49, 50, 51, 52, 53, 54, 55, 56, 57, 97, 98, 99, 100, 101, 102]
def hexd (n : Nat) : UInt8 := hexdigs.getD (n % 16) 0
/-- The form of a byte. -/
def quoteB (c : UInt8) : List UInt8 :=
  if ((c.toNat : Int) == 34 || (c.toNat : Int) == 92) = true then [92, c]
  else if (decide ((c.toNat : Int) < 32) || decide ((c.toNat : Int) > 126)) = true then [92, 120, hexd (c.toNat / 16), hexd c.toNat]
  else [c]
def quote (s : List UInt8) : List UInt8 := 34 :: s.flatMap quoteB ++ [34]
theorem quoteB_len (c : UInt8) : (quoteB c).length ≤ 4 := by unfold quoteB; repeat' split
                                                             all_goals simp
theorem flatMap_len (s : List UInt8) : (s.flatMap quoteB).length ≤ 4 * s.length := by
  induction s with
  | nil => simp
  | cons c s ih => simp only [List.flatMap_cons, List.length_append, List.length_cons]; have := quoteB_len c; omega
theorem take_snoc {α : Type} (l : List α) (k : Nat) (d : α) (h : k < l.length) : l.take (k + 1) = l.take k ++ [l.getD k d] := by
  rw [List.take_succ_eq_append_getElem h, List.getD_eq_getElem?_getD, List.getElem?_eq_getElem h]; rfl
/-- A hexadecimal digit's value, or -1. -/
def hexv (c : Int) : Int :=
  if (decide (c ≥ 48) && decide (c ≤ 57)) = true then c - 48
  else if (decide (c ≥ 97) && decide (c ≤ 102)) = true then c - 97 + 10
  else -1
end Nm
namespace Nm
def qacc (s : List UInt8) (k : Nat) : List UInt8 := 34 :: (s.take k).flatMap quoteB
theorem qacc_succ (s : List UInt8) (k : Nat) (h : k < s.length) : qacc s (k + 1) = qacc s k ++ quoteB (s.getD k 0) := by
  simp [qacc, take_snoc s k 0 h]
theorem qacc_len (s : List UInt8) (k : Nat) : (qacc s k).length ≤ 4 * s.length + 1 := by
  have := flatMap_len (s.take k)
  simp only [qacc, List.length_cons]
  have h2 : (s.take k).length ≤ s.length := List.length_take_le' ..
  omega
theorem quote_eq (s : List UInt8) : quote s = qacc s s.length ++ [34] := by simp [quote, qacc]
theorem quoteB_1 {c : UInt8} (h : ((c.toNat : Int) == 34 || (c.toNat : Int) == 92) = true) : quoteB c = [92, c] := by unfold quoteB; rw [if_pos h]
theorem quoteB_2 {c : UInt8} (h : ((c.toNat : Int) == 34 || (c.toNat : Int) == 92) = false) (h2 : (decide ((c.toNat : Int) < 32) || decide ((c.toNat : Int) > 126)) = true) : quoteB c = [92, 120, hexd (c.toNat / 16), hexd c.toNat] := by
  unfold quoteB; rw [if_neg (by simp [h]), if_pos h2]
theorem quoteB_3 {c : UInt8} (h : ((c.toNat : Int) == 34 || (c.toNat : Int) == 92) = false) (h2 : (decide ((c.toNat : Int) < 32) || decide ((c.toNat : Int) > 126)) = false) : quoteB c = [c] := by
  unfold quoteB; rw [if_neg (by simp [h]), if_neg (by simp [h2])]
end Nm
namespace Nm
theorem hexslice : ∀ k, k < 16 → List.take (k + 1 - k) (List.drop k hexdigs) = [hexd k] := by decide
theorem and15 (n : Nat) : n &&& 15 = n % 16 := Nat.and_two_pow_sub_one_eq_mod n 4
theorem hexd_mod (n : Nat) : hexd (n % 16) = hexd n := by unfold hexd; rw [Nat.mod_mod]
end Nm
namespace Nm
theorem quote_len (s : List UInt8) : (quote s).length ≤ 4 * s.length + 2 := by
  have := flatMap_len s; simp only [quote, List.cons_append, List.length_cons, List.length_append, List.length_nil]; omega
end Nm

/- The plain law of tariffs: what the functions compute. Conditions: none. -/
namespace Tf
open Go.GX
set_option linter.unusedVariables false
set_option linter.unusedSimpArgs false

structure Tr where
  b : List Int
  s : List Int
  fu : Int
def bad (p : Int) : Bool := decide (p < 0) || decide (p > 1000000)
def over (p : Int × Int) : Bool := decide (p.2 > p.1)
def sized (t : Tr) : Bool := decide (1 ≤ t.b.length) && decide (t.b.length ≤ 96) && decide (t.s.length = t.b.length)
def ranged (t : Tr) : Bool := !t.b.any bad && !t.s.any bad && decide (1 ≤ t.fu) && decide (t.fu ≤ 1000)
def check (t : Tr) : Int := if sized t = false then 3 else if ranged t = false then 2 else if (t.b.zip t.s).any over = true then 4 else 0
theorem check_sized {t : Tr} (h : sized t = false) : check t = 3 := by simp [check, h]
theorem check_ranged {t : Tr} (h : sized t = true) (h2 : ranged t = false) : check t = 2 := by simp [check, h, h2]
theorem check_over {t : Tr} (h : sized t = true) (h2 : ranged t = true) (h3 : (t.b.zip t.s).any over = true) : check t = 4 := by simp [check, h, h2, h3]
theorem check_ok {t : Tr} (h : sized t = true) (h2 : ranged t = true) (h3 : (t.b.zip t.s).any over = false) : check t = 0 := by simp [check, h, h2, h3]
theorem sized_iff {t : Tr} : sized t = true ↔ 1 ≤ t.b.length ∧ t.b.length ≤ 96 ∧ t.s.length = t.b.length := by simp [sized, and_assoc]
theorem any_take {α : Type} {f : α → Bool} {l : List α} {k : Nat} {a : α} (ha : l[k]? = some a) : (l.take (k + 1)).any f = ((l.take k).any f || f a) := by
  rw [take_succ_get ha]; simp
theorem any_at {α : Type} {f : α → Bool} {l : List α} {k : Nat} {a : α} (ha : l[k]? = some a) (hf : f a = true) : l.any f = true := List.any_eq_true.2 ⟨a, List.mem_of_getElem? ha, hf⟩
theorem zip_get {l m : List Int} {k : Nat} {a b : Int} (ha : l[k]? = some a) (hb : m[k]? = some b) : (l.zip m)[k]? = some (a, b) := List.getElem?_zip_eq_some.2 ⟨ha, hb⟩

structure Ok (t : Tr) : Prop where
  n1 : 1 ≤ t.b.length
  n2 : t.b.length ≤ 96
  n3 : t.s.length = t.b.length
  f1 : 1 ≤ t.fu
  f2 : t.fu ≤ 1000
  pb : ∀ x ∈ t.b, 0 ≤ x ∧ x ≤ 1000000
  ps : ∀ x ∈ t.s, 0 ≤ x ∧ x ≤ 1000000
  ov : ∀ (j : Nat) (x y : Int), t.b[j]? = some x → t.s[j]? = some y → y ≤ x
theorem notbad {l : List Int} (h : l.any bad = false) : ∀ x ∈ l, 0 ≤ x ∧ x ≤ 1000000 := by
  intro x hx
  have := List.any_eq_false.1 h x hx
  simp only [bad, Bool.or_eq_true, decide_eq_true_eq] at this
  omega
theorem ok_of {t : Tr} (h : check t = 0) : Ok t := by
  unfold check at h
  split at h
  · omega
  · rename_i h1
    split at h
    · omega
    · rename_i h2
      split at h
      · omega
      · rename_i h3
        have h1 : sized t = true := by simpa using h1
        have h2 : ranged t = true := by simpa using h2
        obtain ⟨a1, a2, a3⟩ := sized_iff.1 h1
        simp only [ranged, Bool.and_eq_true, Bool.not_eq_true', decide_eq_true_eq] at h2
        obtain ⟨⟨⟨b1, b2⟩, b3⟩, b4⟩ := h2
        refine ⟨a1, a2, a3, b3, b4, notbad b1, notbad b2, fun j x y hx hy => ?_⟩
        have := List.any_eq_false.1 (by simpa using h3) (x, y) (List.mem_of_getElem? (zip_get hx hy))
        simp only [over, decide_eq_true_eq] at this
        omega

def slots (t : Tr) : Nat := if check t = 0 then t.b.length else 0
theorem slots_ok {t : Tr} (h : check t = 0) : slots t = t.b.length := by simp [slots, h]
theorem slots_no {t : Tr} (h : ¬ check t = 0) : slots t = 0 := by simp [slots, h]
theorem slots_le (t : Tr) : slots t ≤ 96 := by
  unfold slots; split
  · rename_i h; exact (ok_of h).n2
  · omega
theorem ok_slots {t : Tr} {j : Nat} (h : j < slots t) : check t = 0 := by
  by_cases h0 : check t = 0
  · exact h0
  · rw [slots_no h0] at h; omega
def clamp (n lo hi : Int) : Int := if hi < lo ∨ n > hi then hi else if n < lo then lo else n
def amount (b s net : Int) : Int := if clamp net (-1000) 1000 < 0 then clamp net (-1000) 1000 * s else clamp net (-1000) 1000 * b
def inB (t : Tr) (i : Int) : Bool := decide (0 ≤ i) && decide (i < t.b.length) && decide (check t = 0)
def bAt (t : Tr) (i : Int) : Int := t.b.getD i.toNat 0
def sAt (t : Tr) (i : Int) : Int := t.s.getD i.toNat 0
def cost (t : Tr) (i net : Int) : Int := if inB t i = true then amount (bAt t i) (sAt t i) net else 0
def fit (t : Tr) (i net : Int) : Bool := inB t i && decide (net ≥ -t.fu) && decide (net ≤ t.fu)
theorem inB_of {t : Tr} {i : Int} (h : inB t i = true) : ∃ j : Nat, i = j ∧ j < t.b.length ∧ check t = 0 := by
  simp only [inB, Bool.and_eq_true, decide_eq_true_eq] at h
  exact ⟨i.toNat, by omega, by omega, h.2⟩
theorem clamp_le (n : Int) : -1000 ≤ clamp n (-1000) 1000 ∧ clamp n (-1000) 1000 ≤ 1000 := by
  unfold clamp; split <;> (try split) <;> omega
theorem mul_bound {c p : Int} (hc : -1000 ≤ c ∧ c ≤ 1000) (hp : 0 ≤ p ∧ p ≤ 1000000) : -1000000000 ≤ c * p ∧ c * p ≤ 1000000000 := by
  have h1 : (c + 1000) * p ≥ 0 := Int.mul_nonneg (by omega) hp.1
  have h2 : (1000 - c) * p ≥ 0 := Int.mul_nonneg (by omega) hp.1
  rw [Int.add_mul] at h1
  rw [Int.sub_mul] at h2
  omega
theorem amount_bound {b s n : Int} (hb : 0 ≤ b ∧ b ≤ 1000000) (hs : 0 ≤ s ∧ s ≤ 1000000) : -1000000000 ≤ amount b s n ∧ amount b s n ≤ 1000000000 := by
  unfold amount; split
  · exact mul_bound (clamp_le n) hs
  · exact mul_bound (clamp_le n) hb
theorem bAt_get {t : Tr} {j : Nat} {x : Int} (h : t.b[j]? = some x) : bAt t (j : Int) = x := by simp [bAt, List.getD_eq_getElem?_getD, h]
theorem sAt_get {t : Tr} {j : Nat} {x : Int} (h : t.s[j]? = some x) : sAt t (j : Int) = x := by simp [sAt, List.getD_eq_getElem?_getD, h]
theorem inB_nat {t : Tr} (h : check t = 0) {j : Nat} (hj : j < t.b.length) : inB t (j : Int) = true := by simp [inB, h, hj]
theorem cost_at {t : Tr} (h : check t = 0) {j : Nat} {x y n : Int} (hx : t.b[j]? = some x) (hy : t.s[j]? = some y) : cost t (j : Int) n = amount x y n := by
  unfold cost
  rw [if_pos (inB_nat h (List.getElem?_eq_some_iff.1 hx).1), bAt_get hx, sAt_get hy]
theorem cost_bound (t : Tr) (i n : Int) : -1000000000 ≤ cost t i n ∧ cost t i n ≤ 1000000000 := by
  unfold cost; split
  · rename_i h
    obtain ⟨j, rfl, hj, h0⟩ := inB_of h
    have ho := ok_of h0
    obtain ⟨x, hx⟩ := getSome hj
    obtain ⟨y, hy⟩ := getSome (show j < t.s.length by rw [ho.n3]; exact hj)
    rw [bAt_get hx, sAt_get hy]
    exact amount_bound (ho.pb x (List.mem_of_getElem? hx)) (ho.ps y (List.mem_of_getElem? hy))
  · omega
theorem cost_zero (t : Tr) (i : Int) : cost t i 0 = 0 := by
  unfold cost; split
  · simp [amount, clamp]
  · rfl

/-! ### The sum over the slots -/
def tot (t : Tr) (nets : List Int) : Nat → Int
  | 0 => 0
  | k + 1 => tot t nets k + cost t k (nets.getD k 0)
def total (t : Tr) (nets : List Int) : Int := tot t nets (min nets.length (slots t))
theorem tot_bound (t : Tr) (nets : List Int) : ∀ k : Nat, -(1000000000 * (k : Int)) ≤ tot t nets k ∧ tot t nets k ≤ 1000000000 * (k : Int)
  | 0 => by simp [tot]
  | k + 1 => by
    have h1 := tot_bound t nets k
    have h2 := cost_bound t k (nets.getD k 0)
    simp only [tot]
    omega
theorem tot_past (t : Tr) (nets : List Int) {m : Nat} (hm : nets.length ≤ m) : ∀ d, tot t nets (m + d) = tot t nets m
  | 0 => rfl
  | d + 1 => by
    show tot t nets (m + d) + cost t ((m + d : Nat) : Int) (nets.getD (m + d) 0) = _
    rw [tot_past t nets hm d, List.getD_eq_getElem?_getD, List.getElem?_eq_none (by omega), Option.getD_none, cost_zero, Int.add_zero]

/-! ### Amounts that are split -/
theorem mul_mono {a b p : Int} (h : a ≤ b) (hp : 0 ≤ p) : a * p ≤ b * p := Int.mul_le_mul_of_nonneg_right h hp
theorem amount_in {x y n : Int} (h1 : -1000 ≤ n) (h2 : n ≤ 1000) : amount x y n = if n < 0 then n * y else n * x := by
  have : clamp n (-1000) 1000 = n := by unfold clamp; rw [if_neg (by omega), if_neg (by omega)]
  unfold amount; rw [this]
/-- What a slot costs, as the greater of both prices' worth. -/
theorem amount_max {x y n : Int} (hxy : y ≤ x) (h1 : -1000 ≤ n) (h2 : n ≤ 1000) : (n * x ≤ amount x y n ∧ n * y ≤ amount x y n) ∧ (amount x y n = n * x ∨ amount x y n = n * y) := by
  rw [amount_in h1 h2]
  split
  · refine ⟨⟨?_, Int.le_refl _⟩, .inr rfl⟩
    have := Int.mul_le_mul_of_nonpos_left (show n ≤ 0 by omega) hxy
    omega
  · refine ⟨⟨Int.le_refl _, ?_⟩, .inl rfl⟩
    exact Int.mul_le_mul_of_nonneg_left hxy (by omega)
theorem amount_split {x y a b : Int} (hxy : y ≤ x) (ha : -1000 ≤ a ∧ a ≤ 1000) (hb : -1000 ≤ b ∧ b ≤ 1000) (hab : -1000 ≤ a + b ∧ a + b ≤ 1000) : amount x y (a + b) ≤ amount x y a + amount x y b := by
  obtain ⟨⟨a1, a2⟩, _⟩ := amount_max hxy ha.1 ha.2
  obtain ⟨⟨b1, b2⟩, _⟩ := amount_max hxy hb.1 hb.2
  obtain ⟨_, h⟩ := amount_max hxy hab.1 hab.2
  rcases h with h | h <;> rw [h, Int.add_mul] <;> omega
theorem amount_mono {x y a b : Int} (hy : 0 ≤ y) (hx : 0 ≤ x) (ha : -1000 ≤ a ∧ a ≤ 1000) (hb : -1000 ≤ b ∧ b ≤ 1000) (hab : a ≤ b) : amount x y a ≤ amount x y b := by
  rw [amount_in ha.1 ha.2, amount_in hb.1 hb.2]
  split
  · split
    · exact mul_mono hab hy
    · have h1 : a * y ≤ 0 := by have := mul_mono (show a ≤ 0 by omega) hy; omega
      have h2 : 0 ≤ b * x := Int.mul_nonneg (by omega) hx
      omega
  · rw [if_neg (by omega)]
    exact mul_mono hab hx
theorem cost_split {t : Tr} {i a b : Int} (ha : -1000 ≤ a ∧ a ≤ 1000) (hb : -1000 ≤ b ∧ b ≤ 1000) (hab : -1000 ≤ a + b ∧ a + b ≤ 1000) : cost t i (a + b) ≤ cost t i a + cost t i b := by
  unfold cost; split
  · rename_i h
    obtain ⟨j, rfl, hj, h0⟩ := inB_of h
    have ho := ok_of h0
    obtain ⟨x, hx⟩ := getSome hj
    obtain ⟨y, hy⟩ := getSome (show j < t.s.length by rw [ho.n3]; exact hj)
    rw [bAt_get hx, sAt_get hy]
    exact amount_split (ho.ov j x y hx hy) ha hb hab
  · omega
theorem cost_mono {t : Tr} {i a b : Int} (ha : -1000 ≤ a ∧ a ≤ 1000) (hb : -1000 ≤ b ∧ b ≤ 1000) (hab : a ≤ b) : cost t i a ≤ cost t i b := by
  unfold cost; split
  · rename_i h
    obtain ⟨j, rfl, hj, h0⟩ := inB_of h
    have ho := ok_of h0
    obtain ⟨x, hx⟩ := getSome hj
    obtain ⟨y, hy⟩ := getSome (show j < t.s.length by rw [ho.n3]; exact hj)
    rw [bAt_get hx, sAt_get hy]
    exact amount_mono (ho.ps y (List.mem_of_getElem? hy)).1 (ho.pb x (List.mem_of_getElem? hx)).1 ha hb hab
  · omega
theorem cost_back {t : Tr} {i a : Int} (ha : -1000 ≤ a ∧ a ≤ 1000) : 0 ≤ cost t i a + cost t i (-a) := by
  have := cost_split (t := t) (i := i) (a := a) (b := -a) ha (by omega) (by omega)
  rw [Int.add_right_neg, cost_zero] at this
  omega

/-! ### The cheapest slots -/
def sumAt (b : List Int) (i k : Nat) : Int := ((b.drop i).take k).sum
def best (b : List Int) (k : Nat) : Nat → Nat
  | 0 => 0
  | m + 1 => if sumAt b (m + 1) k < sumAt b (best b k m) k then m + 1 else best b k m
def cheapest (t : Tr) (k : Int) : Int := if 1 ≤ k ∧ k ≤ slots t then (best t.b k.toNat (t.b.length - k.toNat) : Int) else -1
theorem best_le (b : List Int) (k : Nat) : ∀ m, best b k m ≤ m
  | 0 => Nat.le_refl _
  | m + 1 => by
    unfold best; split
    · omega
    · have := best_le b k m; omega
theorem best_min (b : List Int) (k : Nat) : ∀ m i, i ≤ m → sumAt b (best b k m) k ≤ sumAt b i k ∧ (i < best b k m → sumAt b (best b k m) k < sumAt b i k)
  | 0, i, hi => by
    have : i = 0 := by omega
    subst this
    exact ⟨Int.le_refl _, fun h => absurd h (by unfold best; omega)⟩
  | m + 1, i, hi => by
    have hl := best_le b k m
    unfold best
    split
    · rename_i h
      by_cases hi' : i = m + 1
      · subst hi'; exact ⟨Int.le_refl _, fun h => absurd h (by omega)⟩
      · have := (best_min b k m i (by omega)).1
        exact ⟨by omega, fun _ => by omega⟩
    · rename_i h
      by_cases hi' : i = m + 1
      · subst hi'; exact ⟨by omega, fun h2 => absurd h2 (by omega)⟩
      · exact best_min b k m i (by omega)
theorem sum_bound {l : List Int} (h : ∀ x ∈ l, 0 ≤ x ∧ x ≤ 1000000) : 0 ≤ l.sum ∧ l.sum ≤ 1000000 * (l.length : Int) := by
  induction l with
  | nil => simp
  | cons x l ih =>
    have h1 := h x (List.mem_cons_self ..)
    have h2 := ih fun y hy => h y (List.mem_cons_of_mem _ hy)
    simp only [List.sum_cons, List.length_cons]
    omega
theorem sum_take {l : List Int} {k : Nat} {a : Int} (ha : l[k]? = some a) : (l.take (k + 1)).sum = (l.take k).sum + a := by
  rw [take_succ_get ha]; simp
theorem sumAt_succ {b : List Int} {i k : Nat} {a : Int} (ha : b[i + k]? = some a) : sumAt b i (k + 1) = sumAt b i k + a := by
  unfold sumAt; exact sum_take (by rw [List.getElem?_drop]; exact ha)
theorem sumAt_move {b : List Int} {i k : Nat} {x y : Int} (hk : 1 ≤ k) (hx : b[i]? = some x) (hy : b[i + k]? = some y) : sumAt b (i + 1) k = sumAt b i k + y - x := by
  have h1 : sumAt b i (k + 1) = sumAt b i k + y := sumAt_succ hy
  have h2 : sumAt b i (k + 1) = x + sumAt b (i + 1) k := by
    unfold sumAt; rw [drop_get hx, List.take_succ_cons, List.sum_cons]
  omega
theorem sumAt_bound {b : List Int} (h : ∀ x ∈ b, 0 ≤ x ∧ x ≤ 1000000) (i k : Nat) : 0 ≤ sumAt b i k ∧ sumAt b i k ≤ 1000000 * (k : Int) := by
  have h1 := sum_bound (l := (b.drop i).take k) fun x hx => h x (List.drop_subset _ _ (List.take_subset _ _ hx))
  have h2 : ((b.drop i).take k).length ≤ k := by simp; omega
  unfold sumAt; omega
theorem sumAt_one {b : List Int} {i : Nat} {x : Int} (hx : b[i]? = some x) : sumAt b i 1 = x := by
  have : sumAt b i (0 + 1) = sumAt b i 0 + x := sumAt_succ hx
  simpa [sumAt] using this
end Tf

/- The plain law of a tariff's different prices. Conditions: none. -/
namespace Tf
open Go.GX
set_option linter.unusedVariables false
set_option linter.unusedSimpArgs false
abbrev srt (b : List Int) : List Int := b.mergeSort fun x y => decide (x ≤ y)
abbrev dif (b : List Int) : List Int := Go.Lib.compact (srt b)
def bands (t : Tr) : List Int := if check t = 0 then dif t.b else []
theorem bands_ok {t : Tr} (h : check t = 0) : bands t = dif t.b := by simp [bands, h]
theorem bands_no {t : Tr} (h : ¬ check t = 0) : bands t = [] := by simp [bands, h]
theorem srt_sorted (b : List Int) : (srt b).Pairwise fun x y => x ≤ y := by
  have := List.pairwise_mergeSort (le := fun x y : Int => decide (x ≤ y)) (fun a b c h1 h2 => by simp only [decide_eq_true_eq] at *; omega) (fun a b => by simp only [Bool.or_eq_true, decide_eq_true_eq]; omega) b
  exact this.imp fun h => by simpa using h
theorem upTo_spec {zs : List Int} (hs : zs.Pairwise fun x y => x ≤ y) : ∀ m, m ≤ zs.length → (Go.Lib.compactUpTo zs.toArray m).Pairwise (fun x y => x < y) ∧ ∀ x, x ∈ Go.Lib.compactUpTo zs.toArray m ↔ x ∈ zs.take m
  | 0, _ => by simp [Go.Lib.compactUpTo]
  | m + 1, hm => by
    obtain ⟨h1, h2⟩ := upTo_spec hs m (by omega)
    obtain ⟨a, ha⟩ := getSome (show m < zs.length by omega)
    have hma : zs.toArray[m]! = a := by
      obtain ⟨hl, he⟩ := List.getElem?_eq_some_iff.1 ha
      rw [getElem!_pos zs.toArray m (by simpa using hl)]; simpa using he
    rw [Go.Lib.compactUpTo_succ, take_succ_get ha, hma]
    by_cases hk : Go.Lib.keeps zs.toArray m = true
    · rw [if_pos hk]
      refine ⟨List.pairwise_append.2 ⟨h1, List.pairwise_singleton _ _, fun x hx y hy => ?_⟩, fun x => by simp [h2 x]⟩
      rw [List.mem_singleton] at hy
      subst hy
      have hx := (h2 x).1 hx
      obtain ⟨j, hj⟩ := List.getElem?_of_mem hx
      have hjm : j < m := by have := (List.getElem?_eq_some_iff.1 hj).1; simp at this; omega
      rw [List.getElem?_take_of_lt hjm] at hj
      have hm0 : m ≠ 0 := by omega
      obtain ⟨c, hc⟩ := getSome (show m - 1 < zs.length by omega)
      have hmc : zs.toArray[m - 1]! = c := by
        obtain ⟨hl, he⟩ := List.getElem?_eq_some_iff.1 hc
        rw [getElem!_pos zs.toArray (m - 1) (by simpa using hl)]; simpa using he
      have hne : y ≠ c := by
        have := hk; simp only [Go.Lib.keeps, hma, hmc, decide_eq_true_eq] at this
        rcases this with h | h
        · exact absurd h hm0
        · exact h
      obtain ⟨l1, e1⟩ := List.getElem?_eq_some_iff.1 hj
      obtain ⟨l2, e2⟩ := List.getElem?_eq_some_iff.1 hc
      obtain ⟨l3, e3⟩ := List.getElem?_eq_some_iff.1 ha
      have hcy : c ≤ y := by
        have := List.pairwise_iff_getElem.1 hs (m - 1) m l2 l3 (by omega)
        omega
      have hxc : x ≤ c := by
        by_cases hjm' : j = m - 1
        · subst hjm'; rw [hj] at hc; cases hc; omega
        · have := List.pairwise_iff_getElem.1 hs j (m - 1) l1 l2 (by omega)
          omega
      omega
    · rw [if_neg hk, List.append_nil]
      refine ⟨h1, fun x => ?_⟩
      rw [h2 x]
      simp only [List.mem_append, List.mem_singleton]
      refine ⟨.inl, fun h => h.elim id fun h => ?_⟩
      subst h
      simp only [Go.Lib.keeps, hma, decide_eq_true_eq, not_or, ne_eq, Decidable.not_not] at hk
      obtain ⟨hm0, hk⟩ := hk
      obtain ⟨c, hc⟩ := getSome (show m - 1 < zs.length by omega)
      have hmc : zs.toArray[m - 1]! = c := by
        obtain ⟨hl, he⟩ := List.getElem?_eq_some_iff.1 hc
        rw [getElem!_pos zs.toArray (m - 1) (by simpa using hl)]; simpa using he
      rw [hk, hmc]
      exact List.mem_of_getElem? (show (zs.take m)[m - 1]? = some c by rw [List.getElem?_take_of_lt (by omega)]; exact hc)
theorem dif_asc (b : List Int) : (dif b).Pairwise fun x y => x < y := (upTo_spec (srt_sorted b) (srt b).length (Nat.le_refl _)).1
theorem dif_mem (b : List Int) (x : Int) : x ∈ dif b ↔ x ∈ b := by
  have := (upTo_spec (srt_sorted b) (srt b).length (Nat.le_refl _)).2 x
  rw [List.take_length] at this
  exact this.trans List.mem_mergeSort
theorem dif_len (b : List Int) : (dif b).length ≤ b.length := by
  have : (dif b).length ≤ (srt b).length := by
    unfold dif Go.Lib.compact Go.Lib.compactUpTo
    rw [List.length_map]
    exact Nat.le_trans (List.length_filter_le _ _) (by simp)
  rw [List.length_mergeSort] at this; exact this

/-! ### The next price above the last one -/
def nxtF (last nx x : Int) : Int := if (decide (x > last) && (decide (nx < 0) || decide (x < nx))) = true then x else nx
def nxt (last : Int) (l : List Int) : Int := l.foldl (nxtF last) (-1)
theorem nxt_nil (last : Int) : nxt last [] = -1 := rfl
theorem nxt_snoc {last : Int} {l : List Int} {k : Nat} {a : Int} (ha : l[k]? = some a) : nxt last (l.take (k + 1)) = nxtF last (nxt last (l.take k)) a := by
  unfold nxt; rw [take_succ_get ha, List.foldl_append]; rfl
theorem nxt_spec {last : Int} {l : List Int} (hp : ∀ x ∈ l, 0 ≤ x) : ∀ k, k ≤ l.length → (nxt last (l.take k) = -1 ∧ ∀ x ∈ l.take k, x ≤ last) ∨ (0 ≤ nxt last (l.take k) ∧ nxt last (l.take k) ∈ l ∧ last < nxt last (l.take k) ∧ ∀ x ∈ l.take k, last < x → nxt last (l.take k) ≤ x)
  | 0, _ => .inl ⟨by simp [nxt], by simp⟩
  | k + 1, hk => by
    obtain ⟨a, ha⟩ := getSome (show k < l.length by omega)
    have hma := List.mem_of_getElem? ha
    have h0 := hp a hma
    rw [nxt_snoc ha, take_succ_get ha]
    have ih := nxt_spec (last := last) hp k (by omega)
    unfold nxtF
    split
    · rename_i h
      simp only [Bool.and_eq_true, Bool.or_eq_true, decide_eq_true_eq] at h
      refine .inr ⟨h0, hma, by omega, fun x hx hl => ?_⟩
      rcases List.mem_append.1 hx with hx | hx
      · rcases ih with ⟨_, ih⟩ | ⟨i1, _, _, ih⟩
        · have := ih x hx; omega
        · have := ih x hx hl; omega
      · simp at hx; omega
    · rename_i h
      simp only [Bool.and_eq_true, Bool.or_eq_true, decide_eq_true_eq] at h
      rcases ih with ⟨i0, ih⟩ | ⟨i1, i2, i3, ih⟩
      · refine .inl ⟨i0, fun x hx => ?_⟩
        rcases List.mem_append.1 hx with hx | hx
        · exact ih x hx
        · simp at hx; omega
      · refine .inr ⟨i1, i2, i3, fun x hx hl => ?_⟩
        rcases List.mem_append.1 hx with hx | hx
        · exact ih x hx hl
        · simp at hx; omega
def lst (D : List Int) (i : Nat) : Int := if i = 0 then -1 else (D.take i).getLastD (-1)
/-- The last of the first i: all before are no greater. -/
theorem lst_spec {D : List Int} (hs : D.Pairwise fun x y => x < y) {i : Nat} (hp : ∀ x ∈ D, 0 ≤ x) : (∀ x ∈ D.take i, x ≤ lst D i) ∧ (∀ a, D[i]? = some a → lst D i < a) := by
  unfold lst
  by_cases hi : i = 0
  · subst hi; rw [if_pos rfl]
    exact ⟨fun x hx => by simp at hx, fun a ha => by have := hp a (List.mem_of_getElem? ha); omega⟩
  · rw [if_neg hi]
    rcases hD : D with _ | ⟨d, D'⟩
    · simp
    · rw [← hD]
      have hne : D.take i ≠ [] := by rw [hD]; simp [hi]
      have hgl : (D.take i).getLastD (-1) = (D.take i).getLast hne := by
        rw [List.getLastD_eq_getLast?, List.getLast?_eq_some_getLast hne]; rfl
      rw [hgl]
      have hst : (D.take i).Pairwise fun x y => x < y := hs.sublist (List.take_sublist _ _)
      constructor
      · intro x hx
        obtain ⟨j, hj, rfl⟩ := List.getElem_of_mem hx
        rw [List.getLast_eq_getElem]
        by_cases hjl : j = (D.take i).length - 1
        · subst hjl; omega
        · have := List.pairwise_iff_getElem.1 hst j ((D.take i).length - 1) hj (by omega) (by omega)
          omega
      · intro a ha
        have hm : (D.take i).getLast hne ∈ D.take i := List.getLast_mem hne
        have hsp : D = D.take i ++ a :: D.drop (i + 1) := by rw [← drop_get ha, List.take_append_drop]
        rw [hsp] at hs
        exact (List.pairwise_append.1 hs).2.2 _ hm a (List.mem_cons_self ..)
theorem lst_succ {D : List Int} {i : Nat} {a : Int} (ha : D[i]? = some a) : lst D (i + 1) = a := by
  unfold lst; rw [if_neg (by omega), take_succ_get ha]; simp
theorem lst_past {D : List Int} {i : Nat} (hi : D.length ≤ i) (h0 : D ≠ []) : lst D (i + 1) = lst D i := by
  have : 0 < D.length := List.length_pos_iff.2 h0
  unfold lst; rw [if_neg (by omega), if_neg (by omega), List.take_of_length_le hi, List.take_of_length_le (by omega)]
/-- The i-th different price. -/
theorem nxt_at {b : List Int} (hp : ∀ x ∈ b, 0 ≤ x) (i : Nat) : nxt (lst (dif b) i) b = ((dif b)[i]?).getD (-1) := by
  have hpD : ∀ x ∈ dif b, 0 ≤ x := fun x hx => hp x ((dif_mem b x).1 hx)
  obtain ⟨l1, l2⟩ := lst_spec (dif_asc b) (i := i) hpD
  have hn := nxt_spec (last := lst (dif b) i) hp b.length (Nat.le_refl _)
  rw [List.take_length] at hn
  generalize nxt (lst (dif b) i) b = N at hn ⊢
  generalize lst (dif b) i = L at hn l1 l2
  cases ha : (dif b)[i]? with
  | none =>
    rcases hn with ⟨h, _⟩ | ⟨h1, h2, h3, h4⟩
    · exact h
    · exfalso
      have hm := (dif_mem b _).2 h2
      rw [← List.take_of_length_le (List.getElem?_eq_none_iff.1 ha)] at hm
      have := l1 _ hm
      omega
  | some a =>
    have hab : a ∈ b := (dif_mem b a).1 (List.mem_of_getElem? ha)
    have hla := l2 a ha
    rcases hn with ⟨h, h2⟩ | ⟨h1, h2, h3, h4⟩
    · have := h2 a hab; omega
    · have h5 := h4 a hab hla
      have h6 : a ≤ N := by
        have hm := (dif_mem b _).2 h2
        have hsp : dif b = (dif b).take i ++ a :: (dif b).drop (i + 1) := by rw [← drop_get ha, List.take_append_drop]
        rw [hsp] at hm
        rcases List.mem_append.1 hm with hm | hm
        · have := l1 _ hm; omega
        · rcases List.mem_cons.1 hm with hm | hm
          · omega
          · have hs := dif_asc b
            rw [hsp] at hs
            have := (List.pairwise_cons.1 (List.pairwise_append.1 hs).2.1).1 _ hm
            omega
      show _ = a
      omega
theorem dif_first {b : List Int} {d : Int} (h : (dif b)[0]? = some d) : d ∈ b ∧ ∀ x ∈ b, d ≤ x := by
  refine ⟨(dif_mem b d).1 (List.mem_of_getElem? h), fun x hx => ?_⟩
  have hx := (dif_mem b x).2 hx
  have hs := dif_asc b
  rcases hD : dif b with _ | ⟨e, r⟩
  · rw [hD] at hx; cases hx
  · rw [hD] at h hx hs
    cases h
    rcases List.mem_cons.1 hx with h | h
    · omega
    · have := (List.pairwise_cons.1 hs).1 x h; omega
theorem dif_ne {b : List Int} (h : 1 ≤ b.length) : 1 ≤ (dif b).length := by
  obtain ⟨a, ha⟩ := getSome (show 0 < b.length by omega)
  have := (dif_mem b a).2 (List.mem_of_getElem? ha)
  exact List.length_pos_iff.2 (fun e => by rw [e] at this; cases this)
theorem asc_ext : ∀ {l m : List Int}, l.Pairwise (fun x y => x < y) → m.Pairwise (fun x y => x < y) → (∀ x, x ∈ l ↔ x ∈ m) → l = m
  | [], [], _, _, _ => rfl
  | [], b :: m, _, _, h => by have := (h b).2 (List.mem_cons_self ..); cases this
  | a :: l, [], _, _, h => by have := (h a).1 (List.mem_cons_self ..); cases this
  | a :: l, b :: m, hl, hm, h => by
    obtain ⟨l1, l2⟩ := List.pairwise_cons.1 hl
    obtain ⟨m1, m2⟩ := List.pairwise_cons.1 hm
    have hab : a = b := by
      rcases List.mem_cons.1 ((h a).1 (List.mem_cons_self ..)) with e | e
      · exact e
      · rcases List.mem_cons.1 ((h b).2 (List.mem_cons_self ..)) with e2 | e2
        · exact e2.symm
        · have := m1 a e; have := l1 b e2; omega
    subst hab
    congr 1
    refine asc_ext l2 m2 fun x => ⟨fun hx => ?_, fun hx => ?_⟩
    · rcases List.mem_cons.1 ((h x).1 (List.mem_cons_of_mem _ hx)) with e | e
      · have := l1 x hx; omega
      · exact e
    · rcases List.mem_cons.1 ((h x).2 (List.mem_cons_of_mem _ hx)) with e | e
      · have := m1 x hx; omega
      · exact e
theorem aw_dif : dif [30, 10, 20] = [10, 20, 30] := by
  refine asc_ext (dif_asc _) (by decide) fun x => ?_
  rw [dif_mem]
  simp only [List.mem_cons, List.not_mem_nil, or_false]
  omega
end Tf

/- The plain law of session tokens: digits, checksums, numbers as bytes, what is sealed. Conditions: none. -/
namespace Tk
open Go Go.GX
set_option linter.unusedVariables false
set_option linter.unusedSimpArgs false
structure Se where
  mem : List UInt8
  id : Int
  iss : Int
  exp : Int
  deriving DecidableEq
def z0 : Se := ⟨[], 0, 0, 0⟩
def seC (s : Se) : List Value := [str s.mem, .int .i64 s.id, .int .i64 s.iss, .int .i64 s.exp]

/-! ### Digits -/
def digs : List UInt8 := [48, 49, 50, 51, 52, 53, 54, 55, 56, 57, 97, 98, 99, 100, 101, 102]
def hexB (c : UInt8) : List UInt8 := [digs.getD (c.toNat / 16) 0, digs.getD (c.toNat % 16) 0]
def hex (s : List UInt8) : List UInt8 := s.flatMap hexB
theorem hex_len (s : List UInt8) : (hex s).length = 2 * s.length := by
  induction s with
  | nil => rfl
  | cons c s ih => simp only [hex, List.flatMap_cons, List.length_append] at ih ⊢; rw [ih]; simp [hexB]; omega
theorem hex_app (a b : List UInt8) : hex (a ++ b) = hex a ++ hex b := by simp [hex]
theorem hex_take {s : List UInt8} {k : Nat} {c : UInt8} (h : s[k]? = some c) : hex (s.take (k + 1)) = hex (s.take k) ++ hexB c := by
  rw [take_succ_get h, hex_app]; simp [hex]
def dig (c : UInt8) : Int := if 48 ≤ c.toNat ∧ c.toNat ≤ 57 then (c.toNat : Int) - 48 else if 97 ≤ c.toNat ∧ c.toNat ≤ 102 then (c.toNat : Int) - 87 else -1
theorem dig_spec : ∀ c : UInt8, (0 ≤ dig c → dig c < 16 ∧ digs.getD (dig c).toNat 0 = c) ∧ -1 ≤ dig c := by
  have : ∀ n : Fin 256, (0 ≤ dig (UInt8.ofNat n.val) → dig (UInt8.ofNat n.val) < 16 ∧ digs.getD (dig (UInt8.ofNat n.val)).toNat 0 = UInt8.ofNat n.val) ∧ -1 ≤ dig (UInt8.ofNat n.val) := by decide +kernel
  intro c
  have h := this ⟨c.toNat, c.toNat_lt⟩
  simpa using h
theorem dig_digs : ∀ n : Nat, n < 16 → dig (digs.getD n 0) = n := by decide
theorem digs_find : ∀ c : UInt8, ((List.range 16).find? fun i => digs.getD i 0 == c) = if dig c < 0 then none else some (dig c).toNat := by
  have : ∀ n : Fin 256, ((List.range 16).find? fun i => digs.getD i 0 == UInt8.ofNat n.val) = if dig (UInt8.ofNat n.val) < 0 then none else some (dig (UInt8.ofNat n.val)).toNat := by decide +kernel
  intro c
  have h := this ⟨c.toNat, c.toNat_lt⟩
  simpa using h
def unhex : List UInt8 → Option (List UInt8)
  | [] => some []
  | [_] => none
  | a :: b :: r => if dig a < 0 ∨ dig b < 0 then none else match unhex r with
    | some l => some (UInt8.ofNat (16 * (dig a).toNat + (dig b).toNat) :: l)
    | none => none
theorem unhex_odd : ∀ (s : List UInt8), s.length % 2 = 1 → unhex s = none
  | [], h => by simp at h
  | [_], _ => rfl
  | a :: b :: r, h => by
    unfold unhex
    rw [unhex_odd r (by simp at h; omega)]
    split <;> rfl
theorem unhex_hex : ∀ s : List UInt8, unhex (hex s) = some s
  | [] => rfl
  | c :: s => by
    have h1 : c.toNat / 16 < 16 := by have := c.toNat_lt; omega
    have h2 : c.toNat % 16 < 16 := by omega
    show unhex (digs.getD (c.toNat / 16) 0 :: digs.getD (c.toNat % 16) 0 :: hex s) = _
    unfold unhex
    rw [dig_digs _ h1, dig_digs _ h2, if_neg (by omega), unhex_hex s]
    simp only [Int.toNat_natCast]
    have e : 16 * (c.toNat / 16) + c.toNat % 16 = c.toNat := by omega
    rw [e]; simp
theorem hex_unhex : ∀ (t b : List UInt8), unhex t = some b → hex b = t
  | [], b, h => by simp [unhex] at h; subst h; rfl
  | [_], b, h => by simp [unhex] at h
  | x :: y :: r, b, h => by
    unfold unhex at h
    split at h
    · cases h
    · rename_i hn
      split at h
      · rename_i l hl
        cases h
        have hx := (dig_spec x).1 (by omega)
        have hy := (dig_spec y).1 (by omega)
        have e : (UInt8.ofNat (16 * (dig x).toNat + (dig y).toNat)).toNat = 16 * (dig x).toNat + (dig y).toNat := by
          rw [UInt8.toNat_ofNat']; omega
        show hexB _ ++ hex l = _
        rw [hex_unhex r l hl]
        unfold hexB
        rw [e, show (16 * (dig x).toNat + (dig y).toNat) / 16 = (dig x).toNat by omega, show (16 * (dig x).toNat + (dig y).toNat) % 16 = (dig y).toNat by omega, hx.2, hy.2]
        rfl
      · cases h
/-- The reading of digits, from an even place on. -/
theorem unhex_at {s : List UInt8} {k : Nat} {a b : UInt8} (h1 : s[k]? = some a) (h2 : s[k + 1]? = some b) (ha : ¬ (dig a < 0 ∨ dig b < 0)) : unhex (s.drop k) = (unhex (s.drop (k + 2))).map fun l => UInt8.ofNat (16 * (dig a).toNat + (dig b).toNat) :: l := by
  rw [drop_get h1, drop_get h2, unhex, if_neg ha]
  show (match unhex (s.drop (k + 2)) with | some l => some _ | none => none) = _
  cases unhex (s.drop (k + 2)) <;> rfl
theorem unhex_bad {s : List UInt8} {k : Nat} {a b : UInt8} (h1 : s[k]? = some a) (h2 : s[k + 1]? = some b) (ha : dig a < 0 ∨ dig b < 0) : unhex (s.drop k) = none := by
  rw [drop_get h1, drop_get h2, unhex, if_pos ha]
theorem unhex_len : ∀ (t b : List UInt8), unhex t = some b → 2 * b.length = t.length := fun t b h => by
  rw [← hex_unhex t b h, hex_len]

/-! ### Checksums -/
def fnvS (h : Nat) (c : UInt8) : Nat := ((h ^^^ c.toNat) * 1099511628211) % 18446744073709551616
def fnv (s : List UInt8) : Nat := s.foldl fnvS 14695981039346656037
theorem fnvS_lt (h : Nat) (c : UInt8) : fnvS h c < 18446744073709551616 := Nat.mod_lt _ (by decide)
theorem fnv_lt (s : List UInt8) : fnv s < 18446744073709551616 := by
  have : ∀ (s : List UInt8) (h : Nat), h < 18446744073709551616 → s.foldl fnvS h < 18446744073709551616 := by
    intro s
    induction s with
    | nil => intro h hh; exact hh
    | cons c s ih => intro h hh; exact ih _ (fnvS_lt h c)
  exact this s _ (by decide)
theorem fnv_take {s : List UInt8} {k : Nat} {c : UInt8} (h : s[k]? = some c) : fnv (s.take (k + 1)) = fnvS (fnv (s.take k)) c := by
  rw [take_succ_get h, fnv, List.foldl_append, List.foldl_cons, List.foldl_nil, fnv]
def keyB (key : Nat) : List UInt8 := (List.range 8).map fun i => UInt8.ofNat (key / 2 ^ (56 - 8 * i))
def sum4 (n : Nat) : List UInt8 := (List.range 4).map fun i => UInt8.ofNat (n / 2 ^ (24 - 8 * i))
theorem keyB_len (key : Nat) : (keyB key).length = 8 := by simp [keyB]
theorem sum4_len (n : Nat) : (sum4 n).length = 4 := by simp [sum4]
def mac (key : Nat) (s : List UInt8) : Nat := fnv (keyB key ++ s ++ keyB key) / 4294967296
theorem mac_lt (key : Nat) (s : List UInt8) : mac key s < 4294967296 := by
  have := fnv_lt (keyB key ++ s ++ keyB key); unfold mac; omega
def seal_ (key : Nat) (s : List UInt8) : List UInt8 := s ++ sum4 (mac key s)
theorem seal_len (key : Nat) (s : List UInt8) : (seal_ key s).length = s.length + 4 := by simp [seal_, sum4_len]
def openS (key : Nat) (s : List UInt8) : List UInt8 × Int :=
  if s.length < 4 then ([], 5) else if s.drop (s.length - 4) = sum4 (mac key (s.take (s.length - 4))) then (s.take (s.length - 4), 0) else ([], 6)
theorem openS_eq (key : Nat) (s : List UInt8) (h : ¬ s.length < 4) : (seal_ key (s.take (s.length - 4)) = s) ↔ s.drop (s.length - 4) = sum4 (mac key (s.take (s.length - 4))) := by
  unfold seal_
  constructor
  · intro he
    have h1 := congrArg (List.drop (s.length - 4)) he
    rw [List.drop_append, List.drop_eq_nil_of_le (by simp)] at h1
    have e : s.length - 4 - (s.take (s.length - 4)).length = 0 := by simp
    rw [e] at h1
    simpa using h1.symm
  · intro he
    rw [← he, List.take_append_drop]
theorem openS_seal (key : Nat) (s : List UInt8) : openS key (seal_ key s) = (s, 0) := by
  have hl := seal_len key s
  unfold openS
  have e : (seal_ key s).take ((seal_ key s).length - 4) = s := by rw [hl]; simp [seal_]
  have e2 : (seal_ key s).drop ((seal_ key s).length - 4) = sum4 (mac key s) := by rw [hl]; simp [seal_]
  rw [if_neg (by omega), e, if_pos e2]
theorem seal_openS {key : Nat} {s p : List UInt8} (h : openS key s = (p, 0)) : s = seal_ key p := by
  unfold openS at h
  split at h
  · cases h
  · rename_i hl
    split at h
    · rename_i he
      have := (openS_eq key s hl).2 he
      have h1 : s.take (s.length - 4) = p := (Prod.mk.inj h).1
      rw [← h1]; exact this.symm
    · cases h
theorem openS_err {key : Nat} {s : List UInt8} : (openS key s).2 = 0 ∨ (openS key s).1 = [] := by
  unfold openS; repeat' split
  all_goals simp
theorem openS_other {key : Nat} {p x : List UInt8} (hx : x.length = 4) (h : x ≠ sum4 (mac key p)) : openS key (p ++ x) = ([], 6) := by
  unfold openS
  have e : (p ++ x).length - 4 = p.length := by simp [hx]
  rw [if_neg (by simp [hx]), e]
  simp [h]

/-! ### Numbers as bytes -/
def zig (n : Int) : Nat := if n < 0 then (-2 * n - 1).toNat else (2 * n).toNat
def unzig (z : Nat) : Int := if z % 2 = 1 then -1 - ((z / 2 : Nat) : Int) else ((z / 2 : Nat) : Int)
theorem unzig_zig (n : Int) : unzig (zig n) = n := by
  unfold zig unzig; split <;> split <;> omega
theorem zig_unzig (z : Nat) : zig (unzig z) = z := by
  unfold zig unzig; split <;> split <;> omega
theorem zig_lt {n : Int} (h : fits .i64 n) : zig n < 18446744073709551616 := by
  unfold zig; simp only [fits] at h; split <;> omega
theorem unzig_fits {z : Nat} (h : z < 18446744073709551616) : fits .i64 (unzig z) := by
  unfold unzig; simp only [fits]; split <;> omega
def var (z : Nat) : List UInt8 := if z < 128 then [UInt8.ofNat z] else UInt8.ofNat (z % 128 + 128) :: var (z / 128)
termination_by z
theorem var_lo {z : Nat} (h : z < 128) : var z = [UInt8.ofNat z] := by rw [var, if_pos h]
theorem var_hi {z : Nat} (h : ¬ z < 128) : var z = UInt8.ofNat (z % 128 + 128) :: var (z / 128) := by rw [var, if_neg h]
theorem var_len : ∀ (k z : Nat), z < 2 ^ (7 * k) → 0 < k → (var z).length ≤ k
  | 0, z, _, h => by omega
  | k + 1, z, h, _ => by
    by_cases hz : z < 128
    · rw [var_lo hz]; simp
    · rw [var_hi hz]
      have hk : 0 < k := by
        rcases Nat.eq_zero_or_pos k with rfl | h1
        · omega
        · exact h1
      have := var_len k (z / 128) (by rw [show 7 * (k + 1) = 7 + 7 * k by omega, Nat.pow_add] at h; omega) hk
      simp; omega
theorem var_len10 {z : Nat} (h : z < 18446744073709551616) : (var z).length ≤ 10 := var_len 10 z (Nat.lt_of_lt_of_le h (by decide)) (by decide)
def encI (n : Int) : List UInt8 := var (zig n)
def rdV (i u : Nat) : List UInt8 → Except Int (Nat × List UInt8)
  | [] => .error 5
  | c :: r => if (0 < i ∧ c.toNat = 0) ∨ (i = 9 ∧ 1 < c.toNat) then .error 4 else if c.toNat < 128 then .ok (u + c.toNat % 128 * 2 ^ (7 * i), r) else rdV (i + 1) (u + c.toNat % 128 * 2 ^ (7 * i)) r
theorem pow7 (i : Nat) : 2 ^ (7 * (i + 1)) = 128 * 2 ^ (7 * i) := by rw [show 7 * (i + 1) = 7 + 7 * i by omega, Nat.pow_add]
theorem rdV_var : ∀ (z i u : Nat) (t : List UInt8), i ≤ 9 → z < 2 ^ (64 - 7 * i) → (0 < i → 0 < z) → rdV i u (var z ++ t) = .ok (u + z * 2 ^ (7 * i), t) := by
  intro z
  induction z using Nat.strongRecOn with
  | _ z ih =>
    intro i u t hi hz h0
    by_cases hlo : z < 128
    · rw [var_lo hlo]
      have e : (UInt8.ofNat z).toNat = z := by rw [UInt8.toNat_ofNat']; omega
      show rdV i u (UInt8.ofNat z :: t) = _
      rw [rdV, e, if_neg, if_pos hlo, Nat.mod_eq_of_lt hlo]
      rintro (⟨h1, h2⟩ | ⟨h1, h2⟩)
      · have := h0 h1; omega
      · subst h1; simp at hz; omega
    · rw [var_hi hlo]
      have e : (UInt8.ofNat (z % 128 + 128)).toNat = z % 128 + 128 := by rw [UInt8.toNat_ofNat']; omega
      have hi8 : i ≤ 8 := by
        rcases Nat.lt_or_ge i 9 with h | h
        · omega
        · have : i = 9 := by omega
          subst this; simp at hz; omega
      show rdV i u (UInt8.ofNat (z % 128 + 128) :: (var (z / 128) ++ t)) = _
      rw [rdV, e, if_neg (by omega), if_neg (by omega), ih (z / 128) (by omega) (i + 1) _ t (by omega) ?_ (fun _ => by omega)]
      · rw [pow7, show (z % 128 + 128) % 128 = z % 128 by omega]
        congr 2
        have hzz : z = z % 128 + 128 * (z / 128) := (Nat.mod_add_div z 128).symm
        generalize z % 128 = p at hzz ⊢
        generalize z / 128 = q at hzz ⊢
        subst hzz
        rw [Nat.add_mul, Nat.add_assoc, Nat.mul_assoc, Nat.mul_left_comm]
      · have : 2 ^ (64 - 7 * i) = 128 * 2 ^ (64 - 7 * (i + 1)) := by
          rw [show 64 - 7 * i = 7 + (64 - 7 * (i + 1)) by omega, Nat.pow_add]
        omega
theorem rdV_ok : ∀ (s : List UInt8) (i u v : Nat) (r : List UInt8), i ≤ 9 → rdV i u s = .ok (v, r) → ∃ z, s = var z ++ r ∧ v = u + z * 2 ^ (7 * i) ∧ z < 2 ^ (64 - 7 * i) ∧ (0 < i → 0 < z)
  | [], i, u, v, r, _, h => by cases h
  | c :: s, i, u, v, r, hi, h => by
    rw [rdV] at h
    split at h
    · cases h
    · rename_i hn
      split at h
      · rename_i hlo
        cases h
        refine ⟨c.toNat, by rw [var_lo hlo]; simp, by rw [Nat.mod_eq_of_lt hlo], ?_, fun hp => by omega⟩
        by_cases h9 : i = 9
        · subst h9; simp; omega
        · exact Nat.lt_of_lt_of_le hlo (by rw [show (128 : Nat) = 2 ^ 7 from rfl]; exact Nat.pow_le_pow_right (by decide) (by omega))
      · rename_i hhi
        have hi8 : i ≤ 8 := by omega
        obtain ⟨z, h1, h2, h3, h4⟩ := rdV_ok s (i + 1) _ v r (by omega) h
        have hz := h4 (by omega)
        have hc := c.toNat_lt
        have hp : 2 ^ (64 - 7 * i) = 128 * 2 ^ (64 - 7 * (i + 1)) := by
          rw [show 64 - 7 * i = 7 + (64 - 7 * (i + 1)) by omega, Nat.pow_add]
        refine ⟨c.toNat % 128 + 128 * z, ?_, ?_, by omega, fun _ => by omega⟩
        · rw [var_hi (by omega), show (c.toNat % 128 + 128 * z) % 128 + 128 = c.toNat by omega, show (c.toNat % 128 + 128 * z) / 128 = z by omega, h1]
          simp
        · rw [h2, pow7, Nat.add_mul, Nat.add_assoc, Nat.mul_assoc, Nat.mul_left_comm]
theorem rdV_lt {s : List UInt8} {v : Nat} {r : List UInt8} (h : rdV 0 0 s = .ok (v, r)) : s = var v ++ r ∧ v < 18446744073709551616 := by
  obtain ⟨z, h1, h2, h3, _⟩ := rdV_ok s 0 0 v r (by omega) h
  simp at h2 h3
  subst h2
  exact ⟨h1, h3⟩
theorem rdV_enc {n : Int} (h : fits .i64 n) (t : List UInt8) : rdV 0 0 (encI n ++ t) = .ok (zig n, t) := by
  have := rdV_var (zig n) 0 0 t (by omega) (by simpa using zig_lt h) (fun h => by omega)
  simp only [Nat.mul_zero, Nat.pow_zero, Nat.mul_one, Nat.zero_add] at this
  exact this

/-! ### The reader: what is left, and its error -/
abbrev St := List UInt8 × Int
def stInt (st : St) : Int × St := if st.2 = 0 then match rdV 0 0 st.1 with
    | .ok (z, r) => (unzig z, (r, 0))
    | .error e => (0, (st.1, e))
  else (0, st)
def stCount (most : Int) (st : St) : Int × St := let x := stInt st
  if x.2.2 = 0 then if x.1 < 0 then (0, (x.2.1, 4)) else if x.1 > most then (0, (x.2.1, 3)) else x else (0, x.2)
def stText (most : Int) (st : St) : List UInt8 × St := let x := stCount most st
  if x.2.2 = 0 then if x.1 > x.2.1.length then ([], (x.2.1, 5)) else (x.2.1.take x.1.toNat, (x.2.1.drop x.1.toNat, 0)) else ([], x.2)
def stEnd (st : St) : Int := if st.2 = 0 then if st.1.length > 0 then 23 else 0 else st.2
attribute [local irreducible] fnvS fnv rdV
/-! ### Tokens -/
def bad (s : Se) : Bool := decide (s.id < 1) || decide (s.id > 1099511627776) || decide (s.iss < 0) || decide (s.iss > s.exp) || decide (s.exp > 1099511627776)
def check (s : Se) : Int := if Nm.valid s.mem = false then 10 else if bad s = true then 2 else if s.exp - s.iss > 43200 then 3 else 0
structure Ok (s : Se) : Prop where
  mem : Nm.valid s.mem = true
  i1 : 1 ≤ s.id
  i2 : s.id ≤ 1099511627776
  s1 : 0 ≤ s.iss
  s2 : s.iss ≤ s.exp
  e2 : s.exp ≤ 1099511627776
  d : s.exp - s.iss ≤ 43200
theorem ok_of {s : Se} (h : check s = 0) : Ok s := by
  unfold check at h
  split at h
  · omega
  · rename_i h1
    split at h
    · omega
    · rename_i h2
      split at h
      · omega
      · rename_i h3
        simp only [bad, Bool.or_eq_true, decide_eq_true_eq] at h2
        exact ⟨by simpa using h1, by omega, by omega, by omega, by omega, by omega, by omega⟩
theorem of_ok {s : Se} (h : Ok s) : check s = 0 := by
  obtain ⟨h0, h1, h2, h3, h4, h5, h6⟩ := h
  have hb : bad s = false := by simp only [bad, Bool.or_eq_false_iff, decide_eq_false_iff_not]; omega
  simp only [check, h0, hb]
  rw [if_neg (by decide), if_neg (by decide), if_neg (by omega)]
theorem valid_len {m : List UInt8} (h : Nm.valid m = true) : m.length ≤ 24 := by
  simp only [Nm.valid, Bool.and_eq_true, Bool.not_eq_true', Bool.or_eq_false_iff, decide_eq_false_iff_not] at h
  omega
def text (s : List UInt8) : List UInt8 := encI s.length ++ s
def payload (s : Se) : List UInt8 := text s.mem ++ encI s.id ++ encI s.iss ++ encI s.exp
def parse (p : List UInt8) : Se × Int :=
  let a := stText 24 (p, 0)
  let b := stInt a.2
  let c := stInt b.2
  let d := stInt c.2
  let s : Se := ⟨a.1, b.1, c.1, d.1⟩
  (s, if stEnd d.2 = 0 then check s else stEnd d.2)
theorem stInt_enc {n : Int} (h : fits .i64 n) (t : List UInt8) : stInt (encI n ++ t, 0) = (n, (t, 0)) := by
  simp only [stInt, rdV_enc h, unzig_zig, if_pos]
theorem stInt_fits (st : St) : fits .i64 (stInt st).1 := by
  unfold stInt
  split
  · split
    · rename_i z r hz
      exact unzig_fits (rdV_lt hz).2
    · simp [fits]
  · simp [fits]
/-- A number read without an error: what was read. -/
theorem stInt_ok {st : St} (h : (stInt st).2.2 = 0) : st.2 = 0 ∧ st.1 = encI (stInt st).1 ++ (stInt st).2.1 := by
  unfold stInt at h ⊢
  split at h
  · rename_i h0
    refine ⟨h0, ?_⟩
    rw [if_pos h0]
    split at h
    · rename_i z r hz
      obtain ⟨h1, h2⟩ := rdV_lt hz
      simp only [hz, encI, zig_unzig]
      exact h1
    · rename_i e he
      -- an error is never 0
      exfalso
      have : ∀ (s : List UInt8) (i u : Nat) (e : Int), rdV i u s = .error e → e ≠ 0 := by
        intro s
        induction s with
        | nil => intro i u e he; rw [rdV] at he; cases he; decide
        | cons c s ih =>
          intro i u e he
          rw [rdV] at he
          split at he
          · cases he; decide
          · split at he
            · cases he
            · exact ih _ _ _ he
      exact this _ _ _ _ he h
  · rename_i h0; exact absurd h h0
theorem stText_ok {st : St} (h : (stText 24 st).2.2 = 0) : st.2 = 0 ∧ st.1 = text (stText 24 st).1 ++ (stText 24 st).2.1 := by
  unfold stText stCount at h ⊢
  simp only [] at h ⊢
  by_cases h0 : (stInt st).2.2 = 0
  · obtain ⟨g1, g2⟩ := stInt_ok h0
    simp only [h0, if_true] at h ⊢
    by_cases h1 : (stInt st).1 < 0
    · simp [h1] at h
    · simp only [h1, if_false] at h ⊢
      by_cases h2 : (stInt st).1 > 24
      · simp [h2] at h
      · simp only [h2, if_false, h0, if_true] at h ⊢
        by_cases h3 : (stInt st).1 > ((stInt st).2.1.length : Int)
        · simp [h3] at h
        · simp only [h3, if_false] at h ⊢
          refine ⟨g1, ?_⟩
          have hl : ((List.take (stInt st).1.toNat (stInt st).2.1).length : Int) = (stInt st).1 := by
            rw [List.length_take]; omega
          rw [text, hl, List.append_assoc, List.take_append_drop]
          exact g2
  · simp only [h0, if_false] at h
theorem stText_enc {m : List UInt8} (h : m.length ≤ 24) (t : List UInt8) : stText 24 (text m ++ t, 0) = (m, (t, 0)) := by
  have hf : fits .i64 (m.length : Int) := by simp only [fits]; omega
  have h1 := stInt_enc hf (m ++ t)
  rw [← List.append_assoc] at h1
  have hc : stCount 24 (text m ++ t, 0) = ((m.length : Int), (m ++ t, 0)) := by
    have h1 : stInt (text m ++ t, 0) = ((m.length : Int), (m ++ t, 0)) := h1
    unfold stCount
    simp only [h1]
    rw [if_pos trivial, if_neg (by omega), if_neg (by omega)]
  unfold stText
  simp only [hc]
  rw [if_pos trivial, if_neg (by simp; omega)]
  simp
theorem stEnd_ok {st : St} (h : stEnd st = 0) : st.2 = 0 ∧ st.1 = [] := by
  unfold stEnd at h
  split at h
  · rename_i h0
    split at h
    · omega
    · rename_i h1; exact ⟨h0, List.eq_nil_of_length_eq_zero (by omega)⟩
  · rename_i h0; exact absurd h h0
theorem parse_payload {s : Se} (h : Ok s) : parse (payload s) = (s, 0) := by
  have h1 : stText 24 (payload s, 0) = (s.mem, (encI s.id ++ (encI s.iss ++ encI s.exp), 0)) := by
    have := stText_enc (valid_len h.mem) (encI s.id ++ (encI s.iss ++ encI s.exp))
    simpa [payload, List.append_assoc] using this
  obtain ⟨a1, a2, a3, a4, a5, a6, a7⟩ := h
  have h2 := stInt_enc (n := s.id) (by simp only [fits]; omega) (encI s.iss ++ encI s.exp)
  have h3 := stInt_enc (n := s.iss) (by simp only [fits]; omega) (encI s.exp)
  have h4 : stInt (encI s.exp, 0) = (s.exp, ([], 0)) := by
    have := stInt_enc (n := s.exp) (by simp only [fits]; omega) []
    simpa using this
  have h5 : check s = 0 := of_ok ⟨a1, a2, a3, a4, a5, a6, a7⟩
  have h6 : stEnd ([], 0) = 0 := rfl
  simp only [parse, h1, h2, h3, h4, h6, if_true]
  rw [show check ⟨s.mem, s.id, s.iss, s.exp⟩ = 0 from h5]
theorem payload_parse {p : List UInt8} {s : Se} (h : parse p = (s, 0)) : check s = 0 ∧ p = payload s := by
  unfold parse at h
  simp only [Prod.mk.injEq] at h
  obtain ⟨h1, h2⟩ := h
  split at h2
  · rename_i he
    obtain ⟨e1, e2⟩ := stEnd_ok he
    obtain ⟨d1, d2⟩ := stInt_ok e1
    obtain ⟨c1, c2⟩ := stInt_ok d1
    obtain ⟨b1, b2⟩ := stInt_ok c1
    obtain ⟨t1, t2⟩ := stText_ok b1
    refine ⟨by rw [← h1]; exact h2, ?_⟩
    rw [← h1]
    have t2 : p = text (stText 24 (p, 0)).1 ++ (stText 24 (p, 0)).2.1 := t2
    clear h1 h2 he t1
    generalize stText 24 (p, 0) = A at *
    generalize stInt A.2 = A2 at *
    generalize stInt A2.2 = A3 at *
    generalize stInt A3.2 = A4 at *
    rw [t2, b2, c2, d2, e2]
    simp [payload]
  · rename_i he; exact absurd h2 he
def openT (key : Nat) (t : List UInt8) : Se × Int := match unhex t with
  | none => (z0, 4)
  | some b => if (openS key b).2 = 0 then if (parse (openS key b).1).2 = 0 then (parse (openS key b).1) else (z0, (parse (openS key b).1).2) else (z0, (openS key b).2)
def issue (key : Nat) (s : Se) : List UInt8 × Int := if check s = 0 then (hex (seal_ key (payload s)), 0) else ([], check s)
theorem openT_issue {key : Nat} {s : Se} (h : check s = 0) : openT key (hex (seal_ key (payload s))) = (s, 0) := by
  have hp := parse_payload (ok_of h)
  unfold openT
  rw [unhex_hex]
  simp only [openS_seal, hp, if_true]
theorem issue_openT {key : Nat} {t : List UInt8} {s : Se} (h : openT key t = (s, 0)) : check s = 0 ∧ issue key s = (t, 0) := by
  unfold openT at h
  split at h
  · cases h
  · rename_i b hb
    split at h
    · rename_i h1
      split at h
      · rename_i h2
        obtain ⟨g1, g2⟩ := payload_parse h
        have g3 := seal_openS (key := key) (s := b) (p := (openS key b).1) (by rw [← h1])
        refine ⟨g1, ?_⟩
        rw [issue, if_pos g1, ← g2, ← g3, hex_unhex t b hb]
      · rename_i h2; exact absurd (Prod.mk.inj h).2 h2
    · rename_i h1; exact absurd (Prod.mk.inj h).2 h1
theorem openT_err {key : Nat} {t : List UInt8} (h : (openT key t).2 ≠ 0) : (openT key t).1 = z0 := by
  unfold openT at h ⊢
  split
  · rfl
  · rename_i b hb
    simp only [hb] at h
    split
    · rename_i h1
      rw [if_pos h1] at h
      split
      · rename_i h2; rw [if_pos h2] at h; exact absurd h2 h
      · rfl
    · rfl
def verify (key : Nat) (t : List UInt8) (now : Int) (rev : List Int) : Se × Int := let x := openT key t
  if x.2 ≠ 0 then (z0, x.2) else if (decide (now < x.1.iss) || decide (now ≥ x.1.exp)) = true then (z0, 17) else if x.1.id ∈ rev then (z0, 16) else (x.1, 0)
def clampM (m : Int) : Int := if m < -1 then -1 else if m > 1099511627776 then 1099511627776 else m
def renewed (s : Se) (now m : Int) : Se := ⟨s.mem, s.id + 1, now, now + clampM m⟩
def renew (key : Nat) (t : List UInt8) (now m : Int) (rev : List Int) : List UInt8 × Int := let x := verify key t now rev
  if x.2 ≠ 0 then ([], x.2) else issue key (renewed x.1 now m)
theorem openT_ok {key : Nat} {t : List UInt8} (h : (openT key t).2 = 0) : Ok (openT key t).1 := ok_of (issue_openT (key := key) (t := t) (s := (openT key t).1) (by rw [← h])).1
theorem verify_ok {key : Nat} {t : List UInt8} {now : Int} {rev : List Int} (h : (verify key t now rev).2 = 0) : verify key t now rev = openT key t ∧ (openT key t).2 = 0 ∧ Ok (openT key t).1 ∧ (openT key t).1.iss ≤ now ∧ now < (openT key t).1.exp ∧ (openT key t).1.id ∉ rev := by
  unfold verify at h ⊢
  simp only [] at h ⊢
  by_cases h0 : (openT key t).2 = 0
  · simp only [h0, ne_eq, not_true, if_false] at h ⊢
    split at h
    · cases h
    · rename_i h1
      split at h
      · cases h
      · rename_i h2
        simp only [Bool.or_eq_true, decide_eq_true_eq] at h1
        refine ⟨?_, trivial, openT_ok h0, by omega, by omega, h2⟩
        rw [if_neg (by simp only [Bool.or_eq_true, decide_eq_true_eq]; omega), if_neg h2, ← h0]
  · simp [h0] at h
/-- Without repetition, ascending, one more. -/
def revoke (l : List Int) (id : Int) : List Int := Tf.dif (l ++ [id])
theorem mem_revoke {l : List Int} {id x : Int} : x ∈ revoke l id ↔ x ∈ l ∨ x = id := by
  rw [revoke, Tf.dif_mem]; simp
end Tk

/- A part of the proof: contracts of the program's functions. Conditions: none. -/
namespace Go.Proofs.Ytfjomclebkgocaa
open Go.GX Go.RowKit
attribute [local irreducible] Calls Run RunL RunQ RunD HR HL HD blkC ownC mapC Rd
set_option linter.unusedVariables false
set_option linter.unusedSectionVars false
set_option linter.unusedSimpArgs false
set_option maxRecDepth 100000

theorem fn56 : IsFn Try.prog 56 := ⟨⟨_, _, Try.func56, rfl, by decide⟩⟩
theorem fn32 : IsFn Try.prog 32 := ⟨⟨_, _, Try.func32, rfl, by decide⟩⟩
theorem fn31 : IsFn Try.prog 31 := ⟨⟨_, _, Try.func31, rfl, by decide⟩⟩

theorem letter_any (c : Int) (w : World) :
    Calls Try.prog 56 #[.int .i32 c] w fun e w' => e = .returned (.bool (Nm.lett c)) ∧ w' = w := by
  refine calls_of_run Try.func56 rfl (Nat.le_of_ble_eq_true rfl) ?_
  refine Run.sub (σ' := [(0, .int .i32 c)]) ⟨rfl, trivial⟩ ?_
  repeat' (first | refine RunL.ev rfl rfl ?_ | refine RunL.evc rfl rfl (by first | omega | (simp; done) | (simp; omega) | exact List.length_pos_iff.2 (by assumption)) ?_ | refine RunL.nil ?_ | refine Run.ctl rfl ?_ | refine Run.region ?_ | refine Run.condT rfl ?_ | refine Run.condF rfl ?_ | refine RunL.skip rfl rfl ?_ | refine RunL.skip0 rfl ?_ | exact RunL.blkEnd rfl rfl | apply RunL.andB rfl rfl rfl rfl rfl rfl rfl rfl | apply RunL.orB rfl rfl rfl rfl rfl rfl rfl rfl | (refine fun (hb : (_ : Bool) = _) => ?_; try simp at hb))
  refine Run.ret Try.func56 rfl [_] ⟨rfl, trivial⟩ ?_
  exact ⟨rfl, rfl⟩

theorem rvalid_any (s : List UInt8) (w : World) (hs : s.length ≤ 9223372036854775807) :
    Calls Try.prog 32 #[str s] w fun e w' => e = .returned (.bool (Nm.valid s)) ∧ w' = w := by
  refine calls_of_run Try.func32 rfl (Nat.le_of_ble_eq_true rfl) ?_
  refine Run.sub (σ' := [(0, str s)]) ⟨rfl, trivial⟩ ?_
  repeat' (first | refine RunL.ev rfl rfl ?_ | refine RunL.evc rfl rfl (by first | omega | (simp; done) | (simp; omega) | exact List.length_pos_iff.2 (by assumption)) ?_ | refine RunL.nil ?_ | refine Run.ctl rfl ?_ | refine Run.region ?_ | refine Run.condT rfl ?_ | refine Run.condF rfl ?_ | refine RunL.skip rfl rfl ?_ | refine RunL.skip0 rfl ?_ | exact RunL.blkEnd rfl rfl | apply RunL.andB rfl rfl rfl rfl rfl rfl rfl rfl | apply RunL.orB rfl rfl rfl rfl rfl rfl rfl rfl | (refine fun (hb : (_ : Bool) = _) => ?_; try simp at hb))
  refine Run.cond rfl (fun hc => ?_) (fun hc => ?_)
  · repeat' (first | refine RunL.ev rfl rfl ?_ | refine RunL.evc rfl rfl (by first | omega | (simp; done) | (simp; omega) | exact List.length_pos_iff.2 (by assumption)) ?_ | refine RunL.nil ?_ | refine Run.ctl rfl ?_ | refine Run.region ?_ | refine Run.condT rfl ?_ | refine Run.condF rfl ?_ | refine RunL.skip rfl rfl ?_ | refine RunL.skip0 rfl ?_ | exact RunL.blkEnd rfl rfl | apply RunL.andB rfl rfl rfl rfl rfl rfl rfl rfl | apply RunL.orB rfl rfl rfl rfl rfl rfl rfl rfl | (refine fun (hb : (_ : Bool) = _) => ?_; try simp at hb))
    refine Run.ret Try.func32 rfl [_] ⟨rfl, trivial⟩ ?_
    refine ⟨?_, rfl⟩
    unfold Nm.valid; rw [hc]; rfl
  repeat' (first | refine RunL.ev rfl rfl ?_ | refine RunL.evc rfl rfl (by first | omega | (simp; done) | (simp; omega) | exact List.length_pos_iff.2 (by assumption)) ?_ | refine RunL.nil ?_ | refine Run.ctl rfl ?_ | refine Run.region ?_ | refine Run.condT rfl ?_ | refine Run.condF rfl ?_ | refine RunL.skip rfl rfl ?_ | refine RunL.skip0 rfl ?_ | exact RunL.blkEnd rfl rfl | apply RunL.andB rfl rfl rfl rfl rfl rfl rfl rfl | apply RunL.orB rfl rfl rfl rfl rfl rfl rfl rfl | (refine fun (hb : (_ : Bool) = _) => ?_; try simp at hb))
  refine Run.loop (ι := Nat) (fun k w' => w' = w ∧ k ≤ s.length ∧ ∀ j, j < k → Nm.badAt s j = false) (fun k => [(0, str s), (3, .int .i64 (k : Int))]) (fun k => s.length - k) 0 ⟨rfl, Nat.zero_le _, fun _ h => by omega⟩ ⟨rfl, rfl, trivial⟩ ?_
  rintro k w' ⟨rfl, hk, hg⟩ ih
  repeat' (first | refine RunL.ev rfl rfl ?_ | refine RunL.evc rfl rfl (by first | omega | (simp; done) | (simp; omega) | exact List.length_pos_iff.2 (by assumption)) ?_ | refine RunL.nil ?_ | refine Run.ctl rfl ?_ | refine Run.region ?_ | refine Run.condT rfl ?_ | refine Run.condF rfl ?_ | refine RunL.skip rfl rfl ?_ | refine RunL.skip0 rfl ?_ | exact RunL.blkEnd rfl rfl | apply RunL.andB rfl rfl rfl rfl rfl rfl rfl rfl | apply RunL.orB rfl rfl rfl rfl rfl rfl rfl rfl | (refine fun (hb : (_ : Bool) = _) => ?_; try simp at hb))
  refine Run.cond rfl (fun hk2 => ?_) (fun hk2 => ?_)
  · have hlt : k < s.length := by simpa using hk2
    repeat' (first | refine RunL.ev rfl rfl ?_ | refine RunL.evc rfl rfl (by first | omega | (simp; done) | (simp; omega) | exact List.length_pos_iff.2 (by assumption)) ?_ | refine RunL.nil ?_ | refine Run.ctl rfl ?_ | refine Run.region ?_ | refine Run.condT rfl ?_ | refine Run.condF rfl ?_ | refine RunL.skip rfl rfl ?_ | refine RunL.skip0 rfl ?_ | exact RunL.blkEnd rfl rfl | apply RunL.andB rfl rfl rfl rfl rfl rfl rfl rfl | apply RunL.orB rfl rfl rfl rfl rfl rfl rfl rfl | (refine fun (hb : (_ : Bool) = _) => ?_; try simp at hb))
    refine Run.cond rfl (fun hb => ?_) (fun hb => ?_)
    · repeat' (first | refine RunL.ev rfl rfl ?_ | refine RunL.evc rfl rfl (by first | omega | (simp; done) | (simp; omega) | exact List.length_pos_iff.2 (by assumption)) ?_ | refine RunL.nil ?_ | refine Run.ctl rfl ?_ | refine Run.region ?_ | refine Run.condT rfl ?_ | refine Run.condF rfl ?_ | refine RunL.skip rfl rfl ?_ | refine RunL.skip0 rfl ?_ | exact RunL.blkEnd rfl rfl | apply RunL.andB rfl rfl rfl rfl rfl rfl rfl rfl | apply RunL.orB rfl rfl rfl rfl rfl rfl rfl rfl | (refine fun (hb : (_ : Bool) = _) => ?_; try simp at hb))
      refine Run.ret Try.func32 rfl [_] ⟨rfl, trivial⟩ ?_
      refine ⟨?_, rfl⟩
      rw [Nm.valid_false hlt hb]; rfl
    · repeat' (first | refine RunL.ev rfl rfl ?_ | refine RunL.evc rfl rfl (by first | omega | (simp; done) | (simp; omega) | exact List.length_pos_iff.2 (by assumption)) ?_ | refine RunL.nil ?_ | refine Run.ctl rfl ?_ | refine Run.region ?_ | refine Run.condT rfl ?_ | refine Run.condF rfl ?_ | refine RunL.skip rfl rfl ?_ | refine RunL.skip0 rfl ?_ | exact RunL.blkEnd rfl rfl | apply RunL.andB rfl rfl rfl rfl rfl rfl rfl rfl | apply RunL.orB rfl rfl rfl rfl rfl rfl rfl rfl | (refine fun (hb : (_ : Bool) = _) => ?_; try simp at hb))
      exact ih (k + 1) _ _ ⟨rfl, hlt, fun j hj => if e : j = k then e ▸ hb else hg j (by omega)⟩ (by omega) ⟨rfl, rfl, trivial⟩
  · repeat' (first | refine RunL.ev rfl rfl ?_ | refine RunL.evc rfl rfl (by first | omega | (simp; done) | (simp; omega) | exact List.length_pos_iff.2 (by assumption)) ?_ | refine RunL.nil ?_ | refine Run.ctl rfl ?_ | refine Run.region ?_ | refine Run.condT rfl ?_ | refine Run.condF rfl ?_ | refine RunL.skip rfl rfl ?_ | refine RunL.skip0 rfl ?_ | exact RunL.blkEnd rfl rfl | apply RunL.andB rfl rfl rfl rfl rfl rfl rfl rfl | apply RunL.orB rfl rfl rfl rfl rfl rfl rfl rfl | (refine fun (hb : (_ : Bool) = _) => ?_; try simp at hb))
    refine Run.ret Try.func32 rfl [_] ⟨rfl, trivial⟩ ?_
    refine ⟨?_, rfl⟩
    rw [Nm.valid_true hc (fun j hj => hg j (by simp at hk2; omega))]; rfl

theorem get_str (s : List UInt8) (p : Nat) (h : p < s.length) (h' : p < (⟨s.toArray⟩ : ByteArray).size) : (⟨s.toArray⟩ : ByteArray)[p] = s.getD p 0 := by
  rw [List.getD_eq_getElem?_getD, List.getElem?_eq_getElem h]; rfl

theorem dec_bad (s : List UInt8) (p : Nat) (h : p < s.length) :
    Nm.badc ((Utf8.decode ⟨s.toArray⟩ p).1 : Int) ((p : Int) == 0) = Nm.badAt s p ∧ (Nm.badAt s p = false → (Utf8.decode ⟨s.toArray⟩ p).2 = 1) := by
  have hsz : p < (⟨s.toArray⟩ : ByteArray).size := by simpa [ByteArray.size] using h
  have hget := get_str s p h hsz
  by_cases ha : ((⟨s.toArray⟩ : ByteArray)[p]).toNat < 128
  · rw [decode_ascii _ p hsz ha, hget]
    exact ⟨rfl, fun _ => rfl⟩
  · have hh := decode_high ⟨s.toArray⟩ p hsz (by omega)
    rw [hget] at ha
    have big : ∀ (n : Nat) (f : Bool), 128 ≤ n → Nm.badc (n : Int) f = true := by
      intro n f hn
      have e1 : decide ((n : Int) ≤ 122) = false := by simp; omega
      have e2 : ((n : Int) != 95) = true := by simp; omega
      have e3 : ((n : Int) != 45) = true := by simp; omega
      have e4 : decide ((n : Int) > 57) = true := by simp; omega
      simp [Nm.badc, Nm.lett, e1, e2, e3, e4]
    have g1 : Nm.badAt s p = true := big _ _ (by omega)
    rw [g1]
    exact ⟨big _ _ hh.1, fun e => by cases e⟩

theorem valid_any (s : List UInt8) (w : World) (hs : s.length ≤ 9223372036854775807) :
    Calls Try.prog 31 #[str s] w fun e w' => e = .returned (.bool (Nm.valid s)) ∧ Below w.heap.size w w' := by
  refine calls_of_run Try.func31 rfl (Nat.le_of_ble_eq_true rfl) ?_
  refine Run.sub (σ' := [(0, str s)]) ⟨rfl, trivial⟩ ?_
  repeat' (first | refine RunL.ev rfl rfl ?_ | refine RunL.evc rfl rfl (by first | omega | (simp; done) | (simp; omega) | exact List.length_pos_iff.2 (by assumption)) ?_ | refine RunL.nil ?_ | refine Run.ctl rfl ?_ | refine Run.region ?_ | refine Run.condT rfl ?_ | refine Run.condF rfl ?_ | refine RunL.skip rfl rfl ?_ | refine RunL.skip0 rfl ?_ | exact RunL.blkEnd rfl rfl | apply RunL.andB rfl rfl rfl rfl rfl rfl rfl rfl | apply RunL.orB rfl rfl rfl rfl rfl rfl rfl rfl | (refine fun (hb : (_ : Bool) = _) => ?_; try simp at hb))
  refine Run.cond rfl (fun hc => ?_) (fun hc => ?_)
  · repeat' (first | refine RunL.ev rfl rfl ?_ | refine RunL.evc rfl rfl (by first | omega | (simp; done) | (simp; omega) | exact List.length_pos_iff.2 (by assumption)) ?_ | refine RunL.nil ?_ | refine Run.ctl rfl ?_ | refine Run.region ?_ | refine Run.condT rfl ?_ | refine Run.condF rfl ?_ | refine RunL.skip rfl rfl ?_ | refine RunL.skip0 rfl ?_ | exact RunL.blkEnd rfl rfl | apply RunL.andB rfl rfl rfl rfl rfl rfl rfl rfl | apply RunL.orB rfl rfl rfl rfl rfl rfl rfl rfl | (refine fun (hb : (_ : Bool) = _) => ?_; try simp at hb))
    refine Run.ret Try.func31 rfl [_] ⟨rfl, trivial⟩ ?_
    refine ⟨?_, Below.refl _ _⟩
    unfold Nm.valid; rw [hc]; rfl
  repeat' (first | refine RunL.ev rfl rfl ?_ | refine RunL.evc rfl rfl (by first | omega | (simp; done) | (simp; omega) | exact List.length_pos_iff.2 (by assumption)) ?_ | refine RunL.nil ?_ | refine Run.ctl rfl ?_ | refine Run.region ?_ | refine Run.condT rfl ?_ | refine Run.condF rfl ?_ | refine RunL.skip rfl rfl ?_ | refine RunL.skip0 rfl ?_ | exact RunL.blkEnd rfl rfl | apply RunL.andB rfl rfl rfl rfl rfl rfl rfl rfl | apply RunL.orB rfl rfl rfl rfl rfl rfl rfl rfl | (refine fun (hb : (_ : Bool) = _) => ?_; try simp at hb))
  refine RunL.rangeS rfl rfl rfl ?_
  intro w1 hit hb1
  repeat' (first | refine RunL.ev rfl rfl ?_ | refine RunL.evc rfl rfl (by first | omega | (simp; done) | (simp; omega) | exact List.length_pos_iff.2 (by assumption)) ?_ | refine RunL.nil ?_ | refine Run.ctl rfl ?_ | refine Run.region ?_ | refine Run.condT rfl ?_ | refine Run.condF rfl ?_ | refine RunL.skip rfl rfl ?_ | refine RunL.skip0 rfl ?_ | exact RunL.blkEnd rfl rfl | apply RunL.andB rfl rfl rfl rfl rfl rfl rfl rfl | apply RunL.orB rfl rfl rfl rfl rfl rfl rfl rfl | (refine fun (hb : (_ : Bool) = _) => ?_; try simp at hb))
  refine Run.loop (ι := Nat) (fun k w' => Below w.heap.size w w' ∧ w'.heap[w.heap.size]? = some (.stringIter ⟨s.toArray⟩ k) ∧ k ≤ s.length ∧ ∀ j, j < k → Nm.badAt s j = false) (fun k => [(0, str s), (14, .pointer (some ⟨w.heap.size, 0, none⟩))]) (fun k => s.length - k) 0 ⟨hb1, hit, Nat.zero_le _, fun _ h => by omega⟩ ⟨rfl, rfl, trivial⟩ ?_
  rintro k w2 ⟨hb2, hit2, hk, hg⟩ ih
  refine Run.ctl rfl ?_
  refine Run.region ?_
  by_cases hlt : k < s.length
  · refine RunL.nextS hit2 hlt rfl rfl ?_
    intro w3 hit3 hb3 hsz
    have hd := dec_bad s k hlt
    obtain ⟨hd1, hd2⟩ := hd
    repeat' (first | refine RunL.ev rfl rfl ?_ | refine RunL.evc rfl rfl (by first | omega | (simp; done) | (simp; omega) | exact List.length_pos_iff.2 (by assumption)) ?_ | refine RunL.callP fn56 rfl rfl (letter_any _ _) ?_ | refine RunL.nil ?_ | refine Run.ctl rfl ?_ | refine Run.region ?_ | refine Run.condT rfl ?_ | refine Run.condF rfl ?_ | refine RunL.skip rfl rfl ?_ | refine RunL.skip0 rfl ?_ | exact RunL.blkEnd rfl rfl | apply RunL.andB rfl rfl rfl rfl rfl rfl rfl rfl | apply RunL.orB rfl rfl rfl rfl rfl rfl rfl rfl | (refine fun (hb : (_ : Bool) = _) => ?_; try simp at hb))
    refine Run.cond rfl (fun hb => ?_) (fun hb => ?_)
    · repeat' (first | refine RunL.ev rfl rfl ?_ | refine RunL.evc rfl rfl (by first | omega | (simp; done) | (simp; omega) | exact List.length_pos_iff.2 (by assumption)) ?_ | refine RunL.nil ?_ | refine Run.ctl rfl ?_ | refine Run.region ?_ | refine Run.condT rfl ?_ | refine Run.condF rfl ?_ | refine RunL.skip rfl rfl ?_ | refine RunL.skip0 rfl ?_ | exact RunL.blkEnd rfl rfl | apply RunL.andB rfl rfl rfl rfl rfl rfl rfl rfl | apply RunL.orB rfl rfl rfl rfl rfl rfl rfl rfl | (refine fun (hb : (_ : Bool) = _) => ?_; try simp at hb))
      refine Run.ret Try.func31 rfl [_] ⟨rfl, trivial⟩ ?_
      refine ⟨?_, hb2.trans (hb3 _ (Nat.le_refl _))⟩
      rw [Nm.valid_false hlt (by rw [← hd1]; exact hb)]; rfl
    · have hb' : Nm.badAt s k = false := by rw [← hd1]; exact hb
      rw [hd2 hb'] at hit3
      repeat' (first | refine RunL.ev rfl rfl ?_ | refine RunL.evc rfl rfl (by first | omega | (simp; done) | (simp; omega) | exact List.length_pos_iff.2 (by assumption)) ?_ | refine RunL.nil ?_ | refine Run.ctl rfl ?_ | refine Run.region ?_ | refine Run.condT rfl ?_ | refine Run.condF rfl ?_ | refine RunL.skip rfl rfl ?_ | refine RunL.skip0 rfl ?_ | exact RunL.blkEnd rfl rfl | apply RunL.andB rfl rfl rfl rfl rfl rfl rfl rfl | apply RunL.orB rfl rfl rfl rfl rfl rfl rfl rfl | (refine fun (hb : (_ : Bool) = _) => ?_; try simp at hb))
      exact ih (k + 1) _ _ ⟨hb2.trans (hb3 _ (Nat.le_refl _)), hit3, hlt, fun j hj => if e : j = k then e ▸ hb' else hg j (by omega)⟩ (by omega) ⟨rfl, rfl, trivial⟩
  · refine RunL.nextEnd hit2 hlt rfl rfl ?_
    repeat' (first | refine RunL.ev rfl rfl ?_ | refine RunL.evc rfl rfl (by first | omega | (simp; done) | (simp; omega) | exact List.length_pos_iff.2 (by assumption)) ?_ | refine RunL.nil ?_ | refine Run.ctl rfl ?_ | refine Run.region ?_ | refine Run.condT rfl ?_ | refine Run.condF rfl ?_ | refine RunL.skip rfl rfl ?_ | refine RunL.skip0 rfl ?_ | exact RunL.blkEnd rfl rfl | apply RunL.andB rfl rfl rfl rfl rfl rfl rfl rfl | apply RunL.orB rfl rfl rfl rfl rfl rfl rfl rfl | (refine fun (hb : (_ : Bool) = _) => ?_; try simp at hb))
    refine Run.ret Try.func31 rfl [_] ⟨rfl, trivial⟩ ?_
    refine ⟨?_, hb2⟩
    rw [Nm.valid_true hc (fun j hj => hg j (by omega))]; rfl
end Go.Proofs.Ytfjomclebkgocaa

/- Small facts on bytes and cells. Conditions: none. -/
namespace Tk
open Go Go.GX
set_option linter.unusedVariables false
theorem bget (l : List UInt8) (j : Nat) (h : j < l.length) : (bcells l)[0 + j * 1]? = some (.int .u8 ((l.getD j 0).toNat : Int)) := by
  rw [Nat.zero_add, Nat.mul_one, bcells, List.getElem?_map, List.getD_eq_getElem?_getD, List.getElem?_eq_getElem h]; rfl
theorem bget0 (l : List UInt8) (j : Nat) (h : j < l.length) : (bcells l)[j]? = some (.int .u8 ((l.getD j 0).toNat : Int)) := by
  have := bget l j h; simpa using this
theorem bset (l : List UInt8) (j : Nat) (c : UInt8) : (bcells l).set (0 + j * 1) (.int .u8 (c.toNat : Int)) = bcells (l.set j c) := by
  rw [Nat.zero_add, Nat.mul_one, bcells, bcells, List.map_set]
theorem stB {P : Program} {t : TypeId} (l : List UInt8) (j : Nat) (c : UInt8) (hm : (P.info? t).map (·.size) = some 1) (hj : j < l.length) : stV P t (bcells l) (0 + j * 1) (.int .u8 (c.toNat : Int)) = some (bcells (l.set j c)) := by
  rw [stV_at hm rfl rfl (by rw [bcells_length]; omega), bset]
theorem bone (l : List UInt8) : ∀ u ∈ bcells l, u.oneCell' = true := by
  intro u hu
  obtain ⟨c, _, rfl⟩ := List.mem_map.1 hu
  rfl
theorem dig_at {c : UInt8} {k : Nat} (hk : k < 16) (he : digs.getD k 0 = c) : dig c = k := by rw [← he]; exact dig_digs k hk
theorem dig_no {c : UInt8} (h : ∀ j, j < 16 → digs.getD j 0 ≠ c) : dig c = -1 := by
  have h1 := dig_spec c
  by_cases h0 : 0 ≤ dig c
  · obtain ⟨h2, h3⟩ := h1.1 h0
    exact absurd h3 (h _ (by omega))
  · have := h1.2; omega
/-- An array that is being filled. -/
def fill (l : List UInt8) (k : Nat) : List UInt8 := l.take k ++ List.replicate (l.length - k) 0
theorem fill_len (l : List UInt8) (k : Nat) (h : k ≤ l.length) : (fill l k).length = l.length := by simp [fill]; omega
theorem fill_set {l : List UInt8} {k : Nat} (h : k < l.length) : (fill l k).set k (l.getD k 0) = fill l (k + 1) := by
  unfold fill
  have e1 : (l.take k).length = k := by simp; omega
  rw [List.set_append_right _ _ (by omega), e1, Nat.sub_self]
  obtain ⟨m, hm⟩ : ∃ m, l.length - k = m + 1 := ⟨l.length - k - 1, by omega⟩
  rw [hm, show l.length - (k + 1) = m by omega, List.replicate_succ, List.set_cons_zero, List.getD_eq_getElem?_getD, List.getElem?_eq_getElem h, List.take_succ_eq_append_getElem h, List.append_assoc]
  rfl
theorem fill_all (l : List UInt8) : fill l l.length = l := by simp [fill]
theorem getD_of {l : List UInt8} {j : Nat} {c : UInt8} (h : l[j]? = some c) : l.getD j 0 = c := by rw [List.getD_eq_getElem?_getD, h]; rfl
theorem getB {s : List UInt8} {k : Nat} (h : k < s.length) : s[k]? = some (s.getD k 0) := by rw [List.getD_eq_getElem?_getD, List.getElem?_eq_getElem h]; rfl
theorem u8eq {a b : UInt8} (h : ((a.toNat : Int) == (b.toNat : Int)) = true) : a = b := by
  have := eq_of_beq h
  exact UInt8.toNat_inj.1 (by omega)
theorem u8ne {a b : UInt8} (h : ((a.toNat : Int) == (b.toNat : Int)) = false) : a ≠ b := by
  rintro rfl; simp at h
theorem len2 (k : Nat) (s : List UInt8) : (hex (s.take k)).length ≤ 2 * s.length := by rw [hex_len]; simp; omega
theorem stF {P : Program} {t : TypeId} (l : List UInt8) (k : Nat) (hm : (P.info? t).map (·.size) = some 1) (hk : k < l.length) (n : Nat) (hn : (l.getD k 0).toNat = n) : stV P t (bcells (fill l k)) (0 + k * 1) (.int .u8 (n : Int)) = some (bcells (fill l (k + 1))) := by
  rw [← hn, stB (fill l k) k (l.getD k 0) hm (by rw [fill_len l k (by omega)]; exact hk), fill_set hk]
end Tk
namespace Tk
open Go Go.GX
set_option linter.unusedVariables false
theorem mulS (h : Nat) (c : UInt8) : IntKind.u64.wrap (((h ^^^ c.toNat : Nat) : Int) * 1099511628211) = ((fnvS h c : Nat) : Int) := by
  have e : ((h ^^^ c.toNat : Nat) : Int) * 1099511628211 = (((h ^^^ c.toNat) * 1099511628211 : Nat) : Int) := by rw [Int.natCast_mul]; rfl
  rw [e, wrapU64]; rfl
theorem shrN (a b : Nat) (m : Int) (hm : m = (b : Int)) (hb : b ≤ 64) : (a : Int).fdiv (2 ^ (min m.toNat 64)) = ((a / 2 ^ b : Nat) : Int) := by
  subst hm
  have e : min ((b : Int).toNat) 64 = b := by simp; omega
  rw [e]
  have h2 : (2 : Int) ^ b = ((2 ^ b : Nat) : Int) := by rw [Int.natCast_pow]; rfl
  rw [h2]
  rw [Int.fdiv_eq_ediv_of_nonneg _ (Int.natCast_nonneg _)]; rfl
theorem wrap8 (n : Nat) : IntKind.u8.wrap (n : Int) = ((UInt8.ofNat n).toNat : Int) := by rw [wrapU8, u8n]
theorem keyB_get (key k : Nat) (h : k < 8) : (keyB key).getD k 0 = UInt8.ofNat (key / 2 ^ (56 - 8 * k)) := by
  rw [List.getD_eq_getElem?_getD, List.getElem?_eq_getElem (by rw [keyB_len]; exact h)]; simp [keyB]
theorem sum4_get (n k : Nat) (h : k < 4) : (sum4 n).getD k 0 = UInt8.ofNat (n / 2 ^ (24 - 8 * k)) := by
  rw [List.getD_eq_getElem?_getD, List.getElem?_eq_getElem (by rw [sum4_len]; exact h)]; simp [sum4]
theorem keyB_take (key k : Nat) (h : k < 8) : (keyB key).take (k + 1) = (keyB key).take k ++ [UInt8.ofNat (key / 2 ^ (56 - 8 * k))] := by
  rw [take_succ_get (getB (by rw [keyB_len]; exact h)), keyB_get key k h]
theorem bAllOne (l : List UInt8) : allOne (bcells l) = true := by
  induction l with
  | nil => rfl
  | cons c l ih => exact ih
theorem stV_all {P : Program} {t : TypeId} {cs us : List Value} (hm : (P.info? t).map (·.size) = some us.length) (h1 : allOne us = true) (hl : cs.length = us.length) : stV P t cs 0 (.agg ⟨us⟩) = some us := by
  obtain ⟨ti, g1, g2⟩ : ∃ ti, P.info? t = some ti ∧ ti.size = us.length := by
    cases h : P.info? t with
    | none => rw [h] at hm; cases hm
    | some ti => rw [h] at hm; exact ⟨ti, rfl, by simpa using hm⟩
  have hc : cellsL (.agg ⟨us⟩) = us := rfl
  unfold stV
  rw [g1]
  simp only [hc, h1, g2, lenV_eq, hl, Nat.zero_add]
  have e1 : Nat.beq us.length us.length = true := Nat.beq_refl _
  have e2 : Nat.ble us.length us.length = true := Nat.ble_eq_true_of_le (Nat.le_refl _)
  rw [e1, e2]
  show some (putR cs 0 us) = _
  rw [putR_eq (by omega)]
  simp [hl]
end Tk
