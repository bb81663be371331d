/- Memory: slices that came in, slices that the call makes and appends to, strings made of bytes, ranges over strings. Conditions: as each says. -/
import Derived.Lib.OthersKept
import Derived.Lib.AppendStr
import Derived.OrdersHeld
import Derived.Deep.MidRow
import Derived.Carry
import Derived.Laws.StructEq
import Derived.MapKept
import Derived.Test.YtfjomclebkgocaaPart1
namespace Go.GX
open Go.RowKit
set_option linter.unusedVariables false
set_option linter.unusedSectionVars false
set_option linter.unusedSimpArgs false

/-- An element type, by its slice's. -/
structure Elem (P : Program) (t e : TypeId) (sz bytes : Nat) : Prop where
  slice : P.underlying t = some (.slice e)
  info : ∃ i z, P.info? e = some i ∧ i.zero = some z ∧ i.size = sz ∧ i.bytes = bytes ∧ z.cells.size = sz
  pos : 0 < sz

theorem grownBy_trans {a b c : World} {r : Option Nat} (h : a.grownBy b r) (k : b.grownBy c r) : a.grownBy c r :=
  ⟨k.os.trans h.os, k.tape.trans h.tape, k.output.trans h.output, Nat.le_trans h.size k.size, fun i hi hr => (k.block i (Nat.lt_of_lt_of_le hi h.size) hr).trans (h.block i hi hr)⟩

theorem grownBy_refl (w : World) (r : Option Nat) : w.grownBy w r := ⟨rfl, rfl, rfl, Nat.le_refl _, fun _ _ _ => rfl⟩

theorem below_grown {w w' : World} (h : w.grownBy w' none) : Below w.heap.size w w' := ⟨h.os, h.tape, h.output, h.size, fun k hk => h.block k hk (by simp)⟩
theorem grown_below {w w' : World} {r : Option Nat} (h : Below w.heap.size w w') : w.grownBy w' r := ⟨h.os, h.tape, h.output, h.size, fun k hk _ => h.block k hk⟩

/-! ### A slice that can be read: its elements' cells -/
def IsSl (w : World) (v : Value) (cs : List Value) (n : Nat) : Prop :=
  ((v = .slice none 0 0 ∨ ∃ a c, v = .slice (some a) 0 c) ∧ n = 0 ∧ cs = []) ∨ ∃ b off cap, v = .slice (some ⟨b, off, none⟩) n cap ∧ ∀ j u, cs[j]? = some u → w.cell? ⟨b, off + j, none⟩ = some u

theorem IsSl.nil (w : World) : IsSl w (.slice none 0 0) [] 0 := .inl ⟨.inl rfl, rfl, rfl⟩

/-- The place of cell j. -/
def elemPtr (v : Value) (j : Nat) : Value :=
  match v with
  | .slice (some ⟨b, off, _⟩) _ _ => .pointer (some ⟨b, off + j, none⟩)
  | _ => undef

theorem IsSl.below {w w' : World} {v : Value} {cs : List Value} {n : Nat} {B : Nat} (h : IsSl w v cs n) (hb : Below B w w') (hB : ∀ b, v.ownBlock = some b → b < B) : IsSl w' v cs n := by
  rcases h with h | ⟨b, off, cap, hv, hc⟩
  · exact .inl h
  · refine .inr ⟨b, off, cap, hv, fun j u hu => ?_⟩
    have hlt := hB b (by subst hv; rfl)
    have := hb.cell (p := ⟨b, off + j, none⟩) hlt
    rw [this]; exact hc j u hu

theorem IsSl.lt {w : World} {v : Value} {cs : List Value} {n : Nat} (h : IsSl w v cs n) (hc : cs ≠ []) : ∀ b, v.ownBlock = some b → b < w.heap.size := by
  rcases h with h | ⟨b, off, cap, hv, hc'⟩
  · exact absurd h.2.2 hc
  · intro b' hb'
    subst hv
    simp [Value.ownBlock] at hb'
    subst hb'
    cases cs with
    | nil => exact absurd rfl hc
    | cons u r => exact World.block_lt_of_cell? w ⟨b, off + 0, none⟩ (hc' 0 u rfl)

/-- It reads the same in a world that has grown. -/
theorem IsSl.ext {w w' : World} {v : Value} {cs : List Value} {n : Nat} (h : IsSl w v cs n) (hb : Below w.heap.size w w') : IsSl w' v cs n := by
  by_cases hc : cs = []
  · subst hc
    rcases h with h | ⟨b, off, cap, hv, _⟩
    · exact .inl h
    · exact .inr ⟨b, off, cap, hv, fun j u hu => by simp at hu⟩
  · exact h.below hb (h.lt hc)

theorem IsSl.kept {w w' : World} {v : Value} {cs : List Value} {n : Nat} {r : Option Nat} (h : IsSl w v cs n) (hb : w.grownBy w' r) (hne : ∀ b, v.ownBlock = some b → some b ≠ r) : IsSl w' v cs n := by
  rcases h with h | ⟨b, off, cap, hv, hc⟩
  · exact .inl h
  · exact .inr ⟨b, off, cap, hv, fun j u hu => hb.cell (hc j u hu) (hne b (by subst hv; rfl))⟩

theorem IsSl.head {w : World} {v : Value} {cs : List Value} {n : Nat} (h : IsSl w v cs n) : ∃ a c, v = .slice a n c := by
  rcases h with ⟨h, hn, _⟩ | ⟨b, off, cap, hv, _⟩
  · rcases h with h | ⟨a, c, h⟩
    · exact ⟨none, 0, by rw [h, hn]⟩
    · exact ⟨some a, c, by rw [h, hn]⟩
  · exact ⟨_, _, hv⟩

theorem IsSl_own {w : World} {B e sz n : Nat} {v : Value} {cs : List Value} (h : w.ownsRow B e sz v n cs) : IsSl w v cs n := by
  rcases h with ⟨hl, ⟨hv, hn⟩ | ⟨g, cap, cur, hv, hB, hg, hn, hm, hs, ht⟩⟩
  · subst hn
    exact .inl ⟨.inl hv, rfl, List.eq_nil_of_length_eq_zero (by simpa using hl)⟩
  · refine .inr ⟨g, 0, cap, hv, fun j u hu => ?_⟩
    have hadd := World.ownsRow.cells (w := w) (base := B) (e := e) (size := sz) (v := v) (n := n) (xs := cs) ⟨hl, .inr ⟨g, cap, cur, hv, hB, hg, hn, hm, hs, ht⟩⟩ (g := g) (by rw [hv]; rfl) j u hu
    have ha : (⟨g, 0, none⟩ : Addr).add j = ⟨g, 0 + j, none⟩ := by unfold Addr.add; split <;> simp_all
    rwa [ha] at hadd

section
variable {P : Program} {f : FuncId} {N : Nat} {k : List Item} {σ : Store} {w w' : World} {R : Ending → World → Prop} {ops l : List Oper} {K : Act → World → Prop} {KQ : Act → Prop} {C : World → Prop} {d : Nat} {ty : TypeId} {pos : String} {af : Array Edge} {gd : Option (Nat × Bool)} {v u : Value} {cs : List Value} {n : Nat} {t e : TypeId} {sz bytes : Nat}

theorem ex_lenI {d : Option Tmp} {x : Operand} (hv : IsSl w v cs n) (hT : P.underlying t = some (.slice e)) (hx : lookO σ x = some v) (w1 : World) :
    (execOp (evO σ) ⟨d, .call ⟨.builtin .len, #[x], #[t]⟩, ty, pos, af, gd⟩).run P w1 = .ok (.value (.int .i64 (n : Int))) w1 := by
  obtain ⟨a, c, rfl⟩ := hv.head
  exact ex_lenV hT (evO_of_lookO hx)

theorem RunL.lenI {w1 : World} {x : Operand} (hv : IsSl w1 v cs n) (hs : stat N ops ⟨some d, .call ⟨.builtin .len, #[x], #[t]⟩, ty, pos, af, gd⟩ σ = true) (hT : P.underlying t = some (.slice e)) (hx : lookO σ x = some v)
    (h : RunL P N ops l ((d, .int .i64 (n : Int)) :: σ) w K) : RunL P N ops (⟨some d, .call ⟨.builtin .len, #[x], #[t]⟩, ty, pos, af, gd⟩ :: l) σ w K :=
  RunL.op hs (ex_lenI hv hT hx w) h
theorem RunQ.lenI {w1 : World} {x : Operand} (hv : IsSl w1 v cs n) (hs : stat N ops ⟨some d, .call ⟨.builtin .len, #[x], #[t]⟩, ty, pos, af, gd⟩ σ = true) (hT : P.underlying t = some (.slice e)) (hx : lookO σ x = some v)
    (h : RunQ P N C ops l ((d, .int .i64 (n : Int)) :: σ) KQ) : RunQ P N C ops (⟨some d, .call ⟨.builtin .len, #[x], #[t]⟩, ty, pos, af, gd⟩ :: l) σ KQ :=
  RunQ.op hs (fun w _ => ex_lenI hv hT hx w) h

theorem ex_idxI {d : Option Tmp} {x i : Operand} {kk : IntKind} {m : Int} (hv : IsSl w v cs n) (hE : Elem P t e sz bytes) (hx : lookO σ x = some v) (hi : lookO σ i = some (.int kk m)) (j : Nat) (hj : m = (j : Int)) (hlt : j < n) (w1 : World) :
    (execOp (evO σ) ⟨d, .indexAddr t x i, ty, pos, af, gd⟩).run P w1 = .ok (.value (elemPtr v (j * sz))) w1 := by
  rcases hv with ⟨_, hn, _⟩ | ⟨b, off, cap, rfl, hc⟩
  · omega
  · obtain ⟨ti, z, h1, h2, h3, h4, h5⟩ := hE.info
    exact ex_idxAddr hE.slice (by rw [h1, ← h3]; rfl) (evO_of_lookO hx) (evO_of_lookO hi) j hj hlt

theorem RunL.idxI {w1 : World} {x i : Operand} {kk : IntKind} {m : Int} (hv : IsSl w1 v cs n) (hE : Elem P t e sz bytes) (j : Nat) (hs : stat N ops ⟨some d, .indexAddr t x i, ty, pos, af, gd⟩ σ = true) (hx : lookO σ x = some v) (hi : lookO σ i = some (.int kk m)) (hj : m = (j : Int)) (hlt : j < n)
    (h : RunL P N ops l ((d, elemPtr v (j * sz)) :: σ) w K) : RunL P N ops (⟨some d, .indexAddr t x i, ty, pos, af, gd⟩ :: l) σ w K :=
  RunL.op hs (ex_idxI hv hE hx hi j hj hlt w) h
theorem RunQ.idxI {w1 : World} {x i : Operand} {kk : IntKind} {m : Int} (hv : IsSl w1 v cs n) (hE : Elem P t e sz bytes) (j : Nat) (hs : stat N ops ⟨some d, .indexAddr t x i, ty, pos, af, gd⟩ σ = true) (hx : lookO σ x = some v) (hi : lookO σ i = some (.int kk m)) (hj : m = (j : Int)) (hlt : j < n)
    (h : RunQ P N C ops l ((d, elemPtr v (j * sz)) :: σ) KQ) : RunQ P N C ops (⟨some d, .indexAddr t x i, ty, pos, af, gd⟩ :: l) σ KQ :=
  RunQ.op hs (fun w _ => ex_idxI hv hE hx hi j hj hlt w) h

theorem IsSl.cell (hv : IsSl w v cs n) {j : Nat} (hu : cs[j]? = some u) : ∃ p, elemPtr v j = .pointer (some p) ∧ w.cell? p = some u ∧ v.ownBlock = some p.block := by
  rcases hv with ⟨_, _, rfl⟩ | ⟨b, off, cap, rfl, hc⟩
  · simp at hu
  · exact ⟨_, rfl, hc j u hu, rfl⟩

theorem RunL.loadI {x : Operand} {td : TypeDesc} {j : Nat} (hv : IsSl w v cs n) (hs : stat N ops ⟨some d, .load t x, ty, pos, af, gd⟩ σ = true) (hT : P.underlying t = some td) (hp : plainT td = true) (hx : lookO σ x = some (elemPtr v j)) (hu : cs[j]? = some u)
    (h : RunL P N ops l ((d, u) :: σ) w K) : RunL P N ops (⟨some d, .load t x, ty, pos, af, gd⟩ :: l) σ w K := by
  obtain ⟨p, h1, h2, _⟩ := hv.cell hu
  rw [h1] at hx
  exact RunL.op hs (ex_load1 hT hp (evO_of_lookO hx) h2) h

theorem RunQ.loadI {x : Operand} {td : TypeDesc} {j : Nat} (hv : IsSl w v cs n) (hs : stat N ops ⟨some d, .load t x, ty, pos, af, gd⟩ σ = true) (hT : P.underlying t = some td) (hp : plainT td = true) (hx : lookO σ x = some (elemPtr v j)) (hu : cs[j]? = some u)
    (h : RunQ P N (fun w' => Below w.heap.size w w') ops l ((d, u) :: σ) KQ) : RunQ P N (fun w' => Below w.heap.size w w') ops (⟨some d, .load t x, ty, pos, af, gd⟩ :: l) σ KQ := by
  obtain ⟨p, h1, h2, _⟩ := hv.cell hu
  rw [h1] at hx
  refine RunQ.op hs (fun w' hw' => ex_load1 hT hp (evO_of_lookO hx) ?_) h
  rw [hw'.cell (World.block_lt_of_cell? w p h2)]; exact h2

/-! ### append of a few elements -/
/-- The parts of a slice's literal, in their order. -/
def partsX : Nat → List (Nat × Operand) → Option (List Operand)
  | _, [] => some []
  | n, (i, x) :: r => match Nat.beq i n with
    | true => match partsX (n + 1) r with
      | some xs => some (x :: xs)
      | none => none
    | false => none

theorem partsX_eq : ∀ {n : Nat} {ps : List (Nat × Operand)} {xs : List Operand}, partsX n ps = some xs → ps = (xs.zipIdx n).map fun (x, i) => (i, x)
  | _, [], xs, h => by simp [partsX] at h; simp [h]
  | n, (i, x) :: r, xs, h => by
    simp only [partsX] at h
    split at h
    · rename_i hi
      have e := Nat.eq_of_beq_eq_true hi
      subst e
      split at h
      · rename_i ys hy
        cases h
        simp [List.zipIdx_cons, ← partsX_eq hy]
      · cases h
    · cases h

/-- The cells of values of one size. -/
def flatC (sz : Nat) : List Value → Option (List Value)
  | [] => some []
  | .agg ⟨c⟩ :: r => match Nat.beq c.length sz with
    | true => match flatC sz r with
      | some cs => some (c ++ cs)
      | none => none
    | false => none
  | .tuple _ :: _ => none
  | v :: r => match Nat.beq 1 sz with
    | true => match flatC sz r with
      | some cs => some (v :: cs)
      | none => none
    | false => none

theorem flatC_eq : ∀ {vs : List Value} {cs : List Value}, flatC sz vs = some cs → (∀ v ∈ vs, v.cells.size = sz) ∧ cs = (vs.map fun v => v.cells.toList).flatten := by
  intro vs
  induction vs with
  | nil => intro cs h; simp [flatC] at h; simp [h]
  | cons v r ih =>
    intro cs h
    have one : (∀ c, v ≠ .agg c) → (match Nat.beq 1 sz with
        | true => match flatC sz r with
          | some cs => some (v :: cs)
          | none => none
        | false => none) = some cs → (∀ u ∈ v :: r, u.cells.size = sz) ∧ cs = ((v :: r).map fun v => v.cells.toList).flatten := by
      intro hne h
      have hc : v.cells = #[v] := by cases v <;> first | rfl | exact absurd rfl (hne _)
      split at h
      · rename_i hl
        split at h
        · rename_i ys hy; cases h
          obtain ⟨g1, g2⟩ := ih hy
          have := Nat.eq_of_beq_eq_true hl
          refine ⟨fun u hu => ?_, by simp [hc, g2]⟩
          rcases List.mem_cons.1 hu with rfl | hu
          · rw [hc]; simpa using this
          · exact g1 u hu
        · cases h
      · cases h
    cases v with
    | agg c =>
      obtain ⟨c⟩ := c
      simp only [flatC] at h
      split at h
      · rename_i hl
        split at h
        · rename_i ys hy; cases h
          obtain ⟨h1, h2⟩ := ih hy
          have := Nat.eq_of_beq_eq_true hl
          refine ⟨fun v hv => ?_, by simp [Value.cells, h2]⟩
          rcases List.mem_cons.1 hv with rfl | hv
          · simpa [Value.cells] using this
          · exact h1 v hv
        · cases h
      · cases h
    | tuple vs => simp [flatC] at h
    | _ => exact one (fun c e => by cases e) (by simpa only [flatC] using h)

theorem fill_all (sz : Nat) : ∀ (vs : List Value) (i : Nat) (pre post : List Value), pre.length = i * sz → post.length = vs.length * sz → (∀ v ∈ vs, v.cells.size = sz) →
    Instr.fill (fun i => some (i * sz, sz)) (pre ++ post).toArray ((vs.zipIdx i).map fun (v, i) => (i, v)) = some (pre ++ (vs.map fun v => v.cells.toList).flatten).toArray := by
  intro vs
  induction vs with
  | nil => intro i pre post hp hq _; simp at hq; subst hq; simp [Instr.fill]
  | cons v vs ih =>
    intro i pre post hp hq hs
    have hv := hs v (List.mem_cons_self ..)
    simp only [List.zipIdx_cons, List.map_cons, Instr.fill]
    have hlen : ¬ (v.cells.size ≠ sz ∨ i * sz + v.cells.size > (pre ++ post).toArray.size) := by
      simp only [List.length_cons, Nat.add_mul, Nat.one_mul] at hq
      simp [hv, hp, hq]
    rw [if_neg (by simpa using hlen)]
    have key : ∀ (cs : List Value) (j : Nat) (pre post : List Value), pre.length = i * sz + j → cs.length ≤ post.length →
        ((cs.zipIdx j).foldl (fun (a : Array Value) (x : Value × Nat) => a.setIfInBounds (i * sz + x.2) x.1) (pre ++ post).toArray) = (pre ++ cs ++ post.drop cs.length).toArray := by
      intro cs
      induction cs with
      | nil => intro j pre post _ _; simp
      | cons c cs ih2 =>
        intro j pre post h1 h2
        cases post with
        | nil => simp at h2
        | cons q post =>
          simp only [List.zipIdx_cons, List.foldl_cons]
          have e : (pre ++ q :: post).toArray.setIfInBounds (i * sz + j) c = ((pre ++ [c]) ++ post).toArray := by
            simp [← h1]
          rw [e, ih2 (j + 1) (pre ++ [c]) post (by simp [h1]; omega) (by simpa using h2)]
          simp
    have k1 := key v.cells.toList 0 pre post (by simpa using hp) (by
      simp only [List.length_cons, Nat.add_mul, Nat.one_mul] at hq
      simp [hv, hq])
    have e1 : (v.cells.zipIdx.foldl (fun cs (x : Value × Nat) => match x with | (c, j) => cs.setIfInBounds (i * sz + j) c) (pre ++ post).toArray) = (pre ++ v.cells.toList ++ post.drop v.cells.toList.length).toArray := by
      rw [← k1, ← Array.foldl_toList]
      congr 1
      simp
    rw [e1]
    have := ih (i + 1) (pre ++ v.cells.toList) (post.drop v.cells.toList.length) (by simp [hp, hv, Nat.add_mul]) (by
      simp only [List.length_cons, Nat.add_mul, Nat.one_mul] at hq
      simp [hv, hq]) (fun v' h' => hs v' (List.mem_cons_of_mem _ h'))
    rw [this]
    simp

theorem run_buildSlice_of {m : Nat} (hE : Elem P t e sz bytes) (parts : Array (Nat × Value)) (hm0 : 0 < m) (hsm : m * sz ≤ 16777216)
    (hf : ∀ cells : List Value, cells.length = m * sz → Instr.fill (fun i => some (i * sz, sz)) cells.toArray parts.toList = some cs.toArray) :
    (Instr.buildSlice t m parts).run P w = .ok (.slice (some ⟨w.heap.size, 0, none⟩) m m) (w.alloc (.cells cs.toArray e)) := by
  obtain ⟨ti, z, h1, h2, h3, h4, h5⟩ := hE.info
  have hne : ¬ m * sz = 0 := by have := Nat.mul_pos hm0 hE.pos; omega
  have h6 : ¬ m * sz > 16777216 := by omega
  have e2 := hf ((Array.range (m * sz)).map (z.cells[· % z.cells.size]!)).toList (by simp)
  simp only [Array.toArray_toList] at e2
  have r1 : (underlying t).run P w = .ok (.slice e) w := run_underlying hE.slice w
  have r2 : (sizeOf e).run P w = .ok sz w := by simp [sizeOf, typeInfo, h1, h3]
  have r3 : (zeroValue e).run P w = .ok z w := by simp [zeroValue, typeInfo, h1, h2]
  unfold Instr.buildSlice
  rw [Sem.run_bind, r1]
  simp only [Result.andThen_ok]
  rw [Sem.run_bind, r2]
  simp only [Result.andThen_ok, h6, hne, if_false]
  rw [Sem.run_bind, r3]
  simp only [Result.andThen_ok, Sem.run_pure, Sem.run_bind, e2]
  simp [newRow]

theorem run_bslice {ps : List (Nat × Operand)} {xs : List Operand} {vs : List Value} {m : Nat} {d : Option Tmp} (hE : Elem P t e sz bytes) (hps : partsX 0 ps = some xs) (hvs : vals σ xs = some vs) (hcs : flatC sz vs = some cs) (hm : vs.length = m) (hsm : m * sz ≤ 16777216) (hm0 : 0 < m) :
    (execOp (evO σ) ⟨d, .buildSlice t m ps.toArray, ty, pos, af, gd⟩).run P w = .ok (.value (.slice (some ⟨w.heap.size, 0, none⟩) m m)) (w.alloc (.cells cs.toArray e)) := by
  obtain ⟨g1, g2⟩ := flatC_eq hcs
  have hp := partsX_eq hps
  have e1 : (ps.toArray.map fun (i, x) => (i, evO σ x)).toList = (vs.zipIdx 0).map fun (v, i) => (i, v) := by
    rw [hp, ← vals_eq hvs]
    simp [List.zipIdx_map, List.map_map, Function.comp_def]
  have := run_buildSlice_of (w := w) (cs := cs) (m := m) hE (ps.toArray.map fun (i, x) => (i, evO σ x)) hm0 hsm (fun cells hl => by
    rw [e1, g2]
    have := fill_all sz vs 0 [] cells (by simp) (by rw [hl, hm]) g1
    simpa using this)
  unfold execOp
  simp only [Sem.run_bind, this]
  rfl

theorem RunL.bslice {ps : List (Nat × Operand)} {xs : List Operand} {vs : List Value} {m : Nat} (hE : Elem P t e sz bytes) (hs : stat N ops ⟨some d, .buildSlice t m ps.toArray, ty, pos, af, gd⟩ σ = true) (hps : partsX 0 ps = some xs) (hvs : vals σ xs = some vs) (hcs : flatC sz vs = some cs) (hm : vs.length = m) (hsm : m * sz ≤ 16777216) (hm0 : 0 < m)
    (h : ∀ w' v', w'.ownsRow w.heap.size e sz v' m cs → v'.ownBlock = some w.heap.size → Below w.heap.size w w' → RunL P N ops l ((d, v') :: σ) w' K) : RunL P N ops (⟨some d, .buildSlice t m ps.toArray, ty, pos, af, gd⟩ :: l) σ w K := by
  refine RunL.op hs (run_bslice hE hps hvs hcs hm hsm hm0) (h _ _ ?_ rfl ((Below.refl _ _).alloc (Nat.le_refl _) _))
  obtain ⟨g1, g2⟩ := flatC_eq hcs
  have hl : cs.length = m * sz := by
    rw [g2, ← hm]
    clear hvs hcs g2 hm
    induction vs with
    | nil => simp
    | cons v r ih => simp [Nat.add_mul, g1 v (List.mem_cons_self ..), ih (fun v' h' => g1 v' (List.mem_cons_of_mem _ h'))]; omega
  refine ⟨hl, .inr ⟨w.heap.size, m, cs.toArray, rfl, Nat.le_refl _, heap_alloc_new w _, Nat.le_refl _, ?_, by simpa using hl, ?_⟩⟩
  · have := hE.pos
    have : m * 1 ≤ m * sz := Nat.mul_le_mul_left _ this
    unfold maxLen; omega
  · exact List.take_of_length_le (by simp [hl])

/-- Since world w0 nothing older has turned, and slice v, of the call's own making, holds the cells xs. -/
structure OwnS (w0 w : World) (e : TypeId) (sz : Nat) (v : Value) (n : Nat) (xs : List Value) : Prop where
  below : Below w0.heap.size w0 w
  own : w.ownsRow w0.heap.size e sz v n xs

theorem OwnS.isSl {w0 : World} {xs : List Value} (h : OwnS w0 w e sz v n xs) : IsSl w v xs n := IsSl_own h.own
theorem OwnS.nil (w0 : World) (e sz : Nat) (h : Below w0.heap.size w0 w) : OwnS w0 w e sz (.slice none 0 0) 0 [] := ⟨h, World.ownsRow_nil _ _ _ _⟩
/-- It stays when the world grows otherwise. -/
theorem OwnS.ext {w0 : World} {xs : List Value} (h : OwnS w0 w e sz v n xs) (hb : Below w.heap.size w w') : OwnS w0 w' e sz v n xs :=
  ⟨h.below.trans (hb.mono h.below.size), h.own.kept (row := none) (grown_below hb) (by cases hv : v.ownBlock <;> simp)⟩
theorem OwnS.cast {w0 : World} {xs xs' : List Value} {n' : Nat} (h : OwnS w0 w e sz v n xs) (hn : n = n') (hx : xs = xs') : OwnS w0 w e sz v n' xs' := by subst hn; subst hx; exact h
theorem OwnS.len {w0 : World} {xs : List Value} (h : OwnS w0 w e sz v n xs) : xs.length = n * sz := h.own.1

theorem oneCell_of_ne {u : Value} (h1 : ∀ c, u ≠ .agg c) (h2 : ∀ c, u ≠ .tuple c) : u.oneCell' = true := by
  cases u <;> first | rfl | exact absurd rfl (h1 _) | exact absurd rfl (h2 _)

theorem RunL.app {w0 : World} {s x : Operand} {v2 : Value} {news xs : List Value} {m : Nat} (hE : Elem P t e sz bytes) (ho : OwnS w0 w e sz v n xs) (hv2 : IsSl w v2 news m)
    (hs : stat N ops ⟨some d, .call ⟨.builtin .append, #[s, x], #[t, t]⟩, ty, pos, af, gd⟩ σ = true) (hx : lookO σ s = some v) (hy : lookO σ x = some v2) (hl : news.length = m * sz) (h1 : ∀ u ∈ news, u.oneCell' = true)
    (hb : (n + m) * bytes ≤ 140737488355328) (h63 : n + m ≤ 9223372036854775807)
    (h : ∀ v' w', OwnS w0 w' e sz v' (n + m) (xs ++ news) → w.grownBy w' v.ownBlock → RunL P N ops l ((d, v') :: σ) w' K) : RunL P N ops (⟨some d, .call ⟨.builtin .append, #[s, x], #[t, t]⟩, ty, pos, af, gd⟩ :: l) σ w K := by
  obtain ⟨i, z, g1, g2, g3, g4, g5⟩ := hE.info
  rcases hv2 with ⟨rfl | ⟨a, c, rfl⟩, rfl, rfl⟩ | ⟨b, off, cap, rfl, hc⟩
  · have hr := run_append_owned_none (P := P) (w := w) w0.heap.size t ty e i sz hE.slice g1 v n xs ho.own
    refine RunL.op (w' := w) (v := v) hs ?_ (h v w (by simpa using ho) (grownBy_refl _ _))
    simp [execOp, resolve, evO_of_lookO hx, evO_of_lookO hy, invoke, builtin, hr]
  · obtain ⟨v', w', hr, h2, h3, h4⟩ := run_append_own (P := P) w w0.heap.size t ty e i z sz bytes hE.slice g1 g2 g3 g4 g5 hE.pos v n xs ho.own a 0 c [] hl (fun j u hu => by simp at hu) h1
      (by unfold maxLen; omega) hb ho.below.size
    have hrow := fun k hk => (ho.own.lt k hk).1
    refine RunL.op (w' := w') (v := v') hs ?_ (h v' w' ⟨ho.below.grown h3 ho.below.size hrow, h2⟩ h3)
    simp [execOp, resolve, evO_of_lookO hx, evO_of_lookO hy, invoke, builtin, hr]
  · have hadd : ∀ j, (⟨b, off, none⟩ : Addr).add j = ⟨b, off + j, none⟩ := fun j => by unfold Addr.add; split <;> simp_all
    obtain ⟨v', w', hr, h2, h3, h4⟩ := run_append_own (P := P) w w0.heap.size t ty e i z sz bytes hE.slice g1 g2 g3 g4 g5 hE.pos v n xs ho.own ⟨b, off, none⟩ m cap news hl (fun j u hu => by rw [hadd]; exact hc j u hu) h1
      (by unfold maxLen; omega) hb ho.below.size
    have hrow := fun k hk => (ho.own.lt k hk).1
    refine RunL.op (w' := w') (v := v') hs ?_ (h v' w' ⟨ho.below.grown h3 ho.below.size hrow, h2⟩ h3)
    simp [execOp, resolve, evO_of_lookO hx, evO_of_lookO hy, invoke, builtin, hr]

theorem RunL.drop {d1 : Nat} {u : Value} (hn : look σ d1 = none) (h : RunL P N ops l σ w K) : RunL P N ops l ((d1, u) :: σ) w K :=
  fun a ha => h a (ha.weaken fun t v hv => by
    rw [look_cons]
    split
    · rename_i e; subst e; rw [hn] at hv; cases hv
    · exact hv)

/-- 's = append(s, x, ..)': the literal and the append in one. -/
theorem RunL.appB {w0 : World} {s : Operand} {xs : List Value} {m d1 : Nat} {ps : List (Nat × Operand)} {ys : List Operand} {vs : List Value} {ty' : TypeId} {pos' : String} {af' : Array Edge} {gd' : Option (Nat × Bool)} (hE : Elem P t e sz bytes) (ho : OwnS w0 w e sz v n xs)
    (hs : stat N ops ⟨some d1, .buildSlice t m ps.toArray, ty', pos', af', gd'⟩ σ = true) (hps : partsX 0 ps = some ys) (hvs : vals σ ys = some vs) (hcs : flatC sz vs = some cs) (hm : vs.length = m)
    (hs2 : stat N ops ⟨some d, .call ⟨.builtin .append, #[s, .tmp d1], #[t, t]⟩, ty, pos, af, gd⟩ ((d1, undef) :: σ) = true) (hx : lookO ((d1, undef) :: σ) s = some v) (hd1 : look σ d1 = none)
    (hm0 : 0 < m) (h1 : ∀ u ∈ cs, u.oneCell' = true) (hsm : m * sz ≤ 16777216) (hb : (n + m) * bytes ≤ 140737488355328) (h63 : n + m ≤ 9223372036854775807)
    (h : ∀ v' w', OwnS w0 w' e sz v' (n + m) (xs ++ cs) → w.grownBy w' v.ownBlock → RunL P N ops l ((d, v') :: σ) w' K) :
    RunL P N ops (⟨some d1, .buildSlice t m ps.toArray, ty', pos', af', gd'⟩ :: ⟨some d, .call ⟨.builtin .append, #[s, .tmp d1], #[t, t]⟩, ty, pos, af, gd⟩ :: l) σ w K := by
  refine RunL.bslice hE hs hps hvs hcs hm hsm hm0 fun w1 v1 h2 h3 h4 => ?_
  obtain ⟨k1, k2, k3, k4⟩ := stat_spec hs2
  have hst : stat N ops ⟨some d, .call ⟨.builtin .append, #[s, .tmp d1], #[t, t]⟩, ty, pos, af, gd⟩ ((d1, v1) :: σ) = true := by
    have e1 : allKnown ((d1, v1) :: σ) (opsL (.call ⟨.builtin .append, #[s, .tmp d1], #[t, t]⟩)) = true := by
      simp only [opsL, allKnown, List.nil_append] at k2 ⊢
      have kn : ∀ x, knows ((d1, undef) :: σ) x = true → knows ((d1, v1) :: σ) x = true := by
        intro x hx'
        cases x with
        | tmp t' =>
          simp only [knows, look_cons] at hx' ⊢
          split
          · rfl
          · rename_i hn
            split at hn
            · cases hn
            · rename_i hne; rw [if_neg hne] at hx'; simp [hn] at hx'
        | _ => rfl
      split at k2
      · rename_i a; rw [kn _ a]
        split at k2
        · rename_i b; rw [kn _ b]
        · cases k2
      · cases k2
    have e2 : wantedS ops gd ((d1, v1) :: σ) = some true := by
      simp only [wantedS] at k4 ⊢
      cases gd with
      | none => rfl
      | some gw =>
        obtain ⟨j, wt⟩ := gw
        simp only at k4 ⊢
        cases hn : nth ops j with
        | none => simp [hn] at k4
        | some oj =>
          simp only [hn] at k4 ⊢
          cases hd : oj.dst with
          | none => simp [hd] at k4
          | some t' =>
            simp only [hd, look_cons] at k4 ⊢
            by_cases e' : d1 = t'
            · simp [e', undef] at k4
            · simpa [e'] using k4
    simp only at k1 k3
    unfold stat
    simp only [k1, e1, k3, e2]
  have hx' : lookO ((d1, v1) :: σ) s = some v ∨ s = .tmp d1 := by
    cases s with
    | tmp t' =>
      simp only [lookO, look_cons] at hx ⊢
      by_cases e' : d1 = t'
      · right; rw [e']
      · left; simpa [e'] using hx
    | _ => exact .inl hx
  rcases hx' with hx' | rfl
  · refine RunL.app hE (ho.ext h4) (IsSl_own h2) hst hx' (by simp [lookO, look_cons]) h2.1 h1 hb h63 fun v' w' g1 g2 => ?_
    refine fun a ha => h v' w' g1 (grownBy_trans (grown_below h4) g2) a (ha.weaken fun t' u hu => ?_)
    rw [look_cons] at hu ⊢
    split
    · rename_i e'; rw [if_pos e'] at hu; exact hu
    · rename_i e'; rw [if_neg e'] at hu
      rw [look_cons]
      split
      · rename_i e''; subst e''; rw [hd1] at hu; cases hu
      · exact hu
  · exfalso
    simp [lookO, look_cons, undef] at hx
    subst hx
    rcases ho.own.2 with ⟨hh, _⟩ | ⟨g, cap, cur, hh, _⟩ <;> cases hh

/-! ### string(bytes) -/
def bcells (l : List UInt8) : List Value := l.map fun b => .int .u8 (b.toNat : Int)

theorem bcells_append (a b : List UInt8) : bcells (a ++ b) = bcells a ++ bcells b := by simp [bcells]
theorem bcells_length (a : List UInt8) : (bcells a).length = a.length := by simp [bcells]

theorem run_bytes_str {src dst : TypeId} {l : List UInt8} (hE : P.underlying src = some (.slice e)) (he : P.underlying e = some (.int .u8)) (hd : P.underlying dst = some .string) (hv : IsSl w v (bcells l) l.length) :
    (convert src dst v).run P w = .ok (str l) w := by
  rcases hv with ⟨rfl | ⟨a, c, rfl⟩, hn, hc⟩ | ⟨b, off, cap, rfl, hc⟩
  · have : l = [] := List.eq_nil_of_length_eq_zero hn
    subst this
    rw [run_convert_bytes_string w src dst e _ _ _ hE he hd]
    simp [Conv.bytesToString]
    rfl
  · have : l = [] := List.eq_nil_of_length_eq_zero hn
    subst this
    rw [run_convert_bytes_string w src dst e _ _ _ hE he hd]
    simp [Conv.bytesToString]
    rfl
  · rw [run_convert_bytes_string w src dst e _ _ _ hE he hd]
    have hadd : ∀ j, (⟨b, off, none⟩ : Addr).add j = ⟨b, off + j, none⟩ := fun j => by unfold Addr.add; split <;> simp_all
    have h1 := run_loadCells_list (P := P) w ⟨b, off, none⟩ (bcells l) (fun j u hu => by rw [hadd]; exact hc j u hu)
    have h2 : bcells l = (l.map fun b => (b.toNat : Int)).map (Value.int .u8) := by simp [bcells]
    have h3 := run_bytesToString (P := P) w ⟨b, off, none⟩ l.length cap (l.map fun b => (b.toNat : Int)) (by
      rw [← h2]; simpa [bcells] using h1)
    rw [h3, foldl_push_byteCells]
    simp

theorem RunL.bstr {t2 : TypeId} {x : Operand} {l' : List UInt8} (hv : IsSl w v (bcells l') l'.length) (hE : P.underlying t = some (.slice e)) (he : P.underlying e = some (.int .u8)) (hd : P.underlying t2 = some .string)
    (hs : stat N ops ⟨some d, .convert t t2 x, ty, pos, af, gd⟩ σ = true) (hx : lookO σ x = some v) (h : RunL P N ops l ((d, str l') :: σ) w K) : RunL P N ops (⟨some d, .convert t t2 x, ty, pos, af, gd⟩ :: l) σ w K := by
  refine RunL.op hs ?_ h
  simp [execOp, evO_of_lookO hx, run_bytes_str hE he hd hv]

theorem RunQ.bstr {C : World → Prop} {KQ : Act → Prop} {t2 : TypeId} {x : Operand} {l' : List UInt8} (hv : ∀ w, C w → IsSl w v (bcells l') l'.length) (hE : P.underlying t = some (.slice e)) (he : P.underlying e = some (.int .u8)) (hd : P.underlying t2 = some .string)
    (hs : stat N ops ⟨some d, .convert t t2 x, ty, pos, af, gd⟩ σ = true) (hx : lookO σ x = some v) (h : RunQ P N C ops l ((d, str l') :: σ) KQ) : RunQ P N C ops (⟨some d, .convert t t2 x, ty, pos, af, gd⟩ :: l) σ KQ := by
  refine RunQ.op hs ?_ h
  intro w hw
  simp [execOp, evO_of_lookO hx, run_bytes_str hE he hd (hv w hw)]

/-! ### A range over a string -/
theorem run_range_str {s : List UInt8} (hT : P.underlying t = some .string) : (Instr.range t (str s)).run P w = .ok (.pointer (some ⟨w.heap.size, 0, none⟩)) (w.alloc (.stringIter ⟨s.toArray⟩ 0)) := by
  simp [Instr.range, underlying, hT]

theorem RunL.rangeS {x : Operand} {s : List UInt8} (hs : stat N ops ⟨some d, .range t x, ty, pos, af, gd⟩ σ = true) (hT : P.underlying t = some .string) (hx : lookO σ x = some (str s))
    (h : ∀ w', w'.heap[w.heap.size]? = some (.stringIter ⟨s.toArray⟩ 0) → Below w.heap.size w w' → RunL P N ops l ((d, .pointer (some ⟨w.heap.size, 0, none⟩)) :: σ) w' K) : RunL P N ops (⟨some d, .range t x, ty, pos, af, gd⟩ :: l) σ w K := by
  refine RunL.op hs ?_ (h _ (heap_alloc_new w _) ((Below.refl _ _).alloc (Nat.le_refl _) _))
  simp [execOp, evO_of_lookO hx, run_range_str hT]

theorem RunL.nextS {x : Operand} {s : List UInt8} {b p : Nat} (hk : w.heap[b]? = some (.stringIter ⟨s.toArray⟩ p)) (hp : p < s.length) (hs : stat N ops ⟨some d, .next x true, ty, pos, af, gd⟩ σ = true) (hx : lookO σ x = some (.pointer (some ⟨b, 0, none⟩)))
    (h : ∀ w', w'.heap[b]? = some (.stringIter ⟨s.toArray⟩ (p + (Utf8.decode ⟨s.toArray⟩ p).2)) → (∀ B, B ≤ b → Below B w w') → w'.heap.size = w.heap.size → RunL P N ops l ((d, .tuple #[.bool true, .int .i64 (p : Int), .int .i32 ((Utf8.decode ⟨s.toArray⟩ p).1 : Int)]) :: σ) w' K) : RunL P N ops (⟨some d, .next x true, ty, pos, af, gd⟩ :: l) σ w K := by
  have hsz : p < (⟨s.toArray⟩ : ByteArray).size := by simpa [ByteArray.size] using hp
  have := Lib.run_next_any_at (P := P) w b ⟨s.toArray⟩ p ty hk hsz
  refine RunL.op hs ?_ (h _ (Lib.iterAt_heap w b _ p _ hk) (fun B hB => Lib.below_iterAt (Below.refl B w) hB _ _) (Lib.iterAt_size ..))
  simp [execOp, evO_of_lookO hx, this]

theorem RunL.nextEnd {x : Operand} {s : List UInt8} {b p : Nat} (hk : w.heap[b]? = some (.stringIter ⟨s.toArray⟩ p)) (hp : ¬ p < s.length) (hs : stat N ops ⟨some d, .next x true, ty, pos, af, gd⟩ σ = true) (hx : lookO σ x = some (.pointer (some ⟨b, 0, none⟩)))
    (h : RunL P N ops l ((d, .tuple #[.bool false]) :: σ) w K) : RunL P N ops (⟨some d, .next x true, ty, pos, af, gd⟩ :: l) σ w K := by
  have hsz : ¬ p < (⟨s.toArray⟩ : ByteArray).size := by simpa [ByteArray.size] using hp
  have := Lib.run_next_end_at (P := P) w b ⟨s.toArray⟩ p ty hk hsz
  refine RunL.op hs ?_ h
  simp [execOp, evO_of_lookO hx, this]

/-! ### Calls by their contracts -/
theorem RunL.callP {g : FuncId} {r : Value} {args : List Operand} {a1 : List Value} {tys : Array TypeId} (hg : IsFn P g)
    (hs : stat N ops ⟨some d, .call ⟨.value (.func g), args.toArray, tys⟩, ty, pos, af, gd⟩ σ = true) (ha : vals σ args = some a1)
    (hc : Calls P g a1.toArray w fun e w' => e = .returned r ∧ w' = w) (h : RunL P N ops l ((d, r) :: σ) w K) : RunL P N ops (⟨some d, .call ⟨.value (.func g), args.toArray, tys⟩, ty, pos, af, gd⟩ :: l) σ w K :=
  RunL.call hg hs ha (hc.mono fun e w' ⟨h1, h2⟩ => ⟨r, h1, by subst h2; exact h⟩)
theorem RunL.callB {g : FuncId} {r : Value} {args : List Operand} {a1 : List Value} {tys : Array TypeId} (hg : IsFn P g)
    (hs : stat N ops ⟨some d, .call ⟨.value (.func g), args.toArray, tys⟩, ty, pos, af, gd⟩ σ = true) (ha : vals σ args = some a1)
    (hc : Calls P g a1.toArray w fun e w' => e = .returned r ∧ Below w.heap.size w w') (h : ∀ w', Below w.heap.size w w' → RunL P N ops l ((d, r) :: σ) w' K) : RunL P N ops (⟨some d, .call ⟨.value (.func g), args.toArray, tys⟩, ty, pos, af, gd⟩ :: l) σ w K :=
  RunL.call hg hs ha (hc.mono fun e w' ⟨h1, h2⟩ => ⟨r, h1, h w' h2⟩)
theorem RunL.callX {g : FuncId} {Q : Value → World → Prop} {args : List Operand} {a1 : List Value} {tys : Array TypeId} (hg : IsFn P g)
    (hs : stat N ops ⟨some d, .call ⟨.value (.func g), args.toArray, tys⟩, ty, pos, af, gd⟩ σ = true) (ha : vals σ args = some a1)
    (hc : Calls P g a1.toArray w fun e w' => ∃ r, e = .returned r ∧ Q r w') (h : ∀ r w', Q r w' → RunL P N ops l ((d, r) :: σ) w' K) : RunL P N ops (⟨some d, .call ⟨.value (.func g), args.toArray, tys⟩, ty, pos, af, gd⟩ :: l) σ w K :=
  RunL.call hg hs ha (hc.mono fun e w' ⟨r, h1, h2⟩ => ⟨r, h1, h r w' h2⟩)
theorem RunQ.callP {g : FuncId} {r : Value} {args : List Operand} {a1 : List Value} {tys : Array TypeId} (hg : IsFn P g)
    (hs : stat N ops ⟨some d, .call ⟨.value (.func g), args.toArray, tys⟩, ty, pos, af, gd⟩ σ = true) (ha : vals σ args = some a1)
    (hc : ∀ w, C w → Calls P g a1.toArray w fun e w' => e = .returned r ∧ w' = w) (h : RunQ P N C ops l ((d, r) :: σ) KQ) : RunQ P N C ops (⟨some d, .call ⟨.value (.func g), args.toArray, tys⟩, ty, pos, af, gd⟩ :: l) σ KQ :=
  RunQ.call hg hs ha (fun w hw => (hc w hw).mono fun e w' ⟨h1, h2⟩ => ⟨h1, by subst h2; exact hw⟩) h
theorem RunQ.callB {g : FuncId} {r : Value} {args : List Operand} {a1 : List Value} {tys : Array TypeId} (hg : IsFn P g)
    (hs : stat N ops ⟨some d, .call ⟨.value (.func g), args.toArray, tys⟩, ty, pos, af, gd⟩ σ = true) (ha : vals σ args = some a1)
    (hc : ∀ w', Below w.heap.size w w' → Calls P g a1.toArray w' fun e w'' => e = .returned r ∧ Below w'.heap.size w' w'') (h : RunQ P N (fun w' => Below w.heap.size w w') ops l ((d, r) :: σ) KQ) : RunQ P N (fun w' => Below w.heap.size w w') ops (⟨some d, .call ⟨.value (.func g), args.toArray, tys⟩, ty, pos, af, gd⟩ :: l) σ KQ :=
  RunQ.call hg hs ha (fun w' hw => (hc w' hw).mono fun e w'' ⟨h1, h2⟩ => ⟨h1, hw.trans (h2.mono hw.size)⟩) h

/-! ### A block that is known whole -/
def Blk (w : World) (b : Nat) (cs : List Value) (T : TypeId) : Prop := w.heap[b]? = some (.cells cs.toArray T (0, 0))

theorem Blk.lt {b : Nat} {T : TypeId} (h : Blk w b cs T) : b < w.heap.size := (Array.getElem?_eq_some_iff.1 h).1
theorem Blk.cell {b : Nat} {T : TypeId} (h : Blk w b cs T) (j : Nat) : w.cell? ⟨b, j, none⟩ = cs[j]? := by
  unfold Blk at h; simp [World.cell?, h]
theorem Blk.free {b : Nat} {T : TypeId} (h : Blk w b cs T) (j : Nat) : w.frozen? ⟨b, j, none⟩ = false := by
  unfold Blk at h; simp [World.frozen?, h]
theorem Blk.kept {b : Nat} {T : TypeId} {r : Option Nat} (h : Blk w b cs T) (hg : w.grownBy w' r) (hne : some b ≠ r) : Blk w' b cs T := by
  unfold Blk at h ⊢; rw [hg.block b (Blk.lt h) hne]; exact h
theorem Blk.ext {b : Nat} {T : TypeId} (h : Blk w b cs T) (hb : Below w.heap.size w w') : Blk w' b cs T := by
  unfold Blk at h ⊢; rw [hb.block b (Blk.lt h)]; exact h

theorem RunL.loadB {b j : Nat} {T : TypeId} {x : Operand} {td : TypeDesc} (hB : Blk w b cs T) (hs : stat N ops ⟨some d, .load t x, ty, pos, af, gd⟩ σ = true) (hT : P.underlying t = some td) (hp : plainT td = true) (hx : lookO σ x = some (.pointer (some ⟨b, j, none⟩))) (hu : nthV cs j = some u)
    (h : RunL P N ops l ((d, u) :: σ) w K) : RunL P N ops (⟨some d, .load t x, ty, pos, af, gd⟩ :: l) σ w K :=
  RunL.op hs (ex_load1 hT hp (evO_of_lookO hx) (by rw [hB.cell, ← nthV_eq]; exact hu)) h

theorem run_storeVar1 {p : Addr} {u0 : Value} (hS : (P.info? t).map (·.size) = some 1) (h1 : u.cells = #[u]) (h2 : u.oneCell' = true) (hc : w.cell? p = some u0) (hf : w.frozen? p = false) : (storeVar t p u).run P w = .ok () (w.setCell p u) := by
  have e1 : (sizeOf t).run P w = .ok 1 w := by
    cases h : P.info? t with
    | none => rw [h] at hS; cases hS
    | some ti => rw [h] at hS; simp at hS; simp [sizeOf, typeInfo, h, hS]
  unfold storeVar
  rw [Sem.run_bind, e1]
  simp only [Result.andThen_ok, h1]
  have hz : p.add 0 = p := by simp [Addr.add]
  simp [storeCells, store, hz]
  cases u <;> simp_all [Value.oneCell', Sem.run]

theorem setCell_grown (w : World) (p : Addr) (u : Value) : w.grownBy (w.setCell p u) (some p.block) :=
  ⟨rfl, rfl, rfl, by simp [World.setCell], fun k _ hk => Below.heap_setCell _ _ _ _ (fun e => hk (by rw [e]))⟩

theorem RunL.storeB {b j : Nat} {T : TypeId} {x y : Operand} (hB : Blk w b cs T) (hs : stat N ops ⟨none, .store t x y, ty, pos, af, gd⟩ σ = true) (hS : (P.info? t).map (·.size) = some 1) (hx : lookO σ x = some (.pointer (some ⟨b, j, none⟩))) (hy : lookO σ y = some u) (h1 : u.cells = #[u]) (h2 : u.oneCell' = true) (hj : j < cs.length)
    (h : ∀ w', Blk w' b (cs.set j u) T → w.grownBy w' (some b) → w'.heap.size = w.heap.size → RunL P N ops l σ w' K) : RunL P N ops (⟨none, .store t x y, ty, pos, af, gd⟩ :: l) σ w K := by
  have hc : w.cell? ⟨b, j, none⟩ = some cs[j] := by rw [hB.cell]; exact List.getElem?_eq_getElem hj
  refine RunL.opU (w' := w.setCell ⟨b, j, none⟩ u) hs ?_ (h _ ?_ (setCell_grown w _ u) (by simp [World.setCell]))
  · simp [execOp, evO_of_lookO hx, evO_of_lookO hy, Instr.storeAt, Instr.sureAddr, run_storeVar1 hS h1 h2 hc (hB.free j)]
  · unfold Blk at hB ⊢
    simp [World.setCell, hB, Array.getElem?_modify]

def cellsL (v : Value) : List Value :=
  match v with
  | .agg ⟨c⟩ => c
  | v => [v]
theorem cellsL_eq (v : Value) : v.cells = (cellsL v).toArray := by cases v <;> rfl

theorem RunL.box {x : Operand} {T : TypeId} (hs : stat N ops ⟨some d, .box T x, ty, pos, af, gd⟩ σ = true) (hx : lookO σ x = some u)
    (h : ∀ w', Blk w' w.heap.size (cellsL u) T → Below w.heap.size w w' → w'.heap.size = w.heap.size + 1 → RunL P N ops l ((d, .pointer (some ⟨w.heap.size, 0, none⟩)) :: σ) w' K) : RunL P N ops (⟨some d, .box T x, ty, pos, af, gd⟩ :: l) σ w K := by
  refine RunL.op (w' := w.alloc (.cells u.cells T)) hs ?_ (h _ ?_ ((Below.refl _ _).alloc (Nat.le_refl _) _) (by simp))
  · simp [execOp, evO_of_lookO hx, Instr.box, newVar, newRow]
  · unfold Blk; rw [cellsL_eq]; exact heap_alloc_new w _

theorem RunL.alloc {T : TypeId} (hs : stat N ops ⟨some d, .alloc T, ty, pos, af, gd⟩ σ = true) (hz : (P.info? T).bind (·.zero) = some u)
    (h : ∀ w', Blk w' w.heap.size (cellsL u) T → Below w.heap.size w w' → w'.heap.size = w.heap.size + 1 → RunL P N ops l ((d, .pointer (some ⟨w.heap.size, 0, none⟩)) :: σ) w' K) : RunL P N ops (⟨some d, .alloc T, ty, pos, af, gd⟩ :: l) σ w K := by
  refine RunL.op (w' := w.alloc (.cells u.cells T)) hs ?_ (h _ ?_ ((Below.refl _ _).alloc (Nat.le_refl _) _) (by simp))
  · have : (zeroValue T).run P w = .ok u w := by
      cases hi : P.info? T with
      | none => rw [hi] at hz; cases hz
      | some ti => rw [hi] at hz; simp at hz; simp [zeroValue, typeInfo, hi, hz]
    simp [execOp, Instr.alloc, this, newVar, newRow]
  · unfold Blk; rw [cellsL_eq]; exact heap_alloc_new w _

theorem OwnS.ne_blk {w0 : World} {xs : List Value} {b : Nat} {T : TypeId} (h : OwnS w0 w e sz v n xs) (hB : Blk w b cs T) (hTe : T ≠ e) : v.ownBlock ≠ some b := by
  intro hv
  rcases h.own.2 with ⟨rfl, _⟩ | ⟨g, cap, cur, rfl, _, hg, _⟩
  · cases hv
  · simp [Value.ownBlock] at hv
    subst hv
    unfold Blk at hB
    rw [hB] at hg
    simp at hg
    exact hTe hg.2

theorem OwnS.kept {w0 : World} {xs : List Value} {r : Option Nat} (h : OwnS w0 w e sz v n xs) (hg : w.grownBy w' r) (hr : ∀ k, r = some k → w0.heap.size ≤ k) (hne : v.ownBlock = none ∨ v.ownBlock ≠ r) : OwnS w0 w' e sz v n xs :=
  ⟨h.below.grown hg h.below.size hr, h.own.kept hg hne⟩

/-- append of a string's bytes. -/
theorem RunL.appS {w0 : World} {s x : Operand} {t2 : TypeId} {xs : List Value} {b : List UInt8} (hE : P.underlying t = some (.slice e)) (hu : P.underlying t2 = some .string) (hi : ∃ i, P.info? e = some i ∧ i.zero = some (.int .u8 0) ∧ i.size = 1 ∧ i.bytes = 1) (ho : OwnS w0 w e 1 v n xs)
    (hs : stat N ops ⟨some d, .call ⟨.builtin .append, #[s, x], #[t, t2]⟩, ty, pos, af, gd⟩ σ = true) (hx : lookO σ s = some v) (hy : lookO σ x = some (str b))
    (hb : n + b.length ≤ 140737488355328)
    (h : ∀ v' w', OwnS w0 w' e 1 v' (n + b.length) (xs ++ bcells b) → w.grownBy w' v.ownBlock → RunL P N ops l ((d, v') :: σ) w' K) : RunL P N ops (⟨some d, .call ⟨.builtin .append, #[s, x], #[t, t2]⟩, ty, pos, af, gd⟩ :: l) σ w K := by
  obtain ⟨i, g1, g2, g3, g4⟩ := hi
  have hsz : (⟨b.toArray⟩ : ByteArray).size = b.length := by simp [ByteArray.size]
  obtain ⟨v', w', hr, h2, h3, h4⟩ := Lib.run_append_own_string (P := P) w w0.heap.size t t2 ty e i hE hu g1 g2 g3 g4 v n xs ho.own ⟨b.toArray⟩ (by rw [hsz]; unfold maxLen; omega) (by rw [hsz]; exact hb) ho.below.size
  have hrow := fun k hk => (ho.own.lt k hk).1
  rw [hsz] at h2
  have hc : Lib.strCells ⟨b.toArray⟩ = bcells b := by simp [Lib.strCells, bcells]
  rw [hc] at h2
  refine RunL.op (w' := w') (v := v') hs ?_ (h v' w' ⟨ho.below.grown h3 ho.below.size hrow, h2⟩ h3)
  simp [execOp, resolve, evO_of_lookO hx, evO_of_lookO hy, invoke, builtin, hr]
end
end Go.GX

/- Regions that draw their order, walked along a plan: what can be moved is taken first, the rest comes up alone. Conditions: none. -/
namespace Go.GX
open Go.RowKit
set_option linter.unusedVariables false
set_option linter.unusedSectionVars false
set_option linter.unusedSimpArgs false

theorem Below.seq {w w1 w2 : World} (h1 : Below w.heap.size w w1) (h2 : Below w1.heap.size w1 w2) : Below w.heap.size w w2 := h1.trans (h2.mono h1.size)

def planB (ops : Array Oper) : List (Nat × Bool) → Array Bool → Bool
  | [], listed => (Region.ready .any ops listed).isEmpty
  | (i, true) :: p, listed => (Region.ready .any ops listed).contains i && Region.free .any ops listed i && planB ops p (listed.setIfInBounds i true)
  | (i, false) :: p, listed => decide (Region.ready .any ops listed = [i]) && planB ops p (listed.setIfInBounds i true)

def planOk (ops : Array Oper) (p : List (Nat × Bool)) : Bool := Region.noSelect ops && Nat.beq p.length ops.size && planB ops p (Array.replicate ops.size false)

section
variable {P : Program} {S : World → Prop}

def QN (K : Act → World → Prop) : Exit → Act → World → Prop := fun e a w => e = .normal ∧ K a w

def wpPlan (P : Program) (ops : Array Oper) (S : World → Prop) (K : Act → World → Prop) : List (Nat × Bool) → Act → World → Prop
  | [], a, w => K a w
  | (i, true) :: p, a, w => ∃ o v, ops[i]? = some o ∧ YieldsIf P ops S o v a ∧ wpPlan P ops S K p (a.put o.dst v) w
  | (i, false) :: p, a, w => wpOp P ops (QN K) i (fun a' w' => S w' ∧ wpPlan P ops S K p a' w') a w

theorem wpAnyH_of_plan {ops : Array Oper} {K : Act → World → Prop} (hn : Region.noSelect ops = true) : ∀ (p : List (Nat × Bool)) (listed : Array Bool) (a : Act) (w : World), S w →
    planB ops p listed = true → wpPlan P ops S K p a w → wpAnyH P .any ops (QN K) S p.length listed a w
  | [], listed, a, w, hS, hB, h => ⟨by simpa [planB] using hB, rfl, h⟩
  | (i, true) :: p, listed, a, w, hS, hB, h => by
    obtain ⟨o, v, ho, hy, h⟩ := h
    simp only [planB, Bool.and_eq_true] at hB
    exact wpAnyH_take ho hn hB.1.2 hB.1.1 (fun c a w h => absurd h.1 (by nofun)) hy hS (wpAnyH_of_plan hn p _ _ _ hS hB.2 h)
  | (i, false) :: p, listed, a, w, hS, hB, h => by
    simp only [planB, Bool.and_eq_true, decide_eq_true_eq] at hB
    refine wpAnyH_all hB.1 (by simp) fun j hj => ?_
    have : j = i := by simpa using hj
    subst this
    exact wpOp_mono (fun a' w' h' => ⟨h'.1, wpAnyH_of_plan hn p _ _ _ h'.1 hB.2 h'.2⟩) h

def RunD (P : Program) (N : Nat) (S : World → Prop) (ops : List Oper) (p : List (Nat × Bool)) (σ : Store) (w : World) (K : Act → World → Prop) : Prop :=
  S w → ∀ a, Agr N σ a → wpPlan P ops.toArray S K p a w

variable {f : FuncId} {N : Nat} {k : List Item} {σ : Store} {w w' : World} {R : Ending → World → Prop} {ops l : List Oper} {o : Oper} {K : Act → World → Prop} {p : List (Nat × Bool)} {i : Nat}
  {v : Value} {d : Nat} {op : Op} {ty : TypeId} {pos : String} {af : Array Edge} {gd : Option (Nat × Bool)}

theorem Run.regionDS (p : List (Nat × Bool)) (S : World → Prop) {id : Nat} (hm : P.follows .mixedOrders = true) (hB : planOk ops.toArray p = true)
    (h : ∀ w1, Below w.heap.size w w1 → w1.heap = w.heap → S w1 ∧ RunD P N S ops p σ w1 (CRun P f k R)) : Run P f N (.code (.region id ops.toArray true) :: k) σ w R := by
  intro a ha
  refine CRun.of_wp (wp_region_held (S := S) hm ?_)
  simp only [planOk, Bool.and_eq_true] at hB
  rw [show ops.toArray.size = p.length from (Nat.eq_of_beq_eq_true hB.1.2).symm]
  obtain ⟨hS, h⟩ := h { w with drawn := w.drawn + 1 } ⟨rfl, rfl, rfl, Nat.le_refl _, fun _ _ => rfl⟩ rfl
  have h2 := hB.2
  rw [show ops.toArray.size = p.length from (Nat.eq_of_beq_eq_true hB.1.2).symm] at h2
  exact wpAnyH_of_plan hB.1.1 p _ _ _ hS h2 (h hS a ha)

/-- What is taken first yields in whatever world. -/
theorem Run.regionD (p : List (Nat × Bool)) {id : Nat} (hm : P.follows .mixedOrders = true) (hB : planOk ops.toArray p = true)
    (h : ∀ w1, Below w.heap.size w w1 → w1.heap = w.heap → RunD P N (fun _ => True) ops p σ w1 (CRun P f k R)) : Run P f N (.code (.region id ops.toArray true) :: k) σ w R :=
  Run.regionDS p (fun _ => True) hm hB fun w1 h1 h2 => ⟨trivial, h w1 h1 h2⟩

/-- What is taken first yields in whatever world that has grown from the region's first. -/
theorem Run.regionDB (p : List (Nat × Bool)) {id : Nat} (hm : P.follows .mixedOrders = true) (hB : planOk ops.toArray p = true)
    (h : ∀ w1, Below w.heap.size w w1 → w1.heap = w.heap → RunD P N (fun w' => Below w.heap.size w w') ops p σ w1 (CRun P f k R)) : Run P f N (.code (.region id ops.toArray true) :: k) σ w R :=
  Run.regionDS p _ hm hB fun w1 h1 h2 => ⟨h1, h w1 h1 h2⟩

theorem RunD.nil (h : Run P f N k σ w R) : RunD P N S ops [] σ w (CRun P f k R) := fun _ a ha => h a ha

theorem RunD.rd (ho : ops[i]? = some ⟨some d, op, ty, pos, af, gd⟩) (hs : stat N ops ⟨some d, op, ty, pos, af, gd⟩ σ = true)
    (hr : ∀ w, S w → (execOp (evO σ) ⟨some d, op, ty, pos, af, gd⟩).run P w = .ok (.value v) w) (h : RunD P N S ops p ((d, v) :: σ) w K) : RunD P N S ops ((i, true) :: p) σ w K := by
  intro hS a ha
  obtain ⟨h1, h2, h3, h4⟩ := stat_spec hs
  refine ⟨_, v, by simpa using ho, .inl ⟨wantedS_wanted ha h4, fun w hw => ?_⟩, h hS _ (ha.put (some d) v h3)⟩
  rw [evalAt ha _ h1 h2]
  exact hr w hw

theorem RunD.ev (ho : ops[i]? = some ⟨some d, op, ty, pos, af, gd⟩) (hs : stat N ops ⟨some d, op, ty, pos, af, gd⟩ σ = true) (he : evOp P σ op = some v) (h : RunD P N S ops p ((d, v) :: σ) w K) :
    RunD P N S ops ((i, true) :: p) σ w K := RunD.rd ho hs (fun _ _ => evOp_run he) h
theorem RunD.evc {c : Prop} (ho : ops[i]? = some ⟨some d, op, ty, pos, af, gd⟩) (hs : stat N ops ⟨some d, op, ty, pos, af, gd⟩ σ = true) (he : evC P σ op = some (v, c)) (hc : c) (h : RunD P N S ops p ((d, v) :: σ) w K) :
    RunD P N S ops ((i, true) :: p) σ w K := RunD.rd ho hs (fun _ _ => evC_run he hc) h
theorem RunD.skip (ho : ops[i]? = some ⟨some d, op, ty, pos, af, gd⟩) (hw : wantedS ops gd σ = some false) (hd : dstOk N (some d) = true) (h : RunD P N S ops p ((d, undef) :: σ) w K) : RunD P N S ops ((i, true) :: p) σ w K := by
  intro hS a ha
  exact ⟨_, undef, by simpa using ho, .inr ⟨wantedS_wanted ha (o := ⟨some d, op, ty, pos, af, gd⟩) hw, rfl⟩, h hS _ (ha.put (some d) undef hd)⟩
theorem RunD.skipO (ho : ops[i]? = some ⟨some d, op, ty, pos, af, gd⟩) (hw : wantedS ops gd σ = some false) (hd : dstOk N (some d) = true) (h : RunD P N S ops p ((d, undef) :: σ) w K) : RunD P N S ops ((i, false) :: p) σ w K := by
  intro hS a ha
  have hw' := wantedS_wanted ha (o := ⟨some d, op, ty, pos, af, gd⟩) hw
  simp only [wpPlan, wpOp, show ops.toArray[i]? = some _ by simpa using ho, hw', Bool.false_eq_true, if_false]
  exact ⟨hS, h hS _ (ha.put (some d) undef hd)⟩
/-- A guard that is not known as a literal: both ways. -/
theorem RunD.split {t : Nat} {b : Bool} (hl : look σ t = some (.bool b)) (h1 : b = true → RunD P N S ops p ((t, .bool true) :: σ) w K) (h2 : b = false → RunD P N S ops p ((t, .bool false) :: σ) w K) : RunD P N S ops p σ w K := by
  intro hS a ha
  cases b with
  | true => exact h1 rfl hS a (ha.weaken fun t' v hv => by
      rw [look_cons] at hv; split at hv
      · rename_i e; subst e; cases hv; exact hl
      · exact hv)
  | false => exact h2 rfl hS a (ha.weaken fun t' v hv => by
      rw [look_cons] at hv; split at hv
      · rename_i e; subst e; cases hv; exact hl
      · exact hv)

def DK (P : Program) (S : World → Prop) (ops : List Oper) (p : List (Nat × Bool)) (K : Act → World → Prop) : Act → World → Prop := fun a' w' => S w' ∧ wpPlan P ops.toArray S K p a' w'

theorem QN_noOut {K : Act → World → Prop} (h : LetsOut (QN K)) : False := by
  obtain ⟨a, w, h, _⟩ := h
  cases h

theorem wp_QN {K' K2 : Act → World → Prop} {a : Act} {next : Act → World → Prop} (h : o.wp P a w next (QN K')) : o.wp P a w next (QN K2) := by
  unfold Oper.wp at *
  generalize (execOp a.eval o).run P w = r at *
  cases r with
  | ok n w' =>
    cases n <;> simp only [Oper.upon] at h ⊢
    case value u => exact h
    case skip => exact h
    case defer d => exact h
    case enter f args =>
      refine Calls.mono h fun e w'' he => ?_
      cases e with
      | returned u => exact he
      | panicked c => exact absurd he.1 (by nofun)
      | outgrown => exact (QN_noOut he).elim
    case row row args => exact h
  | halt x w' =>
    cases x <;> simp only [Oper.upon] at h ⊢
    case panic u => exact absurd h.1 (by nofun)

/-- An operation that comes up alone. -/
theorem RunD.one (ho : ops[i]? = some o) (h : RunL P N ops [o] σ w (DK P S ops p K)) : RunD P N S ops ((i, false) :: p) σ w K := by
  intro hS a ha
  replace h := h a ha
  simp only [wpPlan, wpOp, show ops.toArray[i]? = some o by simpa using ho]
  unfold wpList at h
  split
  · rename_i hw
    rw [if_pos hw] at h
    rcases h with h | h
    · left
      have h2 : o.wp P a w (fun a' w' => (QN (DK P S ops p K)) .normal a' w') (QN (DK P S ops p K)) := h
      exact Oper.wp_mono (fun a' w' h' => h'.2) (wp_QN h2)
    · exact (QN_noOut (K := DK P S ops p K) h.2).elim
  · rename_i hw
    rw [if_neg hw] at h
    exact h.2
theorem RunL.back (hS : S w) (h : RunD P N S ops p σ w K) : RunL P N ops [] σ w (DK P S ops p K) := fun a ha => wpList_nil ⟨rfl, hS, h hS a ha⟩

def opsAt (ops : List Oper) : List (Nat × Bool) → Option (List Oper)
  | [] => some []
  | (i, b) :: p => match b, ops[i]?, opsAt ops p with
    | false, some o, some l => some (o :: l)
    | _, _, _ => none

/-- The rest comes up one by one. -/
theorem RunD.tail (hl : opsAt ops p = some l) (h : RunL P N ops l σ w K) : RunD P N (fun _ => True) ops p σ w K := by
  intro _ a ha
  replace h := h a ha
  clear ha
  induction p generalizing l a w with
  | nil => cases hl; exact h.2
  | cons x p ih =>
    obtain ⟨i, b⟩ := x
    unfold opsAt at hl
    split at hl
    · rename_i o l' ho hl'
      cases hl
      simp only [wpPlan, wpOp, show ops.toArray[i]? = some o by simpa using ho]
      simp only [wpList] at h
      split
      · rename_i hw
        rw [if_pos hw] at h
        rcases h with h | h
        · exact .inl (Oper.wp_mono (fun a' w' h' => ⟨trivial, ih hl' a' h'⟩) h)
        · exact .inr h
      · rename_i hw
        rw [if_neg hw] at h
        exact ⟨trivial, ih hl' _ h⟩
    · cases hl
end
end Go.GX

/- Small rules more. Conditions: none. -/
namespace Go.GX
open Go.RowKit
set_option linter.unusedVariables false
set_option linter.unusedSectionVars false
set_option linter.unusedSimpArgs false
section
variable {P : Program} {N : Nat} {σ : Store} {w : World} {ops l : List Oper} {K : Act → World → Prop}
/-- A slot's value written otherwise. -/
theorem RunL.setV (t : Nat) {v v' : Value} (hl : look σ t = some v) (e : v = v') (h : RunL P N ops l ((t, v') :: σ) w K) : RunL P N ops l σ w K :=
  fun a ha => h a (ha.weaken fun t' u hu => by
    rw [look_cons] at hu
    split at hu
    · rename_i e'; subst e'; cases hu; rw [← e]; exact hl
    · exact hu)
/-- A test that is known. -/
theorem RunL.setB (t : Nat) {b : Bool} (c : Bool) (hl : look σ t = some (.bool b)) (e : b = c) (h : RunL P N ops l ((t, .bool c) :: σ) w K) : RunL P N ops l σ w K :=
  RunL.setV t hl (by rw [e]) h
end
end Go.GX
namespace Go.GX
open Go.RowKit
set_option linter.unusedVariables false
set_option linter.unusedSectionVars false
set_option linter.unusedSimpArgs false
section
variable {P : Program} {N : Nat} {σ : Store} {w w' : World} {ops l : List Oper} {K : Act → World → Prop} {d : Nat} {ty : TypeId} {pos : String} {af : Array Edge} {gd : Option (Nat × Bool)} {v u : Value} {n : Nat} {t e : TypeId} {sz bytes : Nat}
/-- A store into an element of one's own slice. -/
theorem RunL.storeO {w0 : World} {xs : List Value} {x y : Operand} {j : Nat} (ho : OwnS w0 w e sz v n xs) (hs : stat N ops ⟨none, .store t x y, ty, pos, af, gd⟩ σ = true) (hS : (P.info? t).map (·.size) = some 1) (hx : lookO σ x = some (elemPtr v j)) (hy : lookO σ y = some u) (h1 : u.cells = #[u]) (h2 : u.oneCell' = true) (hj : j < n * sz)
    (h : ∀ w', OwnS w0 w' e sz v n (xs.set j u) → w.grownBy w' v.ownBlock → w'.heap.size = w.heap.size → RunL P N ops l σ w' K) : RunL P N ops (⟨none, .store t x y, ty, pos, af, gd⟩ :: l) σ w K := by
  have hlt := ho.own.lt
  rcases ho.own.2 with ⟨_, hn⟩ | ⟨g, cap, cur, hv, _⟩
  · subst hn; omega
  · subst hv
    have hl := ho.len
    have hc : w.cell? ⟨g, j, none⟩ = some (xs[j]'(by omega)) := by rw [ho.own.cellAt j hj]; exact List.getElem?_eq_getElem (by omega)
    obtain ⟨k1, k2⟩ := ho.own.stored j u
    have hx' : lookO σ x = some (.pointer (some ⟨g, j, none⟩)) := by rw [hx]; simp [elemPtr]
    refine RunL.opU (w' := w.setCell ⟨g, j, none⟩ u) hs ?_ (h _ ⟨ho.below.grown k2 ho.below.size (fun k hk => ?_), k1⟩ k2 (by simp [World.setCell]))
    · simp [execOp, evO_of_lookO hx', evO_of_lookO hy, Instr.storeAt, Instr.sureAddr, run_storeVar1 hS h1 h2 hc (ho.own.frozenAt j)]
    · cases hk; exact (hlt g rfl).1
end
end Go.GX

/- Values of several cells: load and store. Conditions: none. -/
namespace Go.GX
open Go.RowKit
set_option linter.unusedVariables false
set_option linter.unusedSectionVars false
set_option linter.unusedSimpArgs false
section
variable {P : Program} {N : Nat} {σ : Store} {w w' : World} {ops l : List Oper} {K : Act → World → Prop} {KQ : Act → Prop} {C : World → Prop} {d : Nat} {ty : TypeId} {pos : String} {af : Array Edge} {gd : Option (Nat × Bool)} {v u : Value} {n : Nat} {t e : TypeId} {cs : List Value}

theorem ex_loadS {d : Option Tmp} {x : Operand} {b o : Nat} {td : TypeDesc} (hc : w.rangeAt b o cs) (hT : P.underlying t = some td) (hr : td.isRow = true) (hi : (P.info? t).map (·.size) = some cs.length) (hx : lookO σ x = some (.pointer (some ⟨b, o, none⟩))) :
    (execOp (evO σ) ⟨d, .load t x, ty, pos, af, gd⟩).run P w = .ok (.value (.agg cs.toArray)) w := by
  simp [execOp, evO_of_lookO hx, run_loadAt_mid w b o t cs td hc hT hr hi]
theorem Blk.range {b : Nat} {T : TypeId} (h : Blk w b cs T) : w.rangeAt b 0 cs := fun j v hv => by rw [Nat.zero_add, h.cell]; exact hv
/-- The whole variable. -/
theorem RunL.loadW {x : Operand} {b : Nat} {T : TypeId} {td : TypeDesc} (hB : Blk w b cs T) (hs : stat N ops ⟨some d, .load t x, ty, pos, af, gd⟩ σ = true) (hT : P.underlying t = some td) (hr : td.isRow = true) (hi : (P.info? t).map (·.size) = some cs.length)
    (hx : lookO σ x = some (.pointer (some ⟨b, 0, none⟩))) (h : RunL P N ops l ((d, .agg cs.toArray) :: σ) w K) : RunL P N ops (⟨some d, .load t x, ty, pos, af, gd⟩ :: l) σ w K :=
  RunL.op hs (ex_loadS hB.range hT hr hi hx) h
theorem RunQ.loadW {x : Operand} {b : Nat} {T : TypeId} {td : TypeDesc} (hB : ∀ w, C w → Blk w b cs T) (hs : stat N ops ⟨some d, .load t x, ty, pos, af, gd⟩ σ = true) (hT : P.underlying t = some td) (hr : td.isRow = true) (hi : (P.info? t).map (·.size) = some cs.length)
    (hx : lookO σ x = some (.pointer (some ⟨b, 0, none⟩))) (h : RunQ P N C ops l ((d, .agg cs.toArray) :: σ) KQ) : RunQ P N C ops (⟨some d, .load t x, ty, pos, af, gd⟩ :: l) σ KQ :=
  RunQ.op hs (fun w hw => ex_loadS (hB w hw).range hT hr hi hx) h
/-- The cells of an element. -/
theorem IsSl.range {xs : List Value} {m k : Nat} (hv : IsSl w v cs n) (hxs : xs ≠ []) (hc : ∀ j u, xs[j]? = some u → cs[k + j]? = some u) : ∃ b o, elemPtr v k = .pointer (some ⟨b, o, none⟩) ∧ w.rangeAt b o xs := by
  rcases hv with ⟨_, _, rfl⟩ | ⟨b, off, cap, rfl, hcell⟩
  · cases xs with
    | nil => exact absurd rfl hxs
    | cons a r => have := hc 0 a rfl; simp at this
  · exact ⟨b, off + k, rfl, fun j u hu => by have := hcell _ _ (hc j u hu); rwa [← Nat.add_assoc] at this⟩
theorem RunL.loadE {x : Operand} {k : Nat} {xs : List Value} {td : TypeDesc} (hv : IsSl w v cs n) (hxs : xs ≠ []) (hc : ∀ j u, xs[j]? = some u → cs[k + j]? = some u) (hs : stat N ops ⟨some d, .load t x, ty, pos, af, gd⟩ σ = true) (hT : P.underlying t = some td) (hr : td.isRow = true) (hi : (P.info? t).map (·.size) = some xs.length)
    (hx : lookO σ x = some (elemPtr v k)) (h : RunL P N ops l ((d, .agg xs.toArray) :: σ) w K) : RunL P N ops (⟨some d, .load t x, ty, pos, af, gd⟩ :: l) σ w K := by
  obtain ⟨b, o, e1, e2⟩ := hv.range (m := 0) hxs hc
  rw [e1] at hx
  exact RunL.op hs (ex_loadS e2 hT hr hi hx) h
theorem RunQ.loadE {x : Operand} {k : Nat} {xs : List Value} {td : TypeDesc} (hv : IsSl w v cs n) (hxs : xs ≠ []) (hc : ∀ j u, xs[j]? = some u → cs[k + j]? = some u) (hs : stat N ops ⟨some d, .load t x, ty, pos, af, gd⟩ σ = true) (hT : P.underlying t = some td) (hr : td.isRow = true) (hi : (P.info? t).map (·.size) = some xs.length)
    (hx : lookO σ x = some (elemPtr v k)) (h : RunQ P N (fun w' => Below w.heap.size w w') ops l ((d, .agg xs.toArray) :: σ) KQ) : RunQ P N (fun w' => Below w.heap.size w w') ops (⟨some d, .load t x, ty, pos, af, gd⟩ :: l) σ KQ := by
  obtain ⟨b, o, e1, e2⟩ := hv.range (m := 0) hxs hc
  rw [e1] at hx
  refine RunQ.op hs (fun w' hw' => ex_loadS (fun j u hu => ?_) hT hr hi hx) h
  rw [hw'.cell (World.block_lt_of_cell? w _ (e2 j u hu))]; exact e2 j u hu
/-- The whole variable written. -/
theorem RunL.storeW {x y : Operand} {b : Nat} {T : TypeId} {us : List Value} (hB : Blk w b cs T) (hs : stat N ops ⟨none, .store t x y, ty, pos, af, gd⟩ σ = true) (hi : (P.info? t).map (·.size) = some us.length) (hl : us.length = cs.length) (h1 : us.all (·.oneCell') = true)
    (hx : lookO σ x = some (.pointer (some ⟨b, 0, none⟩))) (hy : lookO σ y = some (.agg us.toArray))
    (h : ∀ w', Blk w' b us T → w.grownBy w' (some b) → w'.heap.size = w.heap.size → RunL P N ops l σ w' K) : RunL P N ops (⟨none, .store t x y, ty, pos, af, gd⟩ :: l) σ w K := by
  unfold Blk at hB
  have hr := run_storeVar_row (P := P) w b T t cs.toArray us.toArray hB (by simpa using hi) (by simpa using hl.symm) (by simpa using h1)
  refine RunL.opU (w' := w.setRow b us.toArray) hs ?_ (h _ ?_ ?_ ?_)
  · simp [execOp, evO_of_lookO hx, evO_of_lookO hy, Instr.storeAt, Instr.sureAddr, hr]
  · unfold Blk; simp [World.setRow, hB, Array.getElem?_modify]
  · exact ⟨rfl, rfl, rfl, by simp [World.setRow], fun k hk hne => by simp [World.setRow, Array.getElem?_modify, show b ≠ k from fun e => hne (by rw [e])]⟩
  · simp [World.setRow]
end
end Go.GX

/- Maps: a block that holds the pairs of a list, and what the operations do to it. Conditions: none. -/
namespace Go.GX
open Go.RowKit
set_option linter.unusedVariables false
set_option linter.unusedSectionVars false
set_option linter.unusedSimpArgs false

def fndL {K : Type} [DecidableEq K] (k : K) : List (K × Value) → Nat → Option (Nat × Value)
  | [], _ => none
  | (a, v) :: m, i => if k = a then some (i, v) else fndL k m (i + 1)

/-- What a key's type must grant. -/
structure KeyK (P : Program) (kt : TypeId) {K : Type} [DecidableEq K] (enc : K → Value) : Prop where
  find : ∀ (k : K) (m : List (K × Value)) (es : List MapEntry) (w : World), es.map (fun e => (e.key, e.val)) = m.map (fun p => (enc p.1, p.2)) → (Instr.findKey kt (enc k) es).run P w = .ok (fndL k m 0) w
  check : ∀ (e : Bool) (k : K) (w : World), (Instr.checkKey e 10000 kt (enc k)).run P w = .ok () w
  stays : ∀ (k : K) (w : World), (Instr.keyThatStays (enc k) (enc k)).run P w = .ok (enc k) w
  inj : ∀ a b : K, enc a = enc b → a = b

theorem findNow_int (k : Int) : ∀ (m : List (Int × Value)) (es : List MapEntry) (i : Nat), es.map (fun e => (e.key, e.val)) = m.map (fun p => (Value.int .i64 p.1, p.2)) → Instr.findNow (.int .i64) (.int .i64 k) es i = some (fndL k m i)
  | [], es, i, h => by
    have : es = [] := by simpa using h
    subst this; rfl
  | (a, v) :: m, [], i, h => by simp at h
  | (a, v) :: m, e :: es, i, h => by
    simp only [List.map_cons, List.cons.injEq, Prod.mk.injEq] at h
    obtain ⟨⟨h1, h2⟩, h3⟩ := h
    unfold Instr.findNow fndL
    rw [h1]
    simp only [Instr.sameNow]
    by_cases e : k = a
    · subst e; simp [h2]
    · have e2 : (k == a) = false := by simpa using e
      rw [e2, if_neg e]
      simp only [if_true]
      exact findNow_int k m es (i + 1) h3

theorem key_int {P : Program} {kt : TypeId} (ht : P.underlying kt = some (.int .i64)) : KeyK P kt (fun z : Int => Value.int .i64 z) := by
  have hk : ∀ k, MapKept.IsKey (.int .i64) (Value.int .i64 k) := fun k => by simp [MapKept.IsKey]
  exact ⟨fun k m es w h => MapKept.run_findKey ht (findNow_int k m es 0 h), fun e k w => MapKept.run_checkKey ht (hk k) e 9999, fun k w => MapKept.run_keyThatStays (hk k), fun a b h => by simpa using h⟩
end Go.GX
namespace Go.GX
open Go.RowKit
set_option linter.unusedVariables false
set_option linter.unusedSectionVars false
set_option linter.unusedSimpArgs false
section
variable {K : Type} [DecidableEq K] {P : Program} {kt : TypeId} {enc : K → Value} {w w' : World} {b : Nat} {m : List (K × Value)}
/-- Block b holds a map with these pairs, in the order of their coming. -/
def MapAt (enc : K → Value) (w : World) (b : Nat) (m : List (K × Value)) : Prop :=
  ∃ es clock, w.heap[b]? = some (.map es clock) ∧ es.toList.map (fun e => (e.key, e.val)) = m.map (fun p => (enc p.1, p.2)) ∧ MapKept.Stamped es clock
/-- The value at a key. -/
def getM (k : K) : List (K × Value) → Option Value
  | [] => none
  | (a, v) :: m => if k = a then some v else getM k m
theorem fndL_getM (k : K) : ∀ (m : List (K × Value)) (i : Nat), (fndL k m i).map (·.2) = getM k m
  | [], i => rfl
  | (a, v) :: m, i => by
    unfold fndL getM
    split
    · rfl
    · exact fndL_getM k m (i + 1)
theorem MapAt.below (h : MapAt enc w b m) (hb : Below w.heap.size w w') : MapAt enc w' b m := by
  obtain ⟨es, clock, h1, h2, h3⟩ := h
  have hlt : b < w.heap.size := (Array.getElem?_eq_some_iff.1 h1).1
  exact ⟨es, clock, by rw [hb.block b hlt]; exact h1, h2, h3⟩
end
end Go.GX

/- What the operations do to a map. Conditions: none. -/
namespace Go.GX
open Go.RowKit
set_option linter.unusedVariables false
set_option linter.unusedSectionVars false
set_option linter.unusedSimpArgs false
section
variable {K : Type} [DecidableEq K] {P : Program} {t kt et : TypeId} {enc : K → Value} {w w' : World} {b : Nat} {m : List (K × Value)} {z v : Value}
theorem run_lookupM (hK : KeyK P kt enc) (hm : P.underlying t = some (.map kt et)) (hz : ∀ w, (zeroValue et).run P w = .ok z w) (h : MapAt enc w b m) (k : K) (ok : Bool) :
    (Instr.lookup t (.map (some b)) (enc k) ok).run P w = .ok (if ok then .tuple #[(getM k m).getD z, .bool (getM k m).isSome] else (getM k m).getD z) w := by
  obtain ⟨es, clock, h1, h2, h3⟩ := h
  have hf := hK.find k m es.toList w h2
  have hg := fndL_getM k m 0
  unfold Instr.lookup
  simp only [Sem.run_bind, run_underlying hm, MapKept.run_getObj_map h1, hK.check, Result.andThen]
  cases hx : fndL k m 0 with
  | none =>
    rw [hx] at hg hf
    have hg' : getM k m = none := hg.symm
    rw [hg']
    cases ok <;> simp [hf, hz, Result.andThen]
  | some p =>
    rw [hx] at hg hf
    obtain ⟨i, u⟩ := p
    have hg' : getM k m = some u := hg.symm
    rw [hg']
    cases ok <;> simp [hf, Result.andThen]
end
end Go.GX

/- Writing to a map. Conditions: none. -/
namespace Go.GX
open Go.RowKit
set_option linter.unusedVariables false
set_option linter.unusedSectionVars false
set_option linter.unusedSimpArgs false
section
variable {K : Type} [DecidableEq K]
def setM (k : K) (v : Value) : List (K × Value) → List (K × Value)
  | [] => [(k, v)]
  | (a, u) :: m => if k = a then (a, v) :: m else (a, u) :: setM k v m
def delM (k : K) : List (K × Value) → List (K × Value)
  | [] => []
  | (a, u) :: m => if k = a then m else (a, u) :: delM k m
theorem fndL_shift (k : K) : ∀ (m : List (K × Value)) (i : Nat), fndL k m i = (fndL k m 0).map (fun p => (p.1 + i, p.2))
  | [], i => rfl
  | (a, v) :: m, i => by
    unfold fndL
    split
    · simp
    · rw [fndL_shift k m (i + 1), fndL_shift k m (0 + 1)]
      cases fndL k m 0 with
      | none => rfl
      | some p => simp; omega
theorem setM_none {k : K} {v : Value} : ∀ {m : List (K × Value)}, fndL k m 0 = none → setM k v m = m ++ [(k, v)]
  | [], _ => rfl
  | (a, u) :: m, h => by
    unfold fndL at h
    split at h
    · cases h
    · rename_i hk
      rw [fndL_shift] at h
      have h' : fndL k m 0 = none := by cases hx : fndL k m 0 with
        | none => rfl
        | some p => rw [hx] at h; cases h
      unfold setM
      rw [if_neg hk, setM_none h']; rfl
theorem setM_some {k : K} {v : Value} : ∀ {m : List (K × Value)} {i : Nat} {u : Value}, fndL k m 0 = some (i, u) → setM k v m = m.modify i (fun p => (p.1, v)) ∧ m[i]? = some (k, u)
  | [], i, u, h => by cases h
  | (a, w) :: m, i, u, h => by
    unfold fndL at h
    split at h
    · rename_i hk
      cases h
      subst hk
      exact ⟨by unfold setM; rw [if_pos rfl]; rfl, rfl⟩
    · rename_i hk
      rw [fndL_shift] at h
      cases hx : fndL k m 0 with
      | none => rw [hx] at h; cases h
      | some p =>
        rw [hx] at h
        obtain ⟨j, u'⟩ := p
        simp only [Option.map_some, Option.some.injEq, Prod.mk.injEq] at h
        obtain ⟨rfl, rfl⟩ := h
        obtain ⟨h1, h2⟩ := setM_some (v := v) hx
        refine ⟨?_, by simpa using h2⟩
        unfold setM
        rw [if_neg hk, h1]; rfl
end
end Go.GX
namespace Go.GX
open Go.RowKit
section
variable {K : Type} [DecidableEq K] {P : Program} {t kt et : TypeId} {enc : K → Value} {w : World} {b : Nat} {m : List (K × Value)}
theorem fndL_none_ne {k : K} : ∀ {m : List (K × Value)}, fndL k m 0 = none → ∀ p ∈ m, p.1 ≠ k
  | [], _, p, hp => by cases hp
  | (a, u) :: m, h, p, hp => by
    unfold fndL at h
    split at h
    · cases h
    · rename_i hk
      rw [fndL_shift] at h
      have h' : fndL k m 0 = none := by cases hx : fndL k m 0 with
        | none => rfl
        | some q => rw [hx] at h; cases h
      rcases List.mem_cons.1 hp with rfl | hp
      · exact fun e => hk e.symm
      · exact fndL_none_ne h' p hp
/-- 'm[k] = v'. -/
theorem run_updateM (hK : KeyK P kt enc) (hm : P.underlying t = some (.map kt et)) (h : MapAt enc w b m) (k : K) (v : Value) :
    ∃ w', (Instr.mapUpdate t (.map (some b)) (enc k) v).run P w = .ok () w' ∧ MapAt enc w' b (setM k v m) ∧ w.grownBy w' (some b) ∧ w'.heap.size = w.heap.size := by
  obtain ⟨es, clock, h1, h2, h3⟩ := h
  have hf := hK.find k m es.toList w h2
  have grown : ∀ o, w.grownBy { w with heap := w.heap.setIfInBounds b o } (some b) := fun o => ⟨rfl, rfl, rfl, by simp, fun r hr hne => (MapKept.heap_set h1).2 r (fun e => hne (by rw [e]))⟩
  cases hx : fndL k m 0 with
  | none =>
    rw [hx] at hf
    refine ⟨{ w with heap := w.heap.setIfInBounds b (.map (es.push { key := enc k, val := v, born := clock }) (clock + 1)) }, ?_, ⟨_, _, (MapKept.heap_set h1).1, ?_, MapKept.stamped_push h3 ?_⟩, grown _, by simp⟩
    · simp [Instr.mapUpdate, run_underlying hm, MapKept.run_getObj_map h1, hK.check, hf, MapKept.run_setObj_map _ h1, Result.andThen]
    · rw [setM_none hx]; simp [h2]
    · intro x hx' e
      have hmem : (x.key, x.val) ∈ es.toList.map (fun e => (e.key, e.val)) := List.mem_map.2 ⟨x, hx', rfl⟩
      rw [h2] at hmem
      obtain ⟨p, hp, he⟩ := List.mem_map.1 hmem
      simp only [Prod.mk.injEq] at he
      exact fndL_none_ne hx p hp (hK.inj _ _ (he.1.trans e))
  | some p =>
    obtain ⟨i, u⟩ := p
    rw [hx] at hf
    obtain ⟨g1, g2⟩ := setM_some (v := v) hx
    have hi : (es.toList.map (fun e => (e.key, e.val)))[i]? = some (enc k, u) := by rw [h2, List.getElem?_map, g2]; rfl
    rw [List.getElem?_map] at hi
    cases he : es.toList[i]? with
    | none => rw [he] at hi; cases hi
    | some e0 =>
      rw [he] at hi
      simp only [Option.map_some, Option.some.injEq, Prod.mk.injEq] at hi
      have hj : es[i]? = some e0 := by simpa using he
      refine ⟨{ w with heap := w.heap.setIfInBounds b (.map (es.modify i fun e => { e with key := enc k, val := v }) clock) }, ?_, ⟨_, _, (MapKept.heap_set h1).1, ?_, MapKept.stamped_modify h3 _ _ (fun _ _ => rfl) (fun e' _ he' => by rw [hj] at he'; cases he'; exact hi.1.symm)⟩, grown _, by simp⟩
      · simp [Instr.mapUpdate, run_underlying hm, MapKept.run_getObj_map h1, hK.check, hf, hj, hi.1, hK.stays, MapKept.run_setObj_map _ h1, Result.andThen]
      · rw [g1]
        apply List.ext_getElem?
        intro j
        have h2j : (es.toList.map (fun e => (e.key, e.val)))[j]? = (m.map (fun p => (enc p.1, p.2)))[j]? := by rw [h2]
        simp only [List.getElem?_map, Array.getElem?_toList, Array.getElem?_modify, List.getElem?_modify] at h2j ⊢
        by_cases hij : i = j
        · subst hij
          rw [hj, g2]; simp
        · simp only [hij, if_false]
          simpa using h2j
end
end Go.GX

/- The map's operations as rules of a region. Conditions: none. -/
namespace Go.GX
open Go.RowKit
set_option linter.unusedVariables false
set_option linter.unusedSectionVars false
set_option linter.unusedSimpArgs false
section
variable {K : Type} [DecidableEq K] {P : Program} {t kt et : TypeId} {enc : K → Value} {w : World} {b : Nat} {m : List (K × Value)} {z v : Value}
  {N : Nat} {σ : Store} {ops l : List Oper} {KK : Act → World → Prop} {d : Nat} {ty : TypeId} {pos : String} {af : Array Edge} {gd : Option (Nat × Bool)}
theorem RunL.makeM (enc : K → Value) (hs : stat N ops ⟨some d, .makeMap t none, ty, pos, af, gd⟩ σ = true)
    (h : ∀ w', MapAt enc w' w.heap.size [] → Below w.heap.size w w' → RunL P N ops l ((d, .map (some w.heap.size)) :: σ) w' KK) : RunL P N ops (⟨some d, .makeMap t none, ty, pos, af, gd⟩ :: l) σ w KK := by
  refine RunL.op (w' := w.alloc (.map #[] 0)) hs ?_ (h _ ⟨#[], 0, (MapKept.heap_alloc w _).1, rfl, MapKept.stamped_empty 0⟩ ((Below.refl _ _).alloc (Nat.le_refl _) _))
  simp [execOp, run_makeMap]
theorem RunL.lookM {x y : Operand} {k : K} (hK : KeyK P kt enc) (hM : MapAt enc w b m) (hs : stat N ops ⟨some d, .lookup t x y false, ty, pos, af, gd⟩ σ = true) (hm : P.underlying t = some (.map kt et)) (hz : ∀ w, (zeroValue et).run P w = .ok z w)
    (hx : lookO σ x = some (.map (some b))) (hy : lookO σ y = some (enc k)) (h : RunL P N ops l ((d, (getM k m).getD z) :: σ) w KK) : RunL P N ops (⟨some d, .lookup t x y false, ty, pos, af, gd⟩ :: l) σ w KK := by
  refine RunL.op hs ?_ h
  simp [execOp, evO_of_lookO hx, evO_of_lookO hy, run_lookupM hK hm hz hM k false]
theorem RunL.lookOkM {x y : Operand} {k : K} (hK : KeyK P kt enc) (hM : MapAt enc w b m) (hs : stat N ops ⟨some d, .lookup t x y true, ty, pos, af, gd⟩ σ = true) (hm : P.underlying t = some (.map kt et)) (hz : ∀ w, (zeroValue et).run P w = .ok z w)
    (hx : lookO σ x = some (.map (some b))) (hy : lookO σ y = some (enc k)) (h : RunL P N ops l ((d, .tuple #[(getM k m).getD z, .bool (getM k m).isSome]) :: σ) w KK) : RunL P N ops (⟨some d, .lookup t x y true, ty, pos, af, gd⟩ :: l) σ w KK := by
  refine RunL.op hs ?_ h
  simp [execOp, evO_of_lookO hx, evO_of_lookO hy, run_lookupM hK hm hz hM k true]
theorem RunL.updM {x y u : Operand} {k : K} (hK : KeyK P kt enc) (hM : MapAt enc w b m) (hs : stat N ops ⟨none, .mapUpdate t x y u, ty, pos, af, gd⟩ σ = true) (hm : P.underlying t = some (.map kt et))
    (hx : lookO σ x = some (.map (some b))) (hy : lookO σ y = some (enc k)) (hu : lookO σ u = some v)
    (h : ∀ w', MapAt enc w' b (setM k v m) → w.grownBy w' (some b) → w'.heap.size = w.heap.size → RunL P N ops l σ w' KK) : RunL P N ops (⟨none, .mapUpdate t x y u, ty, pos, af, gd⟩ :: l) σ w KK := by
  obtain ⟨w', h1, h2, h3, h4⟩ := run_updateM hK hm hM k v
  refine RunL.opU (w' := w') hs ?_ (h w' h2 h3 h4)
  simp [execOp, evO_of_lookO hx, evO_of_lookO hy, evO_of_lookO hu, h1]
end
end Go.GX

/- A symbolic heap: a list of chunks, each about blocks of its own, and the runs over it. Conditions: none. -/
namespace Go.GX
open Go.RowKit
set_option linter.unusedVariables false
set_option linter.unusedSectionVars false
set_option linter.unusedSimpArgs false

structure Chunk where
  foot : Nat → Prop
  p : World → Prop
  loc : ∀ w w' : World, (∀ k, foot k → w'.heap[k]? = w.heap[k]?) → p w → p w'
  lt : ∀ w, p w → ∀ k, foot k → k < w.heap.size

/-- A world to begin with, and the older blocks that may be written. -/
structure Base where
  w : World
  X : Nat → Prop

def AllP (B : Base) (w : World) : List Chunk → Prop
  | [] => True
  | c :: H => c.p w ∧ (∀ k, c.foot k → B.w.heap.size ≤ k ∨ B.X k) ∧ (∀ d ∈ H, ∀ k, c.foot k → ¬ d.foot k) ∧ AllP B w H

structure Sat (B : Base) (H : List Chunk) (w : World) : Prop where
  os : w.os = B.w.os
  tape : w.tape = B.w.tape
  output : w.output = B.w.output
  size : B.w.heap.size ≤ w.heap.size
  block : ∀ k, k < B.w.heap.size → ¬ B.X k → w.heap[k]? = B.w.heap[k]?
  all : AllP B w H

abbrev base (w : World) : Base := ⟨w, fun _ => False⟩
def feet (H : List Chunk) (k : Nat) : Prop := ∃ c ∈ H, c.foot k

theorem AllP.mem {B : Base} {w : World} : ∀ {H : List Chunk}, AllP B w H → ∀ c ∈ H, c.p w ∧ (∀ k, c.foot k → B.w.heap.size ≤ k ∨ B.X k)
  | [], _, c, hc => by cases hc
  | d :: H, h, c, hc => by
    obtain ⟨h1, h2, h3, h4⟩ := h
    rcases List.mem_cons.1 hc with rfl | hc
    · exact ⟨h1, h2⟩
    · exact AllP.mem h4 c hc

theorem AllP.grow {B : Base} {w w' : World} (hg : ∀ k, k < w.heap.size → w'.heap[k]? = w.heap[k]?) : ∀ {H : List Chunk}, AllP B w H → AllP B w' H
  | [], _ => trivial
  | c :: H, h => ⟨c.loc w w' (fun k hk => hg k (c.lt w h.1 k hk)) h.1, h.2.1, h.2.2.1, AllP.grow hg h.2.2.2⟩

theorem Sat.lt {B : Base} {H : List Chunk} {w : World} (h : Sat B H w) {c : Chunk} (hc : c ∈ H) : ∀ k, c.foot k → k < w.heap.size := c.lt w (h.all.mem c hc).1

theorem Sat.grow {B : Base} {H : List Chunk} {w w' : World} (h : Sat B H w) (hb : Below w.heap.size w w') : Sat B H w' :=
  ⟨hb.os.trans h.os, hb.tape.trans h.tape, hb.output.trans h.output, Nat.le_trans h.size hb.size, fun k hk hx => (hb.block k (Nat.lt_of_lt_of_le hk h.size)).trans (h.block k hk hx), h.all.grow hb.block⟩

theorem Sat.push {B : Base} {H : List Chunk} {w w' : World} (h : Sat B H w) (hb : Below w.heap.size w w') {c : Chunk} (hc : c.p w') (hf : ∀ k, c.foot k → w.heap.size ≤ k) : Sat B (c :: H) w' := by
  have h' := h.grow hb
  refine ⟨h'.os, h'.tape, h'.output, h'.size, h'.block, hc, fun k hk => .inl (Nat.le_trans h.size (hf k hk)), fun d hd k hk hk' => ?_, h'.all⟩
  have := h.lt hd k hk'
  have := hf k hk
  omega

def nthC : List Chunk → Nat → Option Chunk
  | [], _ => none
  | c :: _, 0 => some c
  | _ :: r, n + 1 => nthC r n
def setC : List Chunk → Nat → Chunk → List Chunk
  | [], _, _ => []
  | _ :: r, 0, c => c :: r
  | d :: r, n + 1, c => d :: setC r n c
def dropC : List Chunk → Nat → List Chunk
  | [], _ => []
  | _ :: r, 0 => r
  | d :: r, n + 1 => d :: dropC r n

theorem nthC_mem : ∀ {H : List Chunk} {i : Nat} {c : Chunk}, nthC H i = some c → c ∈ H
  | [], _, _, h => by cases h
  | d :: r, 0, c, h => by cases h; exact List.mem_cons_self ..
  | d :: r, n + 1, c, h => List.mem_cons_of_mem _ (nthC_mem (H := r) h)

theorem Sat.nth {B : Base} {H : List Chunk} {w : World} (h : Sat B H w) {i : Nat} {c : Chunk} (hc : nthC H i = some c) : c.p w := (h.all.mem c (nthC_mem hc)).1
theorem Sat.nthX {B : Base} {H : List Chunk} {w : World} (h : Sat B H w) {i : Nat} {c : Chunk} (hc : nthC H i = some c) : ∀ k, c.foot k → B.w.heap.size ≤ k ∨ B.X k := (h.all.mem c (nthC_mem hc)).2

theorem setC_mem : ∀ {H : List Chunk} {i : Nat} {c d : Chunk}, d ∈ setC H i c → d = c ∨ d ∈ H
  | [], _, _, _, h => by cases h
  | e :: r, 0, c, d, h => by
    rcases List.mem_cons.1 h with h | h
    · exact .inl h
    · exact .inr (List.mem_cons_of_mem _ h)
  | e :: r, n + 1, c, d, h => by
    rcases List.mem_cons.1 h with h | h
    · exact .inr (h ▸ List.mem_cons_self ..)
    · rcases setC_mem (H := r) h with h | h
      · exact .inl h
      · exact .inr (List.mem_cons_of_mem _ h)

theorem AllP.set {B : Base} {w w' : World} {c c' : Chunk} (hsz : B.w.heap.size ≤ w.heap.size) (hg : ∀ k, k < w.heap.size → ¬ c.foot k → w'.heap[k]? = w.heap[k]?) (hc' : c'.p w') (hf : ∀ k, c'.foot k → c.foot k ∨ w.heap.size ≤ k) :
    ∀ {H : List Chunk} {i : Nat}, nthC H i = some c → AllP B w H → AllP B w' (setC H i c')
  | [], _, h, _ => by cases h
  | d :: r, 0, h, ha => by
    cases h
    obtain ⟨h1, h2, h3, h4⟩ := ha
    have keep : ∀ {r : List Chunk}, (∀ d ∈ r, ∀ k, c.foot k → ¬ d.foot k) → AllP B w r → AllP B w' r := by
      intro r
      induction r with
      | nil => intro _ _; trivial
      | cons d r ih =>
        intro h3 h4
        obtain ⟨g1, g2, g3, g4⟩ := h4
        exact ⟨d.loc w w' (fun k hk => hg k (d.lt w g1 k hk) (fun hk' => h3 d (List.mem_cons_self ..) k hk' hk)) g1, g2, g3, ih (fun d hd => h3 d (List.mem_cons_of_mem _ hd)) g4⟩
    refine ⟨hc', fun k hk => ?_, fun d hd k hk hk' => ?_, keep h3 h4⟩
    · rcases hf k hk with h | h
      · exact h2 k h
      · exact .inl (Nat.le_trans hsz h)
    · rcases hf k hk with h | h
      · exact h3 d hd k h hk'
      · have := d.lt w (h4.mem d hd).1 k hk'
        omega
  | d :: r, n + 1, h, ha => by
    obtain ⟨h1, h2, h3, h4⟩ := ha
    have hm := nthC_mem (H := r) h
    refine ⟨d.loc w w' (fun k hk => hg k (d.lt w h1 k hk) (fun hk' => h3 c hm k hk hk')) h1, h2, fun e he k hk hk' => ?_, AllP.set hsz hg hc' hf (H := r) h h4⟩
    rcases setC_mem he with rfl | he
    · rcases hf k hk' with h' | h'
      · exact h3 c hm k hk h'
      · have := d.lt w h1 k hk
        omega
    · exact h3 e he k hk hk'

/-- One chunk turns; everything else stays. -/
theorem Sat.upd {B : Base} {H : List Chunk} {w w' : World} {c c' : Chunk} {i : Nat} (h : Sat B H w) (hi : nthC H i = some c) (h1 : w'.os = w.os) (h2 : w'.tape = w.tape) (h3 : w'.output = w.output) (h4 : w.heap.size ≤ w'.heap.size)
    (hg : ∀ k, k < w.heap.size → ¬ c.foot k → w'.heap[k]? = w.heap[k]?) (hc' : c'.p w') (hf : ∀ k, c'.foot k → c.foot k ∨ w.heap.size ≤ k) : Sat B (setC H i c') w' := by
  refine ⟨h1.trans h.os, h2.trans h.tape, h3.trans h.output, Nat.le_trans h.size h4, fun k hk hx => ?_, AllP.set h.size hg hc' hf hi h.all⟩
  rw [hg k (Nat.lt_of_lt_of_le hk h.size) (fun hk' => ?_)]
  · exact h.block k hk hx
  · rcases h.nthX hi k hk' with h' | h'
    · omega
    · exact hx h'

/-- As above, by 'grownBy'. -/
theorem Sat.updG {B : Base} {H : List Chunk} {w w' : World} {c c' : Chunk} {i : Nat} {r : Option Nat} (h : Sat B H w) (hi : nthC H i = some c) (hg : w.grownBy w' r) (hr : ∀ k, r = some k → c.foot k)
    (hc' : c'.p w') (hf : ∀ k, c'.foot k → c.foot k ∨ w.heap.size ≤ k) : Sat B (setC H i c') w' :=
  h.upd hi hg.os hg.tape hg.output hg.size (fun k hk hx => hg.block k hk (fun e => hx (hr k e.symm))) hc' hf

/-- Fewer chunks, or in another order: the indices of those that stay. -/
def pickC (H : List Chunk) : List Nat → Option (List Chunk)
  | [] => some []
  | i :: r => match nthC H i, pickC H r with
    | some c, some l => some (c :: l)
    | _, _ => none
def distinctN : List Nat → Bool
  | [] => true
  | i :: r => match natIn i r with
    | true => false
    | false => distinctN r

theorem AllP.apart {B : Base} {w : World} : ∀ {H : List Chunk} {i j : Nat} {c d : Chunk}, AllP B w H → nthC H i = some c → nthC H j = some d → i ≠ j → ∀ k, c.foot k → ¬ d.foot k
  | [], _, _, _, _, _, h, _, _ => by cases h
  | e :: r, 0, 0, c, d, ha, hi, hj, hne => absurd rfl hne
  | e :: r, 0, j + 1, c, d, ha, hi, hj, hne => by cases hi; exact ha.2.2.1 d (nthC_mem (H := r) hj)
  | e :: r, i + 1, 0, c, d, ha, hi, hj, hne => by cases hj; exact fun k hk hk' => ha.2.2.1 c (nthC_mem (H := r) hi) k hk' hk
  | e :: r, i + 1, j + 1, c, d, ha, hi, hj, hne => AllP.apart (H := r) ha.2.2.2 hi hj (fun e => hne (by rw [e]))

theorem natIn_of {x : Nat} : ∀ {l : List Nat}, x ∈ l → natIn x l = true
  | y :: l, h => by
    unfold natIn
    split
    · rfl
    · rename_i hb
      rcases List.mem_cons.1 h with rfl | h
      · rw [Nat.beq_refl] at hb; cases hb
      · exact natIn_of h

theorem pickC_spec {H : List Chunk} : ∀ {is : List Nat} {l : List Chunk}, pickC H is = some l → ∀ d ∈ l, ∃ j ∈ is, nthC H j = some d
  | [], l, h, d, hd => by cases h; cases hd
  | i :: is, l, h, d, hd => by
    unfold pickC at h
    split at h
    · rename_i c l' hc hl
      cases h
      rcases List.mem_cons.1 hd with rfl | hd
      · exact ⟨i, List.mem_cons_self .., hc⟩
      · obtain ⟨j, hj, h⟩ := pickC_spec hl d hd
        exact ⟨j, List.mem_cons_of_mem _ hj, h⟩
    · cases h

theorem AllP.pick {B : Base} {w : World} {H : List Chunk} (ha : AllP B w H) : ∀ {is : List Nat} {l : List Chunk}, pickC H is = some l → distinctN is = true → AllP B w l
  | [], l, h, _ => by cases h; trivial
  | i :: is, l, h, hd => by
    unfold pickC at h
    split at h
    · rename_i c l' hc hl
      cases h
      unfold distinctN at hd
      split at hd
      · cases hd
      · rename_i hn
        have hm := ha.mem c (nthC_mem hc)
        refine ⟨hm.1, hm.2, fun d hd' k => ?_, AllP.pick ha hl hd⟩
        obtain ⟨j, hj, hjd⟩ := pickC_spec hl d hd'
        exact ha.apart hc hjd (fun e => by subst e; rw [natIn_of hj] at hn; cases hn) k
    · cases h

theorem Sat.pick {B : Base} {H H' : List Chunk} {w : World} (is : List Nat) (h : Sat B H w) (hp : pickC H is = some H') (hd : distinctN is = true) : Sat B H' w :=
  ⟨h.os, h.tape, h.output, h.size, h.block, h.all.pick hp hd⟩

/-- One chunk said otherwise. -/
theorem Sat.as {B : Base} {H : List Chunk} {w : World} {c c' : Chunk} (i : Nat) (h : Sat B H w) (hi : nthC H i = some c) (hc' : c.p w → c'.p w) (hf : ∀ k, c'.foot k → c.foot k) : Sat B (setC H i c') w :=
  h.upd hi rfl rfl rfl (Nat.le_refl _) (fun _ _ _ => rfl) (hc' (h.nth hi)) (fun k hk => .inl (hf k hk))

theorem Sat.of_below {w w' : World} (h : Below w.heap.size w w') : Sat (base w) [] w' := ⟨h.os, h.tape, h.output, h.size, fun k hk _ => h.block k hk, trivial⟩
theorem Sat.below {B : Base} {H : List Chunk} {w : World} (h : Sat B H w) (hX : ∀ k, ¬ B.X k) : Below B.w.heap.size B.w w := ⟨h.os, h.tape, h.output, h.size, fun k hk => h.block k hk (hX k)⟩
theorem Sat.belowB {w0 : World} {H : List Chunk} {w : World} (h : Sat (base w0) H w) : Below w0.heap.size w0 w := h.below fun _ h => h
theorem Sat.start (w : World) : Sat (base w) [] w := .of_below (Below.refl _ _)

theorem AllP.append {B : Base} {w : World} : ∀ {G H : List Chunk}, AllP B w G → AllP B w H → (∀ c ∈ G, ∀ d ∈ H, ∀ k, c.foot k → ¬ d.foot k) → AllP B w (G ++ H)
  | [], _, _, h, _ => h
  | c :: G, H, hG, hH, hx => ⟨hG.1, hG.2.1, fun d hd k hk => by
      rcases List.mem_append.1 hd with hd | hd
      · exact hG.2.2.1 d hd k hk
      · exact hx c (List.mem_cons_self ..) d hd k hk, AllP.append hG.2.2.2 hH (fun c hc => hx c (List.mem_cons_of_mem _ hc))⟩

/-- What a call hands back, of new blocks, joins the chunks. -/
theorem Sat.join {B : Base} {H G : List Chunk} {w w' : World} (h : Sat B H w) (hg : Sat (base w) G w') : Sat B (G ++ H) w' := by
  have h' := h.grow hg.belowB
  refine ⟨h'.os, h'.tape, h'.output, h'.size, h'.block, AllP.append ?_ h'.all fun c hc d hd k hk hk' => ?_⟩
  · have : ∀ {G : List Chunk}, AllP (base w) w' G → AllP B w' G := by
      intro G
      induction G with
      | nil => intro _; trivial
      | cons c G ih => intro hG; exact ⟨hG.1, fun k hk => by
          rcases hG.2.1 k hk with h1 | h1
          · exact .inl (Nat.le_trans h.size h1)
          · exact h1.elim, hG.2.2.1, ih hG.2.2.2⟩
    exact this hg.all
  · rcases (hg.all.mem c hc).2 k hk with h1 | h1
    · have := h.lt hd k hk'
      have h1 : w.heap.size ≤ k := h1
      omega
    · exact h1.elim

theorem AllP.split {B : Base} {w : World} : ∀ {G H : List Chunk}, AllP B w (G ++ H) → AllP B w G ∧ AllP B w H ∧ (∀ c ∈ G, ∀ d ∈ H, ∀ k, c.foot k → ¬ d.foot k)
  | [], _, h => ⟨trivial, h, fun c hc => by cases hc⟩
  | c :: G, H, h => by
    obtain ⟨h1, h2, h3⟩ := AllP.split h.2.2.2
    refine ⟨⟨h.1, h.2.1, fun d hd => h.2.2.1 d (List.mem_append_left _ hd), h1⟩, h2, fun d hd e he k hk => ?_⟩
    rcases List.mem_cons.1 hd with rfl | hd
    · exact h.2.2.1 e (List.mem_append_right _ he) k hk
    · exact h3 d hd e he k hk

/-- A call that writes the chunks G of the caller. -/
theorem Sat.frame {B : Base} {G G' H : List Chunk} {w w' : World} (h : Sat B (G ++ H) w) (hg : Sat ⟨w, feet G⟩ G' w') : Sat B (G' ++ H) w' := by
  obtain ⟨a1, a2, a3⟩ := h.all.split
  have keepH : ∀ {H : List Chunk}, (∀ c ∈ G, ∀ d ∈ H, ∀ k, c.foot k → ¬ d.foot k) → AllP B w H → AllP B w' H := by
    intro H
    induction H with
    | nil => intro _ _; trivial
    | cons d H ih =>
      intro hx hH
      refine ⟨d.loc w w' (fun k hk => hg.block k (d.lt w hH.1 k hk) ?_) hH.1, hH.2.1, hH.2.2.1, ih (fun c hc e he => hx c hc e (List.mem_cons_of_mem _ he)) hH.2.2.2⟩
      rintro ⟨c, hc, hk'⟩
      exact hx c hc d (List.mem_cons_self ..) k hk' hk
  have turnG : ∀ {G' : List Chunk}, AllP ⟨w, feet G⟩ w' G' → AllP B w' G' := by
    intro G'
    induction G' with
    | nil => intro _; trivial
    | cons c G' ih => intro hG'; exact ⟨hG'.1, fun k hk => by
        rcases hG'.2.1 k hk with h1 | ⟨d, hd, hk'⟩
        · exact .inl (Nat.le_trans h.size h1)
        · exact (a1.mem d hd).2 k hk', hG'.2.2.1, ih hG'.2.2.2⟩
  refine ⟨hg.os.trans h.os, hg.tape.trans h.tape, hg.output.trans h.output, Nat.le_trans h.size hg.size, fun k hk hx => ?_, AllP.append (turnG hg.all) (keepH a3 a2) fun c hc d hd k hk hk' => ?_⟩
  · rw [hg.block k (Nat.lt_of_lt_of_le hk h.size) ?_]
    · exact h.block k hk hx
    · rintro ⟨c, hc, hk'⟩
      rcases (a1.mem c hc).2 k hk' with h1 | h1
      · omega
      · exact hx h1
  · rcases (hg.all.mem c hc).2 k hk with h1 | ⟨e, he, hk2⟩
    · have := d.lt w (a2.mem d hd).1 k hk'
      have h1 : w.heap.size ≤ k := h1
      omega
    · exact a3 e he d hd k hk2 hk'

/-- A call that wrote one chunk. -/
theorem Sat.ofGrown {w w' : World} {c c' : Chunk} {r : Option Nat} (hg : w.grownBy w' r) (hr : ∀ k, r = some k → c.foot k) (hc : c'.p w') (hf : ∀ k, c'.foot k → c.foot k ∨ w.heap.size ≤ k) : Sat ⟨w, feet [c]⟩ [c'] w' := by
  refine ⟨hg.os, hg.tape, hg.output, hg.size, fun k hk hx => hg.block k hk (fun e => hx ⟨c, List.mem_cons_self .., hr k e.symm⟩), hc, fun k hk => ?_, (fun d hd => by cases hd), trivial⟩
  rcases hf k hk with h | h
  · exact .inr ⟨c, List.mem_cons_self .., h⟩
  · exact .inl h
/-! ### Chunks of everyday -/
def blkC (b : Nat) (cs : List Value) (T : TypeId) : Chunk where
  foot := fun k => k = b
  p := fun w => Blk w b cs T
  loc := fun w w' h hp => by unfold Blk at hp ⊢; rw [h b rfl]; exact hp
  lt := fun w hp k hk => by subst hk; exact hp.lt

def mapC {K : Type} [DecidableEq K] (enc : K → Value) (b : Nat) (m : List (K × Value)) : Chunk where
  foot := fun k => k = b
  p := fun w => MapAt enc w b m
  loc := fun w w' h hp => by
    obtain ⟨es, clock, h1, h2, h3⟩ := hp
    exact ⟨es, clock, by rw [h b rfl]; exact h1, h2, h3⟩
  lt := fun w hp k hk => by
    obtain ⟨es, clock, h1, _⟩ := hp
    subst hk; exact (Array.getElem?_eq_some_iff.1 h1).1

/-- An own slice's chunk, at whatever base its block lies. -/
theorem ownsRow_zero {w : World} {B e sz n : Nat} {v : Value} {xs : List Value} (h : w.ownsRow B e sz v n xs) : w.ownsRow 0 e sz v n xs := by
  refine ⟨h.1, ?_⟩
  rcases h.2 with h' | ⟨g, cap, cur, hv, h1, h2⟩
  · exact .inl h'
  · exact .inr ⟨g, cap, cur, hv, Nat.zero_le _, h2⟩
theorem ownsRow_at {w : World} {B e sz n : Nat} {v : Value} {xs : List Value} (h : w.ownsRow 0 e sz v n xs) (hb : ∀ k, v.ownBlock = some k → B ≤ k) : w.ownsRow B e sz v n xs := by
  refine ⟨h.1, ?_⟩
  rcases h.2 with h' | ⟨g, cap, cur, rfl, h1, h2⟩
  · exact .inl h'
  · exact .inr ⟨g, cap, cur, rfl, hb g rfl, h2⟩
theorem ownsRow_ge {w : World} {B e sz n : Nat} {v : Value} {xs : List Value} (h : w.ownsRow B e sz v n xs) : ∀ k, v.ownBlock = some k → B ≤ k := by
  intro k hk
  rcases h.2 with ⟨rfl, _⟩ | ⟨g, cap, cur, rfl, h1, h2⟩
  · cases hk
  · cases hk; exact h1

/-! ### Runs over a symbolic heap -/
def HR (P : Program) (f : FuncId) (N : Nat) (k : List Item) (σ : Store) (B : Base) (H : List Chunk) (R : Ending → World → Prop) : Prop := ∀ w, Sat B H w → Run P f N k σ w R
def HL (P : Program) (N : Nat) (ops l : List Oper) (σ : Store) (B : Base) (H : List Chunk) (K : Act → World → Prop) : Prop := ∀ w, Sat B H w → RunL P N ops l σ w K

/-- One heap says all that another says. -/
def Ent (B : Base) (H H' : List Chunk) : Prop := ∀ w, Sat B H w → Sat B H' w
theorem Ent.refl {B : Base} {H : List Chunk} : Ent B H H := fun _ h => h
theorem Ent.pick {B : Base} {H H' : List Chunk} (is : List Nat) (hp : pickC H is = some H') (hd : distinctN is = true) : Ent B H H' := fun w h => h.pick is hp hd
theorem Ent.trans {B : Base} {H H' H'' : List Chunk} (h : Ent B H H') (h' : Ent B H' H'') : Ent B H H'' := fun w hw => h' w (h w hw)
theorem Ent.of_eq {B : Base} {H H' : List Chunk} (h : H = H') : Ent B H H' := fun w hw => h ▸ hw

section
variable {P : Program} {f : FuncId} {N : Nat} {k : List Item} {σ : Store} {B : Base} {H H' : List Chunk} {R : Ending → World → Prop} {ops l : List Oper} {o : Oper} {K : Act → World → Prop}

theorem calls_hr {fn : Func} {c : Code} {args : Array Value} {w : World} (hf : P.funcs[f]? = some fn) (hb : fn.body = some c) (hN : args.size ≤ fn.ntmps)
    (h : HR P f fn.ntmps [.code c] (args.toList.zipIdx.map fun (v, i) => (i, v)) (base w) [] R) : Calls P f args w R := calls_of_run hf hb hN (h w (Sat.start w))
/-- A function that writes what the caller holds. -/
theorem calls_hrW {fn : Func} {c : Code} {args : Array Value} {w : World} (G : List Chunk) (hG : Sat B G w) (hf : P.funcs[f]? = some fn) (hb : fn.body = some c) (hN : args.size ≤ fn.ntmps)
    (h : HR P f fn.ntmps [.code c] (args.toList.zipIdx.map fun (v, i) => (i, v)) ⟨w, feet G⟩ G R) : Calls P f args w R := by
  refine calls_of_run hf hb hN (h w ⟨rfl, rfl, rfl, Nat.le_refl _, fun _ _ _ => rfl, ?_⟩)
  have : ∀ {G' : List Chunk}, (∀ c ∈ G', c ∈ G) → AllP B w G' → AllP ⟨w, feet G⟩ w G' := by
    intro G'
    induction G' with
    | nil => intro _ _; trivial
    | cons c G' ih => intro hm ha; exact ⟨ha.1, fun k hk => .inr ⟨c, hm c (List.mem_cons_self ..), hk⟩, ha.2.2.1, ih (fun d hd => hm d (List.mem_cons_of_mem _ hd)) ha.2.2.2⟩
  exact this (fun _ h => h) hG.all

theorem HR.sub {σ' : Store} (hs : Sub σ' σ) (h : HR P f N k σ' B H R) : HR P f N k σ B H R := fun w hw => Run.sub hs (h w hw)
theorem HR.ent (he : Ent B H H') (h : HR P f N k σ B H' R) : HR P f N k σ B H R := fun w hw => h w (he w hw)
theorem HR.ctl {k' : List Item} (hk : ctl k = some k') (h : HR P f N k' σ B H R) : HR P f N k σ B H R := fun w hw => Run.ctl hk (h w hw)
theorem HR.region {id : Nat} (h : HL P N ops ops σ B H (CRun P f k R)) : HR P f N (.code (.region id ops.toArray false) :: k) σ B H R := fun w hw => Run.region (h w hw)
theorem HR.cond {t : Nat} {b : Bool} {x y : Code} (hl : look σ t = some (.bool b)) (ht : b = true → HR P f N (.code x :: k) σ B H R) (hf : b = false → HR P f N (.code y :: k) σ B H R) :
    HR P f N (.code (.cond (.tmp t) x y) :: k) σ B H R := fun w hw => Run.cond hl (fun e => ht e w hw) (fun e => hf e w hw)
theorem HR.condT {t : Nat} {x y : Code} (hl : look σ t = some (.bool true)) (h : HR P f N (.code x :: k) σ B H R) : HR P f N (.code (.cond (.tmp t) x y) :: k) σ B H R := fun w hw => Run.condT hl (h w hw)
theorem HR.condF {t : Nat} {x y : Code} (hl : look σ t = some (.bool false)) (h : HR P f N (.code y :: k) σ B H R) : HR P f N (.code (.cond (.tmp t) x y) :: k) σ B H R := fun w hw => Run.condF hl (h w hw)
/-- What is behind is walked once. -/
theorem HR.join {x : Code} {ι : Type} (Inv : ι → Prop) (st : ι → Store) (hp : ι → List Chunk) (hj : ∀ i, Inv i → HR P f N k (st i) B (hp i) R)
    (h : (∀ i σ' H', Inv i → Sub (st i) σ' → Ent B H' (hp i) → HR P f N k σ' B H' R) → HR P f N (.code x :: k) σ B H R) : HR P f N (.code x :: k) σ B H R :=
  h fun i σ' H' h1 h2 h3 => HR.sub h2 (HR.ent h3 (hj i h1))

theorem HR.loop {c : Code} {ι : Type} (Inv : ι → Prop) (st : ι → Store) (hp : ι → List Chunk) (μ : ι → Nat) (i0 : ι) (h0 : Inv i0) (hσ : Sub (st i0) σ) (hH : Ent B H (hp i0))
    (round : ∀ i, Inv i → (∀ i' σ' H', Inv i' → μ i' < μ i → Sub (st i') σ' → Ent B H' (hp i') → HR P f N (.inLoop c :: k) σ' B H' R) → HR P f N (.code c :: .inLoop c :: k) (st i) B (hp i) R) :
    HR P f N (.code (.loop c) :: k) σ B H R := by
  intro w hw
  refine Run.loop (fun i w => Inv i ∧ Sat B (hp i) w) st μ i0 ⟨h0, hH w hw⟩ hσ fun i w ⟨hI, hS⟩ ih => round i hI (fun i' σ' H' h1 h2 h3 h4 w' hw' => ih i' w' σ' ⟨h1, h4 w' hw'⟩ h2 h3) w hS
theorem HR.loop2 {c : Code} {α β : Type} (Inv : α → β → Prop) (st : α → β → Store) (hp : α → β → List Chunk) (μ : α → β → Nat) (a0 : α) (b0 : β) (h0 : Inv a0 b0) (hσ : Sub (st a0 b0) σ) (hH : Ent B H (hp a0 b0))
    (round : ∀ a b, Inv a b → (∀ a' b' σ' H', Inv a' b' → μ a' b' < μ a b → Sub (st a' b') σ' → Ent B H' (hp a' b') → HR P f N (.inLoop c :: k) σ' B H' R) → HR P f N (.code c :: .inLoop c :: k) (st a b) B (hp a b) R) :
    HR P f N (.code (.loop c) :: k) σ B H R :=
  HR.loop (ι := α × β) (fun i => Inv i.1 i.2) (fun i => st i.1 i.2) (fun i => hp i.1 i.2) (fun i => μ i.1 i.2) (a0, b0) h0 hσ hH fun i hI ih => round i.1 i.2 hI fun a' b' => ih (a', b')
theorem HR.loop3 {c : Code} {α β γ : Type} (Inv : α → β → γ → Prop) (st : α → β → γ → Store) (hp : α → β → γ → List Chunk) (μ : α → β → γ → Nat) (a0 : α) (b0 : β) (c0 : γ) (h0 : Inv a0 b0 c0) (hσ : Sub (st a0 b0 c0) σ) (hH : Ent B H (hp a0 b0 c0))
    (round : ∀ a b g, Inv a b g → (∀ a' b' g' σ' H', Inv a' b' g' → μ a' b' g' < μ a b g → Sub (st a' b' g') σ' → Ent B H' (hp a' b' g') → HR P f N (.inLoop c :: k) σ' B H' R) → HR P f N (.code c :: .inLoop c :: k) (st a b g) B (hp a b g) R) :
    HR P f N (.code (.loop c) :: k) σ B H R :=
  HR.loop (ι := α × β × γ) (fun i => Inv i.1 i.2.1 i.2.2) (fun i => st i.1 i.2.1 i.2.2) (fun i => hp i.1 i.2.1 i.2.2) (fun i => μ i.1 i.2.1 i.2.2) (a0, b0, c0) h0 hσ hH fun i hI ih => round i.1 i.2.1 i.2.2 hI fun a' b' c' => ih (a', b', c')

theorem HR.loop4 {c : Code} {α β γ δ : Type} (Inv : α → β → γ → δ → Prop) (st : α → β → γ → δ → Store) (hp : α → β → γ → δ → List Chunk) (μ : α → β → γ → δ → Nat) (a0 : α) (b0 : β) (c0 : γ) (d0 : δ) (h0 : Inv a0 b0 c0 d0) (hσ : Sub (st a0 b0 c0 d0) σ) (hH : Ent B H (hp a0 b0 c0 d0))
    (round : ∀ a b g e, Inv a b g e → (∀ a' b' g' e' σ' H', Inv a' b' g' e' → μ a' b' g' e' < μ a b g e → Sub (st a' b' g' e') σ' → Ent B H' (hp a' b' g' e') → HR P f N (.inLoop c :: k) σ' B H' R) → HR P f N (.code c :: .inLoop c :: k) (st a b g e) B (hp a b g e) R) :
    HR P f N (.code (.loop c) :: k) σ B H R :=
  HR.loop (ι := α × β × γ × δ) (fun i => Inv i.1 i.2.1 i.2.2.1 i.2.2.2) (fun i => st i.1 i.2.1 i.2.2.1 i.2.2.2) (fun i => hp i.1 i.2.1 i.2.2.1 i.2.2.2) (fun i => μ i.1 i.2.1 i.2.2.1 i.2.2.2) (a0, b0, c0, d0) h0 hσ hH fun i hI ih => round i.1 i.2.1 i.2.2.1 i.2.2.2 hI fun a' b' c' d' => ih (a', b', c', d')

theorem HR.loop5 {c : Code} {α β γ δ ε : Type} (Inv : α → β → γ → δ → ε → Prop) (st : α → β → γ → δ → ε → Store) (hp : α → β → γ → δ → ε → List Chunk) (μ : α → β → γ → δ → ε → Nat) (a0 : α) (b0 : β) (c0 : γ) (d0 : δ) (e0 : ε) (h0 : Inv a0 b0 c0 d0 e0) (hσ : Sub (st a0 b0 c0 d0 e0) σ) (hH : Ent B H (hp a0 b0 c0 d0 e0))
    (round : ∀ a b g e x, Inv a b g e x → (∀ a' b' g' e' x' σ' H', Inv a' b' g' e' x' → μ a' b' g' e' x' < μ a b g e x → Sub (st a' b' g' e' x') σ' → Ent B H' (hp a' b' g' e' x') → HR P f N (.inLoop c :: k) σ' B H' R) → HR P f N (.code c :: .inLoop c :: k) (st a b g e x) B (hp a b g e x) R) :
    HR P f N (.code (.loop c) :: k) σ B H R :=
  HR.loop (ι := α × β × γ × δ × ε) (fun i => Inv i.1 i.2.1 i.2.2.1 i.2.2.2.1 i.2.2.2.2) (fun i => st i.1 i.2.1 i.2.2.1 i.2.2.2.1 i.2.2.2.2) (fun i => hp i.1 i.2.1 i.2.2.1 i.2.2.2.1 i.2.2.2.2) (fun i => μ i.1 i.2.1 i.2.2.1 i.2.2.2.1 i.2.2.2.2) (a0, b0, c0, d0, e0) h0 hσ hH fun i hI ih => round i.1 i.2.1 i.2.2.1 i.2.2.2.1 i.2.2.2.2 hI fun a' b' c' d' e' => ih (a', b', c', d', e')

theorem HR.ret {fn : Func} {l : List ResultVar} (hf : P.funcs[f]? = some fn) (hl : fn.results = l.toArray) (vs : List Value) (hr : ∀ w, Sat B H w → ResR P w σ l vs) (hR : ∀ w, Sat B H w → R (.returned (resV vs)) w) : HR P f N (.code .ret :: k) σ B H R :=
  fun w hw => Run.ret hf hl vs (hr w hw) (hR w hw)
theorem HR.fin {fn : Func} {l : List ResultVar} (hf : P.funcs[f]? = some fn) (hl : fn.results = l.toArray) (vs : List Value) (hr : ∀ w, Sat B H w → ResR P w σ l vs) (hR : ∀ w, Sat B H w → R (.returned (resV vs)) w) : HR P f N [] σ B H R :=
  fun w hw => Run.fin hf hl vs (hr w hw) (hR w hw)

/-! ### Operations -/
theorem HL.nil (h : HR P f N k σ B H R) : HL P N ops [] σ B H (CRun P f k R) := fun w hw => RunL.nil (h w hw)
theorem HL.ent (he : Ent B H H') (h : HL P N ops l σ B H' K) : HL P N ops l σ B H K := fun w hw => h w (he w hw)
/-- A chunk is said otherwise. -/
theorem HL.as {c c' : Chunk} (i : Nat) (hi : nthC H i = some c) (hc' : ∀ w, c.p w → c'.p w) (hf : ∀ k, c'.foot k → c.foot k) (h : HL P N ops l σ B (setC H i c') K) : HL P N ops l σ B H K :=
  fun w hw => h w (hw.as i hi (hc' w) hf)
theorem HR.as {c c' : Chunk} (i : Nat) (hi : nthC H i = some c) (hc' : ∀ w, c.p w → c'.p w) (hf : ∀ k, c'.foot k → c.foot k) (h : HR P f N k σ B (setC H i c') R) : HR P f N k σ B H R :=
  fun w hw => h w (hw.as i hi (hc' w) hf)
/-- A fact that the chunks grant. -/
theorem HL.know {Q : Prop} (hq : ∀ w, Sat B H w → Q) (h : Q → HL P N ops l σ B H K) : HL P N ops l σ B H K := fun w hw => h (hq w hw) w hw
theorem HR.know {Q : Prop} (hq : ∀ w, Sat B H w → Q) (h : Q → HR P f N k σ B H R) : HR P f N k σ B H R := fun w hw => h (hq w hw) w hw

variable {d : Nat} {op : Op} {ty : TypeId} {pos : String} {af : Array Edge} {gd : Option (Nat × Bool)} {v : Value}
theorem HL.rd (hs : stat N ops ⟨some d, op, ty, pos, af, gd⟩ σ = true) (hr : ∀ w, Sat B H w → (execOp (evO σ) ⟨some d, op, ty, pos, af, gd⟩).run P w = .ok (.value v) w) (h : HL P N ops l ((d, v) :: σ) B H K) :
    HL P N ops (⟨some d, op, ty, pos, af, gd⟩ :: l) σ B H K := fun w hw => RunL.op hs (hr w hw) (h w hw)
theorem HL.ev (hs : stat N ops ⟨some d, op, ty, pos, af, gd⟩ σ = true) (he : evOp P σ op = some v) (h : HL P N ops l ((d, v) :: σ) B H K) : HL P N ops (⟨some d, op, ty, pos, af, gd⟩ :: l) σ B H K :=
  fun w hw => RunL.ev hs he (h w hw)
theorem HL.ev0 (hs : stat N ops ⟨none, op, ty, pos, af, gd⟩ σ = true) (he : evOp P σ op = some v) (h : HL P N ops l σ B H K) : HL P N ops (⟨none, op, ty, pos, af, gd⟩ :: l) σ B H K :=
  fun w hw => RunL.ev0 hs he (h w hw)
theorem HL.evc {c : Prop} (hs : stat N ops ⟨some d, op, ty, pos, af, gd⟩ σ = true) (he : evC P σ op = some (v, c)) (hc : c) (h : HL P N ops l ((d, v) :: σ) B H K) : HL P N ops (⟨some d, op, ty, pos, af, gd⟩ :: l) σ B H K :=
  fun w hw => RunL.evc hs he hc (h w hw)
theorem HL.skip (hw : wantedS ops gd σ = some false) (hd : dstOk N (some d) = true) (h : HL P N ops l ((d, undef) :: σ) B H K) : HL P N ops (⟨some d, op, ty, pos, af, gd⟩ :: l) σ B H K :=
  fun w hs => RunL.skip hw hd (h w hs)
theorem HL.skip0 (hw : wantedS ops gd σ = some false) (h : HL P N ops l σ B H K) : HL P N ops (⟨none, op, ty, pos, af, gd⟩ :: l) σ B H K :=
  fun w hs => RunL.skip0 hw (h w hs)
/-- An operation that yields a value and turns the heap; x: what is not known of it. -/
theorem HL.opX {α : Type} (val : α → Value) (G : α → List Chunk) (Q : α → Prop) (hs : stat N ops ⟨some d, op, ty, pos, af, gd⟩ σ = true)
    (hr : ∀ w, Sat B H w → ∃ x w', (execOp (evO σ) ⟨some d, op, ty, pos, af, gd⟩).run P w = .ok (.value (val x)) w' ∧ Q x ∧ Sat B (G x) w') (h : ∀ x, Q x → HL P N ops l ((d, val x) :: σ) B (G x) K) : HL P N ops (⟨some d, op, ty, pos, af, gd⟩ :: l) σ B H K := by
  intro w hw
  obtain ⟨x, w', h1, h2, h3⟩ := hr w hw
  exact RunL.op hs h1 (h x h2 w' h3)
theorem HL.opU (hs : stat N ops ⟨none, op, ty, pos, af, gd⟩ σ = true)
    (hr : ∀ w, Sat B H w → ∃ w', (execOp (evO σ) ⟨none, op, ty, pos, af, gd⟩).run P w = .ok .skip w' ∧ Sat B H' w') (h : HL P N ops l σ B H' K) : HL P N ops (⟨none, op, ty, pos, af, gd⟩ :: l) σ B H K := by
  intro w hw
  obtain ⟨w', h1, h2⟩ := hr w hw
  exact RunL.opU hs h1 (h w' h2)
theorem HL.op0 {α : Type} (val : α → Value) (G : α → List Chunk) (Q : α → Prop) (hs : stat N ops ⟨none, op, ty, pos, af, gd⟩ σ = true)
    (hr : ∀ w, Sat B H w → ∃ x w', (execOp (evO σ) ⟨none, op, ty, pos, af, gd⟩).run P w = .ok (.value (val x)) w' ∧ Q x ∧ Sat B (G x) w') (h : ∀ x, Q x → HL P N ops l σ B (G x) K) : HL P N ops (⟨none, op, ty, pos, af, gd⟩ :: l) σ B H K := by
  intro w hw
  obtain ⟨x, w', h1, h2, h3⟩ := hr w hw
  exact RunL.op0 hs h1 (h x h2 w' h3)

theorem HL.setV (t : Nat) {v v' : Value} (hl : look σ t = some v) (e : v = v') (h : HL P N ops l ((t, v') :: σ) B H K) : HL P N ops l σ B H K := fun w hw => RunL.setV t hl e (h w hw)
theorem HL.setB (t : Nat) {b : Bool} (c : Bool) (hl : look σ t = some (.bool b)) (e : b = c) (h : HL P N ops l ((t, .bool c) :: σ) B H K) : HL P N ops l σ B H K := fun w hw => RunL.setB t c hl e (h w hw)
theorem Run.setV {w : World} (t : Nat) {v v' : Value} (hl : look σ t = some v) (e : v = v') (h : Run P f N k ((t, v') :: σ) w R) : Run P f N k σ w R :=
  fun a ha => h a (ha.weaken fun t' u hu => by
    rw [look_cons] at hu
    split at hu
    · rename_i e'; subst e'; cases hu; rw [← e]; exact hl
    · exact hu)
theorem HR.setV (t : Nat) {v v' : Value} (hl : look σ t = some v) (e : v = v') (h : HR P f N k ((t, v') :: σ) B H R) : HR P f N k σ B H R := fun w hw => Run.setV t hl e (h w hw)
theorem HR.setB (t : Nat) {b : Bool} (c : Bool) (hl : look σ t = some (.bool b)) (e : b = c) (h : HR P f N k ((t, .bool c) :: σ) B H R) : HR P f N k σ B H R := HR.setV t hl (by rw [e]) h

/-! ### and, or -/
theorem HL.andB {tj te n dp : Nat} {b e : Bool} {rest : List Oper}
    (hg : gslot ops o = some (tj, true)) (hl : look σ tj = some (.bool b)) (hn : cutPick tj (o :: l) = some n)
    (hd : (o :: l).drop n = ⟨some dp, .pick (.tmp tj) (.tmp te) (.const (.bool false)), ty, pos, af, gd⟩ :: rest)
    (hgd : wantedS ops gd σ = some true) (hte : look σ te = none) (hok : blkOk N ops tj true n σ (o :: l) = true) (hdp : dstOk N (some dp) = true)
    (h1 : b = true → HL P N ops ((o :: l).take n) ((tj, .bool true) :: σ) B H (fun a' w' => Sat B H w' ∧ Agr N ((te, .bool e) :: (tj, .bool true) :: σ) a'))
    (h2 : HL P N ops rest ((dp, .bool (b && e)) :: σ) B H K) : HL P N ops (o :: l) σ B H K :=
  fun w hw => RunL.blk (want := true) (C := fun w' => Sat B H w') hw hl hte hd hgd (.inl ⟨rfl, rfl, rfl⟩) hok hdp (fun e => h1 e w hw) (fun w' hw' => h2 w' hw')
theorem HL.orB {tj te n dp : Nat} {b e : Bool} {rest : List Oper}
    (hg : gslot ops o = some (tj, false)) (hl : look σ tj = some (.bool b)) (hn : cutPick tj (o :: l) = some n)
    (hd : (o :: l).drop n = ⟨some dp, .pick (.tmp tj) (.const (.bool true)) (.tmp te), ty, pos, af, gd⟩ :: rest)
    (hgd : wantedS ops gd σ = some true) (hte : look σ te = none) (hok : blkOk N ops tj false n σ (o :: l) = true) (hdp : dstOk N (some dp) = true)
    (h1 : b = false → HL P N ops ((o :: l).take n) ((tj, .bool false) :: σ) B H (fun a' w' => Sat B H w' ∧ Agr N ((te, .bool e) :: (tj, .bool false) :: σ) a'))
    (h2 : HL P N ops rest ((dp, .bool (b || e)) :: σ) B H K) : HL P N ops (o :: l) σ B H K :=
  fun w hw => RunL.blk (want := false) (C := fun w' => Sat B H w') hw hl hte hd hgd (.inr ⟨rfl, rfl, rfl⟩) hok hdp (fun e => h1 e w hw) (fun w' hw' => h2 w' hw')
theorem HL.blkEnd {te : Nat} {e : Bool} {σ₀ : Store} (he : look σ te = some (.bool e)) (hp : popTo (lenS σ - lenS σ₀) σ = some σ₀) (hH : Ent B H H') : HL P N ops [] σ B H (fun a' w' => Sat B H' w' ∧ Agr N ((te, .bool e) :: σ₀) a') :=
  fun w hw a ha => wpList_nil ⟨rfl, hH w hw, ha.weaken (fun t v hv => by
    rw [look_cons] at hv
    split at hv
    · rename_i e'; subst e'; cases hv; exact he
    · exact popTo_spec hp t v hv)⟩

/-! ### Calls -/
/-- By a contract: x: what is not known of the result; G: what the call made. -/
theorem HL.callX {α : Type} {r : α → Value} {Q : α → Prop} {G : α → List Chunk} {g : FuncId} {args : List Operand} {a1 : List Value} {tys : Array TypeId} (hg : IsFn P g)
    (hs : stat N ops ⟨some d, .call ⟨.value (.func g), args.toArray, tys⟩, ty, pos, af, gd⟩ σ = true) (ha : vals σ args = some a1)
    (hc : ∀ w, Sat B H w → Calls P g a1.toArray w fun e w' => ∃ x, e = .returned (r x) ∧ Q x ∧ Sat (base w) (G x) w')
    (h : ∀ x, Q x → HL P N ops l ((d, r x) :: σ) B (G x ++ H) K) : HL P N ops (⟨some d, .call ⟨.value (.func g), args.toArray, tys⟩, ty, pos, af, gd⟩ :: l) σ B H K :=
  fun w hw => RunL.call hg hs ha ((hc w hw).mono fun e w' ⟨x, h1, h2, h3⟩ => ⟨r x, h1, h x h2 w' (hw.join h3)⟩)
/-- The result is known, nothing is made. -/
theorem HL.callB {r : Value} {g : FuncId} {args : List Operand} {a1 : List Value} {tys : Array TypeId} (hg : IsFn P g)
    (hs : stat N ops ⟨some d, .call ⟨.value (.func g), args.toArray, tys⟩, ty, pos, af, gd⟩ σ = true) (ha : vals σ args = some a1)
    (hc : ∀ w, Sat B H w → Calls P g a1.toArray w fun e w' => e = .returned r ∧ Below w.heap.size w w')
    (h : HL P N ops l ((d, r) :: σ) B H K) : HL P N ops (⟨some d, .call ⟨.value (.func g), args.toArray, tys⟩, ty, pos, af, gd⟩ :: l) σ B H K :=
  fun w hw => RunL.call hg hs ha ((hc w hw).mono fun e w' ⟨h1, h2⟩ => ⟨r, h1, h w' (hw.grow h2)⟩)
theorem HL.callP {r : Value} {g : FuncId} {args : List Operand} {a1 : List Value} {tys : Array TypeId} (hg : IsFn P g)
    (hs : stat N ops ⟨some d, .call ⟨.value (.func g), args.toArray, tys⟩, ty, pos, af, gd⟩ σ = true) (ha : vals σ args = some a1)
    (hc : ∀ w, Calls P g a1.toArray w fun e w' => e = .returned r ∧ w' = w)
    (h : HL P N ops l ((d, r) :: σ) B H K) : HL P N ops (⟨some d, .call ⟨.value (.func g), args.toArray, tys⟩, ty, pos, af, gd⟩ :: l) σ B H K :=
  fun w hw => RunL.call hg hs ha ((hc w).mono fun e w' ⟨h1, h2⟩ => ⟨r, h1, by subst h2; exact h _ hw⟩)
/-- A call that writes the first chunks, G0. -/
theorem HL.callW {α : Type} {r : α → Value} {Q : α → Prop} {G0 H0 : List Chunk} {G : α → List Chunk} {g : FuncId} {args : List Operand} {a1 : List Value} {tys : Array TypeId} (hg : IsFn P g)
    (hs : stat N ops ⟨some d, .call ⟨.value (.func g), args.toArray, tys⟩, ty, pos, af, gd⟩ σ = true) (ha : vals σ args = some a1) (hH : H = G0 ++ H0)
    (hc : ∀ w, Sat B H w → Calls P g a1.toArray w fun e w' => ∃ x, e = .returned (r x) ∧ Q x ∧ Sat ⟨w, feet G0⟩ (G x) w')
    (h : ∀ x, Q x → HL P N ops l ((d, r x) :: σ) B (G x ++ H0) K) : HL P N ops (⟨some d, .call ⟨.value (.func g), args.toArray, tys⟩, ty, pos, af, gd⟩ :: l) σ B H K :=
  fun w hw => RunL.call hg hs ha ((hc w hw).mono fun e w' ⟨x, h1, h2, h3⟩ => ⟨r x, h1, h x h2 w' (Sat.frame (hH ▸ hw) h3)⟩)
theorem HL.callW0 {α : Type} {r : α → Value} {Q : α → Prop} {G0 H0 : List Chunk} {G : α → List Chunk} {g : FuncId} {args : List Operand} {a1 : List Value} {tys : Array TypeId} (hg : IsFn P g)
    (hs : stat N ops ⟨none, .call ⟨.value (.func g), args.toArray, tys⟩, ty, pos, af, gd⟩ σ = true) (ha : vals σ args = some a1) (hH : H = G0 ++ H0)
    (hc : ∀ w, Sat B H w → Calls P g a1.toArray w fun e w' => ∃ x, e = .returned (r x) ∧ Q x ∧ Sat ⟨w, feet G0⟩ (G x) w')
    (h : ∀ x, Q x → HL P N ops l σ B (G x ++ H0) K) : HL P N ops (⟨none, .call ⟨.value (.func g), args.toArray, tys⟩, ty, pos, af, gd⟩ :: l) σ B H K :=
  fun w hw => RunL.call0 hg hs ha ((hc w hw).mono fun e w' ⟨x, h1, h2, h3⟩ => ⟨r x, h1, h x h2 w' (Sat.frame (hH ▸ hw) h3)⟩)

/-! ### Drawn regions that only read -/
abbrev HQ (P : Program) (N : Nat) (ops l : List Oper) (σ : Store) (B : Base) (H : List Chunk) (K : Act → Prop) : Prop := RunQ P N (fun w => Sat B H w) ops l σ K

theorem HR.regionQ {id : Nat} (hm : P.follows .mixedOrders = true) (hB : Region.lexB .any ops.toArray = true)
    (h : HQ P N ops ops σ B H (fun a' => ∀ w', Sat B H w' → CRun P f k R a' w')) : HR P f N (.code (.region id ops.toArray true) :: k) σ B H R := by
  intro w hw a ha
  refine CRun.of_wp (wp_region_quiet (C := fun w' => Sat B H w') hm hB (hw.grow ⟨rfl, rfl, rfl, Nat.le_refl _, fun _ _ => rfl⟩) ?_)
  exact wpQuiet_mono (fun a' h w' hw' => ⟨rfl, h w' hw'⟩) (h a ha)
theorem HQ.nil (h : HR P f N k σ B H R) : HQ P N ops [] σ B H (fun a' => ∀ w', Sat B H w' → CRun P f k R a' w') := fun a ha w' hw' => h w' hw' a ha
theorem HQ.callB {KQ : Act → Prop} {r : Value} {g : FuncId} {args : List Operand} {a1 : List Value} {tys : Array TypeId} (hg : IsFn P g)
    (hs : stat N ops ⟨some d, .call ⟨.value (.func g), args.toArray, tys⟩, ty, pos, af, gd⟩ σ = true) (ha : vals σ args = some a1)
    (hc : ∀ w, Sat B H w → Calls P g a1.toArray w fun e w' => e = .returned r ∧ Below w.heap.size w w')
    (h : HQ P N ops l ((d, r) :: σ) B H KQ) : HQ P N ops (⟨some d, .call ⟨.value (.func g), args.toArray, tys⟩, ty, pos, af, gd⟩ :: l) σ B H KQ :=
  RunQ.call hg hs ha (fun w hw => (hc w hw).mono fun e w' ⟨h1, h2⟩ => ⟨h1, hw.grow h2⟩) h

/-- A drawn region along a plan; F: the chunks that stay as they are meanwhile. -/
def HD (P : Program) (N : Nat) (ops : List Oper) (p : List (Nat × Bool)) (σ : Store) (B : Base) (H F : List Chunk) (K : Act → World → Prop) : Prop := ∀ w, Sat B H w → RunD P N (fun w => Sat B F w) ops p σ w K
theorem HR.regionD {F : List Chunk} (p : List (Nat × Bool)) (is : List Nat) (hF : pickC H is = some F) (hd : distinctN is = true) {id : Nat} (hm : P.follows .mixedOrders = true) (hB : planOk ops.toArray p = true) (h : HD P N ops p σ B H F (CRun P f k R)) : HR P f N (.code (.region id ops.toArray true) :: k) σ B H R :=
  fun w hw => Run.regionDS p (fun w => Sat B F w) hm hB fun w1 h1 h2 => ⟨(hw.grow h1).pick is hF hd, h w1 (hw.grow h1)⟩
variable {F : List Chunk} {i : Nat} {p : List (Nat × Bool)}
theorem HD.nil (h : HR P f N k σ B H R) : HD P N ops [] σ B H F (CRun P f k R) := fun w hw => RunD.nil (h w hw)
theorem HD.rd (ho : ops[i]? = some ⟨some d, op, ty, pos, af, gd⟩) (hs : stat N ops ⟨some d, op, ty, pos, af, gd⟩ σ = true)
    (hr : ∀ w, Sat B F w → (execOp (evO σ) ⟨some d, op, ty, pos, af, gd⟩).run P w = .ok (.value v) w) (h : HD P N ops p ((d, v) :: σ) B H F K) : HD P N ops ((i, true) :: p) σ B H F K := fun w hw => RunD.rd ho hs hr (h w hw)
theorem HD.ev (ho : ops[i]? = some ⟨some d, op, ty, pos, af, gd⟩) (hs : stat N ops ⟨some d, op, ty, pos, af, gd⟩ σ = true) (he : evOp P σ op = some v) (h : HD P N ops p ((d, v) :: σ) B H F K) : HD P N ops ((i, true) :: p) σ B H F K :=
  fun w hw => RunD.ev ho hs he (h w hw)
theorem HD.evc {c : Prop} (ho : ops[i]? = some ⟨some d, op, ty, pos, af, gd⟩) (hs : stat N ops ⟨some d, op, ty, pos, af, gd⟩ σ = true) (he : evC P σ op = some (v, c)) (hc : c) (h : HD P N ops p ((d, v) :: σ) B H F K) : HD P N ops ((i, true) :: p) σ B H F K :=
  fun w hw => RunD.evc ho hs he hc (h w hw)
theorem HD.skip (ho : ops[i]? = some ⟨some d, op, ty, pos, af, gd⟩) (hw : wantedS ops gd σ = some false) (hd : dstOk N (some d) = true) (h : HD P N ops p ((d, undef) :: σ) B H F K) : HD P N ops ((i, true) :: p) σ B H F K :=
  fun w hs => RunD.skip ho hw hd (h w hs)
theorem HD.skipO (ho : ops[i]? = some ⟨some d, op, ty, pos, af, gd⟩) (hw : wantedS ops gd σ = some false) (hd : dstOk N (some d) = true) (h : HD P N ops p ((d, undef) :: σ) B H F K) : HD P N ops ((i, false) :: p) σ B H F K :=
  fun w hs => RunD.skipO ho hw hd (h w hs)
theorem HD.one (ho : ops[i]? = some o) (h : HL P N ops [o] σ B H (DK P (fun w => Sat B F w) ops p K)) : HD P N ops ((i, false) :: p) σ B H F K := fun w hw => RunD.one ho (h w hw)
theorem HL.back (is : List Nat) (hF : pickC H is = some F) (hd : distinctN is = true) (h : HD P N ops p σ B H F K) : HL P N ops [] σ B H (DK P (fun w => Sat B F w) ops p K) := fun w hw => RunL.back (hw.pick is hF hd) (h w hw)
end
end Go.GX
