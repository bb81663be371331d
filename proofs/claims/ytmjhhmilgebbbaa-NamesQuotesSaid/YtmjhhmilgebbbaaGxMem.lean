/- Memory: slices that came in, slices that the call makes and appends to, strings made of bytes, ranges over strings. Conditions: as each says. -/
import Derived.Test.YtmjhhmilgebbbaaGxRules
import Derived.Lib.OthersKept
import Derived.Lib.AppendStr
namespace Go.GX
open Go.RowKit
set_option linter.unusedVariables false

/-- An element type, by its slice's. -/
structure Elem (P : Program) (t e : TypeId) (sz bytes : Nat) : Prop where
  slice : P.underlying t = some (.slice e)
  info : ∃ i z, P.info? e = some i ∧ i.zero = some z ∧ i.size = sz ∧ i.bytes = bytes ∧ z.cells.size = sz
  pos : 0 < sz

theorem grownBy_trans {a b c : World} {r : Option Nat} (h : a.grownBy b r) (k : b.grownBy c r) : a.grownBy c r :=
  ⟨k.os.trans h.os, k.tape.trans h.tape, k.output.trans h.output, Nat.le_trans h.size k.size, fun i hi hr => (k.block i (Nat.lt_of_lt_of_le hi h.size) hr).trans (h.block i hi hr)⟩

theorem grownBy_refl (w : World) (r : Option Nat) : w.grownBy w r := ⟨rfl, rfl, rfl, Nat.le_refl _, fun _ _ _ => rfl⟩

theorem below_grown {w w' : World} (h : w.grownBy w' none) : Below w.heap.size w w' := ⟨h.os, h.tape, h.output, h.size, fun k hk => h.block k hk (by simp)⟩
theorem grown_below {w w' : World} {r : Option Nat} (h : Below w.heap.size w w') : w.grownBy w' r := ⟨h.os, h.tape, h.output, h.size, fun k hk _ => h.block k hk⟩

/-! ### A slice that can be read: its elements' cells -/
def IsSl (w : World) (v : Value) (cs : List Value) (n : Nat) : Prop :=
  ((v = .slice none 0 0 ∨ ∃ a c, v = .slice (some a) 0 c) ∧ n = 0 ∧ cs = []) ∨ ∃ b off cap, v = .slice (some ⟨b, off, none⟩) n cap ∧ ∀ j u, cs[j]? = some u → w.cell? ⟨b, off + j, none⟩ = some u

theorem IsSl.nil (w : World) : IsSl w (.slice none 0 0) [] 0 := .inl ⟨.inl rfl, rfl, rfl⟩

/-- The place of cell j. -/
def elemPtr (v : Value) (j : Nat) : Value :=
  match v with
  | .slice (some ⟨b, off, _⟩) _ _ => .pointer (some ⟨b, off + j, none⟩)
  | _ => undef

theorem IsSl.below {w w' : World} {v : Value} {cs : List Value} {n : Nat} {B : Nat} (h : IsSl w v cs n) (hb : Below B w w') (hB : ∀ b, v.ownBlock = some b → b < B) : IsSl w' v cs n := by
  rcases h with h | ⟨b, off, cap, hv, hc⟩
  · exact .inl h
  · refine .inr ⟨b, off, cap, hv, fun j u hu => ?_⟩
    have hlt := hB b (by subst hv; rfl)
    have := hb.cell (p := ⟨b, off + j, none⟩) hlt
    rw [this]; exact hc j u hu

theorem IsSl.lt {w : World} {v : Value} {cs : List Value} {n : Nat} (h : IsSl w v cs n) (hc : cs ≠ []) : ∀ b, v.ownBlock = some b → b < w.heap.size := by
  rcases h with h | ⟨b, off, cap, hv, hc'⟩
  · exact absurd h.2.2 hc
  · intro b' hb'
    subst hv
    simp [Value.ownBlock] at hb'
    subst hb'
    cases cs with
    | nil => exact absurd rfl hc
    | cons u r => exact World.block_lt_of_cell? w ⟨b, off + 0, none⟩ (hc' 0 u rfl)

/-- It reads the same in a world that has grown. -/
theorem IsSl.ext {w w' : World} {v : Value} {cs : List Value} {n : Nat} (h : IsSl w v cs n) (hb : Below w.heap.size w w') : IsSl w' v cs n := by
  by_cases hc : cs = []
  · subst hc
    rcases h with h | ⟨b, off, cap, hv, _⟩
    · exact .inl h
    · exact .inr ⟨b, off, cap, hv, fun j u hu => by simp at hu⟩
  · exact h.below hb (h.lt hc)

theorem IsSl.kept {w w' : World} {v : Value} {cs : List Value} {n : Nat} {r : Option Nat} (h : IsSl w v cs n) (hb : w.grownBy w' r) (hne : ∀ b, v.ownBlock = some b → some b ≠ r) : IsSl w' v cs n := by
  rcases h with h | ⟨b, off, cap, hv, hc⟩
  · exact .inl h
  · exact .inr ⟨b, off, cap, hv, fun j u hu => hb.cell (hc j u hu) (hne b (by subst hv; rfl))⟩

theorem IsSl.head {w : World} {v : Value} {cs : List Value} {n : Nat} (h : IsSl w v cs n) : ∃ a c, v = .slice a n c := by
  rcases h with ⟨h, hn, _⟩ | ⟨b, off, cap, hv, _⟩
  · rcases h with h | ⟨a, c, h⟩
    · exact ⟨none, 0, by rw [h, hn]⟩
    · exact ⟨some a, c, by rw [h, hn]⟩
  · exact ⟨_, _, hv⟩

theorem IsSl_own {w : World} {B e sz n : Nat} {v : Value} {cs : List Value} (h : w.ownsRow B e sz v n cs) : IsSl w v cs n := by
  rcases h with ⟨hl, ⟨hv, hn⟩ | ⟨g, cap, cur, hv, hB, hg, hn, hm, hs, ht⟩⟩
  · subst hn
    exact .inl ⟨.inl hv, rfl, List.eq_nil_of_length_eq_zero (by simpa using hl)⟩
  · refine .inr ⟨g, 0, cap, hv, fun j u hu => ?_⟩
    have hadd := World.ownsRow.cells (w := w) (base := B) (e := e) (size := sz) (v := v) (n := n) (xs := cs) ⟨hl, .inr ⟨g, cap, cur, hv, hB, hg, hn, hm, hs, ht⟩⟩ (g := g) (by rw [hv]; rfl) j u hu
    have ha : (⟨g, 0, none⟩ : Addr).add j = ⟨g, 0 + j, none⟩ := by unfold Addr.add; split <;> simp_all
    rwa [ha] at hadd

section
variable {P : Program} {f : FuncId} {N : Nat} {k : List Item} {σ : Store} {w w' : World} {R : Ending → World → Prop} {ops l : List Oper} {K : Act → World → Prop} {KQ : Act → Prop} {C : World → Prop} {d : Nat} {ty : TypeId} {pos : String} {af : Array Edge} {gd : Option (Nat × Bool)} {v u : Value} {cs : List Value} {n : Nat} {t e : TypeId} {sz bytes : Nat}

theorem ex_lenI {d : Option Tmp} {x : Operand} (hv : IsSl w v cs n) (hT : P.underlying t = some (.slice e)) (hx : lookO σ x = some v) (w1 : World) :
    (execOp (evO σ) ⟨d, .call ⟨.builtin .len, #[x], #[t]⟩, ty, pos, af, gd⟩).run P w1 = .ok (.value (.int .i64 (n : Int))) w1 := by
  obtain ⟨a, c, rfl⟩ := hv.head
  exact ex_lenV hT (evO_of_lookO hx)

theorem RunL.lenI {w1 : World} {x : Operand} (hv : IsSl w1 v cs n) (hs : stat N ops ⟨some d, .call ⟨.builtin .len, #[x], #[t]⟩, ty, pos, af, gd⟩ σ = true) (hT : P.underlying t = some (.slice e)) (hx : lookO σ x = some v)
    (h : RunL P N ops l ((d, .int .i64 (n : Int)) :: σ) w K) : RunL P N ops (⟨some d, .call ⟨.builtin .len, #[x], #[t]⟩, ty, pos, af, gd⟩ :: l) σ w K :=
  RunL.op hs (ex_lenI hv hT hx w) h
theorem RunQ.lenI {w1 : World} {x : Operand} (hv : IsSl w1 v cs n) (hs : stat N ops ⟨some d, .call ⟨.builtin .len, #[x], #[t]⟩, ty, pos, af, gd⟩ σ = true) (hT : P.underlying t = some (.slice e)) (hx : lookO σ x = some v)
    (h : RunQ P N C ops l ((d, .int .i64 (n : Int)) :: σ) KQ) : RunQ P N C ops (⟨some d, .call ⟨.builtin .len, #[x], #[t]⟩, ty, pos, af, gd⟩ :: l) σ KQ :=
  RunQ.op hs (fun w _ => ex_lenI hv hT hx w) h

theorem ex_idxI {d : Option Tmp} {x i : Operand} {kk : IntKind} {m : Int} (hv : IsSl w v cs n) (hE : Elem P t e sz bytes) (hx : lookO σ x = some v) (hi : lookO σ i = some (.int kk m)) (j : Nat) (hj : m = (j : Int)) (hlt : j < n) (w1 : World) :
    (execOp (evO σ) ⟨d, .indexAddr t x i, ty, pos, af, gd⟩).run P w1 = .ok (.value (elemPtr v (j * sz))) w1 := by
  rcases hv with ⟨_, hn, _⟩ | ⟨b, off, cap, rfl, hc⟩
  · omega
  · obtain ⟨ti, z, h1, h2, h3, h4, h5⟩ := hE.info
    exact ex_idxAddr hE.slice (by rw [h1, ← h3]; rfl) (evO_of_lookO hx) (evO_of_lookO hi) j hj hlt

theorem RunL.idxI {w1 : World} {x i : Operand} {kk : IntKind} {m : Int} (hv : IsSl w1 v cs n) (hE : Elem P t e sz bytes) (j : Nat) (hs : stat N ops ⟨some d, .indexAddr t x i, ty, pos, af, gd⟩ σ = true) (hx : lookO σ x = some v) (hi : lookO σ i = some (.int kk m)) (hj : m = (j : Int)) (hlt : j < n)
    (h : RunL P N ops l ((d, elemPtr v (j * sz)) :: σ) w K) : RunL P N ops (⟨some d, .indexAddr t x i, ty, pos, af, gd⟩ :: l) σ w K :=
  RunL.op hs (ex_idxI hv hE hx hi j hj hlt w) h
theorem RunQ.idxI {w1 : World} {x i : Operand} {kk : IntKind} {m : Int} (hv : IsSl w1 v cs n) (hE : Elem P t e sz bytes) (j : Nat) (hs : stat N ops ⟨some d, .indexAddr t x i, ty, pos, af, gd⟩ σ = true) (hx : lookO σ x = some v) (hi : lookO σ i = some (.int kk m)) (hj : m = (j : Int)) (hlt : j < n)
    (h : RunQ P N C ops l ((d, elemPtr v (j * sz)) :: σ) KQ) : RunQ P N C ops (⟨some d, .indexAddr t x i, ty, pos, af, gd⟩ :: l) σ KQ :=
  RunQ.op hs (fun w _ => ex_idxI hv hE hx hi j hj hlt w) h

theorem IsSl.cell (hv : IsSl w v cs n) {j : Nat} (hu : cs[j]? = some u) : ∃ p, elemPtr v j = .pointer (some p) ∧ w.cell? p = some u ∧ v.ownBlock = some p.block := by
  rcases hv with ⟨_, _, rfl⟩ | ⟨b, off, cap, rfl, hc⟩
  · simp at hu
  · exact ⟨_, rfl, hc j u hu, rfl⟩

theorem RunL.loadI {x : Operand} {td : TypeDesc} {j : Nat} (hv : IsSl w v cs n) (hs : stat N ops ⟨some d, .load t x, ty, pos, af, gd⟩ σ = true) (hT : P.underlying t = some td) (hp : plainT td = true) (hx : lookO σ x = some (elemPtr v j)) (hu : cs[j]? = some u)
    (h : RunL P N ops l ((d, u) :: σ) w K) : RunL P N ops (⟨some d, .load t x, ty, pos, af, gd⟩ :: l) σ w K := by
  obtain ⟨p, h1, h2, _⟩ := hv.cell hu
  rw [h1] at hx
  exact RunL.op hs (ex_load1 hT hp (evO_of_lookO hx) h2) h

theorem RunQ.loadI {x : Operand} {td : TypeDesc} {j : Nat} (hv : IsSl w v cs n) (hs : stat N ops ⟨some d, .load t x, ty, pos, af, gd⟩ σ = true) (hT : P.underlying t = some td) (hp : plainT td = true) (hx : lookO σ x = some (elemPtr v j)) (hu : cs[j]? = some u)
    (h : RunQ P N (fun w' => Below w.heap.size w w') ops l ((d, u) :: σ) KQ) : RunQ P N (fun w' => Below w.heap.size w w') ops (⟨some d, .load t x, ty, pos, af, gd⟩ :: l) σ KQ := by
  obtain ⟨p, h1, h2, _⟩ := hv.cell hu
  rw [h1] at hx
  refine RunQ.op hs (fun w' hw' => ex_load1 hT hp (evO_of_lookO hx) ?_) h
  rw [hw'.cell (World.block_lt_of_cell? w p h2)]; exact h2

/-! ### append of a few elements -/
/-- The parts of a slice's literal, in their order. -/
def partsX : Nat → List (Nat × Operand) → Option (List Operand)
  | _, [] => some []
  | n, (i, x) :: r => match Nat.beq i n with
    | true => match partsX (n + 1) r with
      | some xs => some (x :: xs)
      | none => none
    | false => none

theorem partsX_eq : ∀ {n : Nat} {ps : List (Nat × Operand)} {xs : List Operand}, partsX n ps = some xs → ps = (xs.zipIdx n).map fun (x, i) => (i, x)
  | _, [], xs, h => by simp [partsX] at h; simp [h]
  | n, (i, x) :: r, xs, h => by
    simp only [partsX] at h
    split at h
    · rename_i hi
      have e := Nat.eq_of_beq_eq_true hi
      subst e
      split at h
      · rename_i ys hy
        cases h
        simp [List.zipIdx_cons, ← partsX_eq hy]
      · cases h
    · cases h

/-- The cells of values of one size. -/
def flatC (sz : Nat) : List Value → Option (List Value)
  | [] => some []
  | .agg ⟨c⟩ :: r => match Nat.beq c.length sz with
    | true => match flatC sz r with
      | some cs => some (c ++ cs)
      | none => none
    | false => none
  | .tuple _ :: _ => none
  | v :: r => match Nat.beq 1 sz with
    | true => match flatC sz r with
      | some cs => some (v :: cs)
      | none => none
    | false => none

theorem flatC_eq : ∀ {vs : List Value} {cs : List Value}, flatC sz vs = some cs → (∀ v ∈ vs, v.cells.size = sz) ∧ cs = (vs.map fun v => v.cells.toList).flatten := by
  intro vs
  induction vs with
  | nil => intro cs h; simp [flatC] at h; simp [h]
  | cons v r ih =>
    intro cs h
    have one : (∀ c, v ≠ .agg c) → (match Nat.beq 1 sz with
        | true => match flatC sz r with
          | some cs => some (v :: cs)
          | none => none
        | false => none) = some cs → (∀ u ∈ v :: r, u.cells.size = sz) ∧ cs = ((v :: r).map fun v => v.cells.toList).flatten := by
      intro hne h
      have hc : v.cells = #[v] := by cases v <;> first | rfl | exact absurd rfl (hne _)
      split at h
      · rename_i hl
        split at h
        · rename_i ys hy; cases h
          obtain ⟨g1, g2⟩ := ih hy
          have := Nat.eq_of_beq_eq_true hl
          refine ⟨fun u hu => ?_, by simp [hc, g2]⟩
          rcases List.mem_cons.1 hu with rfl | hu
          · rw [hc]; simpa using this
          · exact g1 u hu
        · cases h
      · cases h
    cases v with
    | agg c =>
      obtain ⟨c⟩ := c
      simp only [flatC] at h
      split at h
      · rename_i hl
        split at h
        · rename_i ys hy; cases h
          obtain ⟨h1, h2⟩ := ih hy
          have := Nat.eq_of_beq_eq_true hl
          refine ⟨fun v hv => ?_, by simp [Value.cells, h2]⟩
          rcases List.mem_cons.1 hv with rfl | hv
          · simpa [Value.cells] using this
          · exact h1 v hv
        · cases h
      · cases h
    | tuple vs => simp [flatC] at h
    | _ => exact one (fun c e => by cases e) (by simpa only [flatC] using h)

theorem fill_all (sz : Nat) : ∀ (vs : List Value) (i : Nat) (pre post : List Value), pre.length = i * sz → post.length = vs.length * sz → (∀ v ∈ vs, v.cells.size = sz) →
    Instr.fill (fun i => some (i * sz, sz)) (pre ++ post).toArray ((vs.zipIdx i).map fun (v, i) => (i, v)) = some (pre ++ (vs.map fun v => v.cells.toList).flatten).toArray := by
  intro vs
  induction vs with
  | nil => intro i pre post hp hq _; simp at hq; subst hq; simp [Instr.fill]
  | cons v vs ih =>
    intro i pre post hp hq hs
    have hv := hs v (List.mem_cons_self ..)
    simp only [List.zipIdx_cons, List.map_cons, Instr.fill]
    have hlen : ¬ (v.cells.size ≠ sz ∨ i * sz + v.cells.size > (pre ++ post).toArray.size) := by
      simp only [List.length_cons, Nat.add_mul, Nat.one_mul] at hq
      simp [hv, hp, hq]
    rw [if_neg (by simpa using hlen)]
    have key : ∀ (cs : List Value) (j : Nat) (pre post : List Value), pre.length = i * sz + j → cs.length ≤ post.length →
        ((cs.zipIdx j).foldl (fun (a : Array Value) (x : Value × Nat) => a.setIfInBounds (i * sz + x.2) x.1) (pre ++ post).toArray) = (pre ++ cs ++ post.drop cs.length).toArray := by
      intro cs
      induction cs with
      | nil => intro j pre post _ _; simp
      | cons c cs ih2 =>
        intro j pre post h1 h2
        cases post with
        | nil => simp at h2
        | cons q post =>
          simp only [List.zipIdx_cons, List.foldl_cons]
          have e : (pre ++ q :: post).toArray.setIfInBounds (i * sz + j) c = ((pre ++ [c]) ++ post).toArray := by
            simp [← h1]
          rw [e, ih2 (j + 1) (pre ++ [c]) post (by simp [h1]; omega) (by simpa using h2)]
          simp
    have k1 := key v.cells.toList 0 pre post (by simpa using hp) (by
      simp only [List.length_cons, Nat.add_mul, Nat.one_mul] at hq
      simp [hv, hq])
    have e1 : (v.cells.zipIdx.foldl (fun cs (x : Value × Nat) => match x with | (c, j) => cs.setIfInBounds (i * sz + j) c) (pre ++ post).toArray) = (pre ++ v.cells.toList ++ post.drop v.cells.toList.length).toArray := by
      rw [← k1, ← Array.foldl_toList]
      congr 1
      simp
    rw [e1]
    have := ih (i + 1) (pre ++ v.cells.toList) (post.drop v.cells.toList.length) (by simp [hp, hv, Nat.add_mul]) (by
      simp only [List.length_cons, Nat.add_mul, Nat.one_mul] at hq
      simp [hv, hq]) (fun v' h' => hs v' (List.mem_cons_of_mem _ h'))
    rw [this]
    simp

theorem run_buildSlice_of {m : Nat} (hE : Elem P t e sz bytes) (parts : Array (Nat × Value)) (hm0 : 0 < m) (hsm : m * sz ≤ 16777216)
    (hf : ∀ cells : List Value, cells.length = m * sz → Instr.fill (fun i => some (i * sz, sz)) cells.toArray parts.toList = some cs.toArray) :
    (Instr.buildSlice t m parts).run P w = .ok (.slice (some ⟨w.heap.size, 0, none⟩) m m) (w.alloc (.cells cs.toArray e)) := by
  obtain ⟨ti, z, h1, h2, h3, h4, h5⟩ := hE.info
  have hne : ¬ m * sz = 0 := by have := Nat.mul_pos hm0 hE.pos; omega
  have h6 : ¬ m * sz > 16777216 := by omega
  have e2 := hf ((Array.range (m * sz)).map (z.cells[· % z.cells.size]!)).toList (by simp)
  simp only [Array.toArray_toList] at e2
  have r1 : (underlying t).run P w = .ok (.slice e) w := run_underlying hE.slice w
  have r2 : (sizeOf e).run P w = .ok sz w := by simp [sizeOf, typeInfo, h1, h3]
  have r3 : (zeroValue e).run P w = .ok z w := by simp [zeroValue, typeInfo, h1, h2]
  unfold Instr.buildSlice
  rw [Sem.run_bind, r1]
  simp only [Result.andThen_ok]
  rw [Sem.run_bind, r2]
  simp only [Result.andThen_ok, h6, hne, if_false]
  rw [Sem.run_bind, r3]
  simp only [Result.andThen_ok, Sem.run_pure, Sem.run_bind, e2]
  simp [newRow]

theorem run_bslice {ps : List (Nat × Operand)} {xs : List Operand} {vs : List Value} {m : Nat} {d : Option Tmp} (hE : Elem P t e sz bytes) (hps : partsX 0 ps = some xs) (hvs : vals σ xs = some vs) (hcs : flatC sz vs = some cs) (hm : vs.length = m) (hsm : m * sz ≤ 16777216) (hm0 : 0 < m) :
    (execOp (evO σ) ⟨d, .buildSlice t m ps.toArray, ty, pos, af, gd⟩).run P w = .ok (.value (.slice (some ⟨w.heap.size, 0, none⟩) m m)) (w.alloc (.cells cs.toArray e)) := by
  obtain ⟨g1, g2⟩ := flatC_eq hcs
  have hp := partsX_eq hps
  have e1 : (ps.toArray.map fun (i, x) => (i, evO σ x)).toList = (vs.zipIdx 0).map fun (v, i) => (i, v) := by
    rw [hp, ← vals_eq hvs]
    simp [List.zipIdx_map, List.map_map, Function.comp_def]
  have := run_buildSlice_of (w := w) (cs := cs) (m := m) hE (ps.toArray.map fun (i, x) => (i, evO σ x)) hm0 hsm (fun cells hl => by
    rw [e1, g2]
    have := fill_all sz vs 0 [] cells (by simp) (by rw [hl, hm]) g1
    simpa using this)
  unfold execOp
  simp only [Sem.run_bind, this]
  rfl

theorem RunL.bslice {ps : List (Nat × Operand)} {xs : List Operand} {vs : List Value} {m : Nat} (hE : Elem P t e sz bytes) (hs : stat N ops ⟨some d, .buildSlice t m ps.toArray, ty, pos, af, gd⟩ σ = true) (hps : partsX 0 ps = some xs) (hvs : vals σ xs = some vs) (hcs : flatC sz vs = some cs) (hm : vs.length = m) (hsm : m * sz ≤ 16777216) (hm0 : 0 < m)
    (h : ∀ w' v', w'.ownsRow w.heap.size e sz v' m cs → v'.ownBlock = some w.heap.size → Below w.heap.size w w' → RunL P N ops l ((d, v') :: σ) w' K) : RunL P N ops (⟨some d, .buildSlice t m ps.toArray, ty, pos, af, gd⟩ :: l) σ w K := by
  refine RunL.op hs (run_bslice hE hps hvs hcs hm hsm hm0) (h _ _ ?_ rfl ((Below.refl _ _).alloc (Nat.le_refl _) _))
  obtain ⟨g1, g2⟩ := flatC_eq hcs
  have hl : cs.length = m * sz := by
    rw [g2, ← hm]
    clear hvs hcs g2 hm
    induction vs with
    | nil => simp
    | cons v r ih => simp [Nat.add_mul, g1 v (List.mem_cons_self ..), ih (fun v' h' => g1 v' (List.mem_cons_of_mem _ h'))]; omega
  refine ⟨hl, .inr ⟨w.heap.size, m, cs.toArray, rfl, Nat.le_refl _, heap_alloc_new w _, Nat.le_refl _, ?_, by simpa using hl, ?_⟩⟩
  · have := hE.pos
    have : m * 1 ≤ m * sz := Nat.mul_le_mul_left _ this
    unfold maxLen; omega
  · exact List.take_of_length_le (by simp [hl])

/-- Since world w0 nothing older has turned, and slice v, of the call's own making, holds the cells xs. -/
structure OwnS (w0 w : World) (e : TypeId) (sz : Nat) (v : Value) (n : Nat) (xs : List Value) : Prop where
  below : Below w0.heap.size w0 w
  own : w.ownsRow w0.heap.size e sz v n xs

theorem OwnS.isSl {w0 : World} {xs : List Value} (h : OwnS w0 w e sz v n xs) : IsSl w v xs n := IsSl_own h.own
theorem OwnS.nil (w0 : World) (e sz : Nat) (h : Below w0.heap.size w0 w) : OwnS w0 w e sz (.slice none 0 0) 0 [] := ⟨h, World.ownsRow_nil _ _ _ _⟩
/-- It stays when the world grows otherwise. -/
theorem OwnS.ext {w0 : World} {xs : List Value} (h : OwnS w0 w e sz v n xs) (hb : Below w.heap.size w w') : OwnS w0 w' e sz v n xs :=
  ⟨h.below.trans (hb.mono h.below.size), h.own.kept (row := none) (grown_below hb) (by cases hv : v.ownBlock <;> simp)⟩
theorem OwnS.cast {w0 : World} {xs xs' : List Value} {n' : Nat} (h : OwnS w0 w e sz v n xs) (hn : n = n') (hx : xs = xs') : OwnS w0 w e sz v n' xs' := by subst hn; subst hx; exact h
theorem OwnS.len {w0 : World} {xs : List Value} (h : OwnS w0 w e sz v n xs) : xs.length = n * sz := h.own.1

theorem oneCell_of_ne {u : Value} (h1 : ∀ c, u ≠ .agg c) (h2 : ∀ c, u ≠ .tuple c) : u.oneCell' = true := by
  cases u <;> first | rfl | exact absurd rfl (h1 _) | exact absurd rfl (h2 _)

theorem RunL.app {w0 : World} {s x : Operand} {v2 : Value} {news xs : List Value} {m : Nat} (hE : Elem P t e sz bytes) (ho : OwnS w0 w e sz v n xs) (hv2 : IsSl w v2 news m)
    (hs : stat N ops ⟨some d, .call ⟨.builtin .append, #[s, x], #[t, t]⟩, ty, pos, af, gd⟩ σ = true) (hx : lookO σ s = some v) (hy : lookO σ x = some v2) (hl : news.length = m * sz) (h1 : ∀ u ∈ news, u.oneCell' = true)
    (hb : (n + m) * bytes ≤ 140737488355328) (h63 : n + m ≤ 9223372036854775807)
    (h : ∀ v' w', OwnS w0 w' e sz v' (n + m) (xs ++ news) → w.grownBy w' v.ownBlock → RunL P N ops l ((d, v') :: σ) w' K) : RunL P N ops (⟨some d, .call ⟨.builtin .append, #[s, x], #[t, t]⟩, ty, pos, af, gd⟩ :: l) σ w K := by
  obtain ⟨i, z, g1, g2, g3, g4, g5⟩ := hE.info
  rcases hv2 with ⟨rfl | ⟨a, c, rfl⟩, rfl, rfl⟩ | ⟨b, off, cap, rfl, hc⟩
  · have hr := run_append_owned_none (P := P) (w := w) w0.heap.size t ty e i sz hE.slice g1 v n xs ho.own
    refine RunL.op (w' := w) (v := v) hs ?_ (h v w (by simpa using ho) (grownBy_refl _ _))
    simp [execOp, resolve, evO_of_lookO hx, evO_of_lookO hy, invoke, builtin, hr]
  · obtain ⟨v', w', hr, h2, h3, h4⟩ := run_append_own (P := P) w w0.heap.size t ty e i z sz bytes hE.slice g1 g2 g3 g4 g5 hE.pos v n xs ho.own a 0 c [] hl (fun j u hu => by simp at hu) h1
      (by unfold maxLen; omega) hb ho.below.size
    have hrow := fun k hk => (ho.own.lt k hk).1
    refine RunL.op (w' := w') (v := v') hs ?_ (h v' w' ⟨ho.below.grown h3 ho.below.size hrow, h2⟩ h3)
    simp [execOp, resolve, evO_of_lookO hx, evO_of_lookO hy, invoke, builtin, hr]
  · have hadd : ∀ j, (⟨b, off, none⟩ : Addr).add j = ⟨b, off + j, none⟩ := fun j => by unfold Addr.add; split <;> simp_all
    obtain ⟨v', w', hr, h2, h3, h4⟩ := run_append_own (P := P) w w0.heap.size t ty e i z sz bytes hE.slice g1 g2 g3 g4 g5 hE.pos v n xs ho.own ⟨b, off, none⟩ m cap news hl (fun j u hu => by rw [hadd]; exact hc j u hu) h1
      (by unfold maxLen; omega) hb ho.below.size
    have hrow := fun k hk => (ho.own.lt k hk).1
    refine RunL.op (w' := w') (v := v') hs ?_ (h v' w' ⟨ho.below.grown h3 ho.below.size hrow, h2⟩ h3)
    simp [execOp, resolve, evO_of_lookO hx, evO_of_lookO hy, invoke, builtin, hr]

theorem RunL.drop {d1 : Nat} {u : Value} (hn : look σ d1 = none) (h : RunL P N ops l σ w K) : RunL P N ops l ((d1, u) :: σ) w K :=
  fun a ha => h a (ha.weaken fun t v hv => by
    rw [look_cons]
    split
    · rename_i e; subst e; rw [hn] at hv; cases hv
    · exact hv)

/-- 's = append(s, x, ..)': the literal and the append in one. -/
theorem RunL.appB {w0 : World} {s : Operand} {xs : List Value} {m d1 : Nat} {ps : List (Nat × Operand)} {ys : List Operand} {vs : List Value} {ty' : TypeId} {pos' : String} {af' : Array Edge} {gd' : Option (Nat × Bool)} (hE : Elem P t e sz bytes) (ho : OwnS w0 w e sz v n xs)
    (hs : stat N ops ⟨some d1, .buildSlice t m ps.toArray, ty', pos', af', gd'⟩ σ = true) (hps : partsX 0 ps = some ys) (hvs : vals σ ys = some vs) (hcs : flatC sz vs = some cs) (hm : vs.length = m)
    (hs2 : stat N ops ⟨some d, .call ⟨.builtin .append, #[s, .tmp d1], #[t, t]⟩, ty, pos, af, gd⟩ ((d1, undef) :: σ) = true) (hx : lookO ((d1, undef) :: σ) s = some v) (hd1 : look σ d1 = none)
    (hm0 : 0 < m) (h1 : ∀ u ∈ cs, u.oneCell' = true) (hsm : m * sz ≤ 16777216) (hb : (n + m) * bytes ≤ 140737488355328) (h63 : n + m ≤ 9223372036854775807)
    (h : ∀ v' w', OwnS w0 w' e sz v' (n + m) (xs ++ cs) → w.grownBy w' v.ownBlock → RunL P N ops l ((d, v') :: σ) w' K) :
    RunL P N ops (⟨some d1, .buildSlice t m ps.toArray, ty', pos', af', gd'⟩ :: ⟨some d, .call ⟨.builtin .append, #[s, .tmp d1], #[t, t]⟩, ty, pos, af, gd⟩ :: l) σ w K := by
  refine RunL.bslice hE hs hps hvs hcs hm hsm hm0 fun w1 v1 h2 h3 h4 => ?_
  obtain ⟨k1, k2, k3, k4⟩ := stat_spec hs2
  have hst : stat N ops ⟨some d, .call ⟨.builtin .append, #[s, .tmp d1], #[t, t]⟩, ty, pos, af, gd⟩ ((d1, v1) :: σ) = true := by
    have e1 : allKnown ((d1, v1) :: σ) (opsL (.call ⟨.builtin .append, #[s, .tmp d1], #[t, t]⟩)) = true := by
      simp only [opsL, allKnown, List.nil_append] at k2 ⊢
      have kn : ∀ x, knows ((d1, undef) :: σ) x = true → knows ((d1, v1) :: σ) x = true := by
        intro x hx'
        cases x with
        | tmp t' =>
          simp only [knows, look_cons] at hx' ⊢
          split
          · rfl
          · rename_i hn
            split at hn
            · cases hn
            · rename_i hne; rw [if_neg hne] at hx'; simp [hn] at hx'
        | _ => rfl
      split at k2
      · rename_i a; rw [kn _ a]
        split at k2
        · rename_i b; rw [kn _ b]
        · cases k2
      · cases k2
    have e2 : wantedS ops gd ((d1, v1) :: σ) = some true := by
      simp only [wantedS] at k4 ⊢
      cases gd with
      | none => rfl
      | some gw =>
        obtain ⟨j, wt⟩ := gw
        simp only at k4 ⊢
        cases hn : nth ops j with
        | none => simp [hn] at k4
        | some oj =>
          simp only [hn] at k4 ⊢
          cases hd : oj.dst with
          | none => simp [hd] at k4
          | some t' =>
            simp only [hd, look_cons] at k4 ⊢
            by_cases e' : d1 = t'
            · simp [e', undef] at k4
            · simpa [e'] using k4
    simp only at k1 k3
    unfold stat
    simp only [k1, e1, k3, e2]
  have hx' : lookO ((d1, v1) :: σ) s = some v ∨ s = .tmp d1 := by
    cases s with
    | tmp t' =>
      simp only [lookO, look_cons] at hx ⊢
      by_cases e' : d1 = t'
      · right; rw [e']
      · left; simpa [e'] using hx
    | _ => exact .inl hx
  rcases hx' with hx' | rfl
  · refine RunL.app hE (ho.ext h4) (IsSl_own h2) hst hx' (by simp [lookO, look_cons]) h2.1 h1 hb h63 fun v' w' g1 g2 => ?_
    refine fun a ha => h v' w' g1 (grownBy_trans (grown_below h4) g2) a (ha.weaken fun t' u hu => ?_)
    rw [look_cons] at hu ⊢
    split
    · rename_i e'; rw [if_pos e'] at hu; exact hu
    · rename_i e'; rw [if_neg e'] at hu
      rw [look_cons]
      split
      · rename_i e''; subst e''; rw [hd1] at hu; cases hu
      · exact hu
  · exfalso
    simp [lookO, look_cons, undef] at hx
    subst hx
    rcases ho.own.2 with ⟨hh, _⟩ | ⟨g, cap, cur, hh, _⟩ <;> cases hh

/-! ### string(bytes) -/
def bcells (l : List UInt8) : List Value := l.map fun b => .int .u8 (b.toNat : Int)

theorem bcells_append (a b : List UInt8) : bcells (a ++ b) = bcells a ++ bcells b := by simp [bcells]
theorem bcells_length (a : List UInt8) : (bcells a).length = a.length := by simp [bcells]

theorem run_bytes_str {src dst : TypeId} {l : List UInt8} (hE : P.underlying src = some (.slice e)) (he : P.underlying e = some (.int .u8)) (hd : P.underlying dst = some .string) (hv : IsSl w v (bcells l) l.length) :
    (convert src dst v).run P w = .ok (str l) w := by
  rcases hv with ⟨rfl | ⟨a, c, rfl⟩, hn, hc⟩ | ⟨b, off, cap, rfl, hc⟩
  · have : l = [] := List.eq_nil_of_length_eq_zero hn
    subst this
    rw [run_convert_bytes_string w src dst e _ _ _ hE he hd]
    simp [Conv.bytesToString]
    rfl
  · have : l = [] := List.eq_nil_of_length_eq_zero hn
    subst this
    rw [run_convert_bytes_string w src dst e _ _ _ hE he hd]
    simp [Conv.bytesToString]
    rfl
  · rw [run_convert_bytes_string w src dst e _ _ _ hE he hd]
    have hadd : ∀ j, (⟨b, off, none⟩ : Addr).add j = ⟨b, off + j, none⟩ := fun j => by unfold Addr.add; split <;> simp_all
    have h1 := run_loadCells_list (P := P) w ⟨b, off, none⟩ (bcells l) (fun j u hu => by rw [hadd]; exact hc j u hu)
    have h2 : bcells l = (l.map fun b => (b.toNat : Int)).map (Value.int .u8) := by simp [bcells]
    have h3 := run_bytesToString (P := P) w ⟨b, off, none⟩ l.length cap (l.map fun b => (b.toNat : Int)) (by
      rw [← h2]; simpa [bcells] using h1)
    rw [h3, foldl_push_byteCells]
    simp

theorem RunL.bstr {t2 : TypeId} {x : Operand} {l' : List UInt8} (hv : IsSl w v (bcells l') l'.length) (hE : P.underlying t = some (.slice e)) (he : P.underlying e = some (.int .u8)) (hd : P.underlying t2 = some .string)
    (hs : stat N ops ⟨some d, .convert t t2 x, ty, pos, af, gd⟩ σ = true) (hx : lookO σ x = some v) (h : RunL P N ops l ((d, str l') :: σ) w K) : RunL P N ops (⟨some d, .convert t t2 x, ty, pos, af, gd⟩ :: l) σ w K := by
  refine RunL.op hs ?_ h
  simp [execOp, evO_of_lookO hx, run_bytes_str hE he hd hv]

theorem RunQ.bstr {C : World → Prop} {KQ : Act → Prop} {t2 : TypeId} {x : Operand} {l' : List UInt8} (hv : ∀ w, C w → IsSl w v (bcells l') l'.length) (hE : P.underlying t = some (.slice e)) (he : P.underlying e = some (.int .u8)) (hd : P.underlying t2 = some .string)
    (hs : stat N ops ⟨some d, .convert t t2 x, ty, pos, af, gd⟩ σ = true) (hx : lookO σ x = some v) (h : RunQ P N C ops l ((d, str l') :: σ) KQ) : RunQ P N C ops (⟨some d, .convert t t2 x, ty, pos, af, gd⟩ :: l) σ KQ := by
  refine RunQ.op hs ?_ h
  intro w hw
  simp [execOp, evO_of_lookO hx, run_bytes_str hE he hd (hv w hw)]

/-! ### A range over a string -/
theorem run_range_str {s : List UInt8} (hT : P.underlying t = some .string) : (Instr.range t (str s)).run P w = .ok (.pointer (some ⟨w.heap.size, 0, none⟩)) (w.alloc (.stringIter ⟨s.toArray⟩ 0)) := by
  simp [Instr.range, underlying, hT]

theorem RunL.rangeS {x : Operand} {s : List UInt8} (hs : stat N ops ⟨some d, .range t x, ty, pos, af, gd⟩ σ = true) (hT : P.underlying t = some .string) (hx : lookO σ x = some (str s))
    (h : ∀ w', w'.heap[w.heap.size]? = some (.stringIter ⟨s.toArray⟩ 0) → Below w.heap.size w w' → RunL P N ops l ((d, .pointer (some ⟨w.heap.size, 0, none⟩)) :: σ) w' K) : RunL P N ops (⟨some d, .range t x, ty, pos, af, gd⟩ :: l) σ w K := by
  refine RunL.op hs ?_ (h _ (heap_alloc_new w _) ((Below.refl _ _).alloc (Nat.le_refl _) _))
  simp [execOp, evO_of_lookO hx, run_range_str hT]

theorem RunL.nextS {x : Operand} {s : List UInt8} {b p : Nat} (hk : w.heap[b]? = some (.stringIter ⟨s.toArray⟩ p)) (hp : p < s.length) (hs : stat N ops ⟨some d, .next x true, ty, pos, af, gd⟩ σ = true) (hx : lookO σ x = some (.pointer (some ⟨b, 0, none⟩)))
    (h : ∀ w', w'.heap[b]? = some (.stringIter ⟨s.toArray⟩ (p + (Utf8.decode ⟨s.toArray⟩ p).2)) → (∀ B, B ≤ b → Below B w w') → w'.heap.size = w.heap.size → RunL P N ops l ((d, .tuple #[.bool true, .int .i64 (p : Int), .int .i32 ((Utf8.decode ⟨s.toArray⟩ p).1 : Int)]) :: σ) w' K) : RunL P N ops (⟨some d, .next x true, ty, pos, af, gd⟩ :: l) σ w K := by
  have hsz : p < (⟨s.toArray⟩ : ByteArray).size := by simpa [ByteArray.size] using hp
  have := Lib.run_next_any_at (P := P) w b ⟨s.toArray⟩ p ty hk hsz
  refine RunL.op hs ?_ (h _ (Lib.iterAt_heap w b _ p _ hk) (fun B hB => Lib.below_iterAt (Below.refl B w) hB _ _) (Lib.iterAt_size ..))
  simp [execOp, evO_of_lookO hx, this]

theorem RunL.nextEnd {x : Operand} {s : List UInt8} {b p : Nat} (hk : w.heap[b]? = some (.stringIter ⟨s.toArray⟩ p)) (hp : ¬ p < s.length) (hs : stat N ops ⟨some d, .next x true, ty, pos, af, gd⟩ σ = true) (hx : lookO σ x = some (.pointer (some ⟨b, 0, none⟩)))
    (h : RunL P N ops l ((d, .tuple #[.bool false]) :: σ) w K) : RunL P N ops (⟨some d, .next x true, ty, pos, af, gd⟩ :: l) σ w K := by
  have hsz : ¬ p < (⟨s.toArray⟩ : ByteArray).size := by simpa [ByteArray.size] using hp
  have := Lib.run_next_end_at (P := P) w b ⟨s.toArray⟩ p ty hk hsz
  refine RunL.op hs ?_ h
  simp [execOp, evO_of_lookO hx, this]

/-! ### Calls by their contracts -/
theorem RunL.callP {g : FuncId} {r : Value} {args : List Operand} {a1 : List Value} {tys : Array TypeId} (hg : IsFn P g)
    (hs : stat N ops ⟨some d, .call ⟨.value (.func g), args.toArray, tys⟩, ty, pos, af, gd⟩ σ = true) (ha : vals σ args = some a1)
    (hc : Calls P g a1.toArray w fun e w' => e = .returned r ∧ w' = w) (h : RunL P N ops l ((d, r) :: σ) w K) : RunL P N ops (⟨some d, .call ⟨.value (.func g), args.toArray, tys⟩, ty, pos, af, gd⟩ :: l) σ w K :=
  RunL.call hg hs ha (hc.mono fun e w' ⟨h1, h2⟩ => ⟨r, h1, by subst h2; exact h⟩)
theorem RunL.callB {g : FuncId} {r : Value} {args : List Operand} {a1 : List Value} {tys : Array TypeId} (hg : IsFn P g)
    (hs : stat N ops ⟨some d, .call ⟨.value (.func g), args.toArray, tys⟩, ty, pos, af, gd⟩ σ = true) (ha : vals σ args = some a1)
    (hc : Calls P g a1.toArray w fun e w' => e = .returned r ∧ Below w.heap.size w w') (h : ∀ w', Below w.heap.size w w' → RunL P N ops l ((d, r) :: σ) w' K) : RunL P N ops (⟨some d, .call ⟨.value (.func g), args.toArray, tys⟩, ty, pos, af, gd⟩ :: l) σ w K :=
  RunL.call hg hs ha (hc.mono fun e w' ⟨h1, h2⟩ => ⟨r, h1, h w' h2⟩)
theorem RunL.callX {g : FuncId} {Q : Value → World → Prop} {args : List Operand} {a1 : List Value} {tys : Array TypeId} (hg : IsFn P g)
    (hs : stat N ops ⟨some d, .call ⟨.value (.func g), args.toArray, tys⟩, ty, pos, af, gd⟩ σ = true) (ha : vals σ args = some a1)
    (hc : Calls P g a1.toArray w fun e w' => ∃ r, e = .returned r ∧ Q r w') (h : ∀ r w', Q r w' → RunL P N ops l ((d, r) :: σ) w' K) : RunL P N ops (⟨some d, .call ⟨.value (.func g), args.toArray, tys⟩, ty, pos, af, gd⟩ :: l) σ w K :=
  RunL.call hg hs ha (hc.mono fun e w' ⟨r, h1, h2⟩ => ⟨r, h1, h r w' h2⟩)
theorem RunQ.callP {g : FuncId} {r : Value} {args : List Operand} {a1 : List Value} {tys : Array TypeId} (hg : IsFn P g)
    (hs : stat N ops ⟨some d, .call ⟨.value (.func g), args.toArray, tys⟩, ty, pos, af, gd⟩ σ = true) (ha : vals σ args = some a1)
    (hc : ∀ w, C w → Calls P g a1.toArray w fun e w' => e = .returned r ∧ w' = w) (h : RunQ P N C ops l ((d, r) :: σ) KQ) : RunQ P N C ops (⟨some d, .call ⟨.value (.func g), args.toArray, tys⟩, ty, pos, af, gd⟩ :: l) σ KQ :=
  RunQ.call hg hs ha (fun w hw => (hc w hw).mono fun e w' ⟨h1, h2⟩ => ⟨h1, by subst h2; exact hw⟩) h
theorem RunQ.callB {g : FuncId} {r : Value} {args : List Operand} {a1 : List Value} {tys : Array TypeId} (hg : IsFn P g)
    (hs : stat N ops ⟨some d, .call ⟨.value (.func g), args.toArray, tys⟩, ty, pos, af, gd⟩ σ = true) (ha : vals σ args = some a1)
    (hc : ∀ w', Below w.heap.size w w' → Calls P g a1.toArray w' fun e w'' => e = .returned r ∧ Below w'.heap.size w' w'') (h : RunQ P N (fun w' => Below w.heap.size w w') ops l ((d, r) :: σ) KQ) : RunQ P N (fun w' => Below w.heap.size w w') ops (⟨some d, .call ⟨.value (.func g), args.toArray, tys⟩, ty, pos, af, gd⟩ :: l) σ KQ :=
  RunQ.call hg hs ha (fun w' hw => (hc w' hw).mono fun e w'' ⟨h1, h2⟩ => ⟨h1, hw.trans (h2.mono hw.size)⟩) h

/-! ### A block that is known whole -/
def Blk (w : World) (b : Nat) (cs : List Value) (T : TypeId) : Prop := w.heap[b]? = some (.cells cs.toArray T (0, 0))

theorem Blk.lt {b : Nat} {T : TypeId} (h : Blk w b cs T) : b < w.heap.size := (Array.getElem?_eq_some_iff.1 h).1
theorem Blk.cell {b : Nat} {T : TypeId} (h : Blk w b cs T) (j : Nat) : w.cell? ⟨b, j, none⟩ = cs[j]? := by
  unfold Blk at h; simp [World.cell?, h]
theorem Blk.free {b : Nat} {T : TypeId} (h : Blk w b cs T) (j : Nat) : w.frozen? ⟨b, j, none⟩ = false := by
  unfold Blk at h; simp [World.frozen?, h]
theorem Blk.kept {b : Nat} {T : TypeId} {r : Option Nat} (h : Blk w b cs T) (hg : w.grownBy w' r) (hne : some b ≠ r) : Blk w' b cs T := by
  unfold Blk at h ⊢; rw [hg.block b (Blk.lt h) hne]; exact h
theorem Blk.ext {b : Nat} {T : TypeId} (h : Blk w b cs T) (hb : Below w.heap.size w w') : Blk w' b cs T := by
  unfold Blk at h ⊢; rw [hb.block b (Blk.lt h)]; exact h

theorem RunL.loadB {b j : Nat} {T : TypeId} {x : Operand} {td : TypeDesc} (hB : Blk w b cs T) (hs : stat N ops ⟨some d, .load t x, ty, pos, af, gd⟩ σ = true) (hT : P.underlying t = some td) (hp : plainT td = true) (hx : lookO σ x = some (.pointer (some ⟨b, j, none⟩))) (hu : nthV cs j = some u)
    (h : RunL P N ops l ((d, u) :: σ) w K) : RunL P N ops (⟨some d, .load t x, ty, pos, af, gd⟩ :: l) σ w K :=
  RunL.op hs (ex_load1 hT hp (evO_of_lookO hx) (by rw [hB.cell, ← nthV_eq]; exact hu)) h

theorem run_storeVar1 {p : Addr} {u0 : Value} (hS : (P.info? t).map (·.size) = some 1) (h1 : u.cells = #[u]) (h2 : u.oneCell' = true) (hc : w.cell? p = some u0) (hf : w.frozen? p = false) : (storeVar t p u).run P w = .ok () (w.setCell p u) := by
  have e1 : (sizeOf t).run P w = .ok 1 w := by
    cases h : P.info? t with
    | none => rw [h] at hS; cases hS
    | some ti => rw [h] at hS; simp at hS; simp [sizeOf, typeInfo, h, hS]
  unfold storeVar
  rw [Sem.run_bind, e1]
  simp only [Result.andThen_ok, h1]
  have hz : p.add 0 = p := by simp [Addr.add]
  simp [storeCells, store, hz]
  cases u <;> simp_all [Value.oneCell', Sem.run]

theorem setCell_grown (w : World) (p : Addr) (u : Value) : w.grownBy (w.setCell p u) (some p.block) :=
  ⟨rfl, rfl, rfl, by simp [World.setCell], fun k _ hk => Below.heap_setCell _ _ _ _ (fun e => hk (by rw [e]))⟩

theorem RunL.storeB {b j : Nat} {T : TypeId} {x y : Operand} (hB : Blk w b cs T) (hs : stat N ops ⟨none, .store t x y, ty, pos, af, gd⟩ σ = true) (hS : (P.info? t).map (·.size) = some 1) (hx : lookO σ x = some (.pointer (some ⟨b, j, none⟩))) (hy : lookO σ y = some u) (h1 : u.cells = #[u]) (h2 : u.oneCell' = true) (hj : j < cs.length)
    (h : ∀ w', Blk w' b (cs.set j u) T → w.grownBy w' (some b) → w'.heap.size = w.heap.size → RunL P N ops l σ w' K) : RunL P N ops (⟨none, .store t x y, ty, pos, af, gd⟩ :: l) σ w K := by
  have hc : w.cell? ⟨b, j, none⟩ = some cs[j] := by rw [hB.cell]; exact List.getElem?_eq_getElem hj
  refine RunL.opU (w' := w.setCell ⟨b, j, none⟩ u) hs ?_ (h _ ?_ (setCell_grown w _ u) (by simp [World.setCell]))
  · simp [execOp, evO_of_lookO hx, evO_of_lookO hy, Instr.storeAt, Instr.sureAddr, run_storeVar1 hS h1 h2 hc (hB.free j)]
  · unfold Blk at hB ⊢
    simp [World.setCell, hB, Array.getElem?_modify]

def cellsL (v : Value) : List Value :=
  match v with
  | .agg ⟨c⟩ => c
  | v => [v]
theorem cellsL_eq (v : Value) : v.cells = (cellsL v).toArray := by cases v <;> rfl

theorem RunL.box {x : Operand} {T : TypeId} (hs : stat N ops ⟨some d, .box T x, ty, pos, af, gd⟩ σ = true) (hx : lookO σ x = some u)
    (h : ∀ w', Blk w' w.heap.size (cellsL u) T → Below w.heap.size w w' → w'.heap.size = w.heap.size + 1 → RunL P N ops l ((d, .pointer (some ⟨w.heap.size, 0, none⟩)) :: σ) w' K) : RunL P N ops (⟨some d, .box T x, ty, pos, af, gd⟩ :: l) σ w K := by
  refine RunL.op (w' := w.alloc (.cells u.cells T)) hs ?_ (h _ ?_ ((Below.refl _ _).alloc (Nat.le_refl _) _) (by simp))
  · simp [execOp, evO_of_lookO hx, Instr.box, newVar, newRow]
  · unfold Blk; rw [cellsL_eq]; exact heap_alloc_new w _

theorem RunL.alloc {T : TypeId} (hs : stat N ops ⟨some d, .alloc T, ty, pos, af, gd⟩ σ = true) (hz : (P.info? T).bind (·.zero) = some u)
    (h : ∀ w', Blk w' w.heap.size (cellsL u) T → Below w.heap.size w w' → w'.heap.size = w.heap.size + 1 → RunL P N ops l ((d, .pointer (some ⟨w.heap.size, 0, none⟩)) :: σ) w' K) : RunL P N ops (⟨some d, .alloc T, ty, pos, af, gd⟩ :: l) σ w K := by
  refine RunL.op (w' := w.alloc (.cells u.cells T)) hs ?_ (h _ ?_ ((Below.refl _ _).alloc (Nat.le_refl _) _) (by simp))
  · have : (zeroValue T).run P w = .ok u w := by
      cases hi : P.info? T with
      | none => rw [hi] at hz; cases hz
      | some ti => rw [hi] at hz; simp at hz; simp [zeroValue, typeInfo, hi, hz]
    simp [execOp, Instr.alloc, this, newVar, newRow]
  · unfold Blk; rw [cellsL_eq]; exact heap_alloc_new w _

theorem OwnS.ne_blk {w0 : World} {xs : List Value} {b : Nat} {T : TypeId} (h : OwnS w0 w e sz v n xs) (hB : Blk w b cs T) (hTe : T ≠ e) : v.ownBlock ≠ some b := by
  intro hv
  rcases h.own.2 with ⟨rfl, _⟩ | ⟨g, cap, cur, rfl, _, hg, _⟩
  · cases hv
  · simp [Value.ownBlock] at hv
    subst hv
    unfold Blk at hB
    rw [hB] at hg
    simp at hg
    exact hTe hg.2

theorem OwnS.kept {w0 : World} {xs : List Value} {r : Option Nat} (h : OwnS w0 w e sz v n xs) (hg : w.grownBy w' r) (hr : ∀ k, r = some k → w0.heap.size ≤ k) (hne : v.ownBlock = none ∨ v.ownBlock ≠ r) : OwnS w0 w' e sz v n xs :=
  ⟨h.below.grown hg h.below.size hr, h.own.kept hg hne⟩

/-- append of a string's bytes. -/
theorem RunL.appS {w0 : World} {s x : Operand} {t2 : TypeId} {xs : List Value} {b : List UInt8} (hE : P.underlying t = some (.slice e)) (hu : P.underlying t2 = some .string) (hi : ∃ i, P.info? e = some i ∧ i.zero = some (.int .u8 0) ∧ i.size = 1 ∧ i.bytes = 1) (ho : OwnS w0 w e 1 v n xs)
    (hs : stat N ops ⟨some d, .call ⟨.builtin .append, #[s, x], #[t, t2]⟩, ty, pos, af, gd⟩ σ = true) (hx : lookO σ s = some v) (hy : lookO σ x = some (str b))
    (hb : n + b.length ≤ 140737488355328)
    (h : ∀ v' w', OwnS w0 w' e 1 v' (n + b.length) (xs ++ bcells b) → w.grownBy w' v.ownBlock → RunL P N ops l ((d, v') :: σ) w' K) : RunL P N ops (⟨some d, .call ⟨.builtin .append, #[s, x], #[t, t2]⟩, ty, pos, af, gd⟩ :: l) σ w K := by
  obtain ⟨i, g1, g2, g3, g4⟩ := hi
  have hsz : (⟨b.toArray⟩ : ByteArray).size = b.length := by simp [ByteArray.size]
  obtain ⟨v', w', hr, h2, h3, h4⟩ := Lib.run_append_own_string (P := P) w w0.heap.size t t2 ty e i hE hu g1 g2 g3 g4 v n xs ho.own ⟨b.toArray⟩ (by rw [hsz]; unfold maxLen; omega) (by rw [hsz]; exact hb) ho.below.size
  have hrow := fun k hk => (ho.own.lt k hk).1
  rw [hsz] at h2
  have hc : Lib.strCells ⟨b.toArray⟩ = bcells b := by simp [Lib.strCells, bcells]
  rw [hc] at h2
  refine RunL.op (w' := w') (v := v') hs ?_ (h v' w' ⟨ho.below.grown h3 ho.below.size hrow, h2⟩ h3)
  simp [execOp, resolve, evO_of_lookO hx, evO_of_lookO hy, invoke, builtin, hr]
end
end Go.GX
