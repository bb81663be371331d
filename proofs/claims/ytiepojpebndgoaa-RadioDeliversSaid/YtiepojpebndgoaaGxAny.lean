/- Regions that draw their order, where more than one operation that writes may come up: both ways. Conditions: none. -/
import Derived.Test.YtiepojpebndgoaaGxList
namespace Go.GX
open Go.RowKit
set_option linter.unusedVariables false
set_option linter.unusedSectionVars false
set_option linter.unusedSimpArgs false
section
variable {P : Program} {f : FuncId} {N : Nat} {k : List Item} {σ : Store} {B : Base} {H H' F : List Chunk} {R : Ending → World → Prop} {ops l : List Oper} {o : Oper} {K : Act → World → Prop}
  {d : Nat} {op : Op} {ty : TypeId} {pos : String} {af : Array Edge} {gd : Option (Nat × Bool)} {v u : Value} {n : Nat} {L : Array Bool}

def AK (P : Program) (B : Base) (F : List Chunk) (ops : List Oper) (n : Nat) (L : Array Bool) (K : Act → World → Prop) : Act → World → Prop := fun a w => Sat B F w ∧ wpAnyH P .any ops.toArray (QN K) (fun w => Sat B F w) n L a w
def HA (P : Program) (N : Nat) (ops : List Oper) (n : Nat) (L : Array Bool) (σ : Store) (B : Base) (H F : List Chunk) (K : Act → World → Prop) : Prop := ∀ w, Sat B H w → Sat B F w → ∀ a, Agr N σ a → wpAnyH P .any ops.toArray (QN K) (fun w => Sat B F w) n L a w

theorem HR.regionA (is : List Nat) (hF : pickC H is = some F) (hd : distinctN is = true) {id : Nat} (hm : P.follows .mixedOrders = true) (h : HA P N ops ops.toArray.size (Array.replicate ops.toArray.size false) σ B H F (CRun P f k R)) : HR P f N (.code (.region id ops.toArray true) :: k) σ B H R := by
  intro w hw a ha
  have hb : Below w.heap.size w { w with drawn := w.drawn + 1 } := ⟨rfl, rfl, rfl, Nat.le_refl _, fun _ _ => rfl⟩
  exact CRun.of_wp (wp_region_held (S := fun w => Sat B F w) hm (h _ (hw.grow hb) ((hw.grow hb).pick is hF hd) a ha))

theorem HA.rd (i : Nat) (hf : ((Region.noSelect ops.toArray && Region.free .any ops.toArray L i) && (Region.ready .any ops.toArray L).contains i) = true) (ho : ops[i]? = some ⟨some d, op, ty, pos, af, gd⟩) (hs : stat N ops ⟨some d, op, ty, pos, af, gd⟩ σ = true)
    (hr : ∀ w, Sat B F w → (execOp (evO σ) ⟨some d, op, ty, pos, af, gd⟩).run P w = .ok (.value v) w) (h : HA P N ops n (L.setIfInBounds i true) ((d, v) :: σ) B H F K) : HA P N ops (n + 1) L σ B H F K := by
  intro w hw hF a ha
  obtain ⟨h1, h2, h3, h4⟩ := stat_spec hs
  simp only [Bool.and_eq_true] at hf
  refine wpAnyH_take (oi := ⟨some d, op, ty, pos, af, gd⟩) (v := v) (by simpa using ho) hf.1.1 hf.1.2 hf.2 (fun c a w h => absurd h.1 (by nofun)) (.inl ⟨wantedS_wanted ha h4, fun w hw => ?_⟩) hF (h w hw hF _ (ha.put (some d) v h3))
  rw [evalAt ha _ h1 h2]
  exact hr w hw
theorem HA.ev (i : Nat) (hf : ((Region.noSelect ops.toArray && Region.free .any ops.toArray L i) && (Region.ready .any ops.toArray L).contains i) = true) (ho : ops[i]? = some ⟨some d, op, ty, pos, af, gd⟩) (hs : stat N ops ⟨some d, op, ty, pos, af, gd⟩ σ = true) (he : evOp P σ op = some v)
    (h : HA P N ops n (L.setIfInBounds i true) ((d, v) :: σ) B H F K) : HA P N ops (n + 1) L σ B H F K := HA.rd i hf ho hs (fun w _ => evOp_run he) h
theorem HA.evc {c : Prop} (i : Nat) (hf : ((Region.noSelect ops.toArray && Region.free .any ops.toArray L i) && (Region.ready .any ops.toArray L).contains i) = true) (ho : ops[i]? = some ⟨some d, op, ty, pos, af, gd⟩) (hs : stat N ops ⟨some d, op, ty, pos, af, gd⟩ σ = true) (he : evC P σ op = some (v, c)) (hc : c)
    (h : HA P N ops n (L.setIfInBounds i true) ((d, v) :: σ) B H F K) : HA P N ops (n + 1) L σ B H F K := HA.rd i hf ho hs (fun w _ => evC_run he hc) h
theorem HA.loadB {t : TypeId} {td : TypeDesc} {x : Operand} {b j : Nat} {T : TypeId} {cs : List Value} (i c : Nat) (hf : ((Region.noSelect ops.toArray && Region.free .any ops.toArray L i) && (Region.ready .any ops.toArray L).contains i) = true) (ho : ops[i]? = some ⟨some d, .load t x, ty, pos, af, gd⟩) (hx : lookO σ x = some (.pointer (some ⟨b, j, none⟩))) (hi : nthC F c = some (blkC b cs T)) (hs : stat N ops ⟨some d, .load t x, ty, pos, af, gd⟩ σ = true)
    (hT : P.underlying t = some td) (hp : plainT td = true) (hu : nthV cs j = some u)
    (h : HA P N ops n (L.setIfInBounds i true) ((d, u) :: σ) B H F K) : HA P N ops (n + 1) L σ B H F K := HA.rd i hf ho hs (hx_loadB c hi hT hp hx hu) h
theorem HA.loadR {t : TypeId} {td : TypeDesc} {x : Operand} {b o m : Nat} {T : TypeId} {cs us : List Value} (i c : Nat) (hf : ((Region.noSelect ops.toArray && Region.free .any ops.toArray L i) && (Region.ready .any ops.toArray L).contains i) = true) (ho : ops[i]? = some ⟨some d, .load t x, ty, pos, af, gd⟩) (hx : lookO σ x = some (.pointer (some ⟨b, o, none⟩))) (hi : nthC F c = some (blkC b cs T)) (hs : stat N ops ⟨some d, .load t x, ty, pos, af, gd⟩ σ = true)
    (hT : P.underlying t = some td) (hr : td.isRow = true) (hm : (P.info? t).map (·.size) = some m) (hu : rngV cs o m = some us)
    (h : HA P N ops n (L.setIfInBounds i true) ((d, .agg ⟨us⟩) :: σ) B H F K) : HA P N ops (n + 1) L σ B H F K := HA.rd i hf ho hs (hx_loadR c hi hT hr hm hx hu) h
theorem HA.build {t : TypeId} {ps : List (Nat × Operand)} {us : List Value} (i : Nat) (hf : ((Region.noSelect ops.toArray && Region.free .any ops.toArray L i) && (Region.ready .any ops.toArray L).contains i) = true) (ho : ops[i]? = some ⟨some d, .build t ps.toArray, ty, pos, af, gd⟩) (hs : stat N ops ⟨some d, .build t ps.toArray, ty, pos, af, gd⟩ σ = true) (hb : buildE P σ t ps = some us)
    (h : HA P N ops n (L.setIfInBounds i true) ((d, .agg ⟨us⟩) :: σ) B H F K) : HA P N ops (n + 1) L σ B H F K := HA.rd i hf ho hs (fun w _ => hx_build hb w) h
/-- An operation that has its turn. -/
theorem HA.opI (i : Nat) (ho : ops[i]? = some o) (h : HL P N ops [o] σ B H (AK P B F ops n (L.setIfInBounds i true) K)) : ∀ w, Sat B H w → ∀ a, Agr N σ a → wpOp P ops.toArray (QN K) i (fun a' w' => Sat B F w' ∧ wpAnyH P .any ops.toArray (QN K) (fun w => Sat B F w) n (L.setIfInBounds i true) a' w') a w := by
  intro w hw a ha
  have h := h w hw a ha
  simp only [wpOp, show ops.toArray[i]? = some o by simpa using ho]
  unfold wpList at h
  split
  · rename_i hw'
    rw [if_pos hw'] at h
    rcases h with h | h
    · left
      have h2 : o.wp P a w (fun a' w' => (QN (AK P B F ops n (L.setIfInBounds i true) K)) .normal a' w') (QN (AK P B F ops n (L.setIfInBounds i true) K)) := h
      exact Oper.wp_mono (fun a' w' h' => h'.2) (wp_QN h2)
    · exact (QN_noOut (K := AK P B F ops n (L.setIfInBounds i true) K) h.2).elim
  · rename_i hw'
    rw [if_neg hw'] at h
    exact h.2
theorem HA.one (i : Nat) (hr : decide (Region.ready .any ops.toArray L = [i]) = true) (ho : ops[i]? = some o) (h : HL P N ops [o] σ B H (AK P B F ops n (L.setIfInBounds i true) K)) : HA P N ops (n + 1) L σ B H F K := by
  intro w hw hF a ha
  refine wpAnyH_all (of_decide_eq_true hr) (by simp) fun j hj => ?_
  have : j = i := by simpa using hj
  subst this
  exact HA.opI j ho h w hw a ha
theorem HA.two {o2 : Oper} (i j : Nat) (hr : decide (Region.ready .any ops.toArray L = [i, j]) = true) (ho : ops[i]? = some o) (ho2 : ops[j]? = some o2) (h : HL P N ops [o] σ B H (AK P B F ops n (L.setIfInBounds i true) K)) (h2 : HL P N ops [o2] σ B H (AK P B F ops n (L.setIfInBounds j true) K)) : HA P N ops (n + 1) L σ B H F K := by
  intro w hw hF a ha
  refine wpAnyH_all (of_decide_eq_true hr) (by simp) fun q hq => ?_
  simp only [List.mem_cons, List.not_mem_nil, or_false] at hq
  rcases hq with rfl | rfl
  · exact HA.opI q ho h w hw a ha
  · exact HA.opI q ho2 h2 w hw a ha
theorem HL.backA (is : List Nat) (hF : pickC H is = some F) (hd : distinctN is = true) (h : HA P N ops n L σ B H F K) : HL P N ops [] σ B H (AK P B F ops n L K) := fun w hw a ha => wpList_nil ⟨rfl, hw.pick is hF hd, h w hw (hw.pick is hF hd) a ha⟩
theorem HA.done (hr : (Region.ready .any ops.toArray L).isEmpty = true) (h : HR P f N k σ B H R) : HA P N ops n L σ B H F (CRun P f k R) := fun w hw _ a ha => wpAnyH_done (by simpa using hr) ⟨rfl, h w hw a ha⟩ n
end
end Go.GX
