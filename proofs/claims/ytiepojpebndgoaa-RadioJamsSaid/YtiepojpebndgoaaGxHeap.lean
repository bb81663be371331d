/- A symbolic heap: a list of chunks, each about blocks of its own, and the runs over it. Conditions: none. -/
import Derived.Test.YtiepojpebndgoaaGxStruct
import Derived.Test.YtiepojpebndgoaaGxMap4
namespace Go.GX
open Go.RowKit
set_option linter.unusedVariables false
set_option linter.unusedSectionVars false
set_option linter.unusedSimpArgs false

structure Chunk where
  foot : Nat → Prop
  p : World → Prop
  loc : ∀ w w' : World, (∀ k, foot k → w'.heap[k]? = w.heap[k]?) → p w → p w'
  lt : ∀ w, p w → ∀ k, foot k → k < w.heap.size

/-- A world to begin with, and the older blocks that may be written. -/
structure Base where
  w : World
  X : Nat → Prop

def AllP (B : Base) (w : World) : List Chunk → Prop
  | [] => True
  | c :: H => c.p w ∧ (∀ k, c.foot k → B.w.heap.size ≤ k ∨ B.X k) ∧ (∀ d ∈ H, ∀ k, c.foot k → ¬ d.foot k) ∧ AllP B w H

structure Sat (B : Base) (H : List Chunk) (w : World) : Prop where
  os : w.os = B.w.os
  tape : w.tape = B.w.tape
  output : w.output = B.w.output
  size : B.w.heap.size ≤ w.heap.size
  block : ∀ k, k < B.w.heap.size → ¬ B.X k → w.heap[k]? = B.w.heap[k]?
  all : AllP B w H

abbrev base (w : World) : Base := ⟨w, fun _ => False⟩
def feet (H : List Chunk) (k : Nat) : Prop := ∃ c ∈ H, c.foot k

theorem AllP.mem {B : Base} {w : World} : ∀ {H : List Chunk}, AllP B w H → ∀ c ∈ H, c.p w ∧ (∀ k, c.foot k → B.w.heap.size ≤ k ∨ B.X k)
  | [], _, c, hc => by cases hc
  | d :: H, h, c, hc => by
    obtain ⟨h1, h2, h3, h4⟩ := h
    rcases List.mem_cons.1 hc with rfl | hc
    · exact ⟨h1, h2⟩
    · exact AllP.mem h4 c hc

theorem AllP.grow {B : Base} {w w' : World} (hg : ∀ k, k < w.heap.size → w'.heap[k]? = w.heap[k]?) : ∀ {H : List Chunk}, AllP B w H → AllP B w' H
  | [], _ => trivial
  | c :: H, h => ⟨c.loc w w' (fun k hk => hg k (c.lt w h.1 k hk)) h.1, h.2.1, h.2.2.1, AllP.grow hg h.2.2.2⟩

theorem Sat.lt {B : Base} {H : List Chunk} {w : World} (h : Sat B H w) {c : Chunk} (hc : c ∈ H) : ∀ k, c.foot k → k < w.heap.size := c.lt w (h.all.mem c hc).1

theorem Sat.grow {B : Base} {H : List Chunk} {w w' : World} (h : Sat B H w) (hb : Below w.heap.size w w') : Sat B H w' :=
  ⟨hb.os.trans h.os, hb.tape.trans h.tape, hb.output.trans h.output, Nat.le_trans h.size hb.size, fun k hk hx => (hb.block k (Nat.lt_of_lt_of_le hk h.size)).trans (h.block k hk hx), h.all.grow hb.block⟩

theorem Sat.push {B : Base} {H : List Chunk} {w w' : World} (h : Sat B H w) (hb : Below w.heap.size w w') {c : Chunk} (hc : c.p w') (hf : ∀ k, c.foot k → w.heap.size ≤ k) : Sat B (c :: H) w' := by
  have h' := h.grow hb
  refine ⟨h'.os, h'.tape, h'.output, h'.size, h'.block, hc, fun k hk => .inl (Nat.le_trans h.size (hf k hk)), fun d hd k hk hk' => ?_, h'.all⟩
  have := h.lt hd k hk'
  have := hf k hk
  omega

def nthC : List Chunk → Nat → Option Chunk
  | [], _ => none
  | c :: _, 0 => some c
  | _ :: r, n + 1 => nthC r n
def setC : List Chunk → Nat → Chunk → List Chunk
  | [], _, _ => []
  | _ :: r, 0, c => c :: r
  | d :: r, n + 1, c => d :: setC r n c
def dropC : List Chunk → Nat → List Chunk
  | [], _ => []
  | _ :: r, 0 => r
  | d :: r, n + 1 => d :: dropC r n

theorem nthC_mem : ∀ {H : List Chunk} {i : Nat} {c : Chunk}, nthC H i = some c → c ∈ H
  | [], _, _, h => by cases h
  | d :: r, 0, c, h => by cases h; exact List.mem_cons_self ..
  | d :: r, n + 1, c, h => List.mem_cons_of_mem _ (nthC_mem (H := r) h)

theorem Sat.nth {B : Base} {H : List Chunk} {w : World} (h : Sat B H w) {i : Nat} {c : Chunk} (hc : nthC H i = some c) : c.p w := (h.all.mem c (nthC_mem hc)).1
theorem Sat.nthX {B : Base} {H : List Chunk} {w : World} (h : Sat B H w) {i : Nat} {c : Chunk} (hc : nthC H i = some c) : ∀ k, c.foot k → B.w.heap.size ≤ k ∨ B.X k := (h.all.mem c (nthC_mem hc)).2

theorem setC_mem : ∀ {H : List Chunk} {i : Nat} {c d : Chunk}, d ∈ setC H i c → d = c ∨ d ∈ H
  | [], _, _, _, h => by cases h
  | e :: r, 0, c, d, h => by
    rcases List.mem_cons.1 h with h | h
    · exact .inl h
    · exact .inr (List.mem_cons_of_mem _ h)
  | e :: r, n + 1, c, d, h => by
    rcases List.mem_cons.1 h with h | h
    · exact .inr (h ▸ List.mem_cons_self ..)
    · rcases setC_mem (H := r) h with h | h
      · exact .inl h
      · exact .inr (List.mem_cons_of_mem _ h)

theorem AllP.set {B : Base} {w w' : World} {c c' : Chunk} (hsz : B.w.heap.size ≤ w.heap.size) (hg : ∀ k, k < w.heap.size → ¬ c.foot k → w'.heap[k]? = w.heap[k]?) (hc' : c'.p w') (hf : ∀ k, c'.foot k → c.foot k ∨ w.heap.size ≤ k) :
    ∀ {H : List Chunk} {i : Nat}, nthC H i = some c → AllP B w H → AllP B w' (setC H i c')
  | [], _, h, _ => by cases h
  | d :: r, 0, h, ha => by
    cases h
    obtain ⟨h1, h2, h3, h4⟩ := ha
    have keep : ∀ {r : List Chunk}, (∀ d ∈ r, ∀ k, c.foot k → ¬ d.foot k) → AllP B w r → AllP B w' r := by
      intro r
      induction r with
      | nil => intro _ _; trivial
      | cons d r ih =>
        intro h3 h4
        obtain ⟨g1, g2, g3, g4⟩ := h4
        exact ⟨d.loc w w' (fun k hk => hg k (d.lt w g1 k hk) (fun hk' => h3 d (List.mem_cons_self ..) k hk' hk)) g1, g2, g3, ih (fun d hd => h3 d (List.mem_cons_of_mem _ hd)) g4⟩
    refine ⟨hc', fun k hk => ?_, fun d hd k hk hk' => ?_, keep h3 h4⟩
    · rcases hf k hk with h | h
      · exact h2 k h
      · exact .inl (Nat.le_trans hsz h)
    · rcases hf k hk with h | h
      · exact h3 d hd k h hk'
      · have := d.lt w (h4.mem d hd).1 k hk'
        omega
  | d :: r, n + 1, h, ha => by
    obtain ⟨h1, h2, h3, h4⟩ := ha
    have hm := nthC_mem (H := r) h
    refine ⟨d.loc w w' (fun k hk => hg k (d.lt w h1 k hk) (fun hk' => h3 c hm k hk hk')) h1, h2, fun e he k hk hk' => ?_, AllP.set hsz hg hc' hf (H := r) h h4⟩
    rcases setC_mem he with rfl | he
    · rcases hf k hk' with h' | h'
      · exact h3 c hm k hk h'
      · have := d.lt w h1 k hk
        omega
    · exact h3 e he k hk hk'

/-- One chunk turns; everything else stays. -/
theorem Sat.upd {B : Base} {H : List Chunk} {w w' : World} {c c' : Chunk} {i : Nat} (h : Sat B H w) (hi : nthC H i = some c) (h1 : w'.os = w.os) (h2 : w'.tape = w.tape) (h3 : w'.output = w.output) (h4 : w.heap.size ≤ w'.heap.size)
    (hg : ∀ k, k < w.heap.size → ¬ c.foot k → w'.heap[k]? = w.heap[k]?) (hc' : c'.p w') (hf : ∀ k, c'.foot k → c.foot k ∨ w.heap.size ≤ k) : Sat B (setC H i c') w' := by
  refine ⟨h1.trans h.os, h2.trans h.tape, h3.trans h.output, Nat.le_trans h.size h4, fun k hk hx => ?_, AllP.set h.size hg hc' hf hi h.all⟩
  rw [hg k (Nat.lt_of_lt_of_le hk h.size) (fun hk' => ?_)]
  · exact h.block k hk hx
  · rcases h.nthX hi k hk' with h' | h'
    · omega
    · exact hx h'

/-- As above, by 'grownBy'. -/
theorem Sat.updG {B : Base} {H : List Chunk} {w w' : World} {c c' : Chunk} {i : Nat} {r : Option Nat} (h : Sat B H w) (hi : nthC H i = some c) (hg : w.grownBy w' r) (hr : ∀ k, r = some k → c.foot k)
    (hc' : c'.p w') (hf : ∀ k, c'.foot k → c.foot k ∨ w.heap.size ≤ k) : Sat B (setC H i c') w' :=
  h.upd hi hg.os hg.tape hg.output hg.size (fun k hk hx => hg.block k hk (fun e => hx (hr k e.symm))) hc' hf

/-- Fewer chunks, or in another order: the indices of those that stay. -/
def pickC (H : List Chunk) : List Nat → Option (List Chunk)
  | [] => some []
  | i :: r => match nthC H i, pickC H r with
    | some c, some l => some (c :: l)
    | _, _ => none
def distinctN : List Nat → Bool
  | [] => true
  | i :: r => match natIn i r with
    | true => false
    | false => distinctN r

theorem AllP.apart {B : Base} {w : World} : ∀ {H : List Chunk} {i j : Nat} {c d : Chunk}, AllP B w H → nthC H i = some c → nthC H j = some d → i ≠ j → ∀ k, c.foot k → ¬ d.foot k
  | [], _, _, _, _, _, h, _, _ => by cases h
  | e :: r, 0, 0, c, d, ha, hi, hj, hne => absurd rfl hne
  | e :: r, 0, j + 1, c, d, ha, hi, hj, hne => by cases hi; exact ha.2.2.1 d (nthC_mem (H := r) hj)
  | e :: r, i + 1, 0, c, d, ha, hi, hj, hne => by cases hj; exact fun k hk hk' => ha.2.2.1 c (nthC_mem (H := r) hi) k hk' hk
  | e :: r, i + 1, j + 1, c, d, ha, hi, hj, hne => AllP.apart (H := r) ha.2.2.2 hi hj (fun e => hne (by rw [e]))

theorem natIn_of {x : Nat} : ∀ {l : List Nat}, x ∈ l → natIn x l = true
  | y :: l, h => by
    unfold natIn
    split
    · rfl
    · rename_i hb
      rcases List.mem_cons.1 h with rfl | h
      · rw [Nat.beq_refl] at hb; cases hb
      · exact natIn_of h

theorem pickC_spec {H : List Chunk} : ∀ {is : List Nat} {l : List Chunk}, pickC H is = some l → ∀ d ∈ l, ∃ j ∈ is, nthC H j = some d
  | [], l, h, d, hd => by cases h; cases hd
  | i :: is, l, h, d, hd => by
    unfold pickC at h
    split at h
    · rename_i c l' hc hl
      cases h
      rcases List.mem_cons.1 hd with rfl | hd
      · exact ⟨i, List.mem_cons_self .., hc⟩
      · obtain ⟨j, hj, h⟩ := pickC_spec hl d hd
        exact ⟨j, List.mem_cons_of_mem _ hj, h⟩
    · cases h

theorem AllP.pick {B : Base} {w : World} {H : List Chunk} (ha : AllP B w H) : ∀ {is : List Nat} {l : List Chunk}, pickC H is = some l → distinctN is = true → AllP B w l
  | [], l, h, _ => by cases h; trivial
  | i :: is, l, h, hd => by
    unfold pickC at h
    split at h
    · rename_i c l' hc hl
      cases h
      unfold distinctN at hd
      split at hd
      · cases hd
      · rename_i hn
        have hm := ha.mem c (nthC_mem hc)
        refine ⟨hm.1, hm.2, fun d hd' k => ?_, AllP.pick ha hl hd⟩
        obtain ⟨j, hj, hjd⟩ := pickC_spec hl d hd'
        exact ha.apart hc hjd (fun e => by subst e; rw [natIn_of hj] at hn; cases hn) k
    · cases h

theorem Sat.pick {B : Base} {H H' : List Chunk} {w : World} (is : List Nat) (h : Sat B H w) (hp : pickC H is = some H') (hd : distinctN is = true) : Sat B H' w :=
  ⟨h.os, h.tape, h.output, h.size, h.block, h.all.pick hp hd⟩

/-- One chunk said otherwise. -/
theorem Sat.as {B : Base} {H : List Chunk} {w : World} {c c' : Chunk} (i : Nat) (h : Sat B H w) (hi : nthC H i = some c) (hc' : c.p w → c'.p w) (hf : ∀ k, c'.foot k → c.foot k) : Sat B (setC H i c') w :=
  h.upd hi rfl rfl rfl (Nat.le_refl _) (fun _ _ _ => rfl) (hc' (h.nth hi)) (fun k hk => .inl (hf k hk))

theorem Sat.of_below {w w' : World} (h : Below w.heap.size w w') : Sat (base w) [] w' := ⟨h.os, h.tape, h.output, h.size, fun k hk _ => h.block k hk, trivial⟩
theorem Sat.below {B : Base} {H : List Chunk} {w : World} (h : Sat B H w) (hX : ∀ k, ¬ B.X k) : Below B.w.heap.size B.w w := ⟨h.os, h.tape, h.output, h.size, fun k hk => h.block k hk (hX k)⟩
theorem Sat.belowB {w0 : World} {H : List Chunk} {w : World} (h : Sat (base w0) H w) : Below w0.heap.size w0 w := h.below fun _ h => h
theorem Sat.start (w : World) : Sat (base w) [] w := .of_below (Below.refl _ _)

theorem AllP.append {B : Base} {w : World} : ∀ {G H : List Chunk}, AllP B w G → AllP B w H → (∀ c ∈ G, ∀ d ∈ H, ∀ k, c.foot k → ¬ d.foot k) → AllP B w (G ++ H)
  | [], _, _, h, _ => h
  | c :: G, H, hG, hH, hx => ⟨hG.1, hG.2.1, fun d hd k hk => by
      rcases List.mem_append.1 hd with hd | hd
      · exact hG.2.2.1 d hd k hk
      · exact hx c (List.mem_cons_self ..) d hd k hk, AllP.append hG.2.2.2 hH (fun c hc => hx c (List.mem_cons_of_mem _ hc))⟩

/-- What a call hands back, of new blocks, joins the chunks. -/
theorem Sat.join {B : Base} {H G : List Chunk} {w w' : World} (h : Sat B H w) (hg : Sat (base w) G w') : Sat B (G ++ H) w' := by
  have h' := h.grow hg.belowB
  refine ⟨h'.os, h'.tape, h'.output, h'.size, h'.block, AllP.append ?_ h'.all fun c hc d hd k hk hk' => ?_⟩
  · have : ∀ {G : List Chunk}, AllP (base w) w' G → AllP B w' G := by
      intro G
      induction G with
      | nil => intro _; trivial
      | cons c G ih => intro hG; exact ⟨hG.1, fun k hk => by
          rcases hG.2.1 k hk with h1 | h1
          · exact .inl (Nat.le_trans h.size h1)
          · exact h1.elim, hG.2.2.1, ih hG.2.2.2⟩
    exact this hg.all
  · rcases (hg.all.mem c hc).2 k hk with h1 | h1
    · have := h.lt hd k hk'
      have h1 : w.heap.size ≤ k := h1
      omega
    · exact h1.elim

theorem AllP.split {B : Base} {w : World} : ∀ {G H : List Chunk}, AllP B w (G ++ H) → AllP B w G ∧ AllP B w H ∧ (∀ c ∈ G, ∀ d ∈ H, ∀ k, c.foot k → ¬ d.foot k)
  | [], _, h => ⟨trivial, h, fun c hc => by cases hc⟩
  | c :: G, H, h => by
    obtain ⟨h1, h2, h3⟩ := AllP.split h.2.2.2
    refine ⟨⟨h.1, h.2.1, fun d hd => h.2.2.1 d (List.mem_append_left _ hd), h1⟩, h2, fun d hd e he k hk => ?_⟩
    rcases List.mem_cons.1 hd with rfl | hd
    · exact h.2.2.1 e (List.mem_append_right _ he) k hk
    · exact h3 d hd e he k hk

/-- A call that writes the chunks G of the caller. -/
theorem Sat.frame {B : Base} {G G' H : List Chunk} {w w' : World} (h : Sat B (G ++ H) w) (hg : Sat ⟨w, feet G⟩ G' w') : Sat B (G' ++ H) w' := by
  obtain ⟨a1, a2, a3⟩ := h.all.split
  have keepH : ∀ {H : List Chunk}, (∀ c ∈ G, ∀ d ∈ H, ∀ k, c.foot k → ¬ d.foot k) → AllP B w H → AllP B w' H := by
    intro H
    induction H with
    | nil => intro _ _; trivial
    | cons d H ih =>
      intro hx hH
      refine ⟨d.loc w w' (fun k hk => hg.block k (d.lt w hH.1 k hk) ?_) hH.1, hH.2.1, hH.2.2.1, ih (fun c hc e he => hx c hc e (List.mem_cons_of_mem _ he)) hH.2.2.2⟩
      rintro ⟨c, hc, hk'⟩
      exact hx c hc d (List.mem_cons_self ..) k hk' hk
  have turnG : ∀ {G' : List Chunk}, AllP ⟨w, feet G⟩ w' G' → AllP B w' G' := by
    intro G'
    induction G' with
    | nil => intro _; trivial
    | cons c G' ih => intro hG'; exact ⟨hG'.1, fun k hk => by
        rcases hG'.2.1 k hk with h1 | ⟨d, hd, hk'⟩
        · exact .inl (Nat.le_trans h.size h1)
        · exact (a1.mem d hd).2 k hk', hG'.2.2.1, ih hG'.2.2.2⟩
  refine ⟨hg.os.trans h.os, hg.tape.trans h.tape, hg.output.trans h.output, Nat.le_trans h.size hg.size, fun k hk hx => ?_, AllP.append (turnG hg.all) (keepH a3 a2) fun c hc d hd k hk hk' => ?_⟩
  · rw [hg.block k (Nat.lt_of_lt_of_le hk h.size) ?_]
    · exact h.block k hk hx
    · rintro ⟨c, hc, hk'⟩
      rcases (a1.mem c hc).2 k hk' with h1 | h1
      · omega
      · exact hx h1
  · rcases (hg.all.mem c hc).2 k hk with h1 | ⟨e, he, hk2⟩
    · have := d.lt w (a2.mem d hd).1 k hk'
      have h1 : w.heap.size ≤ k := h1
      omega
    · exact a3 e he d hd k hk2 hk'

/-- A call that wrote one chunk. -/
theorem Sat.ofGrown {w w' : World} {c c' : Chunk} {r : Option Nat} (hg : w.grownBy w' r) (hr : ∀ k, r = some k → c.foot k) (hc : c'.p w') (hf : ∀ k, c'.foot k → c.foot k ∨ w.heap.size ≤ k) : Sat ⟨w, feet [c]⟩ [c'] w' := by
  refine ⟨hg.os, hg.tape, hg.output, hg.size, fun k hk hx => hg.block k hk (fun e => hx ⟨c, List.mem_cons_self .., hr k e.symm⟩), hc, fun k hk => ?_, (fun d hd => by cases hd), trivial⟩
  rcases hf k hk with h | h
  · exact .inr ⟨c, List.mem_cons_self .., h⟩
  · exact .inl h
/-! ### Chunks of everyday -/
def blkC (b : Nat) (cs : List Value) (T : TypeId) : Chunk where
  foot := fun k => k = b
  p := fun w => Blk w b cs T
  loc := fun w w' h hp => by unfold Blk at hp ⊢; rw [h b rfl]; exact hp
  lt := fun w hp k hk => by subst hk; exact hp.lt

def mapC {K : Type} [DecidableEq K] (enc : K → Value) (b : Nat) (m : List (K × Value)) : Chunk where
  foot := fun k => k = b
  p := fun w => MapAt enc w b m
  loc := fun w w' h hp => by
    obtain ⟨es, clock, h1, h2, h3⟩ := hp
    exact ⟨es, clock, by rw [h b rfl]; exact h1, h2, h3⟩
  lt := fun w hp k hk => by
    obtain ⟨es, clock, h1, _⟩ := hp
    subst hk; exact (Array.getElem?_eq_some_iff.1 h1).1

/-- An own slice's chunk, at whatever base its block lies. -/
theorem ownsRow_zero {w : World} {B e sz n : Nat} {v : Value} {xs : List Value} (h : w.ownsRow B e sz v n xs) : w.ownsRow 0 e sz v n xs := by
  refine ⟨h.1, ?_⟩
  rcases h.2 with h' | ⟨g, cap, cur, hv, h1, h2⟩
  · exact .inl h'
  · exact .inr ⟨g, cap, cur, hv, Nat.zero_le _, h2⟩
theorem ownsRow_at {w : World} {B e sz n : Nat} {v : Value} {xs : List Value} (h : w.ownsRow 0 e sz v n xs) (hb : ∀ k, v.ownBlock = some k → B ≤ k) : w.ownsRow B e sz v n xs := by
  refine ⟨h.1, ?_⟩
  rcases h.2 with h' | ⟨g, cap, cur, rfl, h1, h2⟩
  · exact .inl h'
  · exact .inr ⟨g, cap, cur, rfl, hb g rfl, h2⟩
theorem ownsRow_ge {w : World} {B e sz n : Nat} {v : Value} {xs : List Value} (h : w.ownsRow B e sz v n xs) : ∀ k, v.ownBlock = some k → B ≤ k := by
  intro k hk
  rcases h.2 with ⟨rfl, _⟩ | ⟨g, cap, cur, rfl, h1, h2⟩
  · cases hk
  · cases hk; exact h1

/-! ### Runs over a symbolic heap -/
def HR (P : Program) (f : FuncId) (N : Nat) (k : List Item) (σ : Store) (B : Base) (H : List Chunk) (R : Ending → World → Prop) : Prop := ∀ w, Sat B H w → Run P f N k σ w R
def HL (P : Program) (N : Nat) (ops l : List Oper) (σ : Store) (B : Base) (H : List Chunk) (K : Act → World → Prop) : Prop := ∀ w, Sat B H w → RunL P N ops l σ w K

/-- One heap says all that another says. -/
def Ent (B : Base) (H H' : List Chunk) : Prop := ∀ w, Sat B H w → Sat B H' w
theorem Ent.refl {B : Base} {H : List Chunk} : Ent B H H := fun _ h => h
theorem Ent.pick {B : Base} {H H' : List Chunk} (is : List Nat) (hp : pickC H is = some H') (hd : distinctN is = true) : Ent B H H' := fun w h => h.pick is hp hd
theorem Ent.trans {B : Base} {H H' H'' : List Chunk} (h : Ent B H H') (h' : Ent B H' H'') : Ent B H H'' := fun w hw => h' w (h w hw)
theorem Ent.of_eq {B : Base} {H H' : List Chunk} (h : H = H') : Ent B H H' := fun w hw => h ▸ hw

section
variable {P : Program} {f : FuncId} {N : Nat} {k : List Item} {σ : Store} {B : Base} {H H' : List Chunk} {R : Ending → World → Prop} {ops l : List Oper} {o : Oper} {K : Act → World → Prop}

theorem calls_hr {fn : Func} {c : Code} {args : Array Value} {w : World} (hf : P.funcs[f]? = some fn) (hb : fn.body = some c) (hN : args.size ≤ fn.ntmps)
    (h : HR P f fn.ntmps [.code c] (args.toList.zipIdx.map fun (v, i) => (i, v)) (base w) [] R) : Calls P f args w R := calls_of_run hf hb hN (h w (Sat.start w))
/-- A function that writes what the caller holds. -/
theorem calls_hrW {fn : Func} {c : Code} {args : Array Value} {w : World} (G : List Chunk) (hG : Sat B G w) (hf : P.funcs[f]? = some fn) (hb : fn.body = some c) (hN : args.size ≤ fn.ntmps)
    (h : HR P f fn.ntmps [.code c] (args.toList.zipIdx.map fun (v, i) => (i, v)) ⟨w, feet G⟩ G R) : Calls P f args w R := by
  refine calls_of_run hf hb hN (h w ⟨rfl, rfl, rfl, Nat.le_refl _, fun _ _ _ => rfl, ?_⟩)
  have : ∀ {G' : List Chunk}, (∀ c ∈ G', c ∈ G) → AllP B w G' → AllP ⟨w, feet G⟩ w G' := by
    intro G'
    induction G' with
    | nil => intro _ _; trivial
    | cons c G' ih => intro hm ha; exact ⟨ha.1, fun k hk => .inr ⟨c, hm c (List.mem_cons_self ..), hk⟩, ha.2.2.1, ih (fun d hd => hm d (List.mem_cons_of_mem _ hd)) ha.2.2.2⟩
  exact this (fun _ h => h) hG.all

theorem HR.sub {σ' : Store} (hs : Sub σ' σ) (h : HR P f N k σ' B H R) : HR P f N k σ B H R := fun w hw => Run.sub hs (h w hw)
theorem HR.ent (he : Ent B H H') (h : HR P f N k σ B H' R) : HR P f N k σ B H R := fun w hw => h w (he w hw)
theorem HR.ctl {k' : List Item} (hk : ctl k = some k') (h : HR P f N k' σ B H R) : HR P f N k σ B H R := fun w hw => Run.ctl hk (h w hw)
theorem HR.region {id : Nat} (h : HL P N ops ops σ B H (CRun P f k R)) : HR P f N (.code (.region id ops.toArray false) :: k) σ B H R := fun w hw => Run.region (h w hw)
theorem HR.cond {t : Nat} {b : Bool} {x y : Code} (hl : look σ t = some (.bool b)) (ht : b = true → HR P f N (.code x :: k) σ B H R) (hf : b = false → HR P f N (.code y :: k) σ B H R) :
    HR P f N (.code (.cond (.tmp t) x y) :: k) σ B H R := fun w hw => Run.cond hl (fun e => ht e w hw) (fun e => hf e w hw)
theorem HR.condT {t : Nat} {x y : Code} (hl : look σ t = some (.bool true)) (h : HR P f N (.code x :: k) σ B H R) : HR P f N (.code (.cond (.tmp t) x y) :: k) σ B H R := fun w hw => Run.condT hl (h w hw)
theorem HR.condF {t : Nat} {x y : Code} (hl : look σ t = some (.bool false)) (h : HR P f N (.code y :: k) σ B H R) : HR P f N (.code (.cond (.tmp t) x y) :: k) σ B H R := fun w hw => Run.condF hl (h w hw)
/-- What is behind is walked once. -/
theorem HR.join {x : Code} {ι : Type} (Inv : ι → Prop) (st : ι → Store) (hp : ι → List Chunk) (hj : ∀ i, Inv i → HR P f N k (st i) B (hp i) R)
    (h : (∀ i σ' H', Inv i → Sub (st i) σ' → Ent B H' (hp i) → HR P f N k σ' B H' R) → HR P f N (.code x :: k) σ B H R) : HR P f N (.code x :: k) σ B H R :=
  h fun i σ' H' h1 h2 h3 => HR.sub h2 (HR.ent h3 (hj i h1))

theorem HR.loop {c : Code} {ι : Type} (Inv : ι → Prop) (st : ι → Store) (hp : ι → List Chunk) (μ : ι → Nat) (i0 : ι) (h0 : Inv i0) (hσ : Sub (st i0) σ) (hH : Ent B H (hp i0))
    (round : ∀ i, Inv i → (∀ i' σ' H', Inv i' → μ i' < μ i → Sub (st i') σ' → Ent B H' (hp i') → HR P f N (.inLoop c :: k) σ' B H' R) → HR P f N (.code c :: .inLoop c :: k) (st i) B (hp i) R) :
    HR P f N (.code (.loop c) :: k) σ B H R := by
  intro w hw
  refine Run.loop (fun i w => Inv i ∧ Sat B (hp i) w) st μ i0 ⟨h0, hH w hw⟩ hσ fun i w ⟨hI, hS⟩ ih => round i hI (fun i' σ' H' h1 h2 h3 h4 w' hw' => ih i' w' σ' ⟨h1, h4 w' hw'⟩ h2 h3) w hS
theorem HR.loop2 {c : Code} {α β : Type} (Inv : α → β → Prop) (st : α → β → Store) (hp : α → β → List Chunk) (μ : α → β → Nat) (a0 : α) (b0 : β) (h0 : Inv a0 b0) (hσ : Sub (st a0 b0) σ) (hH : Ent B H (hp a0 b0))
    (round : ∀ a b, Inv a b → (∀ a' b' σ' H', Inv a' b' → μ a' b' < μ a b → Sub (st a' b') σ' → Ent B H' (hp a' b') → HR P f N (.inLoop c :: k) σ' B H' R) → HR P f N (.code c :: .inLoop c :: k) (st a b) B (hp a b) R) :
    HR P f N (.code (.loop c) :: k) σ B H R :=
  HR.loop (ι := α × β) (fun i => Inv i.1 i.2) (fun i => st i.1 i.2) (fun i => hp i.1 i.2) (fun i => μ i.1 i.2) (a0, b0) h0 hσ hH fun i hI ih => round i.1 i.2 hI fun a' b' => ih (a', b')
theorem HR.loop3 {c : Code} {α β γ : Type} (Inv : α → β → γ → Prop) (st : α → β → γ → Store) (hp : α → β → γ → List Chunk) (μ : α → β → γ → Nat) (a0 : α) (b0 : β) (c0 : γ) (h0 : Inv a0 b0 c0) (hσ : Sub (st a0 b0 c0) σ) (hH : Ent B H (hp a0 b0 c0))
    (round : ∀ a b g, Inv a b g → (∀ a' b' g' σ' H', Inv a' b' g' → μ a' b' g' < μ a b g → Sub (st a' b' g') σ' → Ent B H' (hp a' b' g') → HR P f N (.inLoop c :: k) σ' B H' R) → HR P f N (.code c :: .inLoop c :: k) (st a b g) B (hp a b g) R) :
    HR P f N (.code (.loop c) :: k) σ B H R :=
  HR.loop (ι := α × β × γ) (fun i => Inv i.1 i.2.1 i.2.2) (fun i => st i.1 i.2.1 i.2.2) (fun i => hp i.1 i.2.1 i.2.2) (fun i => μ i.1 i.2.1 i.2.2) (a0, b0, c0) h0 hσ hH fun i hI ih => round i.1 i.2.1 i.2.2 hI fun a' b' c' => ih (a', b', c')

theorem HR.loop4 {c : Code} {α β γ δ : Type} (Inv : α → β → γ → δ → Prop) (st : α → β → γ → δ → Store) (hp : α → β → γ → δ → List Chunk) (μ : α → β → γ → δ → Nat) (a0 : α) (b0 : β) (c0 : γ) (d0 : δ) (h0 : Inv a0 b0 c0 d0) (hσ : Sub (st a0 b0 c0 d0) σ) (hH : Ent B H (hp a0 b0 c0 d0))
    (round : ∀ a b g e, Inv a b g e → (∀ a' b' g' e' σ' H', Inv a' b' g' e' → μ a' b' g' e' < μ a b g e → Sub (st a' b' g' e') σ' → Ent B H' (hp a' b' g' e') → HR P f N (.inLoop c :: k) σ' B H' R) → HR P f N (.code c :: .inLoop c :: k) (st a b g e) B (hp a b g e) R) :
    HR P f N (.code (.loop c) :: k) σ B H R :=
  HR.loop (ι := α × β × γ × δ) (fun i => Inv i.1 i.2.1 i.2.2.1 i.2.2.2) (fun i => st i.1 i.2.1 i.2.2.1 i.2.2.2) (fun i => hp i.1 i.2.1 i.2.2.1 i.2.2.2) (fun i => μ i.1 i.2.1 i.2.2.1 i.2.2.2) (a0, b0, c0, d0) h0 hσ hH fun i hI ih => round i.1 i.2.1 i.2.2.1 i.2.2.2 hI fun a' b' c' d' => ih (a', b', c', d')

theorem HR.loop5 {c : Code} {α β γ δ ε : Type} (Inv : α → β → γ → δ → ε → Prop) (st : α → β → γ → δ → ε → Store) (hp : α → β → γ → δ → ε → List Chunk) (μ : α → β → γ → δ → ε → Nat) (a0 : α) (b0 : β) (c0 : γ) (d0 : δ) (e0 : ε) (h0 : Inv a0 b0 c0 d0 e0) (hσ : Sub (st a0 b0 c0 d0 e0) σ) (hH : Ent B H (hp a0 b0 c0 d0 e0))
    (round : ∀ a b g e x, Inv a b g e x → (∀ a' b' g' e' x' σ' H', Inv a' b' g' e' x' → μ a' b' g' e' x' < μ a b g e x → Sub (st a' b' g' e' x') σ' → Ent B H' (hp a' b' g' e' x') → HR P f N (.inLoop c :: k) σ' B H' R) → HR P f N (.code c :: .inLoop c :: k) (st a b g e x) B (hp a b g e x) R) :
    HR P f N (.code (.loop c) :: k) σ B H R :=
  HR.loop (ι := α × β × γ × δ × ε) (fun i => Inv i.1 i.2.1 i.2.2.1 i.2.2.2.1 i.2.2.2.2) (fun i => st i.1 i.2.1 i.2.2.1 i.2.2.2.1 i.2.2.2.2) (fun i => hp i.1 i.2.1 i.2.2.1 i.2.2.2.1 i.2.2.2.2) (fun i => μ i.1 i.2.1 i.2.2.1 i.2.2.2.1 i.2.2.2.2) (a0, b0, c0, d0, e0) h0 hσ hH fun i hI ih => round i.1 i.2.1 i.2.2.1 i.2.2.2.1 i.2.2.2.2 hI fun a' b' c' d' e' => ih (a', b', c', d', e')

theorem HR.ret {fn : Func} {l : List ResultVar} (hf : P.funcs[f]? = some fn) (hl : fn.results = l.toArray) (vs : List Value) (hr : ∀ w, Sat B H w → ResR P w σ l vs) (hR : ∀ w, Sat B H w → R (.returned (resV vs)) w) : HR P f N (.code .ret :: k) σ B H R :=
  fun w hw => Run.ret hf hl vs (hr w hw) (hR w hw)
theorem HR.fin {fn : Func} {l : List ResultVar} (hf : P.funcs[f]? = some fn) (hl : fn.results = l.toArray) (vs : List Value) (hr : ∀ w, Sat B H w → ResR P w σ l vs) (hR : ∀ w, Sat B H w → R (.returned (resV vs)) w) : HR P f N [] σ B H R :=
  fun w hw => Run.fin hf hl vs (hr w hw) (hR w hw)

/-! ### Operations -/
theorem HL.nil (h : HR P f N k σ B H R) : HL P N ops [] σ B H (CRun P f k R) := fun w hw => RunL.nil (h w hw)
theorem HL.ent (he : Ent B H H') (h : HL P N ops l σ B H' K) : HL P N ops l σ B H K := fun w hw => h w (he w hw)
/-- A chunk is said otherwise. -/
theorem HL.as {c c' : Chunk} (i : Nat) (hi : nthC H i = some c) (hc' : ∀ w, c.p w → c'.p w) (hf : ∀ k, c'.foot k → c.foot k) (h : HL P N ops l σ B (setC H i c') K) : HL P N ops l σ B H K :=
  fun w hw => h w (hw.as i hi (hc' w) hf)
theorem HR.as {c c' : Chunk} (i : Nat) (hi : nthC H i = some c) (hc' : ∀ w, c.p w → c'.p w) (hf : ∀ k, c'.foot k → c.foot k) (h : HR P f N k σ B (setC H i c') R) : HR P f N k σ B H R :=
  fun w hw => h w (hw.as i hi (hc' w) hf)
/-- A fact that the chunks grant. -/
theorem HL.know {Q : Prop} (hq : ∀ w, Sat B H w → Q) (h : Q → HL P N ops l σ B H K) : HL P N ops l σ B H K := fun w hw => h (hq w hw) w hw
theorem HR.know {Q : Prop} (hq : ∀ w, Sat B H w → Q) (h : Q → HR P f N k σ B H R) : HR P f N k σ B H R := fun w hw => h (hq w hw) w hw

variable {d : Nat} {op : Op} {ty : TypeId} {pos : String} {af : Array Edge} {gd : Option (Nat × Bool)} {v : Value}
theorem HL.rd (hs : stat N ops ⟨some d, op, ty, pos, af, gd⟩ σ = true) (hr : ∀ w, Sat B H w → (execOp (evO σ) ⟨some d, op, ty, pos, af, gd⟩).run P w = .ok (.value v) w) (h : HL P N ops l ((d, v) :: σ) B H K) :
    HL P N ops (⟨some d, op, ty, pos, af, gd⟩ :: l) σ B H K := fun w hw => RunL.op hs (hr w hw) (h w hw)
theorem HL.ev (hs : stat N ops ⟨some d, op, ty, pos, af, gd⟩ σ = true) (he : evOp P σ op = some v) (h : HL P N ops l ((d, v) :: σ) B H K) : HL P N ops (⟨some d, op, ty, pos, af, gd⟩ :: l) σ B H K :=
  fun w hw => RunL.ev hs he (h w hw)
theorem HL.ev0 (hs : stat N ops ⟨none, op, ty, pos, af, gd⟩ σ = true) (he : evOp P σ op = some v) (h : HL P N ops l σ B H K) : HL P N ops (⟨none, op, ty, pos, af, gd⟩ :: l) σ B H K :=
  fun w hw => RunL.ev0 hs he (h w hw)
theorem HL.evc {c : Prop} (hs : stat N ops ⟨some d, op, ty, pos, af, gd⟩ σ = true) (he : evC P σ op = some (v, c)) (hc : c) (h : HL P N ops l ((d, v) :: σ) B H K) : HL P N ops (⟨some d, op, ty, pos, af, gd⟩ :: l) σ B H K :=
  fun w hw => RunL.evc hs he hc (h w hw)
theorem HL.skip (hw : wantedS ops gd σ = some false) (hd : dstOk N (some d) = true) (h : HL P N ops l ((d, undef) :: σ) B H K) : HL P N ops (⟨some d, op, ty, pos, af, gd⟩ :: l) σ B H K :=
  fun w hs => RunL.skip hw hd (h w hs)
theorem HL.skip0 (hw : wantedS ops gd σ = some false) (h : HL P N ops l σ B H K) : HL P N ops (⟨none, op, ty, pos, af, gd⟩ :: l) σ B H K :=
  fun w hs => RunL.skip0 hw (h w hs)
/-- An operation that yields a value and turns the heap; x: what is not known of it. -/
theorem HL.opX {α : Type} (val : α → Value) (G : α → List Chunk) (Q : α → Prop) (hs : stat N ops ⟨some d, op, ty, pos, af, gd⟩ σ = true)
    (hr : ∀ w, Sat B H w → ∃ x w', (execOp (evO σ) ⟨some d, op, ty, pos, af, gd⟩).run P w = .ok (.value (val x)) w' ∧ Q x ∧ Sat B (G x) w') (h : ∀ x, Q x → HL P N ops l ((d, val x) :: σ) B (G x) K) : HL P N ops (⟨some d, op, ty, pos, af, gd⟩ :: l) σ B H K := by
  intro w hw
  obtain ⟨x, w', h1, h2, h3⟩ := hr w hw
  exact RunL.op hs h1 (h x h2 w' h3)
theorem HL.opU (hs : stat N ops ⟨none, op, ty, pos, af, gd⟩ σ = true)
    (hr : ∀ w, Sat B H w → ∃ w', (execOp (evO σ) ⟨none, op, ty, pos, af, gd⟩).run P w = .ok .skip w' ∧ Sat B H' w') (h : HL P N ops l σ B H' K) : HL P N ops (⟨none, op, ty, pos, af, gd⟩ :: l) σ B H K := by
  intro w hw
  obtain ⟨w', h1, h2⟩ := hr w hw
  exact RunL.opU hs h1 (h w' h2)
theorem HL.op0 {α : Type} (val : α → Value) (G : α → List Chunk) (Q : α → Prop) (hs : stat N ops ⟨none, op, ty, pos, af, gd⟩ σ = true)
    (hr : ∀ w, Sat B H w → ∃ x w', (execOp (evO σ) ⟨none, op, ty, pos, af, gd⟩).run P w = .ok (.value (val x)) w' ∧ Q x ∧ Sat B (G x) w') (h : ∀ x, Q x → HL P N ops l σ B (G x) K) : HL P N ops (⟨none, op, ty, pos, af, gd⟩ :: l) σ B H K := by
  intro w hw
  obtain ⟨x, w', h1, h2, h3⟩ := hr w hw
  exact RunL.op0 hs h1 (h x h2 w' h3)

theorem HL.setV (t : Nat) {v v' : Value} (hl : look σ t = some v) (e : v = v') (h : HL P N ops l ((t, v') :: σ) B H K) : HL P N ops l σ B H K := fun w hw => RunL.setV t hl e (h w hw)
theorem HL.setB (t : Nat) {b : Bool} (c : Bool) (hl : look σ t = some (.bool b)) (e : b = c) (h : HL P N ops l ((t, .bool c) :: σ) B H K) : HL P N ops l σ B H K := fun w hw => RunL.setB t c hl e (h w hw)
theorem Run.setV {w : World} (t : Nat) {v v' : Value} (hl : look σ t = some v) (e : v = v') (h : Run P f N k ((t, v') :: σ) w R) : Run P f N k σ w R :=
  fun a ha => h a (ha.weaken fun t' u hu => by
    rw [look_cons] at hu
    split at hu
    · rename_i e'; subst e'; cases hu; rw [← e]; exact hl
    · exact hu)
theorem HR.setV (t : Nat) {v v' : Value} (hl : look σ t = some v) (e : v = v') (h : HR P f N k ((t, v') :: σ) B H R) : HR P f N k σ B H R := fun w hw => Run.setV t hl e (h w hw)
theorem HR.setB (t : Nat) {b : Bool} (c : Bool) (hl : look σ t = some (.bool b)) (e : b = c) (h : HR P f N k ((t, .bool c) :: σ) B H R) : HR P f N k σ B H R := HR.setV t hl (by rw [e]) h

/-! ### and, or -/
theorem HL.andB {tj te n dp : Nat} {b e : Bool} {rest : List Oper}
    (hg : gslot ops o = some (tj, true)) (hl : look σ tj = some (.bool b)) (hn : cutPick tj (o :: l) = some n)
    (hd : (o :: l).drop n = ⟨some dp, .pick (.tmp tj) (.tmp te) (.const (.bool false)), ty, pos, af, gd⟩ :: rest)
    (hgd : wantedS ops gd σ = some true) (hte : look σ te = none) (hok : blkOk N ops tj true n σ (o :: l) = true) (hdp : dstOk N (some dp) = true)
    (h1 : b = true → HL P N ops ((o :: l).take n) ((tj, .bool true) :: σ) B H (fun a' w' => Sat B H w' ∧ Agr N ((te, .bool e) :: (tj, .bool true) :: σ) a'))
    (h2 : HL P N ops rest ((dp, .bool (b && e)) :: σ) B H K) : HL P N ops (o :: l) σ B H K :=
  fun w hw => RunL.blk (want := true) (C := fun w' => Sat B H w') hw hl hte hd hgd (.inl ⟨rfl, rfl, rfl⟩) hok hdp (fun e => h1 e w hw) (fun w' hw' => h2 w' hw')
theorem HL.orB {tj te n dp : Nat} {b e : Bool} {rest : List Oper}
    (hg : gslot ops o = some (tj, false)) (hl : look σ tj = some (.bool b)) (hn : cutPick tj (o :: l) = some n)
    (hd : (o :: l).drop n = ⟨some dp, .pick (.tmp tj) (.const (.bool true)) (.tmp te), ty, pos, af, gd⟩ :: rest)
    (hgd : wantedS ops gd σ = some true) (hte : look σ te = none) (hok : blkOk N ops tj false n σ (o :: l) = true) (hdp : dstOk N (some dp) = true)
    (h1 : b = false → HL P N ops ((o :: l).take n) ((tj, .bool false) :: σ) B H (fun a' w' => Sat B H w' ∧ Agr N ((te, .bool e) :: (tj, .bool false) :: σ) a'))
    (h2 : HL P N ops rest ((dp, .bool (b || e)) :: σ) B H K) : HL P N ops (o :: l) σ B H K :=
  fun w hw => RunL.blk (want := false) (C := fun w' => Sat B H w') hw hl hte hd hgd (.inr ⟨rfl, rfl, rfl⟩) hok hdp (fun e => h1 e w hw) (fun w' hw' => h2 w' hw')
theorem HL.blkEnd {te : Nat} {e : Bool} {σ₀ : Store} (he : look σ te = some (.bool e)) (hp : popTo (lenS σ - lenS σ₀) σ = some σ₀) (hH : Ent B H H') : HL P N ops [] σ B H (fun a' w' => Sat B H' w' ∧ Agr N ((te, .bool e) :: σ₀) a') :=
  fun w hw a ha => wpList_nil ⟨rfl, hH w hw, ha.weaken (fun t v hv => by
    rw [look_cons] at hv
    split at hv
    · rename_i e'; subst e'; cases hv; exact he
    · exact popTo_spec hp t v hv)⟩

/-! ### Calls -/
/-- By a contract: x: what is not known of the result; G: what the call made. -/
theorem HL.callX {α : Type} {r : α → Value} {Q : α → Prop} {G : α → List Chunk} {g : FuncId} {args : List Operand} {a1 : List Value} {tys : Array TypeId} (hg : IsFn P g)
    (hs : stat N ops ⟨some d, .call ⟨.value (.func g), args.toArray, tys⟩, ty, pos, af, gd⟩ σ = true) (ha : vals σ args = some a1)
    (hc : ∀ w, Sat B H w → Calls P g a1.toArray w fun e w' => ∃ x, e = .returned (r x) ∧ Q x ∧ Sat (base w) (G x) w')
    (h : ∀ x, Q x → HL P N ops l ((d, r x) :: σ) B (G x ++ H) K) : HL P N ops (⟨some d, .call ⟨.value (.func g), args.toArray, tys⟩, ty, pos, af, gd⟩ :: l) σ B H K :=
  fun w hw => RunL.call hg hs ha ((hc w hw).mono fun e w' ⟨x, h1, h2, h3⟩ => ⟨r x, h1, h x h2 w' (hw.join h3)⟩)
/-- The result is known, nothing is made. -/
theorem HL.callB {r : Value} {g : FuncId} {args : List Operand} {a1 : List Value} {tys : Array TypeId} (hg : IsFn P g)
    (hs : stat N ops ⟨some d, .call ⟨.value (.func g), args.toArray, tys⟩, ty, pos, af, gd⟩ σ = true) (ha : vals σ args = some a1)
    (hc : ∀ w, Sat B H w → Calls P g a1.toArray w fun e w' => e = .returned r ∧ Below w.heap.size w w')
    (h : HL P N ops l ((d, r) :: σ) B H K) : HL P N ops (⟨some d, .call ⟨.value (.func g), args.toArray, tys⟩, ty, pos, af, gd⟩ :: l) σ B H K :=
  fun w hw => RunL.call hg hs ha ((hc w hw).mono fun e w' ⟨h1, h2⟩ => ⟨r, h1, h w' (hw.grow h2)⟩)
theorem HL.callP {r : Value} {g : FuncId} {args : List Operand} {a1 : List Value} {tys : Array TypeId} (hg : IsFn P g)
    (hs : stat N ops ⟨some d, .call ⟨.value (.func g), args.toArray, tys⟩, ty, pos, af, gd⟩ σ = true) (ha : vals σ args = some a1)
    (hc : ∀ w, Calls P g a1.toArray w fun e w' => e = .returned r ∧ w' = w)
    (h : HL P N ops l ((d, r) :: σ) B H K) : HL P N ops (⟨some d, .call ⟨.value (.func g), args.toArray, tys⟩, ty, pos, af, gd⟩ :: l) σ B H K :=
  fun w hw => RunL.call hg hs ha ((hc w).mono fun e w' ⟨h1, h2⟩ => ⟨r, h1, by subst h2; exact h _ hw⟩)
/-- A call that writes the first chunks, G0. -/
theorem HL.callW {α : Type} {r : α → Value} {Q : α → Prop} {G0 H0 : List Chunk} {G : α → List Chunk} {g : FuncId} {args : List Operand} {a1 : List Value} {tys : Array TypeId} (hg : IsFn P g)
    (hs : stat N ops ⟨some d, .call ⟨.value (.func g), args.toArray, tys⟩, ty, pos, af, gd⟩ σ = true) (ha : vals σ args = some a1) (hH : H = G0 ++ H0)
    (hc : ∀ w, Sat B H w → Calls P g a1.toArray w fun e w' => ∃ x, e = .returned (r x) ∧ Q x ∧ Sat ⟨w, feet G0⟩ (G x) w')
    (h : ∀ x, Q x → HL P N ops l ((d, r x) :: σ) B (G x ++ H0) K) : HL P N ops (⟨some d, .call ⟨.value (.func g), args.toArray, tys⟩, ty, pos, af, gd⟩ :: l) σ B H K :=
  fun w hw => RunL.call hg hs ha ((hc w hw).mono fun e w' ⟨x, h1, h2, h3⟩ => ⟨r x, h1, h x h2 w' (Sat.frame (hH ▸ hw) h3)⟩)
theorem HL.callW0 {α : Type} {r : α → Value} {Q : α → Prop} {G0 H0 : List Chunk} {G : α → List Chunk} {g : FuncId} {args : List Operand} {a1 : List Value} {tys : Array TypeId} (hg : IsFn P g)
    (hs : stat N ops ⟨none, .call ⟨.value (.func g), args.toArray, tys⟩, ty, pos, af, gd⟩ σ = true) (ha : vals σ args = some a1) (hH : H = G0 ++ H0)
    (hc : ∀ w, Sat B H w → Calls P g a1.toArray w fun e w' => ∃ x, e = .returned (r x) ∧ Q x ∧ Sat ⟨w, feet G0⟩ (G x) w')
    (h : ∀ x, Q x → HL P N ops l σ B (G x ++ H0) K) : HL P N ops (⟨none, .call ⟨.value (.func g), args.toArray, tys⟩, ty, pos, af, gd⟩ :: l) σ B H K :=
  fun w hw => RunL.call0 hg hs ha ((hc w hw).mono fun e w' ⟨x, h1, h2, h3⟩ => ⟨r x, h1, h x h2 w' (Sat.frame (hH ▸ hw) h3)⟩)

/-! ### Drawn regions that only read -/
abbrev HQ (P : Program) (N : Nat) (ops l : List Oper) (σ : Store) (B : Base) (H : List Chunk) (K : Act → Prop) : Prop := RunQ P N (fun w => Sat B H w) ops l σ K

theorem HR.regionQ {id : Nat} (hm : P.follows .mixedOrders = true) (hB : Region.lexB .any ops.toArray = true)
    (h : HQ P N ops ops σ B H (fun a' => ∀ w', Sat B H w' → CRun P f k R a' w')) : HR P f N (.code (.region id ops.toArray true) :: k) σ B H R := by
  intro w hw a ha
  refine CRun.of_wp (wp_region_quiet (C := fun w' => Sat B H w') hm hB (hw.grow ⟨rfl, rfl, rfl, Nat.le_refl _, fun _ _ => rfl⟩) ?_)
  exact wpQuiet_mono (fun a' h w' hw' => ⟨rfl, h w' hw'⟩) (h a ha)
theorem HQ.nil (h : HR P f N k σ B H R) : HQ P N ops [] σ B H (fun a' => ∀ w', Sat B H w' → CRun P f k R a' w') := fun a ha w' hw' => h w' hw' a ha
theorem HQ.callB {KQ : Act → Prop} {r : Value} {g : FuncId} {args : List Operand} {a1 : List Value} {tys : Array TypeId} (hg : IsFn P g)
    (hs : stat N ops ⟨some d, .call ⟨.value (.func g), args.toArray, tys⟩, ty, pos, af, gd⟩ σ = true) (ha : vals σ args = some a1)
    (hc : ∀ w, Sat B H w → Calls P g a1.toArray w fun e w' => e = .returned r ∧ Below w.heap.size w w')
    (h : HQ P N ops l ((d, r) :: σ) B H KQ) : HQ P N ops (⟨some d, .call ⟨.value (.func g), args.toArray, tys⟩, ty, pos, af, gd⟩ :: l) σ B H KQ :=
  RunQ.call hg hs ha (fun w hw => (hc w hw).mono fun e w' ⟨h1, h2⟩ => ⟨h1, hw.grow h2⟩) h

/-- A drawn region along a plan; F: the chunks that stay as they are meanwhile. -/
def HD (P : Program) (N : Nat) (ops : List Oper) (p : List (Nat × Bool)) (σ : Store) (B : Base) (H F : List Chunk) (K : Act → World → Prop) : Prop := ∀ w, Sat B H w → RunD P N (fun w => Sat B F w) ops p σ w K
theorem HR.regionD {F : List Chunk} (p : List (Nat × Bool)) (is : List Nat) (hF : pickC H is = some F) (hd : distinctN is = true) {id : Nat} (hm : P.follows .mixedOrders = true) (hB : planOk ops.toArray p = true) (h : HD P N ops p σ B H F (CRun P f k R)) : HR P f N (.code (.region id ops.toArray true) :: k) σ B H R :=
  fun w hw => Run.regionDS p (fun w => Sat B F w) hm hB fun w1 h1 h2 => ⟨(hw.grow h1).pick is hF hd, h w1 (hw.grow h1)⟩
variable {F : List Chunk} {i : Nat} {p : List (Nat × Bool)}
theorem HD.nil (h : HR P f N k σ B H R) : HD P N ops [] σ B H F (CRun P f k R) := fun w hw => RunD.nil (h w hw)
theorem HD.rd (ho : ops[i]? = some ⟨some d, op, ty, pos, af, gd⟩) (hs : stat N ops ⟨some d, op, ty, pos, af, gd⟩ σ = true)
    (hr : ∀ w, Sat B F w → (execOp (evO σ) ⟨some d, op, ty, pos, af, gd⟩).run P w = .ok (.value v) w) (h : HD P N ops p ((d, v) :: σ) B H F K) : HD P N ops ((i, true) :: p) σ B H F K := fun w hw => RunD.rd ho hs hr (h w hw)
theorem HD.ev (ho : ops[i]? = some ⟨some d, op, ty, pos, af, gd⟩) (hs : stat N ops ⟨some d, op, ty, pos, af, gd⟩ σ = true) (he : evOp P σ op = some v) (h : HD P N ops p ((d, v) :: σ) B H F K) : HD P N ops ((i, true) :: p) σ B H F K :=
  fun w hw => RunD.ev ho hs he (h w hw)
theorem HD.evc {c : Prop} (ho : ops[i]? = some ⟨some d, op, ty, pos, af, gd⟩) (hs : stat N ops ⟨some d, op, ty, pos, af, gd⟩ σ = true) (he : evC P σ op = some (v, c)) (hc : c) (h : HD P N ops p ((d, v) :: σ) B H F K) : HD P N ops ((i, true) :: p) σ B H F K :=
  fun w hw => RunD.evc ho hs he hc (h w hw)
theorem HD.skip (ho : ops[i]? = some ⟨some d, op, ty, pos, af, gd⟩) (hw : wantedS ops gd σ = some false) (hd : dstOk N (some d) = true) (h : HD P N ops p ((d, undef) :: σ) B H F K) : HD P N ops ((i, true) :: p) σ B H F K :=
  fun w hs => RunD.skip ho hw hd (h w hs)
theorem HD.skipO (ho : ops[i]? = some ⟨some d, op, ty, pos, af, gd⟩) (hw : wantedS ops gd σ = some false) (hd : dstOk N (some d) = true) (h : HD P N ops p ((d, undef) :: σ) B H F K) : HD P N ops ((i, false) :: p) σ B H F K :=
  fun w hs => RunD.skipO ho hw hd (h w hs)
theorem HD.one (ho : ops[i]? = some o) (h : HL P N ops [o] σ B H (DK P (fun w => Sat B F w) ops p K)) : HD P N ops ((i, false) :: p) σ B H F K := fun w hw => RunD.one ho (h w hw)
theorem HL.back (is : List Nat) (hF : pickC H is = some F) (hd : distinctN is = true) (h : HD P N ops p σ B H F K) : HL P N ops [] σ B H (DK P (fun w => Sat B F w) ops p K) := fun w hw => RunL.back (hw.pick is hF hd) (h w hw)
end
end Go.GX
