/- Distances of given graphs, by a table. Conditions: none. -/
import Derived.Test.YtppiojknjkadmaaTpFns
namespace Go.GX.Tp
open Go.GX
set_option linter.unusedVariables false
set_option linter.unusedSectionVars false
set_option linter.unusedSimpArgs false
def getT (n : Int) : List (Int × Nat) → Option Nat
  | [] => none
  | (a, k) :: r => if n = a then some k else getT n r
theorem getT_mem {n : Int} {k : Nat} : ∀ {T : List (Int × Nat)}, getT n T = some k → (n, k) ∈ T
  | [], h => by cases h
  | (a, j) :: r, h => by
    unfold getT at h
    split at h
    · rename_i e; cases h; subst e; exact List.mem_cons_self ..
    · exact List.mem_cons_of_mem _ (getT_mem h)
def leO : Option Nat → Option Nat → Bool
  | some k, some j => Nat.ble j (k + 1)
  | some _, none => false
  | none, _ => true
def chkT (l : List Ed) (src : Int) (T : List (Int × Nat)) : Bool :=
  okN src && (getT src T == some 0) && (T.all fun p => match p.2 with
    | 0 => p.1 == src
    | k + 1 => T.any fun q => linked l q.1 p.1 && (getT q.1 T == some k)) && l.all fun e => !okE e || (leO (getT e.a T) (getT e.b T) && leO (getT e.b T) (getT e.a T))
theorem isDist_of {l : List Ed} {src : Int} (T : List (Int × Nat)) (h : chkT l src T = true) : dist l src = fun n => getT n T := by
  refine IsDist.eq ?_
  simp only [chkT, Bool.and_eq_true, beq_iff_eq, List.all_eq_true] at h
  obtain ⟨⟨⟨h1, h2⟩, h3⟩, h4⟩ := h
  refine ⟨fun n => ⟨fun hn => ?_, fun ⟨e, _⟩ => by rw [e]; exact h2⟩, fun n k hn => ?_, fun m n k hl hm => ?_⟩
  · have := h3 _ (getT_mem hn)
    simp at this
    exact ⟨this, h1⟩
  · have := h3 _ (getT_mem hn)
    simp only [List.any_eq_true, Bool.and_eq_true, beq_iff_eq] at this
    obtain ⟨q, _, g1, g2⟩ := this
    exact ⟨q.1, g1, g2⟩
  · obtain ⟨e, he, hok, hab⟩ := linked_iff.1 hl
    have h5 := h4 e he
    rw [hok] at h5
    simp only [Bool.not_true, Bool.false_or, Bool.and_eq_true] at h5
    have key : ∀ {a b : Option Nat} {k : Nat}, leO a b = true → a = some k → ∃ j, j ≤ k + 1 ∧ b = some j := by
      intro a b k h ha
      subst ha
      cases b with
      | none => cases h
      | some j => exact ⟨j, Nat.le_of_ble_eq_true h, rfl⟩
    rcases hab with rfl | rfl
    · exact key h5.1 hm
    · exact key h5.2 hm
/-! ### The examples of the chapter -/
def l0 : List Ed := [⟨0, 1⟩, ⟨1, 2⟩, ⟨2, 3⟩]
def ring : List Ed := [⟨3, 0⟩, ⟨0, 1⟩, ⟨1, 2⟩, ⟨2, 3⟩]
def rest : List Ed := [⟨2, 3⟩]
theorem d_l0_0 : dist l0 0 = fun n => getT n [(0, 0), (1, 1), (2, 2), (3, 3)] := isDist_of _ (by decide +kernel)
theorem d_l0_1 : dist l0 1 = fun n => getT n [(1, 0), (0, 1), (2, 1), (3, 2)] := isDist_of _ (by decide +kernel)
theorem d_ring : dist ring 0 = fun n => getT n [(0, 0), (1, 1), (3, 1), (2, 2)] := isDist_of _ (by decide +kernel)
theorem d_rest : dist rest 0 = fun n => getT n [(0, 0)] := isDist_of _ (by decide +kernel)
theorem w_l0_1 : without l0 [1] = rest := by decide +kernel
theorem w_l0_2 : without l0 [2] = [⟨0, 1⟩] := by decide +kernel
theorem w_l0_3 : without l0 [3] = [⟨0, 1⟩, ⟨1, 2⟩] := by decide +kernel
theorem d_w2 : dist [⟨0, 1⟩] 0 = fun n => getT n [(0, 0), (1, 1)] := isDist_of _ (by decide +kernel)
theorem d_w3 : dist [⟨0, 1⟩, ⟨1, 2⟩] 0 = fun n => getT n [(0, 0), (1, 1), (2, 2)] := isDist_of _ (by decide +kernel)
theorem w_r_1 : without ring [1] = [⟨3, 0⟩, ⟨2, 3⟩] := by decide +kernel
theorem w_r_2 : without ring [2] = [⟨3, 0⟩, ⟨0, 1⟩] := by decide +kernel
theorem w_r_3 : without ring [3] = [⟨0, 1⟩, ⟨1, 2⟩] := by decide +kernel
theorem d_r1 : dist [⟨3, 0⟩, ⟨2, 3⟩] 0 = fun n => getT n [(0, 0), (3, 1), (2, 2)] := isDist_of _ (by decide +kernel)
theorem d_r2 : dist [⟨3, 0⟩, ⟨0, 1⟩] 0 = fun n => getT n [(0, 0), (3, 1), (1, 1)] := isDist_of _ (by decide +kernel)
theorem r_l0 : reachD (fun n => getT n [(0, 0), (1, 1), (2, 2), (3, 3)]) = [0, 1, 2, 3] := by decide +kernel
theorem r_ring : reachD (fun n => getT n [(0, 0), (1, 1), (3, 1), (2, 2)]) = [0, 1, 2, 3] := by decide +kernel
theorem r_rest : reachD (fun n => getT n [(0, 0)]) = [0] := by decide +kernel
theorem r_w2 : reachD (fun n => getT n [(0, 0), (1, 1)]) = [0, 1] := by decide +kernel
theorem r_w3 : reachD (fun n => getT n [(0, 0), (1, 1), (2, 2)]) = [0, 1, 2] := by decide +kernel
theorem r_r1 : reachD (fun n => getT n [(0, 0), (3, 1), (2, 2)]) = [0, 2, 3] := by decide +kernel
theorem r_r2 : reachD (fun n => getT n [(0, 0), (3, 1), (1, 1)]) = [0, 1, 3] := by decide +kernel
theorem aw_near : nbrs l0 1 = [0, 2] := by decide +kernel
theorem aw_hops : hopsZ (dist l0 0 3) = 3 := by rw [d_l0_0]; rfl
theorem aw_depth0 : depthD (dist l0 0) = 3 := by rw [d_l0_0]; decide +kernel
theorem aw_depth1 : depthD (dist l0 1) = 2 := by rw [d_l0_1]; decide +kernel
theorem aw_cut : cutL l0 0 = [1, 2] := by
  unfold cutL
  rw [d_l0_0, r_l0]
  simp only [List.filter_cons, List.filter_nil, critical, w_l0_1, w_l0_2, w_l0_3, d_l0_0, d_rest, d_w2, d_w3, r_l0, r_rest, r_w2, r_w3]
  rfl
theorem aw_parent : parentD l0 (dist l0 0) 3 = 2 := by rw [d_l0_0]; decide +kernel
theorem aw_hopsr : hopsZ (dist ring 0 3) = 1 := by rw [d_ring]; rfl
theorem aw_cutr : cutL ring 0 = [] := by
  unfold cutL
  rw [d_ring, r_ring]
  simp only [List.filter_cons, List.filter_nil, critical, w_r_1, w_r_2, w_r_3, d_ring, d_r1, d_r2, d_w3, r_ring, r_r1, r_r2, r_w3]
  rfl
theorem aw_parentr : parentD ring (dist ring 0) 2 = 1 := by rw [d_ring]; decide +kernel
theorem aw_reach : reachD (dist rest 0) = [0] := by rw [d_rest, r_rest]
theorem aw_chk1 : check [⟨0, 1⟩, ⟨1, 0⟩] = 9 := by decide +kernel
theorem aw_chk2 : check [⟨3, 3⟩] = 2 := by decide +kernel
end Go.GX.Tp
