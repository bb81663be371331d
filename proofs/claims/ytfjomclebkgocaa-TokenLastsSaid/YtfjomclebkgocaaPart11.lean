/- A part of the proof: contracts of the program's functions. Conditions: none. -/
import Derived.SliceStrings
import Derived.Test.YtfjomclebkgocaaPart2
import Derived.Test.YtfjomclebkgocaaPart3
import Derived.Test.YtfjomclebkgocaaPart10
namespace Go.Proofs.Ytfjomclebkgocaa
open Go.GX Go.RowKit
attribute [local irreducible] Calls Run RunL RunQ RunD HR HL HD blkC ownC mapC Rd slicesC iterC RdM
set_option linter.unusedVariables false
set_option linter.unusedSectionVars false
set_option linter.unusedSimpArgs false
set_option maxRecDepth 100000

open Tk
attribute [local irreducible] rdV fnv mac
theorem tokenSealed_any (key : Nat) (s : Se) (x : Nat) (now m : Int) (w : World) (hm : s.mem.length ≤ 9223372036854775807) (hx : x < 4294967296) (hnow : fits .i64 now) : Calls Try.prog 10 #[.int .u64 (key : Int), seV s, .int .u32 (x : Int), .int .i64 now, .int .i64 m] w fun e w' => e = .returned (.bool true) ∧ Below w.heap.size w w' := by
  refine calls_hr Try.func10 rfl (Nat.le_of_ble_eq_true rfl) ?_
  refine HR.sub (σ' := [(0, .int .u64 (key : Int)), (1, seV s), (2, .int .u32 (x : Int)), (3, .int .i64 now), (4, .int .i64 m)]) ⟨rfl, rfl, rfl, rfl, rfl, trivial⟩ ?_
  repeat' (first | (refine HL.isOp ?_; first | refine HL.ev rfl rfl ?_ | refine HL.evc rfl rfl (by first | omega | (simp; done) | (simp; omega)) ?_ | refine HL.callB fn12 rfl rfl (fun w _ => check48_any s w hm) ?_ | (refine HL.isLoad ?_; first | refine HL.L 0 rfl rfl rfl rfl ?_ | refine HL.L 1 rfl rfl rfl rfl ?_ | refine HL.L 2 rfl rfl rfl rfl ?_ | refine HL.L 3 rfl rfl rfl rfl ?_ | refine HL.L 4 rfl rfl rfl rfl ?_ | refine HL.L 5 rfl rfl rfl rfl ?_) | (refine HL.isStore ?_; first | refine HL.S 0 rfl rfl rfl rfl rfl ?_ | refine HL.S 1 rfl rfl rfl rfl rfl ?_ | refine HL.S 2 rfl rfl rfl rfl rfl ?_ | refine HL.S 3 rfl rfl rfl rfl rfl ?_ | refine HL.S 4 rfl rfl rfl rfl rfl ?_ | refine HL.S 5 rfl rfl rfl rfl rfl ?_) | refine HL.build rfl rfl ?_ | refine HL.field rfl rfl ?_ | (refine HL.box rfl rfl ?_; intro bk) | (refine HL.alloc rfl rfl ?_; intro bk) | refine HL.skip rfl rfl ?_ | refine HL.skip0 rfl ?_) | refine HL.nil ?_ | refine HR.ctl rfl ?_ | refine HR.region ?_ | refine HR.condT rfl ?_ | refine HR.condF rfl ?_)
  refine HR.cond rfl (fun h => ?_) (fun h => ?_)
  · repeat' (first | (refine HL.isOp ?_; first | refine HL.ev rfl rfl ?_ | refine HL.evc rfl rfl (by first | omega | (simp; done) | (simp; omega)) ?_ | refine HL.callB fn11 rfl rfl (fun w _ => awake_any w) ?_ | (refine HL.isLoad ?_; first | refine HL.L 0 rfl rfl rfl rfl ?_ | refine HL.L 1 rfl rfl rfl rfl ?_ | refine HL.L 2 rfl rfl rfl rfl ?_ | refine HL.L 3 rfl rfl rfl rfl ?_ | refine HL.L 4 rfl rfl rfl rfl ?_ | refine HL.L 5 rfl rfl rfl rfl ?_) | (refine HL.isStore ?_; first | refine HL.S 0 rfl rfl rfl rfl rfl ?_ | refine HL.S 1 rfl rfl rfl rfl rfl ?_ | refine HL.S 2 rfl rfl rfl rfl rfl ?_ | refine HL.S 3 rfl rfl rfl rfl rfl ?_ | refine HL.S 4 rfl rfl rfl rfl rfl ?_ | refine HL.S 5 rfl rfl rfl rfl rfl ?_) | refine HL.build rfl rfl ?_ | refine HL.field rfl rfl ?_ | (refine HL.box rfl rfl ?_; intro bk) | (refine HL.alloc rfl rfl ?_; intro bk) | refine HL.skip rfl rfl ?_ | refine HL.skip0 rfl ?_) | refine HL.nil ?_ | refine HR.ctl rfl ?_ | refine HR.region ?_ | refine HR.condT rfl ?_ | refine HR.condF rfl ?_)
    refine HR.ret Try.func10 rfl [_] (fun _ _ => ⟨rfl, trivial⟩) ?_
    exact fun w' hw => ⟨rfl, hw.belowB⟩
  have hc : Tk.check s = 0 := by simpa using h
  have hok := ok_of hc
  obtain ⟨T, hT⟩ : ∃ T, T = hex (seal_ key (payload s)) := ⟨_, rfl⟩
  have hI : issue key s = (T, 0) := by rw [hT]; exact issue_ok hc
  have hO : openT key T = (s, 0) := by rw [hT]; exact openT_issue hc
  obtain ⟨hT1, hT2⟩ : 8 ≤ T.length ∧ T.length ≤ 136 := by rw [hT]; exact tok_len hc
  have htk : T.take (T.length - 8) = hex (payload s) := by rw [hT]; exact tok_take key (payload s)
  have hpl := (Tk.payload_len hok).2
  have hhl := hex_len (payload s)
  have hs4 := sum4_len x
  have hhs := hex_len (sum4 x)
  have hsx := sum4_is x
  repeat' (first | (refine HL.isOp ?_; first | refine HL.ev rfl rfl ?_ | refine HL.evc rfl rfl (by first | omega | (simp; done) | (simp; omega)) ?_ | refine HL.callB (r := .tuple ⟨[str T, .int .i64 0]⟩) fn18 rfl rfl (fun w _ => by have := issue_any key s w hm; rw [hI] at this; exact this) ?_ | (refine HL.isLoad ?_; first | refine HL.L 0 rfl rfl rfl rfl ?_ | refine HL.L 1 rfl rfl rfl rfl ?_ | refine HL.L 2 rfl rfl rfl rfl ?_ | refine HL.L 3 rfl rfl rfl rfl ?_ | refine HL.L 4 rfl rfl rfl rfl ?_ | refine HL.L 5 rfl rfl rfl rfl ?_) | (refine HL.isStore ?_; first | refine HL.S 0 rfl rfl rfl rfl rfl ?_ | refine HL.S 1 rfl rfl rfl rfl rfl ?_ | refine HL.S 2 rfl rfl rfl rfl rfl ?_ | refine HL.S 3 rfl rfl rfl rfl rfl ?_ | refine HL.S 4 rfl rfl rfl rfl rfl ?_ | refine HL.S 5 rfl rfl rfl rfl rfl ?_) | refine HL.build rfl rfl ?_ | refine HL.field rfl rfl ?_ | (refine HL.box rfl rfl ?_; intro bk) | (refine HL.alloc rfl rfl ?_; intro bk) | refine HL.skip rfl rfl ?_ | refine HL.skip0 rfl ?_) | refine HL.nil ?_ | refine HR.ctl rfl ?_ | refine HR.region ?_ | refine HR.condT rfl ?_ | refine HR.condF rfl ?_)
  refine HR.setB 32 false rfl (decide_eq_false (by omega)) ?_
  repeat' (first | (refine HL.isOp ?_; first | refine HL.ev rfl rfl ?_ | refine HL.evc rfl rfl (by first | omega | (simp; done) | (simp; omega)) ?_ | (refine HL.isLoad ?_; first | refine HL.L 0 rfl rfl rfl rfl ?_ | refine HL.L 1 rfl rfl rfl rfl ?_ | refine HL.L 2 rfl rfl rfl rfl ?_ | refine HL.L 3 rfl rfl rfl rfl ?_ | refine HL.L 4 rfl rfl rfl rfl ?_ | refine HL.L 5 rfl rfl rfl rfl ?_) | (refine HL.isStore ?_; first | refine HL.S 0 rfl rfl rfl rfl rfl ?_ | refine HL.S 1 rfl rfl rfl rfl rfl ?_ | refine HL.S 2 rfl rfl rfl rfl rfl ?_ | refine HL.S 3 rfl rfl rfl rfl rfl ?_ | refine HL.S 4 rfl rfl rfl rfl rfl ?_ | refine HL.S 5 rfl rfl rfl rfl rfl ?_) | refine HL.build rfl rfl ?_ | refine HL.field rfl rfl ?_ | (refine HL.box rfl rfl ?_; intro bk) | (refine HL.alloc rfl rfl ?_; intro bk) | refine HL.skip rfl rfl ?_ | refine HL.skip0 rfl ?_) | refine HL.nil ?_ | refine HR.ctl rfl ?_ | refine HR.region ?_ | refine HR.condT rfl ?_ | refine HR.condF rfl ?_)
  refine HR.regionD [(0, true), (1, true), (2, true), (3, true), (4, true), (5, true), (6, true), (7, true), (8, true), (9, true), (10, true), (11, true), (12, true), (13, true), (14, true), (15, true), (16, false), (17, false), (18, false), (19, true), (20, true)] [] rfl rfl hmix (by kernel_rfl) ?_
  repeat' (first | refine HD.ev rfl rfl rfl ?_ | refine HD.evc rfl rfl rfl (by first | omega | (simp; done) | (simp; omega)) ?_ | refine HD.L 0 rfl rfl rfl rfl rfl ?_ | refine HD.L 1 rfl rfl rfl rfl rfl ?_ | refine HD.L 2 rfl rfl rfl rfl rfl ?_ | refine HD.L 3 rfl rfl rfl rfl rfl ?_ | refine HD.L 4 rfl rfl rfl rfl rfl ?_ | refine HD.L 5 rfl rfl rfl rfl rfl ?_ | refine HD.build rfl rfl rfl ?_ | refine HD.skip rfl rfl rfl ?_ | refine HD.skipO rfl rfl rfl ?_)
  refine HD.setV 36 (v' := .int .i64 ((T.length - 8 : Nat) : Int)) rfl (by rw [Int.natCast_sub (by omega)]; rfl) ?_
  repeat' (first | refine HD.ev rfl rfl rfl ?_ | refine HD.evc rfl rfl rfl (by first | omega | (simp; done) | (simp; omega)) ?_ | refine HD.L 0 rfl rfl rfl rfl rfl ?_ | refine HD.L 1 rfl rfl rfl rfl rfl ?_ | refine HD.L 2 rfl rfl rfl rfl rfl ?_ | refine HD.L 3 rfl rfl rfl rfl rfl ?_ | refine HD.L 4 rfl rfl rfl rfl rfl ?_ | refine HD.L 5 rfl rfl rfl rfl rfl ?_ | refine HD.build rfl rfl rfl ?_ | refine HD.skip rfl rfl rfl ?_ | refine HD.skipO rfl rfl rfl ?_)
  refine HD.setV 40 (v' := .int .u8 ((UInt8.ofNat (x / 2 ^ 24)).toNat : Int)) rfl (by rw [u8n]; congr 1; omega) ?_
  refine HD.cv ((UInt8.ofNat (x / 2 ^ 16)).toNat : Int) rfl rfl rfl rfl rfl (wrap8 _) ?_
  repeat' (first | refine HD.ev rfl rfl rfl ?_ | refine HD.evc rfl rfl rfl (by first | omega | (simp; done) | (simp; omega)) ?_ | refine HD.L 0 rfl rfl rfl rfl rfl ?_ | refine HD.L 1 rfl rfl rfl rfl rfl ?_ | refine HD.L 2 rfl rfl rfl rfl rfl ?_ | refine HD.L 3 rfl rfl rfl rfl rfl ?_ | refine HD.L 4 rfl rfl rfl rfl rfl ?_ | refine HD.L 5 rfl rfl rfl rfl rfl ?_ | refine HD.build rfl rfl rfl ?_ | refine HD.skip rfl rfl rfl ?_ | refine HD.skipO rfl rfl rfl ?_)
  refine HD.cv ((UInt8.ofNat (x / 2 ^ 8)).toNat : Int) rfl rfl rfl rfl rfl (wrap8 _) ?_
  repeat' (first | refine HD.ev rfl rfl rfl ?_ | refine HD.evc rfl rfl rfl (by first | omega | (simp; done) | (simp; omega)) ?_ | refine HD.L 0 rfl rfl rfl rfl rfl ?_ | refine HD.L 1 rfl rfl rfl rfl rfl ?_ | refine HD.L 2 rfl rfl rfl rfl rfl ?_ | refine HD.L 3 rfl rfl rfl rfl rfl ?_ | refine HD.L 4 rfl rfl rfl rfl rfl ?_ | refine HD.L 5 rfl rfl rfl rfl rfl ?_ | refine HD.build rfl rfl rfl ?_ | refine HD.skip rfl rfl rfl ?_ | refine HD.skipO rfl rfl rfl ?_)
  refine HD.cv ((UInt8.ofNat x).toNat : Int) rfl rfl rfl rfl rfl (wrap8 _) ?_
  refine HD.one rfl (HL.bslice elemB rfl rfl rfl rfl rfl (by decide) (by decide) ?_)
  intro v1
  refine HL.back [] rfl rfl ?_
  refine HD.one rfl (HL.bstr (l' := [UInt8.ofNat (x / 2 ^ 24), UInt8.ofNat (x / 2 ^ 16), UInt8.ofNat (x / 2 ^ 8), UInt8.ofNat x]) (Rd.own 0 rfl) rfl rfl rfl rfl rfl ?_)
  rw [← hsx]
  refine HL.back [] rfl rfl ?_
  refine HD.one rfl (HL.callB fn17 rfl rfl (fun w _ => rhex_any (sum4 x) w (by omega)) ?_)
  refine HL.back [] rfl rfl ?_
  refine HD.setV 37 (v' := str (hex (payload s))) rfl (by rw [← htk]) ?_
  repeat' (first | refine HD.ev rfl rfl rfl ?_ | refine HD.evc rfl rfl rfl (by first | omega | (simp; done) | (simp; omega)) ?_ | refine HD.L 0 rfl rfl rfl rfl rfl ?_ | refine HD.L 1 rfl rfl rfl rfl rfl ?_ | refine HD.L 2 rfl rfl rfl rfl rfl ?_ | refine HD.L 3 rfl rfl rfl rfl rfl ?_ | refine HD.L 4 rfl rfl rfl rfl rfl ?_ | refine HD.L 5 rfl rfl rfl rfl rfl ?_ | refine HD.build rfl rfl rfl ?_ | refine HD.skip rfl rfl rfl ?_ | refine HD.skipO rfl rfl rfl ?_)
  refine HD.nil ?_
  obtain ⟨O, hOo⟩ : ∃ O, O = hex (payload s) ++ hex (sum4 x) := ⟨_, rfl⟩
  have hO2 : O = hex (payload s ++ sum4 x) := by rw [hOo, hex_app]
  have hOl : O.length ≤ 200 := by rw [hOo, List.length_append]; omega
  refine HR.setV 13 (v' := str O) rfl (by rw [hOo]) ?_
  repeat' (first | (refine HL.isOp ?_; first | refine HL.ev rfl rfl ?_ | refine HL.evc rfl rfl (by first | omega | (simp; done) | (simp; omega)) ?_ | (refine HL.isLoad ?_; first | refine HL.L 0 rfl rfl rfl rfl ?_ | refine HL.L 1 rfl rfl rfl rfl ?_ | refine HL.L 2 rfl rfl rfl rfl ?_ | refine HL.L 3 rfl rfl rfl rfl ?_ | refine HL.L 4 rfl rfl rfl rfl ?_ | refine HL.L 5 rfl rfl rfl rfl ?_) | (refine HL.isStore ?_; first | refine HL.S 0 rfl rfl rfl rfl rfl ?_ | refine HL.S 1 rfl rfl rfl rfl rfl ?_ | refine HL.S 2 rfl rfl rfl rfl rfl ?_ | refine HL.S 3 rfl rfl rfl rfl rfl ?_ | refine HL.S 4 rfl rfl rfl rfl rfl ?_ | refine HL.S 5 rfl rfl rfl rfl rfl ?_) | refine HL.build rfl rfl ?_ | refine HL.field rfl rfl ?_ | (refine HL.box rfl rfl ?_; intro bk) | (refine HL.alloc rfl rfl ?_; intro bk) | refine HL.skip rfl rfl ?_ | refine HL.skip0 rfl ?_) | refine HL.nil ?_ | refine HR.ctl rfl ?_ | refine HR.region ?_ | refine HR.condT rfl ?_ | refine HR.condF rfl ?_)
  refine HR.join (ι := Unit) (fun _ => True) (fun _ => [(0, .int .u64 (key : Int)), (3, .int .i64 now), (4, .int .i64 m), (6, .pointer (some ⟨bk, 0, none⟩)), (11, str T)]) (fun _ => [blkC bk (seC s) 23]) ?_ (fun hj => ?_)
  · intro _ _
    have hok' := hok
    obtain ⟨k1, k2, k3, k4, k5, k6, k7⟩ := hok'
    repeat' (first | (refine HL.isOp ?_; first | refine HL.ev rfl rfl ?_ | refine HL.evc rfl rfl (by first | omega | (simp; done) | (simp; omega)) ?_ | (refine HL.isLoad ?_; first | refine HL.L 0 rfl rfl rfl rfl ?_ | refine HL.L 1 rfl rfl rfl rfl ?_ | refine HL.L 2 rfl rfl rfl rfl ?_ | refine HL.L 3 rfl rfl rfl rfl ?_ | refine HL.L 4 rfl rfl rfl rfl ?_ | refine HL.L 5 rfl rfl rfl rfl ?_) | (refine HL.isStore ?_; first | refine HL.S 0 rfl rfl rfl rfl rfl ?_ | refine HL.S 1 rfl rfl rfl rfl rfl ?_ | refine HL.S 2 rfl rfl rfl rfl rfl ?_ | refine HL.S 3 rfl rfl rfl rfl rfl ?_ | refine HL.S 4 rfl rfl rfl rfl rfl ?_ | refine HL.S 5 rfl rfl rfl rfl rfl ?_) | refine HL.build rfl rfl ?_ | refine HL.field rfl rfl ?_ | (refine HL.box rfl rfl ?_; intro bk) | (refine HL.alloc rfl rfl ?_; intro bk) | refine HL.skip rfl rfl ?_ | refine HL.skip0 rfl ?_ | apply HL.andB rfl rfl rfl rfl rfl rfl rfl rfl | apply HL.orB rfl rfl rfl rfl rfl rfl rfl rfl) | refine HL.nil ?_ | refine HR.ctl rfl ?_ | refine HR.region ?_ | refine HR.condT rfl ?_ | refine HR.condF rfl ?_ | exact HL.blkEnd rfl rfl Ent.refl | (refine fun (hb : (_ : Bool) = _) => ?_; try simp at hb))
    refine HR.cond rfl (fun h3 => ?_) (fun h3 => ?_)
    · repeat' (first | (refine HL.isOp ?_; first | refine HL.ev rfl rfl ?_ | refine HL.evc rfl rfl (by first | omega | (simp; done) | (simp; omega)) ?_ | refine HL.callB fn11 rfl rfl (fun w _ => awake_any w) ?_ | (refine HL.isLoad ?_; first | refine HL.L 0 rfl rfl rfl rfl ?_ | refine HL.L 1 rfl rfl rfl rfl ?_ | refine HL.L 2 rfl rfl rfl rfl ?_ | refine HL.L 3 rfl rfl rfl rfl ?_ | refine HL.L 4 rfl rfl rfl rfl ?_ | refine HL.L 5 rfl rfl rfl rfl ?_) | (refine HL.isStore ?_; first | refine HL.S 0 rfl rfl rfl rfl rfl ?_ | refine HL.S 1 rfl rfl rfl rfl rfl ?_ | refine HL.S 2 rfl rfl rfl rfl rfl ?_ | refine HL.S 3 rfl rfl rfl rfl rfl ?_ | refine HL.S 4 rfl rfl rfl rfl rfl ?_ | refine HL.S 5 rfl rfl rfl rfl rfl ?_) | refine HL.build rfl rfl ?_ | refine HL.field rfl rfl ?_ | (refine HL.box rfl rfl ?_; intro bk) | (refine HL.alloc rfl rfl ?_; intro bk) | refine HL.skip rfl rfl ?_ | refine HL.skip0 rfl ?_) | refine HL.nil ?_ | refine HR.ctl rfl ?_ | refine HR.region ?_ | refine HR.condT rfl ?_ | refine HR.condF rfl ?_)
      refine HR.ret Try.func10 rfl [_] (fun _ _ => ⟨rfl, trivial⟩) ?_
      exact fun w' hw => ⟨rfl, hw.belowB⟩
    have h3 : (((((decide (now < s.iss) || decide (now ≥ s.exp)) || decide (m < 1)) || decide (m > 43200)) || (s.id == 1099511627776)) || decide (now + m > 1099511627776)) = false := h3
    simp only [Bool.or_eq_false_iff, decide_eq_false_iff_not, beq_eq_false_iff_ne, ne_eq] at h3
    obtain ⟨⟨⟨⟨⟨g1, g2⟩, g3⟩, g4⟩, g5⟩, g6⟩ := h3
    obtain ⟨hr, hc2⟩ := renewed_ok hok (now := now) (m := m) (by omega) (by omega) (by omega) (by omega) g5 (by omega)
    have hV : verify key T now [] = (s, 0) := by
      rw [ver_of hO, if_neg (by rw [Bool.or_eq_true, decide_eq_true_eq, decide_eq_true_eq]; omega), if_neg (by simp)]
    obtain ⟨T2, hT2'⟩ : ∃ T2, T2 = hex (seal_ key (payload ⟨s.mem, s.id + 1, now, now + m⟩)) := ⟨_, rfl⟩
    have hR : renew key T now m [] = (T2, 0) := by rw [ren_of hV, hr, hT2']; exact issue_ok hc2
    have hO2 : openT key T2 = (⟨s.mem, s.id + 1, now, now + m⟩, 0) := by rw [hT2']; exact openT_issue hc2
    have hT2l : T2.length ≤ 136 := by rw [hT2']; exact (tok_len hc2).2
    have hV2 : verify key T2 now [s.id] = (⟨s.mem, s.id + 1, now, now + m⟩, 0) := by
      rw [ver_of hO2, if_neg (by rw [Bool.or_eq_true, decide_eq_true_eq, decide_eq_true_eq]; simp only []; omega), if_neg (by simp only [List.mem_singleton]; omega)]
    repeat' (first | (refine HL.isOp ?_; first | refine HL.ev rfl rfl ?_ | refine HL.evc rfl rfl (by first | omega | (simp; done) | (simp; omega)) ?_ | refine HL.callB (r := .tuple ⟨[str T2, .int .i64 0]⟩) fn25 rfl rfl (fun w _ => by have := renew_any key T now m [] (.slice none 0 0) w (by omega) (Sl.nil w) (by decide); rw [hR] at this; exact this) ?_ | (refine HL.isLoad ?_; first | refine HL.L 0 rfl rfl rfl rfl ?_ | refine HL.L 1 rfl rfl rfl rfl ?_ | refine HL.L 2 rfl rfl rfl rfl ?_ | refine HL.L 3 rfl rfl rfl rfl ?_ | refine HL.L 4 rfl rfl rfl rfl ?_ | refine HL.L 5 rfl rfl rfl rfl ?_) | (refine HL.isStore ?_; first | refine HL.S 0 rfl rfl rfl rfl rfl ?_ | refine HL.S 1 rfl rfl rfl rfl rfl ?_ | refine HL.S 2 rfl rfl rfl rfl rfl ?_ | refine HL.S 3 rfl rfl rfl rfl rfl ?_ | refine HL.S 4 rfl rfl rfl rfl rfl ?_ | refine HL.S 5 rfl rfl rfl rfl rfl ?_) | refine HL.build rfl rfl ?_ | refine HL.field rfl rfl ?_ | (refine HL.box rfl rfl ?_; intro bk) | (refine HL.alloc rfl rfl ?_; intro bk) | refine HL.skip rfl rfl ?_ | refine HL.skip0 rfl ?_) | refine HL.nil ?_ | refine HR.ctl rfl ?_ | refine HR.region ?_ | refine HR.condT rfl ?_ | refine HR.condF rfl ?_)
    refine HL.callO fn28 rfl rfl (fun w _ => by have := revoke_any [] s.id (.slice none 0 0) w (Sl.nil w) (by decide); rw [rev_nil] at this; exact this) ?_
    intro v2
    repeat' (first | (refine HL.isOp ?_; first | refine HL.ev rfl rfl ?_ | refine HL.evc rfl rfl (by first | omega | (simp; done) | (simp; omega)) ?_ | refine HL.callB (r := .tuple ⟨[seV ⟨s.mem, s.id + 1, now, now + m⟩, .int .i64 0]⟩) fn23 rfl rfl (fun w hw => by have := verify_any key T2 now [s.id] v2 w (by omega) ((Rd.own 0 rfl).at hw) (by simp); rw [hV2] at this; exact this) ?_ | refine HL.eqS rfl (by kernel_rfl) (by kernel_rfl) rfl rfl rfl ?_ | (refine HL.isLoad ?_; first | refine HL.L 0 rfl rfl rfl rfl ?_ | refine HL.L 1 rfl rfl rfl rfl ?_ | refine HL.L 2 rfl rfl rfl rfl ?_ | refine HL.L 3 rfl rfl rfl rfl ?_ | refine HL.L 4 rfl rfl rfl rfl ?_ | refine HL.L 5 rfl rfl rfl rfl ?_) | (refine HL.isStore ?_; first | refine HL.S 0 rfl rfl rfl rfl rfl ?_ | refine HL.S 1 rfl rfl rfl rfl rfl ?_ | refine HL.S 2 rfl rfl rfl rfl rfl ?_ | refine HL.S 3 rfl rfl rfl rfl rfl ?_ | refine HL.S 4 rfl rfl rfl rfl rfl ?_ | refine HL.S 5 rfl rfl rfl rfl rfl ?_) | refine HL.build rfl rfl ?_ | refine HL.field rfl rfl ?_ | (refine HL.box rfl rfl ?_; intro bk) | (refine HL.alloc rfl rfl ?_; intro bk) | refine HL.skip rfl rfl ?_ | refine HL.skip0 rfl ?_) | refine HL.nil ?_ | refine HR.ctl rfl ?_ | refine HR.region ?_ | refine HR.condT rfl ?_ | refine HR.condF rfl ?_)
    refine HL.setB 130 true rfl (by simp) ?_
    repeat' (first | (refine HL.isOp ?_; first | refine HL.ev rfl rfl ?_ | refine HL.evc rfl rfl (by first | omega | (simp; done) | (simp; omega)) ?_ | refine HL.callB fn11 rfl rfl (fun w _ => awake_any w) ?_ | (refine HL.isLoad ?_; first | refine HL.L 0 rfl rfl rfl rfl ?_ | refine HL.L 1 rfl rfl rfl rfl ?_ | refine HL.L 2 rfl rfl rfl rfl ?_ | refine HL.L 3 rfl rfl rfl rfl ?_ | refine HL.L 4 rfl rfl rfl rfl ?_ | refine HL.L 5 rfl rfl rfl rfl ?_) | (refine HL.isStore ?_; first | refine HL.S 0 rfl rfl rfl rfl rfl ?_ | refine HL.S 1 rfl rfl rfl rfl rfl ?_ | refine HL.S 2 rfl rfl rfl rfl rfl ?_ | refine HL.S 3 rfl rfl rfl rfl rfl ?_ | refine HL.S 4 rfl rfl rfl rfl rfl ?_ | refine HL.S 5 rfl rfl rfl rfl rfl ?_) | refine HL.build rfl rfl ?_ | refine HL.field rfl rfl ?_ | (refine HL.box rfl rfl ?_; intro bk) | (refine HL.alloc rfl rfl ?_; intro bk) | refine HL.skip rfl rfl ?_ | refine HL.skip0 rfl ?_) | refine HL.nil ?_ | refine HR.ctl rfl ?_ | refine HR.region ?_ | refine HR.condT rfl ?_ | refine HR.condF rfl ?_)
    refine HR.ret Try.func10 rfl [_] (fun _ _ => ⟨rfl, trivial⟩) ?_
    exact fun w' hw => ⟨rfl, hw.belowB⟩

  · refine HR.cond rfl (fun h2 => ?_) (fun h2 => ?_)
    · have h2 : O ≠ T := by simpa using h2
      have h6 : openT key O = (z0, 6) := by rw [hO2]; exact other_six hs4 (by rw [← hO2, ← hT]; exact h2)
      refine HR.ctl rfl ?_
      refine HR.region ?_
      repeat' (first | (refine HL.isOp ?_; first | refine HL.ev rfl rfl ?_ | refine HL.evc rfl rfl (by first | omega | (simp; done) | (simp; omega)) ?_ | refine HL.callB (r := .tuple ⟨[seV z0, .int .i64 6]⟩) fn21 rfl rfl (fun w _ => by have := open_any key O w (by omega); rw [h6] at this; exact this) ?_ | (refine HL.isLoad ?_; first | refine HL.L 0 rfl rfl rfl rfl ?_ | refine HL.L 1 rfl rfl rfl rfl ?_ | refine HL.L 2 rfl rfl rfl rfl ?_ | refine HL.L 3 rfl rfl rfl rfl ?_ | refine HL.L 4 rfl rfl rfl rfl ?_ | refine HL.L 5 rfl rfl rfl rfl ?_) | (refine HL.isStore ?_; first | refine HL.S 0 rfl rfl rfl rfl rfl ?_ | refine HL.S 1 rfl rfl rfl rfl rfl ?_ | refine HL.S 2 rfl rfl rfl rfl rfl ?_ | refine HL.S 3 rfl rfl rfl rfl rfl ?_ | refine HL.S 4 rfl rfl rfl rfl rfl ?_ | refine HL.S 5 rfl rfl rfl rfl rfl ?_) | refine HL.build rfl rfl ?_ | refine HL.field rfl rfl ?_ | (refine HL.box rfl rfl ?_; intro bk) | (refine HL.alloc rfl rfl ?_; intro bk) | refine HL.skip rfl rfl ?_ | refine HL.skip0 rfl ?_) | refine HL.nil ?_)
      refine HR.ctl rfl ?_
      refine HR.region ?_
      repeat' (first | (refine HL.isOp ?_; first | refine HL.ev rfl rfl ?_ | refine HL.evc rfl rfl (by first | omega | (simp; done) | (simp; omega)) ?_ | (refine HL.isLoad ?_; first | refine HL.L 0 rfl rfl rfl rfl ?_ | refine HL.L 1 rfl rfl rfl rfl ?_ | refine HL.L 2 rfl rfl rfl rfl ?_ | refine HL.L 3 rfl rfl rfl rfl ?_ | refine HL.L 4 rfl rfl rfl rfl ?_ | refine HL.L 5 rfl rfl rfl rfl ?_) | (refine HL.isStore ?_; first | refine HL.S 0 rfl rfl rfl rfl rfl ?_ | refine HL.S 1 rfl rfl rfl rfl rfl ?_ | refine HL.S 2 rfl rfl rfl rfl rfl ?_ | refine HL.S 3 rfl rfl rfl rfl rfl ?_ | refine HL.S 4 rfl rfl rfl rfl rfl ?_ | refine HL.S 5 rfl rfl rfl rfl rfl ?_) | refine HL.build rfl rfl ?_ | refine HL.field rfl rfl ?_ | (refine HL.box rfl rfl ?_; intro bk) | (refine HL.alloc rfl rfl ?_; intro bk) | refine HL.skip rfl rfl ?_ | refine HL.skip0 rfl ?_) | refine HL.nil ?_)
      refine HR.condF rfl ?_
      refine HR.skip ?_
      exact hj () _ _ trivial ⟨rfl, rfl, rfl, rfl, rfl, trivial⟩ (Ent.pick [1] rfl rfl)
    · refine HR.skip ?_
      exact hj () _ _ trivial ⟨rfl, rfl, rfl, rfl, rfl, trivial⟩ (Ent.pick [1] rfl rfl)
end Go.Proofs.Ytfjomclebkgocaa

/- Arguments of a law, opened: numbers, texts, lists, structs, one in another. Conditions: none. -/
namespace Go.GX
open Go.RowKit Go.ChangeShapes Go.WideShapes
set_option linter.unusedVariables false
set_option linter.unusedSectionVars false
set_option linter.unusedSimpArgs false
section
variable {H : Type} {enc : TypeId × Value → H} {P : Program} {w : World}
/-- Cells of type t that read are those of some a, of which 'good' is known. -/
def Opens (enc : TypeId × Value → H) (P : Program) (w : World) (t : TypeId) {α : Type} (E : α → List Value) (good : α → Prop) : Prop :=
  ∀ (fuel : Nat) (cs : List Value) (x : DataW H × List MemPlace), DataW.trod enc P w 0 (fun _ => true) true fuel t cs = some x → ∃ a, cs = E a ∧ good a

theorem Opens.int {t : TypeId} {k : IntKind} (ht : P.underlying t = some (.int k)) : Opens enc P w t (fun n : Int => [Value.int k n]) (fun n => (Lit.int k n).wf = true) := by
  intro fuel cs x h
  cases fuel with
  | zero => cases h
  | succ fuel =>
    unfold DataW.trod at h
    rw [ht] at h
    split at h
    all_goals first
      | cases h; done
      | (rename_i h1; cases h1; done)
      | skip
    rename_i k0 k' n h1
    cases h1
    split at h
    · rename_i hk; obtain ⟨rfl, hw⟩ := hk; exact ⟨n, rfl, hw⟩
    · cases h
theorem Opens.str {t : TypeId} (ht : P.underlying t = some .string) : Opens enc P w t (fun s : List UInt8 => [str s]) (fun s => s.length ≤ 9223372036854775807) := by
  intro fuel cs x h
  cases fuel with
  | zero => cases h
  | succ fuel =>
    unfold DataW.trod at h
    rw [ht] at h
    split at h
    all_goals first
      | cases h; done
      | (rename_i h1; cases h1; done)
      | skip
    rename_i s h1
    split at h
    · rename_i hs; exact ⟨s.data.toList, rfl, by unfold maxLen at hs; have : s.data.toList.length = s.size := rfl; omega⟩
    · cases h
theorem Opens.bool {t : TypeId} (ht : P.underlying t = some .bool) : Opens enc P w t (fun b : Bool => [Value.bool b]) (fun _ => True) := by
  intro fuel cs x h
  cases fuel with
  | zero => cases h
  | succ fuel =>
    unfold DataW.trod at h
    rw [ht] at h
    split at h
    all_goals first
      | cases h; done
      | (rename_i h1; cases h1; done)
      | skip
    rename_i b h1
    exact ⟨b, rfl, trivial⟩

theorem mapM_some {α β : Type} {f : α → Option β} : ∀ {l : List α} {r : List β}, l.mapM f = some r → ∀ a ∈ l, ∃ b, f a = some b
  | [], r, h, a, ha => by cases ha
  | x :: l, r, h, a, ha => by
    simp only [List.mapM_cons, Option.bind_eq_bind, Option.pure_def] at h
    cases hx : f x with
    | none => rw [hx] at h; cases h
    | some b =>
      rw [hx] at h
      simp only [Option.bind_some] at h
      cases hl : l.mapM f with
      | none => rw [hl] at h; cases h
      | some r' =>
        rcases List.mem_cons.1 ha with rfl | ha
        · exact ⟨b, hx⟩
        · exact mapM_some hl a ha

theorem cells?_get {base n : Nat} {a : Addr} {cs : List Value} (h : w.cells? base a n = some cs) : cs.length = n ∧ ∀ (j : Nat) u, cs[j]? = some u → w.cell? (a.add j) = some u := by
  unfold World.cells? at h
  split at h
  · have key : ∀ (l : List Nat) (r : List Value), l.mapM (fun i => w.cell? (a.add i)) = some r → r.length = l.length ∧ ∀ (j : Nat) u, r[j]? = some u → ∃ i, l[j]? = some i ∧ w.cell? (a.add i) = some u := by
      intro l
      induction l with
      | nil => intro r h; simp at h; subst h; exact ⟨rfl, fun j u hu => by simp at hu⟩
      | cons i l ih =>
        intro r h
        simp only [List.mapM_cons, Option.bind_eq_bind, Option.pure_def] at h
        cases hx : w.cell? (a.add i) with
        | none => rw [hx] at h; cases h
        | some b =>
          rw [hx] at h
          simp only [Option.bind_some] at h
          cases hl : l.mapM (fun i => w.cell? (a.add i)) with
          | none => rw [hl] at h; cases h
          | some r' =>
            rw [hl] at h
            simp only [Option.bind_some, Option.some.injEq] at h
            subst h
            obtain ⟨h1, h2⟩ := ih r' hl
            refine ⟨by simp [h1], fun j u hu => ?_⟩
            cases j with
            | zero => simp at hu; subst hu; exact ⟨i, rfl, hx⟩
            | succ j => simp at hu; simpa using h2 j u hu
    obtain ⟨h1, h2⟩ := key _ _ h
    refine ⟨by simpa using h1, fun j u hu => ?_⟩
    obtain ⟨i, hi, hc⟩ := h2 j u hu
    have hj : j < n := by
      have := (List.getElem?_eq_some_iff.1 hi).1; simpa using this
    simp [hj] at hi
    subst hi; exact hc
  · cases h

/-- A slice, by its value and its elements. -/
theorem Opens.slice {t e : TypeId} {α : Type} {E : α → List Value} {good : α → Prop} {sz : Nat} (ht : P.underlying t = some (.slice e)) (hc : P.cellsOf e = sz) (hpos : 0 < sz) (hE : ∀ a, (E a).length = sz) (he : Opens enc P w e E good) :
    Opens enc P w t (fun p : Value × List α => [p.1]) (fun p => Sl w p.1 (cellsOf E p.2) p.2.length ∧ p.2.length ≤ 9223372036854775807 ∧ ∀ a ∈ p.2, good a) := by
  intro fuel cs x h
  cases fuel with
  | zero => cases h
  | succ fuel =>
    unfold DataW.trod at h
    simp only [ht] at h
    split at h
    all_goals first
      | cases h; done
      | (rename_i h1; cases h1; done)
      | skip
    · exact ⟨(.slice none 0 0, []), rfl, Sl.nil w, by simp, fun a ha => by cases ha⟩
    · rename_i e0 a len cap h1
      cases h1
      split at h
      · rename_i hb
        rw [hc] at h
        cases hm : (List.range len).mapM (fun i => (w.cells? 0 (a.add (i * sz)) sz).bind (DataW.trod enc P w 0 (fun _ => true) true fuel e)) with
        | none => rw [hm] at h; cases h
        | some r =>
          clear h
          have hx := mapM_some hm
          have : ∀ i, i < len → ∃ b : α, good b ∧ ∀ (j : Nat) u, (E b)[j]? = some u → w.cell? ((a.add (i * sz)).add j) = some u := by
            intro i hi
            obtain ⟨y, hy⟩ := hx i (List.mem_range.2 hi)
            cases hcs : w.cells? 0 (a.add (i * sz)) sz with
            | none => rw [hcs] at hy; cases hy
            | some cs =>
              rw [hcs] at hy
              obtain ⟨b, rfl, hg⟩ := he fuel cs y hy
              exact ⟨b, hg, (cells?_get hcs).2⟩
          have hlist : ∀ n, n ≤ len → ∃ l : List α, l.length = n ∧ (∀ b ∈ l, good b) ∧ ∀ (i : Nat) b, l[i]? = some b → ∀ (j : Nat) u, (E b)[j]? = some u → w.cell? ((a.add (i * sz)).add j) = some u := by
            intro n
            induction n with
            | zero => intro _; exact ⟨[], rfl, (fun b hb => by cases hb), fun i b hb => by simp at hb⟩
            | succ n ih =>
              intro hn
              obtain ⟨l, h1, h2, h3⟩ := ih (by omega)
              obtain ⟨b, g1, g2⟩ := this n (by omega)
              refine ⟨l ++ [b], by simp [h1], fun c hc => ?_, fun i c hc => ?_⟩
              · rcases List.mem_append.1 hc with hc | hc
                · exact h2 c hc
                · simp at hc; subst hc; exact g1
              · by_cases hi : i < l.length
                · rw [List.getElem?_append_left hi] at hc; exact h3 i c hc
                · have : i = n := by have := (List.getElem?_eq_some_iff.1 hc).1; simp at this; omega
                  subst this
                  rw [List.getElem?_append_right (by omega), h1] at hc
                  simp at hc; subst hc; exact g2
          obtain ⟨l, h1, h2, h3⟩ := hlist len (Nat.le_refl _)
          refine ⟨(.slice (some a) len cap, l), rfl, ⟨?_, some a, cap, by simp [h1], by rw [h1]; exact hb.2.1⟩, by rw [h1]; have := hb.2.2; have := hb.2.1; unfold maxLen at *; omega, h2⟩
          by_cases h0 : len = 0
          · subst h0
            have : l = [] := List.eq_nil_of_length_eq_zero h1
            subst this
            exact .inl ⟨.inr ⟨a, cap, rfl⟩, rfl, rfl⟩
          · obtain ⟨b, off, spot⟩ := a
            obtain ⟨b0, hb0⟩ := getSome (show 0 < l.length by omega)
            obtain ⟨u0, hu0⟩ := getSome (show 0 < (E b0).length by rw [hE]; exact hpos)
            have hc0 := h3 0 b0 hb0 0 u0 hu0
            have hspot : spot = none := by simpa [Addr.add] using World.cell?_spot hc0
            subst hspot
            have hadd : ∀ b off j, (⟨b, off, none⟩ : Addr).add j = ⟨b, off + j, none⟩ := fun b off j => by unfold Addr.add; split <;> simp_all
            refine .inr ⟨b, off, cap, by simp [h1], fun j u hu => ?_⟩
            have hjl : j < (cellsOf E l).length := (List.getElem?_eq_some_iff.1 hu).1
            rw [cellsOf_len hE, h1] at hjl
            have hdiv : j / sz < len := Nat.div_lt_of_lt_mul (by rw [Nat.mul_comm]; exact hjl)
            have hmod : j % sz < sz := Nat.mod_lt _ hpos
            obtain ⟨c, hc⟩ := getSome (show j / sz < l.length by omega)
            obtain ⟨u', hu'⟩ := getSome (show j % sz < (E c).length by rw [hE]; exact hmod)
            have hj : j / sz * sz + j % sz = j := by rw [Nat.mul_comm]; exact Nat.div_add_mod j sz
            have hg := cellsOf_get hE hc (j % sz) u' hu'
            rw [hj, hu] at hg
            cases hg
            have := h3 _ c hc _ u hu'
            rw [hadd, hadd, Nat.add_assoc, hj] at this
            exact this
      · cases h

/-- A struct: each field reads. -/
theorem Opens.fields {t : TypeId} {fs : Array Field} (ht : P.underlying t = some (.struct fs)) {fuel : Nat} {cs : List Value} {x : DataW H × List MemPlace} (h : DataW.trod enc P w 0 (fun _ => true) true fuel t cs = some x) :
    cs.length = P.cellsOf t ∧ ∀ f ∈ fs.toList, ∃ fuel' y, DataW.trod enc P w 0 (fun _ => true) true fuel' f.type ((cs.drop f.offset).take (P.cellsOf f.type)) = some y := by
  cases fuel with
  | zero => cases h
  | succ fuel =>
    unfold DataW.trod at h
    simp only [ht] at h
    split at h
    · rename_i hl
      refine ⟨hl, fun f hf => ?_⟩
      cases hm : fs.toList.mapM (fun f => DataW.trod enc P w 0 (fun _ => true) true fuel f.type ((cs.drop f.offset).take (P.cellsOf f.type))) with
      | none => rw [hm] at h; cases h
      | some r => obtain ⟨y, hy⟩ := mapM_some hm f hf; exact ⟨fuel, y, hy⟩
    · cases h
theorem Opens.array {t e n : TypeId} (ht : P.underlying t = some (.array n e)) {fuel : Nat} {cs : List Value} {x : DataW H × List MemPlace} (h : DataW.trod enc P w 0 (fun _ => true) true fuel t cs = some x) :
    cs.length = P.cellsOf t ∧ ∀ i, i < n → ∃ fuel' y, DataW.trod enc P w 0 (fun _ => true) true fuel' e ((cs.drop (i * P.cellsOf e)).take (P.cellsOf e)) = some y := by
  cases fuel with
  | zero => cases h
  | succ fuel =>
    unfold DataW.trod at h
    simp only [ht] at h
    split at h
    · rename_i hl
      refine ⟨hl, fun i hi => ?_⟩
      cases hm : (List.range n).mapM (fun i => DataW.trod enc P w 0 (fun _ => true) true fuel e ((cs.drop (i * P.cellsOf e)).take (P.cellsOf e))) with
      | none => rw [hm] at h; cases h
      | some r => obtain ⟨y, hy⟩ := mapM_some hm i (List.mem_range.2 hi); exact ⟨fuel, y, hy⟩
    · cases h
/-- A list is its parts. -/
theorem parts_eq {cs p : List Value} {o n m : Nat} (h : (cs.drop o).take n = p) (hp : p.length = n) (ho : o + n = m) : cs.drop o = p ++ cs.drop m := by
  rw [← h, ← ho, ← List.drop_drop, List.take_append_drop]
end
end Go.GX

/- A part of the proof: contracts of the program's functions. Conditions: none. -/
namespace Go.Proofs.Ytfjomclebkgocaa
open Go.GX Go.RowKit
attribute [local irreducible] Calls Run RunL RunQ RunD HR HL HD blkC ownC mapC Rd slicesC iterC RdM
set_option linter.unusedVariables false
set_option linter.unusedSectionVars false
set_option linter.unusedSimpArgs false
set_option maxRecDepth 100000

open Tk
variable {H : Type} {enc : TypeId × Value → H} {W : World}
theorem opT35 : Opens enc Try.prog W 35 (fun p : Value × List Int => [p.1]) (fun p => Sl W p.1 (cellsOf iC p.2) p.2.length ∧ p.2.length ≤ 9223372036854775807 ∧ ∀ a ∈ p.2, (Lit.int .i64 a).wf = true) :=
  Opens.slice (sz := 1) rfl (by kernel_rfl) (by decide) iC_len (Opens.int rfl)
theorem opT23 : Opens enc Try.prog W 23 seC (fun s => s.mem.length ≤ 9223372036854775807) := by
  intro fuel cs x h
  obtain ⟨hl, hf⟩ := Opens.fields (fs := _) rfl h
  have c1 : Try.prog.cellsOf 23 = 4 := by kernel_rfl
  have ci : Try.prog.cellsOf 3 = 1 := by kernel_rfl
  have cs' : Try.prog.cellsOf 9 = 1 := by kernel_rfl
  rw [c1] at hl
  obtain ⟨f1, y1, h1⟩ := hf _ (List.mem_cons_self ..)
  obtain ⟨f2, y2, h2⟩ := hf _ (List.mem_cons_of_mem _ (List.mem_cons_self ..))
  obtain ⟨f3, y3, h3⟩ := hf _ (List.mem_cons_of_mem _ (List.mem_cons_of_mem _ (List.mem_cons_self ..)))
  obtain ⟨f4, y4, h4⟩ := hf _ (List.mem_cons_of_mem _ (List.mem_cons_of_mem _ (List.mem_cons_of_mem _ (List.mem_cons_self ..))))
  obtain ⟨a1, g1, b1⟩ := Opens.str rfl f1 _ _ h1
  obtain ⟨a2, g2, _⟩ := Opens.int (k := .i64) rfl f2 _ _ h2
  obtain ⟨a3, g3, _⟩ := Opens.int (k := .i64) rfl f3 _ _ h3
  obtain ⟨a4, g4, _⟩ := Opens.int (k := .i64) rfl f4 _ _ h4
  refine ⟨⟨a1, a2, a3, a4⟩, ?_, b1⟩
  have e1 := parts_eq g1 (m := 1) (by simp [cs']) (by simp [cs'])
  have e2 := parts_eq g2 (m := 2) (by simp [ci]) (by simp [ci])
  have e3 := parts_eq g3 (m := 3) (by simp [ci]) (by simp [ci])
  have e4 := parts_eq g4 (m := 4) (by simp [ci]) (by simp [ci])
  simp only [List.drop_zero] at e1
  rw [e1, e2, e3, e4, List.drop_eq_nil_of_le (by omega)]; rfl
theorem wf64 {n : Int} (h : (Lit.int .u64 n).wf = true) : ∃ k : Nat, n = (k : Int) ∧ k < 18446744073709551616 := by
  have h : (decide (0 ≤ n) && decide (n ≤ 18446744073709551615)) = true := h
  simp only [Bool.and_eq_true, decide_eq_true_eq] at h
  exact ⟨n.toNat, by omega, by omega⟩
theorem wf32 {n : Int} (h : (Lit.int .u32 n).wf = true) : ∃ k : Nat, n = (k : Int) ∧ k < 4294967296 := by
  have h : (decide (0 ≤ n) && decide (n ≤ 4294967295)) = true := h
  simp only [Bool.and_eq_true, decide_eq_true_eq] at h
  exact ⟨n.toNat, by omega, by omega⟩
theorem wfI {n : Int} (h : (Lit.int .i64 n).wf = true) : fits .i64 n := by
  have h : (decide (-9223372036854775808 ≤ n) && decide (n ≤ 9223372036854775807)) = true := h
  simp only [Bool.and_eq_true, decide_eq_true_eq] at h
  exact h
abbrev Gsl (W : World) (p : Value × List Int) : Prop := Sl W p.1 (cellsOf iC p.2) p.2.length
theorem tokenChecks.tokenChecks_any (s : Se) (w : World) (_ : s.mem.length ≤ 9223372036854775807) : Calls Try.prog 3 #[.agg ⟨seC s⟩] w fun e w' => e = .returned (.bool true) ∧ Below w.heap.size w w' := Proofs.Ytfjomclebkgocaa.tokenChecks_any s w
theorem tokenHexes.tokenHexes_any (s : List UInt8) (w : World) : Calls Try.prog 4 #[str s] w fun e w' => e = .returned (.bool true) ∧ Below w.heap.size w w' := Proofs.Ytfjomclebkgocaa.tokenHexes_any s w
theorem tokenIssues.tokenIssues_any (n : Int) (s : Se) (w : World) (h : (Lit.int .u64 n).wf = true) (_ : s.mem.length ≤ 9223372036854775807) : Calls Try.prog 5 #[.int .u64 n, .agg ⟨seC s⟩] w fun e w' => e = .returned (.bool true) ∧ Below w.heap.size w w' := by
  obtain ⟨k, rfl, _⟩ := wf64 h
  exact Proofs.Ytfjomclebkgocaa.tokenIssues_any k s w
theorem tokenVerifies.tokenVerifies_any (n : Int) (t p : List UInt8) (now : Int) (rev : List Int) (vr : Value) (w : World) (h : (Lit.int .u64 n).wf = true) (_ : t.length ≤ 9223372036854775807) (_ : p.length ≤ 9223372036854775807) (_ : (Lit.int .i64 now).wf = true) (hv : Sl w vr (cellsOf iC rev) rev.length) (_ : ∀ a ∈ rev, (Lit.int .i64 a).wf = true) : Calls Try.prog 6 #[.int .u64 n, str t, str p, .int .i64 now, vr] w fun e w' => e = .returned (.bool true) ∧ Below w.heap.size w w' := by
  obtain ⟨k, rfl, _⟩ := wf64 h
  exact Proofs.Ytfjomclebkgocaa.tokenVerifies_any k t p now rev vr w hv
theorem tokenRenews.tokenRenews_any (n : Int) (t : List UInt8) (now m : Int) (rev : List Int) (vr : Value) (id : Int) (w : World) (h : (Lit.int .u64 n).wf = true) (_ : t.length ≤ 9223372036854775807) (_ : (Lit.int .i64 now).wf = true) (_ : (Lit.int .i64 m).wf = true) (hv : Sl w vr (cellsOf iC rev) rev.length) (_ : ∀ a ∈ rev, (Lit.int .i64 a).wf = true) (_ : (Lit.int .i64 id).wf = true) : Calls Try.prog 7 #[.int .u64 n, str t, .int .i64 now, .int .i64 m, vr, .int .i64 id] w fun e w' => e = .returned (.bool true) ∧ Below w.heap.size w w' := by
  obtain ⟨k, rfl, _⟩ := wf64 h
  exact Proofs.Ytfjomclebkgocaa.tokenRenews_any k t now m rev id vr w hv
theorem tokenReturns.tokenReturns_any (n : Int) (s : Se) (t : List UInt8) (w : World) (h : (Lit.int .u64 n).wf = true) (_ : s.mem.length ≤ 9223372036854775807) (_ : t.length ≤ 9223372036854775807) : Calls Try.prog 8 #[.int .u64 n, .agg ⟨seC s⟩, str t] w fun e w' => e = .returned (.bool true) ∧ Below w.heap.size w w' := by
  obtain ⟨k, rfl, _⟩ := wf64 h
  exact Proofs.Ytfjomclebkgocaa.tokenReturns_any k s t w
theorem tokenLasts.tokenLasts_any (n : Int) (s : Se) (now : Int) (rev : List Int) (vr : Value) (w : World) (h : (Lit.int .u64 n).wf = true) (hm : s.mem.length ≤ 9223372036854775807) (_ : (Lit.int .i64 now).wf = true) (hv : Sl w vr (cellsOf iC rev) rev.length) (_ : ∀ a ∈ rev, (Lit.int .i64 a).wf = true) : Calls Try.prog 9 #[.int .u64 n, .agg ⟨seC s⟩, .int .i64 now, vr] w fun e w' => e = .returned (.bool true) ∧ Below w.heap.size w w' := by
  obtain ⟨k, rfl, _⟩ := wf64 h
  exact Proofs.Ytfjomclebkgocaa.tokenLasts_any k s now rev vr w hv hm
theorem tokenSealed.tokenSealed_any (n : Int) (s : Se) (x now m : Int) (w : World) (h : (Lit.int .u64 n).wf = true) (hm : s.mem.length ≤ 9223372036854775807) (hx : (Lit.int .u32 x).wf = true) (hn : (Lit.int .i64 now).wf = true) (_ : (Lit.int .i64 m).wf = true) : Calls Try.prog 10 #[.int .u64 n, .agg ⟨seC s⟩, .int .u32 x, .int .i64 now, .int .i64 m] w fun e w' => e = .returned (.bool true) ∧ Below w.heap.size w w' := by
  obtain ⟨k, rfl, _⟩ := wf64 h
  obtain ⟨y, rfl, hy⟩ := wf32 hx
  exact Proofs.Ytfjomclebkgocaa.tokenSealed_any k s y now m w hm hy (wfI hn)
end Go.Proofs.Ytfjomclebkgocaa
