/- A part of the proof: contracts of the program's functions. Conditions: none. -/
import Derived.Carry
import Derived.Deep.MidRow
import Derived.Deep.Quiet
import Derived.Laws.IdiomRangeMap
import Derived.Laws.MakeOwn
import Derived.Laws.StructEq
import Derived.Laws.Tables
import Derived.Lib.AppendStr
import Derived.Lib.AppendZerosOnto
import Derived.Lib.OthersKept
import Derived.Lib.Overlaps
import Derived.Lib.OwnBridge
import Derived.Lib.SlicesCompact
import Derived.MapKept
import Derived.Orders
import Derived.OrdersHeld
import Derived.Scope
import Derived.Sort.Grow
import Derived.StillTail
import Derived.Test.YtgfdoognildoeaaGreatProg
import Derived.Test.YtgfdoognildoeaaGreatShelf
import Derived.WalkKit
import Derived.WalkLawsBesides
import Derived.WalkSpells
import Derived.Test.YtgfdoognildoeaaGreatPB1
import Derived.Test.YtgfdoognildoeaaGreatPB2
import Derived.Test.YtgfdoognildoeaaGreatPB3
import Derived.Test.YtgfdoognildoeaaGreatPB4
import Derived.Test.YtgfdoognildoeaaGreatPB5
import Derived.Test.YtgfdoognildoeaaGreatPB6
import Derived.Test.YtgfdoognildoeaaGreatPB7
import Derived.Test.YtgfdoognildoeaaGreatPB8
import Derived.Test.YtgfdoognildoeaaGreatPB9
import Derived.Test.YtgfdoognildoeaaGreatPB10
set_option linter.unusedVariables false
set_option linter.unusedSectionVars false
set_option linter.unusedSimpArgs false
set_option maxRecDepth 100000
set_option maxHeartbeats 4000000
namespace Go.Proofs.YtgfdoognildoeaaGreat
open Go.GX Go.RowKit
attribute [local irreducible] Calls Run RunL RunQ RunD HR HL HD blkC ownC mapC Rd slicesC iterC
open Nd
theorem fn148:IsFn Tryz.prog 148:=⟨⟨_,_,Tryz.func148,rfl,by decide⟩⟩
theorem fn204:IsFn Tryz.prog 204:=⟨⟨_,_,Tryz.func204,rfl,by decide⟩⟩
theorem fn35:IsFn Tryz.prog 35:=⟨⟨_,_,Tryz.func35,rfl,by decide⟩⟩
theorem cloneI_any (l:List Int) (v:Value) (w:World) (hv:Sl w v (cellsOf iC l) l.length) (hl:l.length≤1000):
  Calls Tryz.prog 148 #[v] w fun e w'=>∃v',e= .returned v'∧Sat (base w) [ownC v' 3 1 l.length (cellsOf iC l)] w':=by
 obtain ⟨a,c,rfl,_⟩:=hv.2
 refine calls_hr Tryz.func148 I (Nat.le_of_ble_eq_true I) ?_
 refine HR.sub (σ':=[(0,.slice a l.length c)]) ⟨I,trivial⟩ ?_
 repeat' (first|refine zh ?_|refine HL.eqNil I I I I ?_|apply zb ?_ ?_|exact zc|(refine zi fun hb=>?_;try simp at hb)|intro (bk:Nat))
 refine HR.cond I (fun h=>?_) (fun h=>?_)
 ·have ha:a=none:=by simpa using h
  have hz:l=[]:=by
   subst ha
   rcases hv.1 with ⟨_,h0,_⟩|⟨b,off,cap,he,_⟩
   ·exact List.eq_nil_of_length_eq_zero h0
   ·cases he
  subst hz
  repeat' (first|refine zh ?_|apply zb ?_ ?_|exact zc|(refine zi fun hb=>?_;try simp at hb)|intro (bk:Nat))
  refine HR.nilC 3 1 ?_
  refine HR.ret Tryz.func148 I [_] (fun _ _=>⟨I,trivial⟩) ?_
  exact fun w' hw=>⟨.slice none 0 0,rfl,hw⟩
 ·repeat' (first|refine zh ?_|refine HL.bslice0 elemI I ?_|apply zb ?_ ?_|exact zc|(refine zi fun hb=>?_;try simp at hb)|intro (bk:Nat))
  intro v1
  repeat' (first|refine zh ?_|refine HL.appR 0 I elemI (Rd.arg hv) I I I (cellsOf_len iC_len _) (one_allcells iC_one _) (by omega) (by omega) ?_|apply zb ?_ ?_|exact zc|(refine zi fun hb=>?_;try simp at hb)|intro (bk:Nat))
  intro v2
  repeat' (first|refine zh ?_|apply zb ?_ ?_|exact zc|(refine zi fun hb=>?_;try simp at hb)|intro (bk:Nat))
  refine HR.ret Tryz.func148 I [_] (fun _ _=>⟨I,trivial⟩) ?_
  exact fun w' hw=>⟨v2,rfl,Ent.own0 (Nat.zero_add _) (List.nil_append _) w' hw⟩
theorem clonePt_any (l:List PtV) (v:Value) (w:World) (hv:Sl w v (cellsOf ptC l) l.length) (hsh:∀p∈l,ShPt p) (hl:l.length≤1000):
  Calls Tryz.prog 204 #[v] w fun e w'=>∃v',e= .returned v'∧Sat (base w) [ownC v' 173 6 l.length (cellsOf ptC l)] w':=by
 obtain ⟨a,c,rfl,_⟩:=hv.2
 refine calls_hr Tryz.func204 I (Nat.le_of_ble_eq_true I) ?_
 refine HR.sub (σ':=[(0,.slice a l.length c)]) ⟨I,trivial⟩ ?_
 repeat' (first|refine zh ?_|refine HL.eqNil I I I I ?_|apply zb ?_ ?_|exact zc|(refine zi fun hb=>?_;try simp at hb)|intro (bk:Nat))
 refine HR.cond I (fun h=>?_) (fun h=>?_)
 ·have ha:a=none:=by simpa using h
  have hz:l=[]:=by
   subst ha
   rcases hv.1 with ⟨_,h0,_⟩|⟨b,off,cap,he,_⟩
   ·exact List.eq_nil_of_length_eq_zero h0
   ·cases he
  subst hz
  repeat' (first|refine zh ?_|apply zb ?_ ?_|exact zc|(refine zi fun hb=>?_;try simp at hb)|intro (bk:Nat))
  refine HR.nilC 173 6 ?_
  refine HR.ret Tryz.func204 I [_] (fun _ _=>⟨I,trivial⟩) ?_
  exact fun w' hw=>⟨.slice none 0 0,rfl,hw⟩
 ·repeat' (first|refine zh ?_|refine HL.bslice0 elemPt I ?_|apply zb ?_ ?_|exact zc|(refine zi fun hb=>?_;try simp at hb)|intro (bk:Nat))
  intro v1
  repeat' (first|refine zh ?_|refine HL.appR 0 I elemPt (Rd.arg hv) I I I (cellsOf_len ptC_len _) (pt_one hsh) (by omega) (by omega) ?_|apply zb ?_ ?_|exact zc|(refine zi fun hb=>?_;try simp at hb)|intro (bk:Nat))
  intro v2
  repeat' (first|refine zh ?_|apply zb ?_ ?_|exact zc|(refine zi fun hb=>?_;try simp at hb)|intro (bk:Nat))
  refine HR.ret Tryz.func204 I [_] (fun _ _=>⟨I,trivial⟩) ?_
  exact fun w' hw=>⟨v2,rfl,Ent.own0 (Nat.zero_add _) (List.nil_append _) w' hw⟩
theorem insNd_any (l:List (NV×Nd)) (x:(NV×Nd)) (i:Nat) (v va:Value) (B0:Base) (w:World) (hw0:Sat B0 [ownC va 62 13 1 (ndE2 x),ownC v 62 13 l.length (cellsOf ndE2 l)] w) (hi:i≤l.length) (hl:l.length≤1000):
  Calls Tryz.prog 35 #[v,.int .i64 (i:Int),va] w fun e w'=>∃r:Value,e= .returned r∧True∧Sat ⟨w,feet [ownC va 62 13 1 (ndE2 x),ownC v 62 13 l.length (cellsOf ndE2 l)]⟩ [ownC r 62 13 (l.take i++x::l.drop i).length (cellsOf ndE2 (l.take i++x::l.drop i))] w':=by
 obtain ⟨ga,oa,ca,rfl,hnca,hcma⟩:=Vw.row (Sat.vw hw0 (i:=0) I) (by decide)
 have hlen:(l.take i++x::l.drop i).length=l.length+1:=by simp;omega
 have hcl:(cellsOf ndE2 l).length=l.length*13:=cellsOf_len ndE2_len l
 have hcells:cellsOf ndE2 (l.take i++x::l.drop i)=(cellsOf ndE2 l).take (i*13)++ndE2 x++(cellsOf ndE2 l).drop (i*13):=by
  rw[cellsOf_take ndE2_len,cellsOf_drop ndE2_len,cellsOf_app,List.append_assoc];rfl
 have ha1:∀u∈cellsOf ndE2 l,u.oneCell'=true:=one_allcells ndE2_one _
 refine calls_hrW [ownC (.slice (some ⟨ga,oa,none⟩) 1 ca) 62 13 1 (ndE2 x),ownC v 62 13 l.length (cellsOf ndE2 l)] (hw0) Tryz.func35 I (Nat.le_of_ble_eq_true I) ?_
 refine HR.sub (σ':=[(0,v),(1,.int .i64 (i:Int)),(2,.slice (some ⟨ga,oa,none⟩) 1 ca)]) ⟨I,I,I,trivial⟩ ?_
 repeat' (first|refine zh ?_|refine HL.lenR (Rd.own 1 I) I I I ?_|refine HL.subI (sz:=13) i l.length (Rd.own 1 I) I I I I (.inr ⟨_,_,_,rfl,rfl,rfl⟩) (.inl ⟨rfl,rfl⟩) hi (Nat.le_refl _) ?_|apply zb ?_ ?_|exact zc|(refine zi fun hb=>?_;try simp at hb)|intro (bk:Nat))
 refine HR.cond I (fun h=>?_) (fun h=>?_)
 ·have hil:i=l.length:=by have:=eq_of_beq h;omega
  repeat' (first|refine zh ?_|refine HL.appR 1 I elemNd (Rd.own 0 I) I I I I (allOne_spec I) (by omega) (by omega) ?_|apply zb ?_ ?_|exact zc|(refine zi fun hb=>?_;try simp at hb)|intro (bk:Nat))
  intro v2
  repeat' (first|refine zh ?_|apply zb ?_ ?_|exact zc|(refine zi fun hb=>?_;try simp at hb)|intro (bk:Nat))
  refine HR.ret Tryz.func35 I [_] (fun _ _=>⟨I,trivial⟩) ?_
  refine fun w' hw=>⟨_,rfl,trivial,Ent.own0 ?_ ?_ w' (hw.pick [1] I rfl)⟩
  ·rw [hlen]
  ·subst hil;rw[hcells,List.take_of_length_le (by omega),List.drop_eq_nil_of_le (by omega),List.append_nil]
 have hlt:i<l.length:=by have h:((i:Int)==(l.length:Int))=false:=h;simp at h;omega
 refine HR.row 1 I (by omega) fun g off c hv hnc hcm=>?_
 subst hv
 have hcm:c≤9223372036854775807:=hcm
 repeat' (first|refine zh ?_|refine HL.lenR (Rd.own 1 I) I I I ?_|refine HL.capO I I I ?_|apply zb ?_ ?_|exact zc|(refine zi fun hb=>?_;try simp at hb)|intro (bk:Nat))
 refine HR.cond I (fun h2=>?_) (fun h2=>?_)
 ·have hc:c<l.length+1:=by have:=of_decide_eq_true h2;omega
  repeat' (first|refine zh ?_|refine HL.subI (sz:=13) 0 i (Rd.own 1 I) I I I I (.inl ⟨rfl,rfl⟩) (.inr ⟨_,_,_,rfl,rfl,rfl⟩) (Nat.zero_le _) hi ?_|refine HL.appGrow i (l.length+1-i) 1 I elemNd I I I I I (by omega) hi (by omega) hnc (by omega) (by omega) (by omega) ?_|apply zb ?_ ?_|exact zc|(refine zi fun hb=>?_;try simp at hb)|intro (bk:Nat))
  intro v2
  have hN:i+(l.length+1-i)=l.length+1:=by omega
  rw[hN]
  refine HL.row 0 I (by omega) fun g2 o2 c2 hv2 hnc2 hcm2=>?_
  subst hv2
  repeat' (first|refine zh ?_|refine HL.subI (sz:=13) i (l.length+1) (Rd.own 0 I) I I I I (.inr ⟨_,_,_,rfl,rfl,rfl⟩) (.inl ⟨rfl,rfl⟩) (by omega) (Nat.le_refl _) ?_|refine HL.copyO i 1 0 I (Rd.own 1 I) I I I I I I (allOne_spec I) (Nat.min_eq_left (by omega)) (by decide) ?_|apply zb ?_ ?_|exact zc|(refine zi fun hb=>?_;try simp at hb)|intro (bk:Nat))
  refine HR.regionD [(0,true),(1,true),(2,true),(3,true),(4,true),(5,true),(6,true),(7,true),(8,false)] [] I I hmix (by kernel_rfl) ?_
  repeat' (first|refine HD.ev I I I ?_|refine HD.evc I I I (by first|omega|(simp;done)|(simp;omega)) ?_|refine HD.cut (sz:=13) (i+1) (l.length+1) c2 I I I I I (.inr ⟨_,_,rfl,rfl⟩) (.inl ⟨rfl,rfl,rfl⟩) (.inl ⟨rfl,rfl⟩) (by omega) hnc2 (Nat.le_refl _) ?_|refine HD.cut (sz:=13) i l.length c I I I I I (.inr ⟨_,_,rfl,rfl⟩) (.inl ⟨rfl,rfl,rfl⟩) (.inl ⟨rfl,rfl⟩) hi hnc (Nat.le_refl _) ?_|refine HD.L 0 I I I I I ?_|refine HD.L 1 I I I I I ?_|refine HD.L 2 I I I I I ?_|refine HD.L 3 I I I I I ?_|refine HD.build I I I ?_|refine HD.field I I I ?_|refine HD.skip I I I ?_|refine HD.skipO I I I ?_|(refine HD.one I ?_;first|refine HL.ev I I ?_|refine HL.copyO (i+1) (l.length-i) 0 I (Rd.sub (Rd.own 2 I) hcl hi (Nat.le_refl _)) I I I I I (by rw[List.length_take,List.length_drop,hcl];omega) (fun u hu=>ha1 u (List.mem_of_mem_drop (List.mem_of_mem_take (List.mem_of_mem_take hu)))) (Nat.min_eq_left (by omega)) (by omega) ?_|(refine HL.isLoad ?_;first|refine HL.L 0 I I I I ?_|refine HL.L 1 I I I I ?_|refine HL.L 2 I I I I ?_|refine HL.L 3 I I I I ?_)|(refine HL.isStore ?_;first|refine HL.S 0 I I I I I ?_|refine HL.S 1 I I I I I ?_|refine HL.S 2 I I I I I ?_|refine HL.S 3 I I I I I ?_)|(refine HL.alloc I I ?_;intro bk))|refine HL.back [] rfl rfl ?_|refine HD.nil ?_)
  repeat' (first|refine zh ?_|apply zb ?_ ?_|exact zc|(refine zi fun hb=>?_;try simp at hb)|intro (bk:Nat))
  refine HR.ret Tryz.func35 I [_] (fun _ _=>⟨I,trivial⟩) ?_
  refine fun w' hw=>⟨_,rfl,trivial,Ent.own0 ?_ ?_ w' (hw.pick [0] I rfl)⟩
  ·rw [hlen]
  ·rw [hcells,← ins_grow (xs:=cellsOf ndE2 l) (X:=ndE2 x) (Z:=(List.replicate (l.length+1-i) (ndE2 (V0,nd0))).flatten) (p:=i*13) (q:=13) (s:=(l.length-i)*13) (by rw[hcl];omega) I (by rw[flat_rep_length];simp;omega)]
   rw[show (i+1)*13=i*13+13 by omega]
   rfl
 ·have hc:l.length+1≤c:=by have:=of_decide_eq_false h2;omega
  repeat' (first|refine zh ?_|refine HL.extO (sz:=13) (l.length+1) 1 I I I I I I I (by omega) hc ?_|apply zb ?_ ?_|exact zc|(refine zi fun hb=>?_;try simp at hb)|intro (bk:Nat))
  intro junk hj
  repeat' (first|refine zh ?_|refine HL.cut (sz:=13) (i+1) (l.length+1) c I I I I (.inr ⟨_,_,rfl,rfl⟩) (.inl ⟨rfl,rfl,rfl⟩) (.inl ⟨rfl,rfl⟩) (by omega) hc (Nat.le_refl _) ?_|intro (bk:Nat))
  refine HL.setHd (cutV_lit (by omega)) ?_
  refine HL.ovl 0 1 I I (by decide) I I I (tS:=24) (tR:=4) I I (by omega) (by decide) I (by kernel_rfl) (by kernel_rfl) (by kernel_rfl) (by kernel_rfl) ?_
  repeat' (first|refine zh ?_|apply zb ?_ ?_|exact zc|(refine zi fun hb=>?_;try simp at hb)|intro (bk:Nat))
  refine HR.regionD [(0,true),(1,true),(2,true),(3,true),(4,true),(5,true),(6,true),(7,true),(8,false)] [] I I hmix (by kernel_rfl) ?_
  repeat' (first|refine HD.ev I I I ?_|refine HD.evc I I I (by first|omega|(simp;done)|(simp;omega)) ?_|refine HD.cut (sz:=13) (i+1) (l.length+1) c I I I I I (.inr ⟨_,_,rfl,rfl⟩) (.inl ⟨rfl,rfl,rfl⟩) (.inl ⟨rfl,rfl⟩) (by omega) hc (Nat.le_refl _) ?_|refine HD.cut (sz:=13) i (l.length+1) c I I I I I (.inr ⟨_,_,rfl,rfl⟩) (.inl ⟨rfl,rfl,rfl⟩) (.inl ⟨rfl,rfl⟩) (by omega) hc (Nat.le_refl _) ?_|refine HD.L 0 I I I I I ?_|refine HD.L 1 I I I I I ?_|refine HD.L 2 I I I I I ?_|refine HD.L 3 I I I I I ?_|refine HD.build I I I ?_|refine HD.field I I I ?_|refine HD.skip I I I ?_|refine HD.skipO I I I ?_|(refine HD.one I ?_;first|refine HL.ev I I ?_|refine HL.copyO (i+1) (l.length-i) 1 I (Rd.sub (sz:=13) (l:=i) (h:=l.length+1) (Rd.own 1 I) (by rw[List.length_append,hcl,hj];omega) (by omega) (Nat.le_refl _)) I I I I I (by rw[List.length_take,List.length_drop,List.length_append,hcl,hj];omega) (fun u hu=>ha1 u (shift_mem (p:=i*13) (s:=(l.length-i)*13) (u:=(l.length+1-i)*13) (by rw[hcl];omega) (by omega) hu)) (show min (l.length+1-i) (l.length+1-(i+1))=l.length-i by omega) (by omega) ?_|(refine HL.isLoad ?_;first|refine HL.L 0 I I I I ?_|refine HL.L 1 I I I I ?_|refine HL.L 2 I I I I ?_|refine HL.L 3 I I I I ?_)|(refine HL.isStore ?_;first|refine HL.S 0 I I I I I ?_|refine HL.S 1 I I I I I ?_|refine HL.S 2 I I I I I ?_|refine HL.S 3 I I I I I ?_)|(refine HL.alloc I I ?_;intro bk))|refine HL.back [] rfl rfl ?_|refine HD.nil ?_)
  repeat' (first|refine zh ?_|refine HL.subI (sz:=13) i (l.length+1) (Rd.own 1 I) I I I I (.inr ⟨_,_,_,rfl,rfl,rfl⟩) (.inl ⟨rfl,rfl⟩) (by omega) (Nat.le_refl _) ?_|refine HL.copyO i 1 1 I (Rd.own 0 I) I I I I I I (allOne_spec I) (Nat.min_eq_left (by omega)) (by decide) ?_|apply zb ?_ ?_|exact zc|(refine zi fun hb=>?_;try simp at hb)|intro (bk:Nat))
  refine HR.ret Tryz.func35 I [_] (fun _ _=>⟨I,trivial⟩) ?_
  refine fun w' hw=>⟨_,rfl,trivial,Ent.own0 ?_ ?_ w' (hw.pick [1] I rfl)⟩
  ·rw [hlen]
  ·rw [hcells,← ins_shift (xs:=cellsOf ndE2 l) (X:=ndE2 x) (J:=junk) (p:=i*13) (q:=13) (s:=(l.length-i)*13) (u:=(l.length+1-i)*13) (by rw[hcl];omega) I (by rw[hj];omega) (by omega)]
   rw[show (i+1)*13=i*13+13 by omega]
end Go.Proofs.YtgfdoognildoeaaGreat
namespace Me
open Go.GX Nd Tp
structure WfS (s:Sn):Prop where
 tr:Go.GX.fits .i64 s.tr
 wt:Go.GX.fits .i64 s.wt
 da:s.f.da.length≤9223372036854775807
structure WfO (n:Nd.Nd):Prop where
 out:∀s∈n.out,WfS s
 bx:∀b∈n.boxes,b.f.da.length≤9223372036854775807
theorem fits0:Go.GX.fits .i64 0:=by show (-9223372036854775808:Int)≤0∧(0:Int)≤9223372036854775807;omega
section
variable {n m : Nd.Nd}
theorem WfO.of (h:WfO n) (h1:∀s∈m.out,s∈n.out) (h2:∀b∈m.boxes,b∈n.boxes):WfO m:=⟨fun s hs=>h.out s (h1 s hs),fun b hb=>h.bx b (h2 b hb)⟩
theorem WfO.order (h:WfO n):WfO (order n):=h.of (fun s hs=>List.mem_of_mem_take hs) fun b hb=>List.mem_of_mem_take hb
theorem WfO.lose (h:WfO n):WfO (lose n):=⟨h.out,h.bx⟩
theorem WfO.queue (h:WfO n) {f:Fr} (hf:f.da.length≤9223372036854775807):WfO (queue n f).1:=by
 have hs:∀s∈(mput n.out f).1,WfS s:=fun s hs=>by
  rcases qput_mem hs with hs|rfl
  ·exact h.out s hs
  ·exact ⟨fits0,fits0,hf⟩
 unfold Nd.queue
 simp only
 split
 ·exact ⟨hs,h.bx⟩
 ·exact ⟨hs,h.bx⟩
theorem WfO.box (h:WfO n) {f:Fr} (hf:f.da.length≤9223372036854775807) (now:Int):WfO (box n f now):=by
 have hs:∀b∈(bput n.boxes f now).1,b.f.da.length≤9223372036854775807:=fun b hb=>by
  rcases bput_mem hb with hb|e
  ·exact h.bx b hb
  ·rw [e];exact hf
 unfold Nd.box
 simp only
 split
 ·exact ⟨h.out,hs⟩
 ·exact ⟨h.out,hs⟩
theorem WfO.deliver (h:WfO n) (d:De):WfO (deliver n d):=by
 unfold Nd.deliver;split
 ·exact h.lose
 ·exact ⟨h.out,h.bx⟩
theorem mtries_fits (s:Sn):0≤mtries s∧mtries s≤8:=by unfold mtries;omega
theorem mres_wf {q:List Sn} {i:Nat} {ok:Bool} (h:∀s∈q,WfS s):∀s∈(mres q i ok).1,WfS s:=by
 have h16:∀s∈q.take 16,WfS s:=fun s hs=>h s (List.mem_of_mem_take hs)
 unfold mres
 intro s hs
 split at hs
 ·exact h16 s hs
 ·rename_i t ht
  split at hs
  ·exact h16 s (List.mem_of_mem_eraseIdx hs)
  ·split at hs
   ·exact h16 s (List.mem_of_mem_eraseIdx hs)
   ·rcases List.mem_or_eq_of_mem_set hs with hs|rfl
    ·exact h16 s hs
    ·have:=mtries_fits t
     refine ⟨?_,?_,(h16 t (List.mem_of_getElem? ht)).da⟩
     ·show (-9223372036854775808:Int)≤mtries t∧mtries t≤9223372036854775807
      omega
     ·show (-9223372036854775808:Int)≤(if t.f.ur then 0 else min (mtries t) 4)∧(if t.f.ur then 0 else min (mtries t) 4)≤(9223372036854775807:Int)
      split<;>omega
theorem mtick_wf {q:List Sn} (h:∀s∈q,WfS s):∀s∈mtick q,WfS s:=by
 intro s hs
 unfold mtick at hs
 obtain ⟨t,ht,rfl⟩:=List.mem_map.1 hs
 have h1:=h t (List.mem_of_mem_take ht)
 unfold mtick1;split
 ·rename_i hw
  have h2:(-9223372036854775808:Int)≤t.wt∧t.wt≤9223372036854775807:=h1.wt
  refine ⟨h1.tr,?_,h1.da⟩
  show (-9223372036854775808:Int)≤t.wt-1∧t.wt-1≤9223372036854775807
  omega
 ·exact h1
theorem WfO.boxes (now:Int):∀(l:List Fr) {n:Nd.Nd},(∀ f∈l,f.da.length≤9223372036854775807)→WfO n→WfO (l.foldl (fun n f=>Nd.box n f now) n)
 |[],_,_,h=>h
 |f::l,n,hl,h=>WfO.boxes now l (fun g hg=>hl g (List.mem_cons_of_mem _ hg)) (h.box (hl f (List.mem_cons_self ..)) now)
theorem WfO.asleep (h:WfO n) (now:Int):WfO (asleep n now):=by
 unfold Nd.asleep
 refine WfO.boxes now _ (fun f hf=>?_) ⟨fun s hs=>h.out s (List.mem_filter.1 hs).1,h.bx⟩
 obtain ⟨s,hs,rfl⟩:=List.mem_map.1 hf
 exact (h.out s (List.mem_filter.1 hs).1).da
theorem renc_small (t:List Ro):(renc t).length≤9223372036854775807:=by
 unfold renc
 rw[renc_len]
 have:((t.filter usable).take 24).length≤24:=List.length_take_le _ _
 omega
theorem WfO.beacon (h:WfO n):WfO (beacon n):=by
 have hb:WfO (bumped n):=⟨h.out,h.bx⟩
 unfold Nd.beacon;split
 ·exact hb.queue (renc_small _)
 ·exact hb
theorem WfO.poll (h:WfO n):WfO (poll n):=by
 have hb:WfO (bumped n):=⟨h.out,h.bx⟩
 unfold Nd.poll;split
 ·exact hb.queue (Nat.zero_le _)
 ·exact hb
theorem WfO.tick (h:WfO n) (now:Int):WfO (tickN n now):=by
 have ho:=h.order
 unfold tickN
 simp only
 have h1:WfO (Nd.asleep { Nd.order n with out:=mtick (Nd.order n).out,boxes:=bexp (Nd.order n).boxes (Nd.tick now) 120,parts:=pexp (Nd.order n).parts (Nd.tick now) 120 } (Nd.tick now)):=
  WfO.asleep ⟨mtick_wf ho.out,fun b hb=>ho.bx b (List.mem_of_mem_take (List.mem_filter.1 hb).1)⟩ _
 generalize Nd.asleep { Nd.order n with out:=mtick (Nd.order n).out,boxes:=bexp (Nd.order n).boxes (Nd.tick now) 120,parts:=pexp (Nd.order n).parts (Nd.tick now) 120 } (Nd.tick now)=a at h1 ⊢
 have h2:WfO (if a.poll=0∧Nd.tick now%8=a.addr%8 then Nd.beacon a else a):=by
  split
  ·exact h1.beacon
  ·exact h1
 generalize (if a.poll=0∧Nd.tick now%8=a.addr%8 then Nd.beacon a else a)=b at h2 ⊢
 split
 ·exact h2.poll
 ·exact h2
theorem WfO.talks {now:Int}:∀(k:Nat) {n:Nd.Nd} {i:Nat},WfO n→WfO (talks now k n i).1∧(talks now k n i).2.1.da.length≤9223372036854775807
 |0,n,i,h=>⟨h,Nat.zero_le _⟩
 |k+1,n,i,h=>by
  unfold Nd.talks
  split
  ·exact ⟨h,Nat.zero_le _⟩
  ·rename_i x hx
   have hm:x∈n.out:=List.mem_of_getElem? hx
   have hd:=(h.out x hm).da
   split
   ·exact WfO.talks k h
   ·split
    ·exact ⟨h,hd⟩
    ·split
     ·exact WfO.talks k (WfO.box (n:={ n with out:=n.out.eraseIdx i }) (f:={ x.f with dst:=x.f.ta }) ⟨fun s hs=>h.out s (List.mem_of_mem_eraseIdx hs),h.bx⟩ hd _)
     ·split
      ·exact ⟨h,hd⟩
      ·split
       ·exact WfO.talks k (WfO.lose (n:={ n with out:=(mres n.out i false).1 }) ⟨mres_wf h.out,h.bx⟩)
       ·exact WfO.talks k (n:={ n with out:=(mres n.out i false).1 }) ⟨mres_wf h.out,h.bx⟩
theorem WfO.talk (h:WfO n) (now:Int):WfO (talk n now).1∧(talk n now).2.1.da.length≤9223372036854775807:=WfO.talks _ h.order
theorem WfO.giveUp (h:WfO n) (to:Int):WfO (giveUp n to):=by
 unfold Nd.giveUp;split
 ·exact h.lose
 ·exact ⟨h.out,h.bx⟩
theorem WfO.result (h:WfO n) (f:Fr) (ok:Bool):WfO (result n f ok):=by
 have ho:=h.order
 unfold Nd.result
 simp only
 split
 ·exact ho
 ·rename_i i hi
  have h2:WfO (if okN f.dst=true then { Nd.order n with out:=(mres (Nd.order n).out i ok).1,links:=lseen (Nd.order n).links f.dst ok } else { Nd.order n with out:=(mres (Nd.order n).out i ok).1 }):=by
   split
   ·exact ⟨mres_wf ho.out,ho.bx⟩
   ·exact ⟨mres_wf ho.out,ho.bx⟩
  split
  ·exact h2.giveUp _
  ·exact h2
theorem WfO.drain {fr now:Int}:∀(k:Nat) {n:Nd.Nd},WfO n→WfO (drain fr now k n)
 |0,_,h=>h
 |k+1,n,h=>by
  unfold Nd.drain
  simp only
  have h1:WfO { n with boxes:=(btake n.boxes fr now 120).2.1 }:=⟨h.out,fun b hb=>h.bx b (btake_box hb)⟩
  split
  ·rename_i ht
   obtain ⟨b,hb,e⟩:=btake_fr ht
   refine WfO.drain k (h1.queue ?_)
   show (btake n.boxes fr now 120).1.da.length≤_
   rw[← e];exact h.bx b hb
  ·exact h1
theorem WfO.advertised (h:WfO n) (f:Fr):WfO (advertised n f):=by
 unfold Nd.advertised
 simp only
 split
 ·exact ⟨h.out,h.bx⟩
 ·split
  ·exact ⟨h.out,h.bx⟩
  ·exact ⟨h.out,h.bx⟩
theorem WfO.received (h:WfO n) {f:Fr} (hf:f.da.length≤9223372036854775807) (now:Int):WfO (received n f now):=by
 have h1:WfO { n with seen:=(mfresh n.seen ⟨f.so,f.sq⟩).1 }:=⟨h.out,h.bx⟩
 unfold Nd.received
 simp only
 split
 ·exact h1
 ·split
  ·split
   ·exact h1
   ·split
    ·exact WfO.deliver (n:={ n with seen:=(mfresh n.seen ⟨f.so,f.sq⟩).1,parts:=_ }) ⟨h.out,h.bx⟩ _
    ·exact ⟨h.out,h.bx⟩
  ·split
   ·exact h1.lose
   ·exact h1.queue hf
theorem WfO.hear (h : WfO n) {f : Fr} (hf : f.da.length ≤ 9223372036854775807) (now : Int) : WfO (hear n now f) := by
  have ho := h.order
  unfold Nd.hear
  simp only
  split
  · exact ho
  · split
    · exact ho.advertised f
    · split
      · unfold Nd.polled
        exact WfO.drain _ (n := { Nd.order n with children := _, table := _ }) ⟨ho.out, ho.bx⟩
      · first
        | exact ho.received hf _
        | (split
           · exact ho.received hf _
           · exact ho)
theorem WfO.new (addr poll:Int):WfO (new addr poll):=WfO.order (n:=⟨addr,poll,255,[],[],[],[],[],[],[],[],0,0⟩) ⟨fun s hs=>(List.not_mem_nil hs).elim,fun b hb=>(List.not_mem_nil hb).elim⟩
end
end Me
namespace Go.Proofs.YtgfdoognildoeaaGreat
open Go.GX Go.RowKit
attribute [local irreducible] Calls Run RunL RunQ RunD HR HL HD blkC ownC mapC Rd slicesC iterC
open Nd
structure GdN (n:Nd):Prop where
 sm:SmN n
 wf:Me.WfO n
theorem SmN.ptS {n:Nd} (h:SmN n):PtSm n.parts:=⟨h.pa,h.sm⟩
section
variable {n : Nd}
theorem GdN.tick (h:GdN n) (now:Int):GdN (tickN n now):=⟨ord_sm (tick_good n now).ord (tick_ptsm n now),h.wf.tick now⟩
theorem GdN.talk (h:GdN n) (now:Int):GdN (talk n now).1∧(talk n now).2.1.da.length≤9223372036854775807:=⟨⟨ord_sm (talk_good n now).ord (talk_ptsm h.sm.ptS),(h.wf.talk now).1⟩,(h.wf.talk now).2⟩
theorem GdN.hear (h:GdN n) {f:Fr} (hf:f.da.length≤9223372036854775807) (now:Int):GdN (hear n now f):=⟨ord_sm (hear_good n now f).ord (hear_ptsm h.sm.ptS),h.wf.hear hf now⟩
theorem GdN.result (h:GdN n) (f:Fr) (ok:Bool):GdN (result n f ok):=⟨ord_sm (result_good n f ok).ord (result_ptsm h.sm.ptS),h.wf.result f ok⟩
theorem GdN.new (a p:Int):GdN (new a p):=⟨ord_sm (order_ord _) (new_ptsm a p),Me.WfO.new a p⟩
end
theorem elemSt:Elem Tryz.prog 70 77 24 320:=⟨rfl,⟨_,_,rfl,rfl,rfl,rfl,rfl⟩,by decide⟩
abbrev meC (t:Int) (v:Value):List Value:=[.int .i64 t,v]
abbrev meV (t:Int) (v:Value):Value:= .agg ⟨meC t v⟩
abbrev cNd (v:Value) (xs:List (NV×Nd)):Chunk:=ownC v 62 13 xs.length (cellsOf ndE2 xs)
theorem cNd_app (v:Value) (ys:List (NV×Nd)) (x:NV×Nd):cNd v (ys++[x])=ownC v 62 13 (ys.length+1) (cellsOf ndE2 ys++ndE2 x):=by
 show ownC v _ 13 (ys++[x]).length (cellsOf ndE2 (ys++[x]))=_
 rw[cellsOf_app,List.length_append,cellsOf_one];rfl
theorem nds_len (xs:List (NV×Nd)):(nds xs).length=xs.length:=by simp[nds]
theorem nds_get {xs:List (NV×Nd)} {k:Nat} {x:NV×Nd} (h:xs[k]? =some x):(nds xs)[k]? =some x.2:=by unfold nds;rw[List.getElem?_map,h];rfl
theorem nds_nth {xs:List (NV×Nd)} {k:Nat} {x:NV×Nd} (h:xs[k]? =some x):Me.nth (nds xs) k=x.2:=by unfold Me.nth;rw[List.getD_eq_getElem?_getD,nds_get h];rfl
theorem set_same {α:Type} {l:List α} {k:Nat} {a:α} (h:l[k]? =some a):l.set k a=l:=by
 obtain ⟨hk,rfl⟩:=List.getElem?_eq_some_iff.1 h
 exact List.set_getElem_self hk
def idxV (l:List Nd) (a:Int):Int:=match Me.idx l a with
 |some i=>(i:Int)
 |none=>-1
theorem idxV_fidx (xs:List (NV×Nd)) (a:Int):idxV (nds xs) a=fidx (fun x=>x.2.addr==a) xs:=by
 unfold idxV fidx Me.idx nds
 rw[List.findIdx?_map];rfl
theorem idxV_cases (xs:List (NV×Nd)) (a:Int):(idxV (nds xs) a= -1∧Me.idx (nds xs) a=none)∨∃(i:Nat) (x:NV×Nd),idxV (nds xs) a=(i:Int)∧Me.idx (nds xs) a=some i∧xs[i]? =some x∧x.2.addr=a:=by
 unfold idxV
 cases h:Me.idx (nds xs) a with
 |none=>exact .inl ⟨rfl,rfl⟩
 |some i=>
  obtain ⟨h1,h2⟩:=Me.idx_some h
  have hl:i<xs.length:=by have:=(List.getElem?_eq_some_iff.1 h1).1;rwa[nds_len]at this
  obtain ⟨x,hx⟩:=getSome hl
  exact .inr ⟨i,x,rfl,rfl,hx,by rw[nds_nth hx]at h2;exact h2⟩
end Go.Proofs.YtgfdoognildoeaaGreat
namespace Go.GX
open Go.RowKit
section
variable {P : Program} {N : Nat} {σ : Store} {B : Base} {H : List Chunk} {ops l : List Oper} {K : Act → World → Prop}
variable {d : Nat} {ty : TypeId} {pos : String} {af : Array Edge} {gd : Option (Nat × Bool)}
theorem HL.callVX {α:Type} {r:α→Value} {Q:α→Prop} {G:α→List Chunk} {g:FuncId} {x:Operand} {args:List Operand} {a1 caps:List Value} {tys:Array TypeId} (hg:IsFn P g) (hx:lookO σ x=some (.func (.func g) #[] caps.toArray))
  (hs:stat N ops ⟨some d,.call ⟨.value x,args.toArray,tys⟩,ty,pos,af,gd⟩ σ=true) (ha:vals σ args=some a1)
  (hc:∀w,Sat B H w→Calls P g ((a1++caps).toArray) w fun e w'=>∃x,e= .returned (r x)∧Q x∧Sat (base w) (G x) w')
  (h:∀x,Q x→HL P N ops l ((d,r x)::σ) B (G x++H) K):HL P N ops (⟨some d,.call ⟨.value x,args.toArray,tys⟩,ty,pos,af,gd⟩::l) σ B H K:=
 fun w hw=>RunL.enter hs (hx_callV hg hx ha) ((hc w hw).mono fun e w' ⟨x,h1,h2,h3⟩=>⟨r x,h1,h x h2 w' (hw.join h3)⟩)
theorem HR.seq {f:FuncId} {k:List Item} {R:Ending→World→Prop} {x y:Code} (h:HR P f N (.code x:: .code y::k) σ B H R):HR P f N (.code (.seq x y)::k) σ B H R:=fun w hw=>Run.seq (h w hw)
end
end Go.GX
namespace Go.Proofs.YtgfdoognildoeaaGreat
open Go.GX Go.RowKit
attribute [local irreducible] Calls Run RunL RunQ RunD HR HL HD blkC ownC mapC Rd slicesC iterC
open Nd
theorem fn64:IsFn Tryz.prog 64:=⟨⟨_,_,Tryz.func64,rfl,by decide⟩⟩
theorem fn65:IsFn Tryz.prog 65:=⟨⟨_,_,Tryz.func65,rfl,by decide⟩⟩
theorem fn34:IsFn Tryz.prog 34:=⟨⟨_,_,Tryz.func34,rfl,by decide⟩⟩
theorem fn55:IsFn Tryz.prog 55:=⟨⟨_,_,Tryz.func55,rfl,by decide⟩⟩
theorem fn149:IsFn Tryz.prog 149:=⟨⟨_,_,Tryz.func149,rfl,by decide⟩⟩
theorem fn78:IsFn Tryz.prog 78:=⟨⟨_,_,Tryz.func78,rfl,by decide⟩⟩
theorem indexFNd_any (l:List (NV×Nd)) (p:NV×Nd→Bool) (g:FuncId) (caps:List Value) (v:Value) (w:World) (hg:IsFn Tryz.prog g) (hp:Asks Tryz.prog g caps (fun a=> .agg ⟨ndE2 a⟩) p l w) (hv:Sl w v (cellsOf ndE2 l) l.length) (hl:l.length≤1000000):
  Calls Tryz.prog 64 #[v,.func (.func g) #[] caps.toArray] w fun e w'=>e= .returned (.int .i64 (fidx p l))∧Below w.heap.size w w':=by
 refine calls_hr Tryz.func64 I (Nat.le_of_ble_eq_true I) ?_
 refine HR.sub (σ':=[(0,v),(1,.func (.func g) #[] caps.toArray)]) ⟨I,I,trivial⟩ ?_
 repeat' (first|refine zh ?_|refine HL.lenR (Rd.arg hv) I I I ?_|intro (bk:Nat))
 refine HR.loop (ι:=Nat) (fun k=>k≤l.length∧∀j b,j<k→l[j]? =some b→p b=false) (fun k=>[(0,v),(1,.func (.func g) #[] caps.toArray),(7,.int .i64 (l.length:Int)),(8,.int .i64 (k:Int))]) (fun _=>[]) (fun k=>l.length-k) 0 ⟨Nat.zero_le _,fun j b hj=>absurd hj (Nat.not_lt_zero _)⟩ ⟨I,I,I,I,trivial⟩ Ent.refl ?_
 rintro k ⟨hk,hno⟩ ih
 repeat' (first|refine zh ?_|intro (bk:Nat))
 refine HR.cond I (fun h2=>?_) (fun h2=>?_)
 ·have hlt:k<l.length:=by have:=of_decide_eq_true h2;omega
  obtain ⟨x,hx⟩:=getSome hlt
  repeat' (first|refine zh ?_|refine HL.idxR (Rd.arg hv) elemNd k I I I I hlt ?_|refine HL.loadE (Rd.arg hv) I I I I (by simp) I (cellsOf_get ndE2_len hx) ?_|refine HL.callV (caps:=caps) hg I I I (fun w' hw=>hp x (List.mem_of_getElem? hx) w' hw.belowB) ?_|intro (bk:Nat))
  refine HR.cond I (fun h3=>?_) (fun h3=>?_)
  ·have h3:p x=true:=h3
   repeat' (first|refine zh ?_|intro (bk:Nat))
   refine HR.ret Tryz.func64 I [_] (fun _ _=>⟨I,trivial⟩) ?_
   rw[fidx_at hx h3 hno]
   exact fun w' hw=>⟨rfl,hw.belowB⟩
  ·have h3:p x=false:=h3
   repeat' (first|refine zh ?_|intro (bk:Nat))
   refine ih (k+1) _ _ ⟨hlt,fun j b hj hb=>?_⟩ (by omega) ⟨I,I,I,I,trivial⟩ Ent.refl
   by_cases e:j=k
   ·subst e;rw[hx]at hb;cases hb;exact h3
   ·exact hno j b (by omega) hb
 ·have hke:k=l.length:=by have:=of_decide_eq_false h2;omega
  subst hke
  rw[fidx_none hno]
  repeat' (first|refine zh ?_|intro (bk:Nat))
  refine HR.ret Tryz.func64 I [_] (fun _ _=>⟨I,trivial⟩) ?_
  exact fun w' hw=>⟨rfl,hw.belowB⟩
theorem mindex1_any (bt:Nat) (k:Int) (x:NV×Nd) (w:World) (hb:Sl w (.slice (some ⟨bt,0,none⟩) 1 1) [.int .i64 k] 1):Calls Tryz.prog 65 #[.agg ⟨ndE2 x⟩,.pointer (some ⟨bt,0,none⟩)] w fun e w'=>e= .returned (.bool (x.2.addr==k))∧Below w.heap.size w w':=by
 refine calls_hr Tryz.func65 I (Nat.le_of_ble_eq_true I) ?_
 refine HR.sub (σ':=[(0,.agg ⟨ndE2 x⟩),(1,.pointer (some ⟨bt,0,none⟩))]) ⟨I,I,trivial⟩ ?_
 repeat' (first|refine zh ?_|refine HL.loadI (j:=0) (Rd.arg hb) I I I I I ?_|intro (bk:Nat))
 refine HR.ret Tryz.func65 I [_] (fun _ _=>⟨I,trivial⟩) ?_
 exact fun w' hw=>⟨rfl,hw.belowB⟩
theorem mindex_any (xs:List (NV×Nd)) (a:Int) (v:Value) (w:World) (h:Sl w v (cellsOf ndE2 xs) xs.length) (hl:xs.length≤1000000):
  Calls Tryz.prog 34 #[v,.int .i64 a] w fun e w'=>e= .returned (.int .i64 (idxV (nds xs) a))∧Below w.heap.size w w':=by
 rw[idxV_fidx]
 refine calls_hr Tryz.func34 I (Nat.le_of_ble_eq_true I) ?_
 refine HR.sub (σ':=[(0,v),(1,.int .i64 a)]) ⟨I,I,trivial⟩ ?_
 repeat' (first|refine zh ?_|refine HL.mkF (g:=65) (caps:=[_]) I I ?_|refine HL.callB fn64 I I (fun w1 hw1=>indexFNd_any xs (fun x=>x.2.addr==a) 65 [.pointer (some ⟨bk,0,none⟩)] v w1 fn65 (fun x hx w2 hb=>mindex1_any bk a x w2 (((Rd.blk (n:=1) 0 rfl).at hw1).ext hb)) ((Rd.arg h).at hw1) hl) ?_|intro (bk:Nat))
 refine HR.ret Tryz.func34 I [_] (fun _ _=>⟨I,trivial⟩) ?_
 exact fun w' hw=>⟨rfl,hw.belowB⟩
theorem rat19_any (xs:List (NV×Nd)) (t a:Int) (v:Value) (w:World) (h:Sl w v (cellsOf ndE2 xs) xs.length) (hl:xs.length≤1000000):
  Calls Tryz.prog 55 #[meV t v,.int .i64 a] w fun e w'=>e= .returned (.int .i64 (idxV (nds xs) a))∧Below w.heap.size w w':=by
 rw[idxV_fidx]
 have cx:(cellsOf ndE2 xs).length=xs.length*13:=cellsOf_len ndE2_len _
 refine calls_hr Tryz.func55 I (Nat.le_of_ble_eq_true I) ?_
 refine HR.sub (σ':=[(0,meV t v),(1,.int .i64 a)]) ⟨I,I,trivial⟩ ?_
 repeat' (first|refine zh ?_|intro (bk:Nat))
 refine HR.loop (ι:=Nat) (fun k=>k≤xs.length∧∀j b,j<k→xs[j]? =some b→(b.2.addr==a)=false) (fun k=>[(1,.int .i64 a),(2,ptr bk),(5,.int .i64 (k:Int))]) (fun _=>[blkC bk (meC t v) 26]) (fun k=>xs.length-k) 0 ⟨Nat.zero_le _,fun j b hj=>absurd hj (Nat.not_lt_zero _)⟩ ⟨I,I,I,trivial⟩ Ent.refl ?_
 rintro k ⟨hk,hno⟩ ih
 repeat' (first|refine zh ?_|refine HL.lenR (Rd.arg h) I I I ?_|intro (bk:Nat))
 refine HR.cond I (fun h2=>?_) (fun h2=>?_)
 ·have hlt:k<xs.length:=by have:=of_decide_eq_true h2;omega
  obtain ⟨x,hx⟩:=getSome hlt
  repeat' (first|refine zh ?_|refine HL.idxR (Rd.arg h) elemNd k I I I I hlt ?_|refine HL.fieldN 0 (Rd.arg h) (by rw[cx];omega) I I I I I I I ?_|refine HL.loadI (Rd.arg h) I I I I (cells_get ndE2_len hx (i:=0) I) ?_|intro (bk:Nat))
  refine HR.cond I (fun h3=>?_) (fun h3=>?_)
  ·have h3:(x.2.addr==a)=true:=h3
   repeat' (first|refine zh ?_|intro (bk:Nat))
   refine HR.ret Tryz.func55 I [_] (fun _ _=>⟨I,trivial⟩) ?_
   rw[fidx_at hx h3 hno]
   exact fun w' hw=>⟨rfl,hw.belowB⟩
  ·have h3:(x.2.addr==a)=false:=h3
   repeat' (first|refine zh ?_|intro (bk:Nat))
   refine ih (k+1) _ _ ⟨hlt,fun j b hj hb=>?_⟩ (by omega) ⟨I,I,I,trivial⟩ Ent.refl
   by_cases e:j=k
   ·subst e;rw[hx]at hb;cases hb;exact h3
   ·exact hno j b (by omega) hb
 ·have hke:k=xs.length:=by have:=of_decide_eq_false h2;omega
  subst hke
  rw[fidx_none hno]
  repeat' (first|refine zh ?_|intro (bk:Nat))
  refine HR.ret Tryz.func55 I [_] (fun _ _=>⟨I,trivial⟩) ?_
  exact fun w' hw=>⟨rfl,hw.belowB⟩
theorem drop_at {α:Type} {l m:List α} {k:Nat} {x:α} (h:l.drop k=m.drop k) (hx:m[k]? =some x):l[k]? =some x:=by
 have e:(l.drop k)[0]? =(m.drop k)[0]? :=by rw[h]
 rw[List.getElem?_drop,List.getElem?_drop,Nat.add_zero,hx]at e
 exact e
theorem cloneParts_any (L:List PtV) (v:Value) (w:World) (hv:RdPts w v L) (hs:∀p∈L,SmPt p.pt) (hl:L.length≤1000):
  Calls Tryz.prog 149 #[v] w fun e w'=>∃x:Value×List PtV,e= .returned x.1∧GdPts x (pts L)∧Sat (base w) (ptsC x) w':=by
 have hsh:∀p∈L,ShPt p:=fun p hp=>(hv.r p hp).sh
 have cL:(cellsOf ptC L).length=L.length*6:=cellsOf_len ptC_len _
 refine calls_hr Tryz.func149 I (Nat.le_of_ble_eq_true I) ?_
 refine HR.sub (σ':=[(0,v)]) ⟨I,trivial⟩ ?_
 repeat' (first|refine zh ?_|refine HL.callO fn204 I I (fun w1 hw1=>clonePt_any L v w1 ((Rd.arg hv.s).at hw1) hsh hl) ?_|intro (bk:Nat))
 intro v1
 repeat' (first|refine zh ?_|refine HL.lenR (Rd.own 0 I) I I I ?_|intro (bk:Nat))
 refine HR.loop2 (α:=Nat) (β:=List PtV) (fun k M=>k≤L.length∧pts M=pts L∧M.drop k=L.drop k∧∀p∈M,ShPt p) (fun k M=>[(0,v),(3,v1),(8,.int .i64 (L.length:Int)),(9,.int .i64 (k:Int))]) (fun k M=>[ownC v1 173 6 M.length (cellsOf ptC M),groupC (ptG (M.take k))]) (fun k _=>L.length-k) 0 L ⟨Nat.zero_le _,rfl,rfl,hsh⟩ ⟨I,I,I,I,trivial⟩ (Ent.trans Ent.gnil (Ent.pick [1,0] I I)) ?_
 rintro k M ⟨hk,hpM,hdr,hshM⟩ ih
 have hk:k≤L.length:=hk
 have hML:M.length=L.length:=by rw[← pts_len,hpM,pts_len]
 have cM:(cellsOf ptC M).length=M.length*6:=cellsOf_len ptC_len _
 repeat' (first|refine zh ?_|intro (bk:Nat))
 refine HR.cond I (fun h2=>?_) (fun h2=>?_)
 ·have hlt:k<L.length:=by have:(k:Int)<(L.length:Int):=of_decide_eq_true h2;omega
  obtain ⟨p,hp⟩:=getSome hlt
  have hpm:=drop_at hdr hp
  have hrp:=hv.r p (List.mem_of_getElem? hp)
  have hsp:=hs p (List.mem_of_getElem? hp)
  obtain ⟨aa,na,ca,ab,nb,cb,ex⟩:=hrp.sh.lit
  obtain ⟨q,hq⟩:∃q,q=p.pt:=⟨_,rfl⟩
  rw[← hq]at ex hsp
  subst ex
  have hh:Sl w (.slice aa na ca) (cellsOf bC q.hv) q.hv.length:=hrp.h
  have hd:Sl w (.slice ab nb cb) (cellsOf sC q.da) q.da.length:=hrp.d
  have hs1:q.hv.length≤140737488355328:=hsp.1
  have hs2:q.da.length≤8796093022208:=hsp.2.1
  repeat' (first|refine zh ?_|refine HL.idxR (Rd.arg hv.s) elemPt k I I I I hlt ?_|refine HL.fieldN 4 (Rd.arg hv.s) (by rw[cL];omega) I I I I I I I ?_|refine HL.loadI (Rd.arg hv.s) I I I I (cells_get ptC_len hp (i:=4) I) ?_|refine HL.callO fn138 I I (fun w1 hw1=>cloneB_any q.hv _ w1 ((Rd.arg hh).at hw1) hs1) ?_|intro (bk:Nat))
  intro u1
  refine HL.shape 0 I fun a1 c1 hu=>?_
  subst hu
  repeat' (first|refine zh ?_|refine HL.idxR (Rd.own 1 I) elemPt k I I I I (by omega) ?_|refine HL.fieldN 4 (Rd.own 1 I) (by rw[cM];omega) I I I I I I I ?_|refine HL.storeE (j:=k*6+4) 1 I I I I I I I (by rw[cM];omega) ?_|intro (bk:Nat))
  obtain ⟨M1,hM1⟩:∃M1,M1=M.set k ⟨.slice a1 q.hv.length c1,.slice ab nb cb,q⟩:=⟨_,rfl⟩
  have hg1:M1[k]? =some ⟨.slice a1 q.hv.length c1,.slice ab nb cb,q⟩:=by rw[hM1];simp[hML,hlt]
  have hl1:M1.length=M.length:=by rw[hM1];exact List.length_set
  have cM1:(cellsOf ptC M1).length=M1.length*6:=cellsOf_len ptC_len _
  refine HL.ent (H':=[ownC v1 173 6 M1.length (cellsOf ptC M1),ownC (.slice a1 q.hv.length c1) 4 1 q.hv.length (cellsOf bC q.hv),groupC (ptG (M.take k))]) (Ent.trans (Ent.pick [1,0,2] I I) (Ent.own0 hl1.symm (by rw[hM1];exact cells_set1 (i:=4) ptC_len hpm I (by decide)))) ?_
  repeat' (first|refine zh ?_|refine HL.idxR (Rd.arg hv.s) elemPt k I I I I hlt ?_|refine HL.fieldN 5 (Rd.arg hv.s) (by rw[cL];omega) I I I I I I I ?_|refine HL.loadI (Rd.arg hv.s) I I I I (cells_get ptC_len hp (i:=5) I) ?_|refine HL.callO fn139 I I (fun w1 hw1=>cloneS_any q.da _ w1 ((Rd.arg hd).at hw1) hs2) ?_|intro (bk:Nat))
  intro u2
  refine HL.shape 0 I fun a2 c2 hu=>?_
  subst hu
  repeat' (first|refine zh ?_|refine HL.idxR (Rd.own 1 I) elemPt k I I I I (by omega) ?_|refine HL.fieldN 5 (Rd.own 1 I) (by rw[cM1];omega) I I I I I I I ?_|refine HL.storeE (j:=k*6+5) 1 I I I I I I I (by rw[cM1];omega) ?_|intro (bk:Nat))
  obtain ⟨Q,hQ⟩:∃Q:PtV,Q=⟨.slice a1 q.hv.length c1,.slice a2 q.da.length c2,q⟩:=⟨_,rfl⟩
  have hms:M1.set k Q=M.set k Q:=by rw[hM1,List.set_set]
  have htk:(M.set k Q).take (k+1)=M.take k++[Q]:=by
   rw[take_succ_get (show (M.set k Q)[k]? =some Q by simp[hML,hlt]),List.take_set_of_le (Nat.le_refl k)]
  refine ih (k+1) (M.set k Q) _ _ ⟨hlt,?_,?_,?_⟩ (by show L.length-(k+1)<L.length-k;omega) ⟨I,I,I,I,trivial⟩ ?_
  ·unfold pts
   rw[List.map_set,hQ]
   show (pts M).set k q=pts L
   have hqk:(pts M)[k]? =some q:=pts_get hpm
   rw[set_same hqk];exact hpM
  ·rw [List.drop_set_of_lt (Nat.lt_succ_self k)]
   have:=congrArg (List.drop 1) hdr
   rwa[List.drop_drop,List.drop_drop]at this
  ·intro x hx
   rcases List.mem_or_eq_of_mem_set hx with hx|rfl
   ·exact hshM x hx
   ·rw [hQ];exact ⟨⟨_,_,_,rfl⟩,⟨_,_,_,rfl⟩⟩
  ·show Ent _ _ [ownC v1 173 6 (M.set k Q).length (cellsOf ptC (M.set k Q)),groupC (ptG ((M.set k Q).take (k+1)))]
   rw[htk,ptG_app,ptG_one,hQ]
   refine Ent.trans (Ent.pick (H':=[ptH ⟨.slice a1 q.hv.length c1,.slice a2 q.da.length c2,q⟩,ptD ⟨.slice a1 q.hv.length c1,.slice a2 q.da.length c2,q⟩,groupC (ptG (M.take k)),_]) [2,0,3,1] I I) (Ent.trans (Ent.group (G:=[ptH _,ptD _])) (Ent.trans Ent.gjoin (Ent.trans (Ent.pick [1,0] I I) (Ent.own0 (by rw[hl1,List.length_set]) ?_))))
   rw[← hQ,← hms,hQ]
   exact cells_set1 (i:=5) ptC_len hg1 I (by decide)
 ·have hke:k=L.length:=by have:¬(k:Int)<(L.length:Int):=of_decide_eq_false h2;omega
  subst hke
  repeat' (first|refine zh ?_|intro (bk:Nat))
  refine HR.ret Tryz.func149 I [_] (fun _ _=>⟨I,trivial⟩) ?_
  refine fun w' hw=>⟨(v1,M),rfl,⟨hpM,hshM⟩,?_⟩
  rw[← hML,List.take_length]at hw
  exact hw
theorem mclone_any (V:NV) (n:Nd) (w:World) (h:OkN w V n) (hs:SmN n):
  Calls Tryz.prog 78 #[.agg ⟨ndC V n⟩] w fun e w'=>∃x:NV×List Chunk,e= .returned (.agg ⟨ndC x.1 n⟩)∧Own x.1 x.2 n∧Sat (base w) [groupC x.2] w':=by
 refine calls_hr Tryz.func78 I (Nat.le_of_ble_eq_true I) ?_
 refine HR.sub (σ':=[(0,.agg ⟨ndC V n⟩)]) ⟨I,trivial⟩ ?_
 repeat' (first|refine zh ?_|refine HL.callO fn61 I I (fun w1 hw1=>cloneRo_any n.table _ w1 ((Rd.arg h.ta).at hw1) hs.ta) ?_|intro (bk:Nat))
 intro v1
 refine HL.shape 0 I fun a1 c1 hv=>?_
 subst hv
 repeat' (first|refine zh ?_|refine HL.callO fn131 I I (fun w1 hw1=>cloneLi_any n.links _ w1 ((Rd.arg h.li).at hw1) hs.li) ?_|intro (bk:Nat))
 intro v2
 refine HL.shape 0 I fun a2 c2 hv=>?_
 subst hv
 repeat' (first|refine zh ?_|refine HL.callO fn133 I I (fun w1 hw1=>cloneSn_any n.out _ w1 ((Rd.arg h.ou).at hw1) hs.ou) ?_|intro (bk:Nat))
 intro v3
 refine HL.shape 0 I fun a3 c3 hv=>?_
 subst hv
 repeat' (first|refine zh ?_|refine HL.callO fn148 I I (fun w1 hw1=>cloneI_any n.children _ w1 ((Rd.arg h.ch).at hw1) hs.ch) ?_|intro (bk:Nat))
 intro v4
 refine HL.shape 0 I fun a4 c4 hv=>?_
 subst hv
 repeat' (first|refine zh ?_|refine HL.callO fn134 I I (fun w1 hw1=>cloneMa_any n.boxes _ w1 ((Rd.arg h.bo).at hw1) hs.bo) ?_|intro (bk:Nat))
 intro v5
 refine HL.shape 0 I fun a5 c5 hv=>?_
 subst hv
 refine HL.ent (Ent.pick [6,0,1,2,3,4,5] I I) ?_
 repeat' (first|refine zh ?_|refine HL.callO fn137 I I (fun w1 hw1=>clonePr_any n.seen _ w1 ((Rd.arg h.se).at hw1) hs.se) ?_|intro (bk:Nat))
 intro v6
 refine HL.shape 0 I fun a6 c6 hv=>?_
 subst hv
 repeat' (first|refine zh ?_|intro (bk:Nat))
 refine HL.callX (r:=fun x:Value×List PtV=>x.1) (Q:=fun x=>GdPts x (pts V.ps)) (G:=fun x=>ptsC x) fn149 I I (fun w1 hw1=>cloneParts_any V.ps _ w1 (h.pa.ext hw1.belowB) (fun p hp=>hs.sm p.pt (by rw[← h.eq];exact List.mem_map.2 ⟨p,hp,rfl⟩)) (by rw[← pts_len,h.eq];exact hs.pa)) ?_
 rintro ⟨v7,L7⟩ ⟨hp7,hsh7⟩
 have hp7:pts L7=pts V.ps:=hp7
 refine HL.ent (H':=ownC v7 173 6 L7.length (cellsOf ptC L7)::groupC (ptG L7)::_) Ent.refl ?_
 refine HL.shape 0 I fun a7 c7 hv=>?_
 subst hv
 repeat' (first|refine zh ?_|refine HL.callO fn59 I I (fun w1 hw1=>cloneDe_any n.inbox _ w1 ((Rd.arg h.ib).at hw1) hs.ib) ?_|intro (bk:Nat))
 intro v8
 refine HL.shape 0 I fun a8 c8 hv=>?_
 subst hv
 refine HL.ent (Ent.pick [10,4,0,1,2,3,5,6,7,8,9] I I) ?_
 repeat' (first|refine zh ?_|intro (bk:Nat))
 refine HR.ret Tryz.func78 I [_] (fun w hw=>⟨⟨_,rfl,loadVarR hw 0 I I I I rfl⟩,trivial⟩) ?_
 refine fun w' hw=>⟨(⟨(a1,c1),(a2,c2),(a3,c3),(a4,c4),(a5,c5),(a6,c6),(a7,c7),(a8,c8),L7⟩,ndH ⟨(a1,c1),(a2,c2),(a3,c3),(a4,c4),(a5,c5),(a6,c6),(a7,c7),(a8,c8),L7⟩ n),rfl,Pts.own ⟨by rw[← h.eq];exact hp7,hsh7⟩,sat_grp (hw.pick [10,9,8,7,6,5,3,4,2] I rfl)⟩
end Go.Proofs.YtgfdoognildoeaaGreat
namespace Go.Proofs.YtgfdoognildoeaaGreat
open Go.GX Go.RowKit
attribute [local irreducible] Calls Run RunL RunQ RunD HR HL HD blkC ownC mapC Rd slicesC iterC
open Nd
abbrev meZ:List Value:=[.int .i64 0,.slice none 0 0]
abbrev meB (b:Nat) (t:Int) (v:Value):Chunk:=blkC b (meC t v) 26
abbrev MkL (x:SV×List (NV×Nd)×List Chunk) (l:List Nd):Prop:=nds x.2.1=l∧∀y∈x.2.1,Own y.1 x.2.2 y.2
end Go.Proofs.YtgfdoognildoeaaGreat
namespace Go.Proofs.YtgfdoognildoeaaGreat
open Go.GX Go.RowKit
attribute [local irreducible] Calls Run RunL RunQ RunD HR HL HD blkC ownC mapC Rd slicesC iterC
theorem elemE:Elem Tryz.prog 32 206 2 16:=⟨rfl,⟨_,_,rfl,rfl,rfl,rfl,rfl⟩,by decide⟩
theorem keyI:KeyK Tryz.prog 3 (fun z:Int=>Value.int .i64 z):=key_int I
theorem fn258:IsFn Tryz.prog 258:=⟨⟨_,_,Tryz.func258,rfl,by decide⟩⟩
theorem fn202:IsFn Tryz.prog 202:=⟨⟨_,_,Tryz.func202,rfl,by decide⟩⟩
theorem fn203:IsFn Tryz.prog 203:=⟨⟨_,_,Tryz.func203,rfl,by decide⟩⟩
theorem fn147:IsFn Tryz.prog 147:=⟨⟨_,_,Tryz.func147,rfl,by decide⟩⟩
theorem node_any (n:Int) (w:World):Calls Tryz.prog 258 #[.int .i64 n] w fun e w'=>e= .returned (.bool (Tp.okN n))∧Below w.heap.size w w':=by
 refine calls_hr Tryz.func258 I (Nat.le_of_ble_eq_true I) ?_
 refine HR.sub (σ':=[(0,.int .i64 n)]) ⟨I,trivial⟩ ?_
 repeat' (first|(refine HL.isOp ?_;first|refine HL.ev I I ?_|refine HL.evc I I (by first|omega|(simp;done)|(simp;omega)) ?_|(refine HL.isLoad ?_;first|refine HL.L 0 I I I I ?_|refine HL.L 1 I I I I ?_|refine HL.L 2 I I I I ?_|refine HL.L 3 I I I I ?_)|(refine HL.isStore ?_;first|refine HL.S 0 I I I I I ?_|refine HL.S 1 I I I I I ?_|refine HL.S 2 I I I I I ?_|refine HL.S 3 I I I I I ?_)|refine HL.build I I ?_|refine HL.field I I ?_|(refine HL.box I I ?_;intro bk)|(refine HL.alloc I I ?_;intro bk)|refine HL.skip rfl rfl ?_|refine HL.skip0 rfl ?_|apply HL.andB rfl rfl rfl rfl rfl rfl rfl rfl|apply HL.orB rfl rfl rfl rfl rfl rfl rfl rfl)|refine HL.nil ?_|refine HR.ctl rfl ?_|refine HR.region ?_|refine HR.condT rfl ?_|refine HR.condF rfl ?_|exact HL.blkEnd rfl rfl Ent.refl|(refine fun (hb:(_:Bool)=_)=>?_;try simp at hb))
 refine HR.ret Tryz.func258 I [_] (fun _ _=>⟨I,trivial⟩) ?_
 exact fun w' hw=>⟨rfl,hw.belowB⟩
theorem valid_any (e:Ed) (w:World):Calls Tryz.prog 202 #[.agg ⟨edC e⟩] w fun e' w'=>e'= .returned (.bool (Tp.okE e))∧Below w.heap.size w w':=by
 refine calls_hr Tryz.func202 I (Nat.le_of_ble_eq_true I) ?_
 refine HR.sub (σ':=[(0,.agg ⟨edC e⟩)]) ⟨I,trivial⟩ ?_
 repeat' (first|(refine HL.isOp ?_;first|refine HL.ev I I ?_|refine HL.evc I I (by first|omega|(simp;done)|(simp;omega)) ?_|refine HL.callB fn258 I I (fun w _=>node_any _ w) ?_|(refine HL.isLoad ?_;first|refine HL.L 0 I I I I ?_|refine HL.L 1 I I I I ?_|refine HL.L 2 I I I I ?_|refine HL.L 3 I I I I ?_)|(refine HL.isStore ?_;first|refine HL.S 0 I I I I I ?_|refine HL.S 1 I I I I I ?_|refine HL.S 2 I I I I I ?_|refine HL.S 3 I I I I I ?_)|refine HL.build I I ?_|refine HL.field I I ?_|(refine HL.box I I ?_;intro bk)|(refine HL.alloc I I ?_;intro bk)|refine HL.skip rfl rfl ?_|refine HL.skip0 rfl ?_|apply HL.andB rfl rfl rfl rfl rfl rfl rfl rfl|apply HL.orB rfl rfl rfl rfl rfl rfl rfl rfl)|refine HL.nil ?_|refine HR.ctl rfl ?_|refine HR.region ?_|refine HR.condT rfl ?_|refine HR.condF rfl ?_|exact HL.blkEnd rfl rfl Ent.refl|(refine fun (hb:(_:Bool)=_)=>?_;try simp at hb))
 refine HR.ret Tryz.func202 I [_] (fun _ _=>⟨I,trivial⟩) ?_
 exact fun w' hw=>⟨rfl,hw.belowB⟩
theorem link_any (e:Ed) (w:World):Calls Tryz.prog 203 #[.agg ⟨edC e⟩] w fun e' w'=>e'= .returned (.agg ⟨edC (Tp.link e)⟩)∧Below w.heap.size w w':=by
 refine calls_hr Tryz.func203 I (Nat.le_of_ble_eq_true I) ?_
 refine HR.sub (σ':=[(0,.agg ⟨edC e⟩)]) ⟨I,trivial⟩ ?_
 repeat' (first|(refine HL.isOp ?_;first|refine HL.ev I I ?_|refine HL.evc I I (by first|omega|(simp;done)|(simp;omega)) ?_|(refine HL.isLoad ?_;first|refine HL.L 0 I I I I ?_|refine HL.L 1 I I I I ?_|refine HL.L 2 I I I I ?_|refine HL.L 3 I I I I ?_)|(refine HL.isStore ?_;first|refine HL.S 0 I I I I I ?_|refine HL.S 1 I I I I I ?_|refine HL.S 2 I I I I I ?_|refine HL.S 3 I I I I I ?_)|refine HL.build I I ?_|refine HL.field I I ?_|(refine HL.box I I ?_;intro bk)|(refine HL.alloc I I ?_;intro bk)|refine HL.skip rfl rfl ?_|refine HL.skip0 rfl ?_|apply HL.andB rfl rfl rfl rfl rfl rfl rfl rfl|apply HL.orB rfl rfl rfl rfl rfl rfl rfl rfl)|refine HL.nil ?_|refine HR.ctl rfl ?_|refine HR.region ?_|refine HR.condT rfl ?_|refine HR.condF rfl ?_|exact HL.blkEnd rfl rfl Ent.refl|(refine fun (hb:(_:Bool)=_)=>?_;try simp at hb))
 refine HR.ret Tryz.func203 I [_] (fun w hw=>⟨⟨_,rfl,loadVarR hw 0 I I I I rfl⟩,trivial⟩) ?_
 exact fun w' hw=>⟨rfl,hw.belowB⟩
end Go.Proofs.YtgfdoognildoeaaGreat
namespace Go.Proofs.YtgfdoognildoeaaGreat
open Go.GX Go.RowKit
attribute [local irreducible] Calls Run RunL RunQ RunD HR HL HD blkC ownC mapC Rd slicesC iterC
theorem keyE:KeyK Tryz.prog 206 (fun e:Ed=>Value.agg ⟨edC e⟩):=by
 refine key_struct I (fun a b w=>?_) (fun e k w=>?_) (fun k w=>?_) (fun a b h=>?_)
 ·rw [eqStruct_run (xs:=edC a) (ys:=edC b) (by kernel_rfl) I w]
  congr 1
  obtain ⟨a1,a2⟩:=a
  obtain ⟨b1,b2⟩:=b
  rw[Bool.eq_iff_iff]
  simp
 ·exact checkKey_struct (fl:=_) I I e 9998 w
 ·exact stays_plain (by intro v hv;simp[edC]at hv;rcases hv with rfl|rfl<;>simp[Instr.sameBits]) w
 ·obtain ⟨a1,a2⟩:=a
  obtain ⟨b1,b2⟩:=b
  simpa[edC]using h
theorem check_any (l:List Ed) (vl:Value) (w:World) (hl:Sl w vl (cellsOf edC l) l.length) (hll:l.length≤1000000):
  Calls Tryz.prog 147 #[vl] w fun e' w'=>e'= .returned (.int .i64 (Tp.check l))∧Below w.heap.size w w':=by
 refine calls_hr Tryz.func147 I (Nat.le_of_ble_eq_true I) ?_
 refine HR.sub (σ':=[(0,vl)]) ⟨I,trivial⟩ ?_
 repeat' (first|(refine HL.isOp ?_;first|refine HL.ev I I ?_|refine HL.evc I I (by first|omega|(simp;done)|(simp;omega)) ?_|refine HL.lenR (Rd.arg hl) I I I ?_|(refine HL.isLoad ?_;first|refine HL.L 0 I I I I ?_|refine HL.L 1 I I I I ?_|refine HL.L 2 I I I I ?_|refine HL.L 3 I I I I ?_)|(refine HL.isStore ?_;first|refine HL.S 0 I I I I I ?_|refine HL.S 1 I I I I I ?_|refine HL.S 2 I I I I I ?_|refine HL.S 3 I I I I I ?_)|refine HL.build I I ?_|refine HL.field I I ?_|(refine HL.box I I ?_;intro bk)|(refine HL.alloc I I ?_;intro bk)|refine HL.skip rfl rfl ?_|refine HL.skip0 rfl ?_|apply HL.andB rfl rfl rfl rfl rfl rfl rfl rfl|apply HL.orB rfl rfl rfl rfl rfl rfl rfl rfl)|refine HL.nil ?_|refine HR.ctl rfl ?_|refine HR.region ?_|refine HR.condT rfl ?_|refine HR.condF rfl ?_|exact HL.blkEnd rfl rfl Ent.refl|(refine fun (hb:(_:Bool)=_)=>?_;try simp at hb))
 refine HR.cond I (fun h1=>?_) (fun h1=>?_)
 ·repeat' (first|(refine HL.isOp ?_;first|refine HL.ev I I ?_|refine HL.evc I I (by first|omega|(simp;done)|(simp;omega)) ?_|(refine HL.isLoad ?_;first|refine HL.L 0 I I I I ?_|refine HL.L 1 I I I I ?_|refine HL.L 2 I I I I ?_|refine HL.L 3 I I I I ?_)|(refine HL.isStore ?_;first|refine HL.S 0 I I I I I ?_|refine HL.S 1 I I I I I ?_|refine HL.S 2 I I I I I ?_|refine HL.S 3 I I I I I ?_)|refine HL.build I I ?_|refine HL.field I I ?_|(refine HL.box I I ?_;intro bk)|(refine HL.alloc I I ?_;intro bk)|refine HL.skip rfl rfl ?_|refine HL.skip0 rfl ?_|apply HL.andB rfl rfl rfl rfl rfl rfl rfl rfl|apply HL.orB rfl rfl rfl rfl rfl rfl rfl rfl)|refine HL.nil ?_|refine HR.ctl rfl ?_|refine HR.region ?_|refine HR.condT rfl ?_|refine HR.condF rfl ?_|exact HL.blkEnd rfl rfl Ent.refl|(refine fun (hb:(_:Bool)=_)=>?_;try simp at hb))
  refine HR.ret Tryz.func147 I [_] (fun _ _=>⟨I,trivial⟩) ?_
  have:l.length>256:=by have:=of_decide_eq_true h1;omega
  exact fun w' hw=>⟨by simp[Tp.check,this,resV],hw.belowB⟩
 have hl6:¬l.length>256:=by have:=of_decide_eq_false h1;omega
 have hck:Tp.check l=Tp.chk (l.take 0) (l.drop 0):=by simp[Tp.check,hl6]
 repeat' (first|(refine HL.isOp ?_;first|refine HL.ev I I ?_|refine HL.evc I I (by first|omega|(simp;done)|(simp;omega)) ?_|refine HL.makeM (fun e:Ed=>Value.agg ⟨edC e⟩) I ?_|(refine HL.isLoad ?_;first|refine HL.L 0 I I I I ?_|refine HL.L 1 I I I I ?_|refine HL.L 2 I I I I ?_|refine HL.L 3 I I I I ?_)|(refine HL.isStore ?_;first|refine HL.S 0 I I I I I ?_|refine HL.S 1 I I I I I ?_|refine HL.S 2 I I I I I ?_|refine HL.S 3 I I I I I ?_)|refine HL.build I I ?_|refine HL.field I I ?_|(refine HL.box I I ?_;intro bk)|(refine HL.alloc I I ?_;intro bk)|refine HL.skip rfl rfl ?_|refine HL.skip0 rfl ?_|apply HL.andB rfl rfl rfl rfl rfl rfl rfl rfl|apply HL.orB rfl rfl rfl rfl rfl rfl rfl rfl)|refine HL.nil ?_|refine HR.ctl rfl ?_|refine HR.region ?_|refine HR.condT rfl ?_|refine HR.condF rfl ?_|exact HL.blkEnd rfl rfl Ent.refl|(refine fun (hb:(_:Bool)=_)=>?_;try simp at hb))
 intro b
 repeat' (first|(refine HL.isOp ?_;first|refine HL.ev I I ?_|refine HL.evc I I (by first|omega|(simp;done)|(simp;omega)) ?_|refine HL.lenR (Rd.arg hl) I I I ?_|(refine HL.isLoad ?_;first|refine HL.L 0 I I I I ?_|refine HL.L 1 I I I I ?_|refine HL.L 2 I I I I ?_|refine HL.L 3 I I I I ?_)|(refine HL.isStore ?_;first|refine HL.S 0 I I I I I ?_|refine HL.S 1 I I I I I ?_|refine HL.S 2 I I I I I ?_|refine HL.S 3 I I I I I ?_)|refine HL.build I I ?_|refine HL.field I I ?_|(refine HL.box I I ?_;intro bk)|(refine HL.alloc I I ?_;intro bk)|refine HL.skip rfl rfl ?_|refine HL.skip0 rfl ?_|apply HL.andB rfl rfl rfl rfl rfl rfl rfl rfl|apply HL.orB rfl rfl rfl rfl rfl rfl rfl rfl)|refine HL.nil ?_|refine HR.ctl rfl ?_|refine HR.region ?_|refine HR.condT rfl ?_|refine HR.condF rfl ?_|exact HL.blkEnd rfl rfl Ent.refl|(refine fun (hb:(_:Bool)=_)=>?_;try simp at hb))
 refine HR.loop2 (α:=Nat) (β:=List (Ed×Value)) (fun k m=>k≤l.length∧Tp.check l=Tp.chk (l.take k) (l.drop k)∧∀z,(getM z m).getD (.bool false)= .bool (decide (z∈(l.take k).map Tp.link))) (fun k m=>[(3,.map (some b)),(10,vl),(11,.int .i64 (l.length:Int)),(12,.int .i64 (k:Int))]) (fun k m=>[mapC (fun e:Ed=>Value.agg ⟨edC e⟩) b m]) (fun k m=>l.length-k) 0 [] ⟨Nat.zero_le _,hck,fun z=>by simp[getM]⟩ ⟨I,I,I,I,trivial⟩ Ent.refl ?_
 rintro k m ⟨hk,hc,hg⟩ ih
 repeat' (first|(refine HL.isOp ?_;first|refine HL.ev I I ?_|refine HL.evc I I (by first|omega|(simp;done)|(simp;omega)) ?_|(refine HL.isLoad ?_;first|refine HL.L 0 I I I I ?_|refine HL.L 1 I I I I ?_|refine HL.L 2 I I I I ?_|refine HL.L 3 I I I I ?_)|(refine HL.isStore ?_;first|refine HL.S 0 I I I I I ?_|refine HL.S 1 I I I I I ?_|refine HL.S 2 I I I I I ?_|refine HL.S 3 I I I I I ?_)|refine HL.build I I ?_|refine HL.field I I ?_|(refine HL.box I I ?_;intro bk)|(refine HL.alloc I I ?_;intro bk)|refine HL.skip rfl rfl ?_|refine HL.skip0 rfl ?_|apply HL.andB rfl rfl rfl rfl rfl rfl rfl rfl|apply HL.orB rfl rfl rfl rfl rfl rfl rfl rfl)|refine HL.nil ?_|refine HR.ctl rfl ?_|refine HR.region ?_|refine HR.condT rfl ?_|refine HR.condF rfl ?_|exact HL.blkEnd rfl rfl Ent.refl|(refine fun (hb:(_:Bool)=_)=>?_;try simp at hb))
 refine HR.cond I (fun h2=>?_) (fun h2=>?_)
 ·have hlt:k<l.length:=by have:=of_decide_eq_true h2;omega
  obtain ⟨e,he⟩:=getSome hlt
  repeat' (first|(refine HL.isOp ?_;first|refine HL.ev I I ?_|refine HL.evc I I (by first|omega|(simp;done)|(simp;omega)) ?_|refine HL.idxR (Rd.arg hl) elemE k I I I I hlt ?_|refine HL.loadE (Rd.arg hl) I I I I (by simp[edC]) I (cellsOf_get edC_len he) ?_|refine HL.callB fn202 I I (fun w _=>valid_any e w) ?_|(refine HL.isLoad ?_;first|refine HL.L 0 I I I I ?_|refine HL.L 1 I I I I ?_|refine HL.L 2 I I I I ?_|refine HL.L 3 I I I I ?_)|(refine HL.isStore ?_;first|refine HL.S 0 I I I I I ?_|refine HL.S 1 I I I I I ?_|refine HL.S 2 I I I I I ?_|refine HL.S 3 I I I I I ?_)|refine HL.build I I ?_|refine HL.field I I ?_|(refine HL.box I I ?_;intro bk)|(refine HL.alloc I I ?_;intro bk)|refine HL.skip rfl rfl ?_|refine HL.skip0 rfl ?_|apply HL.andB rfl rfl rfl rfl rfl rfl rfl rfl|apply HL.orB rfl rfl rfl rfl rfl rfl rfl rfl)|refine HL.nil ?_|refine HR.ctl rfl ?_|refine HR.region ?_|refine HR.condT rfl ?_|refine HR.condF rfl ?_|exact HL.blkEnd rfl rfl Ent.refl|(refine fun (hb:(_:Bool)=_)=>?_;try simp at hb))
  refine HR.cond I (fun h3=>?_) (fun h3=>?_)
  ·repeat' (first|(refine HL.isOp ?_;first|refine HL.ev I I ?_|refine HL.evc I I (by first|omega|(simp;done)|(simp;omega)) ?_|(refine HL.isLoad ?_;first|refine HL.L 0 I I I I ?_|refine HL.L 1 I I I I ?_|refine HL.L 2 I I I I ?_|refine HL.L 3 I I I I ?_)|(refine HL.isStore ?_;first|refine HL.S 0 I I I I I ?_|refine HL.S 1 I I I I I ?_|refine HL.S 2 I I I I I ?_|refine HL.S 3 I I I I I ?_)|refine HL.build I I ?_|refine HL.field I I ?_|(refine HL.box I I ?_;intro bk)|(refine HL.alloc I I ?_;intro bk)|refine HL.skip rfl rfl ?_|refine HL.skip0 rfl ?_|apply HL.andB rfl rfl rfl rfl rfl rfl rfl rfl|apply HL.orB rfl rfl rfl rfl rfl rfl rfl rfl)|refine HL.nil ?_|refine HR.ctl rfl ?_|refine HR.region ?_|refine HR.condT rfl ?_|refine HR.condF rfl ?_|exact HL.blkEnd rfl rfl Ent.refl|(refine fun (hb:(_:Bool)=_)=>?_;try simp at hb))
   refine HR.ret Tryz.func147 I [_] (fun _ _=>⟨I,trivial⟩) ?_
   exact fun w' hw=>⟨by rw[hc,Tp.chk_bad he (by simpa using h3)];rfl,hw.belowB⟩
  have hok:Tp.okE e=true:=by simpa using h3
  repeat' (first|(refine HL.isOp ?_;first|refine HL.ev I I ?_|refine HL.evc I I (by first|omega|(simp;done)|(simp;omega)) ?_|refine HL.callB fn203 I I (fun w _=>link_any e w) ?_|refine HL.lookV 1 I keyE I I I I I (hg _) ?_|(refine HL.isLoad ?_;first|refine HL.L 0 I I I I ?_|refine HL.L 1 I I I I ?_|refine HL.L 2 I I I I ?_|refine HL.L 3 I I I I ?_)|(refine HL.isStore ?_;first|refine HL.S 0 I I I I I ?_|refine HL.S 1 I I I I I ?_|refine HL.S 2 I I I I I ?_|refine HL.S 3 I I I I I ?_)|refine HL.build I I ?_|refine HL.field I I ?_|(refine HL.box I I ?_;intro bk)|(refine HL.alloc I I ?_;intro bk)|refine HL.skip rfl rfl ?_|refine HL.skip0 rfl ?_|apply HL.andB rfl rfl rfl rfl rfl rfl rfl rfl|apply HL.orB rfl rfl rfl rfl rfl rfl rfl rfl)|refine HL.nil ?_|refine HR.ctl rfl ?_|refine HR.region ?_|refine HR.condT rfl ?_|refine HR.condF rfl ?_|exact HL.blkEnd rfl rfl Ent.refl|(refine fun (hb:(_:Bool)=_)=>?_;try simp at hb))
  refine HR.cond I (fun h4=>?_) (fun h4=>?_)
  ·repeat' (first|(refine HL.isOp ?_;first|refine HL.ev I I ?_|refine HL.evc I I (by first|omega|(simp;done)|(simp;omega)) ?_|(refine HL.isLoad ?_;first|refine HL.L 0 I I I I ?_|refine HL.L 1 I I I I ?_|refine HL.L 2 I I I I ?_|refine HL.L 3 I I I I ?_)|(refine HL.isStore ?_;first|refine HL.S 0 I I I I I ?_|refine HL.S 1 I I I I I ?_|refine HL.S 2 I I I I I ?_|refine HL.S 3 I I I I I ?_)|refine HL.build I I ?_|refine HL.field I I ?_|(refine HL.box I I ?_;intro bk)|(refine HL.alloc I I ?_;intro bk)|refine HL.skip rfl rfl ?_|refine HL.skip0 rfl ?_|apply HL.andB rfl rfl rfl rfl rfl rfl rfl rfl|apply HL.orB rfl rfl rfl rfl rfl rfl rfl rfl)|refine HL.nil ?_|refine HR.ctl rfl ?_|refine HR.region ?_|refine HR.condT rfl ?_|refine HR.condF rfl ?_|exact HL.blkEnd rfl rfl Ent.refl|(refine fun (hb:(_:Bool)=_)=>?_;try simp at hb))
   refine HR.ret Tryz.func147 I [_] (fun _ _=>⟨I,trivial⟩) ?_
   exact fun w' hw=>⟨by rw[hc,Tp.chk_dup he hok (of_decide_eq_true h4)];rfl,hw.belowB⟩
  repeat' (first|(refine HL.isOp ?_;first|refine HL.ev I I ?_|refine HL.evc I I (by first|omega|(simp;done)|(simp;omega)) ?_|refine HL.callB fn203 I I (fun w _=>link_any e w) ?_|refine HL.updM 1 I keyE I I I I I ?_|(refine HL.isLoad ?_;first|refine HL.L 0 I I I I ?_|refine HL.L 1 I I I I ?_|refine HL.L 2 I I I I ?_|refine HL.L 3 I I I I ?_)|(refine HL.isStore ?_;first|refine HL.S 0 I I I I I ?_|refine HL.S 1 I I I I I ?_|refine HL.S 2 I I I I I ?_|refine HL.S 3 I I I I I ?_)|refine HL.build I I ?_|refine HL.field I I ?_|(refine HL.box I I ?_;intro bk)|(refine HL.alloc I I ?_;intro bk)|refine HL.skip rfl rfl ?_|refine HL.skip0 rfl ?_|apply HL.andB rfl rfl rfl rfl rfl rfl rfl rfl|apply HL.orB rfl rfl rfl rfl rfl rfl rfl rfl)|refine HL.nil ?_|refine HR.ctl rfl ?_|refine HR.region ?_|refine HR.condT rfl ?_|refine HR.condF rfl ?_|exact HL.blkEnd rfl rfl Ent.refl|(refine fun (hb:(_:Bool)=_)=>?_;try simp at hb))
  refine ih (k+1) _ _ _ ⟨hlt,?_,fun z=>?_⟩ (by omega) ⟨I,I,I,I,trivial⟩ (Ent.pick [1] I I)
  ·rw [hc,Tp.chk_at he hok (of_decide_eq_false h4)]
  ·rw [getM_setM,take_succ_get he]
   by_cases hz:z=Tp.link e
   ·simp [hz]
   ·rw [if_neg hz,hg]
    simp[hz]
 ·have hke:k=l.length:=by have:=of_decide_eq_false h2;omega
  subst hke
  repeat' (first|(refine HL.isOp ?_;first|refine HL.ev I I ?_|refine HL.evc I I (by first|omega|(simp;done)|(simp;omega)) ?_|(refine HL.isLoad ?_;first|refine HL.L 0 I I I I ?_|refine HL.L 1 I I I I ?_|refine HL.L 2 I I I I ?_|refine HL.L 3 I I I I ?_)|(refine HL.isStore ?_;first|refine HL.S 0 I I I I I ?_|refine HL.S 1 I I I I I ?_|refine HL.S 2 I I I I I ?_|refine HL.S 3 I I I I I ?_)|refine HL.build I I ?_|refine HL.field I I ?_|(refine HL.box I I ?_;intro bk)|(refine HL.alloc I I ?_;intro bk)|refine HL.skip rfl rfl ?_|refine HL.skip0 rfl ?_|apply HL.andB rfl rfl rfl rfl rfl rfl rfl rfl|apply HL.orB rfl rfl rfl rfl rfl rfl rfl rfl)|refine HL.nil ?_|refine HR.ctl rfl ?_|refine HR.region ?_|refine HR.condT rfl ?_|refine HR.condF rfl ?_|exact HL.blkEnd rfl rfl Ent.refl|(refine fun (hb:(_:Bool)=_)=>?_;try simp at hb))
  refine HR.ret Tryz.func147 I [_] (fun _ _=>⟨I,trivial⟩) ?_
  exact fun w' hw=>⟨by rw[hc];simp[Tp.chk,resV],hw.belowB⟩
end Go.Proofs.YtgfdoognildoeaaGreat
namespace Go.GX
def sortZ (l:List Int):List Int:=l.mergeSort fun x y=>decide (x≤y)
theorem sortZ_perm (l:List Int):(sortZ l).Perm l:=List.mergeSort_perm _ _
theorem sortZ_sorted (l:List Int):(sortZ l).Pairwise (·≤·):=by
 have:=List.pairwise_mergeSort (le:=fun x y:Int=>decide (x≤y)) (by intro a b c h1 h2;simp at *;omega) (by intro a b;simp;omega) l
 exact this.imp fun h=>by simpa using h
theorem sortZ_len (l:List Int):(sortZ l).length=l.length:=(sortZ_perm l).length_eq
theorem sortZ_nil:sortZ []=[]:=by simp[sortZ]
namespace Tp
theorem Adj.sorted {l:List Ed} {adj:Int→List Int} (h:Adj l adj) (n:Int):sortZ (adj n)=nbrs l n:=
 sort_unique (sortZ_perm _) (sortZ_sorted _) (h.nodup n) (nbrs_sorted l n) fun x=>by rw[h.mem,mem_nbrs]
end Tp
end Go.GX
namespace Go.Proofs.YtgfdoognildoeaaGreat
open Go.GX Go.RowKit
attribute [local irreducible] Calls Run RunL RunQ RunD HR HL HD blkC ownC mapC Rd slicesC iterC
theorem fn161:IsFn Tryz.prog 161:=⟨⟨_,_,Tryz.func161,rfl,by decide⟩⟩
abbrev encI:Int→Value:=fun z=>Value.int .i64 z
abbrev encE:Ed→Value:=fun e=>Value.agg ⟨edC e⟩
theorem graph_any (l:List Ed) (vl:Value) (w:World) (hl:Sl w vl (cellsOf edC l) l.length) (hll:l.length≤1000):
  Calls Tryz.prog 161 #[vl] w fun e w'=>∃x:Nat×List (Int×Value),e= .returned (.map (some x.1))∧(∀ n,getM n x.2=none→Tp.nbrs l n=[])∧Sat (base w) [slicesC 3 x.2 (Tp.nbrs l),mapC encI x.1 x.2] w':=by
 refine calls_hr Tryz.func161 I (Nat.le_of_ble_eq_true I) ?_
 refine HR.sub (σ':=[(0,vl)]) ⟨I,trivial⟩ ?_
 repeat' (first|(refine HL.isOp ?_;first|refine HL.ev I I ?_|refine HL.evc I I (by first|omega|(simp;done)|(simp;omega)) ?_|refine HL.makeM encI I ?_|(refine HL.isLoad ?_;first|refine HL.L 0 I I I I ?_|refine HL.L 1 I I I I ?_|refine HL.L 2 I I I I ?_|refine HL.L 3 I I I I ?_)|(refine HL.isStore ?_;first|refine HL.S 0 I I I I I ?_|refine HL.S 1 I I I I I ?_|refine HL.S 2 I I I I I ?_|refine HL.S 3 I I I I I ?_)|refine HL.build I I ?_|refine HL.field I I ?_|(refine HL.box I I ?_;intro bk)|(refine HL.alloc I I ?_;intro bk)|refine HL.skip rfl rfl ?_|refine HL.skip0 rfl ?_|apply HL.andB rfl rfl rfl rfl rfl rfl rfl rfl|apply HL.orB rfl rfl rfl rfl rfl rfl rfl rfl)|refine HL.nil ?_|refine HR.ctl rfl ?_|refine HR.region ?_|refine HR.condT rfl ?_|refine HR.condF rfl ?_|exact HL.blkEnd rfl rfl Ent.refl|(refine fun (hb:(_:Bool)=_)=>?_;try simp at hb))
 intro b
 repeat' (first|(refine HL.isOp ?_;first|refine HL.ev I I ?_|refine HL.evc I I (by first|omega|(simp;done)|(simp;omega)) ?_|refine HL.makeM encE I ?_|(refine HL.isLoad ?_;first|refine HL.L 0 I I I I ?_|refine HL.L 1 I I I I ?_|refine HL.L 2 I I I I ?_|refine HL.L 3 I I I I ?_)|(refine HL.isStore ?_;first|refine HL.S 0 I I I I I ?_|refine HL.S 1 I I I I I ?_|refine HL.S 2 I I I I I ?_|refine HL.S 3 I I I I I ?_)|refine HL.build I I ?_|refine HL.field I I ?_|(refine HL.box I I ?_;intro bk)|(refine HL.alloc I I ?_;intro bk)|refine HL.skip rfl rfl ?_|refine HL.skip0 rfl ?_|apply HL.andB rfl rfl rfl rfl rfl rfl rfl rfl|apply HL.orB rfl rfl rfl rfl rfl rfl rfl rfl)|refine HL.nil ?_|refine HR.ctl rfl ?_|refine HR.region ?_|refine HR.condT rfl ?_|refine HR.condF rfl ?_|exact HL.blkEnd rfl rfl Ent.refl|(refine fun (hb:(_:Bool)=_)=>?_;try simp at hb))
 intro bs
 repeat' (first|(refine HL.isOp ?_;first|refine HL.ev I I ?_|refine HL.evc I I (by first|omega|(simp;done)|(simp;omega)) ?_|refine HL.lenR (Rd.arg hl) I I I ?_|(refine HL.isLoad ?_;first|refine HL.L 0 I I I I ?_|refine HL.L 1 I I I I ?_|refine HL.L 2 I I I I ?_|refine HL.L 3 I I I I ?_)|(refine HL.isStore ?_;first|refine HL.S 0 I I I I I ?_|refine HL.S 1 I I I I I ?_|refine HL.S 2 I I I I I ?_|refine HL.S 3 I I I I I ?_)|refine HL.build I I ?_|refine HL.field I I ?_|(refine HL.box I I ?_;intro bk)|(refine HL.alloc I I ?_;intro bk)|refine HL.skip rfl rfl ?_|refine HL.skip0 rfl ?_|apply HL.andB rfl rfl rfl rfl rfl rfl rfl rfl|apply HL.orB rfl rfl rfl rfl rfl rfl rfl rfl)|refine HL.nil ?_|refine HR.ctl rfl ?_|refine HR.region ?_|refine HR.condT rfl ?_|refine HR.condF rfl ?_|exact HL.blkEnd rfl rfl Ent.refl|(refine fun (hb:(_:Bool)=_)=>?_;try simp at hb))
 refine HR.loop4 (α:=Nat) (β:=List (Int×Value)) (γ:=Int→List Int) (δ:=List (Ed×Value))
  (fun k m adj sm=>k≤l.length∧NodupM m∧Tp.Adj (l.take k) adj∧(∀ n,getM n m=none→adj n=[])∧∀z,(getM z sm).getD (.bool false)= .bool (decide (∃ e∈l.take k,Tp.okE e=true∧Tp.link e=z)))
  (fun k m adj sm=>[(3,.map (some b)),(4,.map (some bs)),(11,vl),(12,.int .i64 (l.length:Int)),(13,.int .i64 (k:Int))])
  (fun k m adj sm=>[slicesC 3 m adj,mapC encI b m,mapC encE bs sm]) (fun k m adj sm=>l.length-k) 0 [] (fun _=>[]) [] ⟨Nat.zero_le _,List.nodup_nil,Tp.Adj.nil,fun _ _=>rfl,fun z=>by simp[getM]⟩ ⟨I,I,I,I,I,trivial⟩ ?_ ?_
 ·exact Ent.trans (Ent.pick [1,0] I I) Ent.emptyS
 rintro k m adj sm ⟨hk,hnd,hadj,hnil,hsm⟩ ih
 repeat' (first|(refine HL.isOp ?_;first|refine HL.ev I I ?_|refine HL.evc I I (by first|omega|(simp;done)|(simp;omega)) ?_|(refine HL.isLoad ?_;first|refine HL.L 0 I I I I ?_|refine HL.L 1 I I I I ?_|refine HL.L 2 I I I I ?_|refine HL.L 3 I I I I ?_)|(refine HL.isStore ?_;first|refine HL.S 0 I I I I I ?_|refine HL.S 1 I I I I I ?_|refine HL.S 2 I I I I I ?_|refine HL.S 3 I I I I I ?_)|refine HL.build I I ?_|refine HL.field I I ?_|(refine HL.box I I ?_;intro bk)|(refine HL.alloc I I ?_;intro bk)|refine HL.skip rfl rfl ?_|refine HL.skip0 rfl ?_|apply HL.andB rfl rfl rfl rfl rfl rfl rfl rfl|apply HL.orB rfl rfl rfl rfl rfl rfl rfl rfl)|refine HL.nil ?_|refine HR.ctl rfl ?_|refine HR.region ?_|refine HR.condT rfl ?_|refine HR.condF rfl ?_|exact HL.blkEnd rfl rfl Ent.refl|(refine fun (hb:(_:Bool)=_)=>?_;try simp at hb))
 refine HR.cond I (fun h2=>?_) (fun h2=>?_)
 ·have hlt:k<l.length:=by have:=of_decide_eq_true h2;omega
  obtain ⟨e,he⟩:=getSome hlt
  have hsmN:∀z,(getM z (setM (Tp.link e) (.bool true) sm)).getD (.bool false)= .bool (decide (z=Tp.link e∨∃e∈l.take k,Tp.okE e=true∧Tp.link e=z)):=fun z=>by
   rw[getM_setM]
   by_cases hz:z=Tp.link e
   ·simp [hz]
   ·rw [if_neg hz,hsm];simp[hz]
  repeat' (first|(refine HL.isOp ?_;first|refine HL.ev I I ?_|refine HL.evc I I (by first|omega|(simp;done)|(simp;omega)) ?_|refine HL.idxR (Rd.arg hl) elemE k I I I I hlt ?_|refine HL.loadE (Rd.arg hl) I I I I (by simp[edC]) I (cellsOf_get edC_len he) ?_|refine HL.callB fn202 I I (fun w _=>valid_any e w) ?_|refine HL.callB fn203 I I (fun w _=>link_any e w) ?_|refine HL.lookV 3 I keyE I I I I I (hsm _) ?_|(refine HL.isLoad ?_;first|refine HL.L 0 I I I I ?_|refine HL.L 1 I I I I ?_|refine HL.L 2 I I I I ?_|refine HL.L 3 I I I I ?_)|(refine HL.isStore ?_;first|refine HL.S 0 I I I I I ?_|refine HL.S 1 I I I I I ?_|refine HL.S 2 I I I I I ?_|refine HL.S 3 I I I I I ?_)|refine HL.build I I ?_|refine HL.field I I ?_|(refine HL.box I I ?_;intro bk)|(refine HL.alloc I I ?_;intro bk)|refine HL.skip rfl rfl ?_|refine HL.skip0 rfl ?_|apply HL.andB rfl rfl rfl rfl rfl rfl rfl rfl|apply HL.orB rfl rfl rfl rfl rfl rfl rfl rfl)|refine HL.nil ?_|refine HR.ctl rfl ?_|refine HR.region ?_|refine HR.condT rfl ?_|refine HR.condF rfl ?_|exact HL.blkEnd rfl rfl Ent.refl|(refine fun (hb:(_:Bool)=_)=>?_;try simp at hb))
  refine HR.cond I (fun h3=>?_) (fun h3=>?_)
  ·obtain ⟨hok,hnew⟩:=Bool.and_eq_true_iff.1 h3
   have hnew:∀e'∈l.take k,Tp.okE e'=true→Tp.link e'≠Tp.link e:=by
    intro e' h4 h5 h6
    simp only[Bool.not_eq_true',decide_eq_false_iff_not]at hnew
    exact hnew ⟨e',h4,h5,h6⟩
   have hab:e.a≠e.b:=by simp[Tp.okE]at hok;exact hok.2
   have hadd:=hadj.add hok hnew
   have hl1:=hadj.len e.a
   have hl2:=hadj.len e.b
   repeat' (first|(refine HL.isOp ?_;first|refine HL.ev I I ?_|refine HL.evc I I (by first|omega|(simp;done)|(simp;omega)) ?_|refine HL.callB fn203 I I (fun w _=>link_any e w) ?_|refine HL.updM 3 I keyE I I I I I ?_|(refine HL.isLoad ?_;first|refine HL.L 0 I I I I ?_|refine HL.L 1 I I I I ?_|refine HL.L 2 I I I I ?_|refine HL.L 3 I I I I ?_)|(refine HL.isStore ?_;first|refine HL.S 0 I I I I I ?_|refine HL.S 1 I I I I I ?_|refine HL.S 2 I I I I I ?_|refine HL.S 3 I I I I I ?_)|refine HL.build I I ?_|refine HL.field I I ?_|(refine HL.box I I ?_;intro bk)|(refine HL.alloc I I ?_;intro bk)|refine HL.skip rfl rfl ?_|refine HL.skip0 rfl ?_|apply HL.andB rfl rfl rfl rfl rfl rfl rfl rfl|apply HL.orB rfl rfl rfl rfl rfl rfl rfl rfl)|refine HL.nil ?_|refine HR.ctl rfl ?_|refine HR.region ?_|refine HR.condT rfl ?_|refine HR.condF rfl ?_|exact HL.blkEnd rfl rfl Ent.refl|(refine fun (hb:(_:Bool)=_)=>?_;try simp at hb))
   refine HR.join (ι:=Value) (fun v=>True) (fun v=>[(3,.map (some b)),(4,.map (some bs)),(6,.pointer (some ⟨bk,0,none⟩)),(11,vl),(12,.int .i64 (l.length:Int)),(13,.int .i64 (k:Int))])
    (fun v=>[slicesC 3 (setM e.a v m) (Tp.upd adj e.a (adj e.a++[e.b])),blkC bk [.int .i64 e.a,.int .i64 e.b] 206,mapC encI b (setM e.a v m),mapC encE bs (setM (Tp.link e) (.bool true) sm)]) (fun v _=>?_) (fun hj=>?_)
   ·have hba:e.b≠e.a:=fun h=>hab h.symm
    have hadj1:Tp.upd adj e.a (adj e.a++[e.b]) e.b=adj e.b:=by simp[Tp.upd,hba]
    have hnil1:getM e.b (setM e.a v m)=none→Tp.upd adj e.a (adj e.a++[e.b]) e.b=[]:=by
     rw[getM_setM,if_neg hba,hadj1];exact hnil _
    refine HR.ent (H':=[ownC ((getM e.b (setM e.a v m)).getD (.slice none 0 0)) 3 1 (adj e.b).length (cellsOf iC (adj e.b)),slicesC 3 (delM e.b (setM e.a v m)) (Tp.upd adj e.a (adj e.a++[e.b])),blkC bk [.int .i64 e.a,.int .i64 e.b] 206,mapC encI b (setM e.a v m),mapC encE bs (setM (Tp.link e) (.bool true) sm)]) (by rw[← hadj1];exact Ent.takeS (nodup_setM hnd) hnil1 I) ?_
    repeat' (first|(refine HL.isOp ?_;first|refine HL.ev I I ?_|refine HL.evc I I (by first|omega|(simp;done)|(simp;omega)) ?_|(refine HL.isLoad ?_;first|refine HL.L 0 I I I I ?_|refine HL.L 1 I I I I ?_|refine HL.L 2 I I I I ?_|refine HL.L 3 I I I I ?_)|(refine HL.isStore ?_;first|refine HL.S 0 I I I I I ?_|refine HL.S 1 I I I I I ?_|refine HL.S 2 I I I I I ?_|refine HL.S 3 I I I I I ?_)|refine HL.build I I ?_|refine HL.field I I ?_|(refine HL.box I I ?_;intro bk)|(refine HL.alloc I I ?_;intro bk)|refine HL.skip rfl rfl ?_|refine HL.skip0 rfl ?_|apply HL.andB rfl rfl rfl rfl rfl rfl rfl rfl|apply HL.orB rfl rfl rfl rfl rfl rfl rfl rfl)|refine HL.nil ?_|refine HR.ctl rfl ?_|refine HR.region ?_|refine HR.condT rfl ?_|refine HR.condF rfl ?_|exact HL.blkEnd rfl rfl Ent.refl|(refine fun (hb:(_:Bool)=_)=>?_;try simp at hb))
    refine HR.regionA [2] I I hmix ?_
    first|refine HA.ev 0 (by kernel_rfl) I I I ?_|refine HA.evc 0 (by kernel_rfl) I I I (by first|omega|(simp;done)|(simp;omega)) ?_|refine HA.loadB 0 0 (by kernel_rfl) I I I I I I I ?_|refine HA.loadB 0 1 (by kernel_rfl) I I I I I I I ?_|refine HA.loadB 0 2 (by kernel_rfl) I I I I I I I ?_|refine HA.loadB 0 3 (by kernel_rfl) I I I I I I I ?_|refine HA.loadR 0 0 (by kernel_rfl) I I I I I I I I ?_|refine HA.loadR 0 1 (by kernel_rfl) I I I I I I I I ?_|refine HA.loadR 0 2 (by kernel_rfl) I I I I I I I I ?_|refine HA.loadR 0 3 (by kernel_rfl) I I I I I I I I ?_|refine HA.build 0 (by kernel_rfl) I I I ?_
    first|refine HA.ev 1 (by kernel_rfl) I I I ?_|refine HA.evc 1 (by kernel_rfl) I I I (by first|omega|(simp;done)|(simp;omega)) ?_|refine HA.loadB 1 0 (by kernel_rfl) I I I I I I I ?_|refine HA.loadB 1 1 (by kernel_rfl) I I I I I I I ?_|refine HA.loadB 1 2 (by kernel_rfl) I I I I I I I ?_|refine HA.loadB 1 3 (by kernel_rfl) I I I I I I I ?_|refine HA.loadR 1 0 (by kernel_rfl) I I I I I I I I ?_|refine HA.loadR 1 1 (by kernel_rfl) I I I I I I I I ?_|refine HA.loadR 1 2 (by kernel_rfl) I I I I I I I I ?_|refine HA.loadR 1 3 (by kernel_rfl) I I I I I I I I ?_|refine HA.build 1 (by kernel_rfl) I I I ?_
    first|refine HA.ev 2 (by kernel_rfl) I I I ?_|refine HA.evc 2 (by kernel_rfl) I I I (by first|omega|(simp;done)|(simp;omega)) ?_|refine HA.loadB 2 0 (by kernel_rfl) I I I I I I I ?_|refine HA.loadB 2 1 (by kernel_rfl) I I I I I I I ?_|refine HA.loadB 2 2 (by kernel_rfl) I I I I I I I ?_|refine HA.loadB 2 3 (by kernel_rfl) I I I I I I I ?_|refine HA.loadR 2 0 (by kernel_rfl) I I I I I I I I ?_|refine HA.loadR 2 1 (by kernel_rfl) I I I I I I I I ?_|refine HA.loadR 2 2 (by kernel_rfl) I I I I I I I I ?_|refine HA.loadR 2 3 (by kernel_rfl) I I I I I I I I ?_|refine HA.build 2 (by kernel_rfl) I I I ?_
    first|refine HA.ev 3 (by kernel_rfl) I I I ?_|refine HA.evc 3 (by kernel_rfl) I I I (by first|omega|(simp;done)|(simp;omega)) ?_|refine HA.loadB 3 0 (by kernel_rfl) I I I I I I I ?_|refine HA.loadB 3 1 (by kernel_rfl) I I I I I I I ?_|refine HA.loadB 3 2 (by kernel_rfl) I I I I I I I ?_|refine HA.loadB 3 3 (by kernel_rfl) I I I I I I I ?_|refine HA.loadR 3 0 (by kernel_rfl) I I I I I I I I ?_|refine HA.loadR 3 1 (by kernel_rfl) I I I I I I I I ?_|refine HA.loadR 3 2 (by kernel_rfl) I I I I I I I I ?_|refine HA.loadR 3 3 (by kernel_rfl) I I I I I I I I ?_|refine HA.build 3 (by kernel_rfl) I I I ?_
    first|refine HA.ev 4 (by kernel_rfl) I I I ?_|refine HA.evc 4 (by kernel_rfl) I I I (by first|omega|(simp;done)|(simp;omega)) ?_|refine HA.loadB 4 0 (by kernel_rfl) I I I I I I I ?_|refine HA.loadB 4 1 (by kernel_rfl) I I I I I I I ?_|refine HA.loadB 4 2 (by kernel_rfl) I I I I I I I ?_|refine HA.loadB 4 3 (by kernel_rfl) I I I I I I I ?_|refine HA.loadR 4 0 (by kernel_rfl) I I I I I I I I ?_|refine HA.loadR 4 1 (by kernel_rfl) I I I I I I I I ?_|refine HA.loadR 4 2 (by kernel_rfl) I I I I I I I I ?_|refine HA.loadR 4 3 (by kernel_rfl) I I I I I I I I ?_|refine HA.build 4 (by kernel_rfl) I I I ?_
    first|refine HA.ev 5 (by kernel_rfl) I I I ?_|refine HA.evc 5 (by kernel_rfl) I I I (by first|omega|(simp;done)|(simp;omega)) ?_|refine HA.loadB 5 0 (by kernel_rfl) I I I I I I I ?_|refine HA.loadB 5 1 (by kernel_rfl) I I I I I I I ?_|refine HA.loadB 5 2 (by kernel_rfl) I I I I I I I ?_|refine HA.loadB 5 3 (by kernel_rfl) I I I I I I I ?_|refine HA.loadR 5 0 (by kernel_rfl) I I I I I I I I ?_|refine HA.loadR 5 1 (by kernel_rfl) I I I I I I I I ?_|refine HA.loadR 5 2 (by kernel_rfl) I I I I I I I I ?_|refine HA.loadR 5 3 (by kernel_rfl) I I I I I I I I ?_|refine HA.build 5 (by kernel_rfl) I I I ?_
    first|refine HA.ev 7 (by kernel_rfl) I I I ?_|refine HA.evc 7 (by kernel_rfl) I I I (by first|omega|(simp;done)|(simp;omega)) ?_|refine HA.loadB 7 0 (by kernel_rfl) I I I I I I I ?_|refine HA.loadB 7 1 (by kernel_rfl) I I I I I I I ?_|refine HA.loadB 7 2 (by kernel_rfl) I I I I I I I ?_|refine HA.loadB 7 3 (by kernel_rfl) I I I I I I I ?_|refine HA.loadR 7 0 (by kernel_rfl) I I I I I I I I ?_|refine HA.loadR 7 1 (by kernel_rfl) I I I I I I I I ?_|refine HA.loadR 7 2 (by kernel_rfl) I I I I I I I I ?_|refine HA.loadR 7 3 (by kernel_rfl) I I I I I I I I ?_|refine HA.build 7 (by kernel_rfl) I I I ?_
    first|refine HA.ev 8 (by kernel_rfl) I I I ?_|refine HA.evc 8 (by kernel_rfl) I I I (by first|omega|(simp;done)|(simp;omega)) ?_|refine HA.loadB 8 0 (by kernel_rfl) I I I I I I I ?_|refine HA.loadB 8 1 (by kernel_rfl) I I I I I I I ?_|refine HA.loadB 8 2 (by kernel_rfl) I I I I I I I ?_|refine HA.loadB 8 3 (by kernel_rfl) I I I I I I I ?_|refine HA.loadR 8 0 (by kernel_rfl) I I I I I I I I ?_|refine HA.loadR 8 1 (by kernel_rfl) I I I I I I I I ?_|refine HA.loadR 8 2 (by kernel_rfl) I I I I I I I I ?_|refine HA.loadR 8 3 (by kernel_rfl) I I I I I I I I ?_|refine HA.build 8 (by kernel_rfl) I I I ?_
    refine HA.two 6 9 (by kernel_rfl) I I ?_ ?_
    ·refine HL.lookV 3 I keyI I I I I I I ?_
     refine HL.backA [2] I I ?_
     refine HA.one 9 (by kernel_rfl) I ?_
     refine HL.bslice elemI I I I I I (by decide) (by decide) ?_
     intro v1
     refine HL.backA [3] I I ?_
     refine HA.one 10 (by kernel_rfl) I ?_
     refine HL.appR 1 I elemI (Rd.own 0 I) I I I I (allOne_spec I) (by omega) (by omega) ?_
     intro v2
     refine HL.backA [3] I I ?_
     refine HA.one 11 (by kernel_rfl) I ?_
     refine HL.updM 4 I keyI I I I I I ?_
     refine HL.backA [3] I I ?_
     refine HA.done (by kernel_rfl) ?_
     repeat' (first|(refine HL.isOp ?_;first|refine HL.ev I I ?_|refine HL.evc I I (by first|omega|(simp;done)|(simp;omega)) ?_|(refine HL.isLoad ?_;first|refine HL.L 0 I I I I ?_|refine HL.L 1 I I I I ?_|refine HL.L 2 I I I I ?_|refine HL.L 3 I I I I ?_)|(refine HL.isStore ?_;first|refine HL.S 0 I I I I I ?_|refine HL.S 1 I I I I I ?_|refine HL.S 2 I I I I I ?_|refine HL.S 3 I I I I I ?_)|refine HL.build I I ?_|refine HL.field I I ?_|(refine HL.box I I ?_;intro bk)|(refine HL.alloc I I ?_;intro bk)|refine HL.skip rfl rfl ?_|refine HL.skip0 rfl ?_|apply HL.andB rfl rfl rfl rfl rfl rfl rfl rfl|apply HL.orB rfl rfl rfl rfl rfl rfl rfl rfl)|refine HL.nil ?_|refine HR.ctl rfl ?_|refine HR.region ?_|refine HR.condT rfl ?_|refine HR.condF rfl ?_|exact HL.blkEnd rfl rfl Ent.refl|(refine fun (hb:(_:Bool)=_)=>?_;try simp at hb))
     refine ih (k+1) (setM e.b v2 (setM e.a v m)) (Tp.upd (Tp.upd adj e.a (adj e.a++[e.b])) e.b (adj e.b++[e.a])) (setM (Tp.link e) (.bool true) sm) _ _ ⟨hlt,nodup_setM (nodup_setM hnd),by rw[take_succ_get he];exact hadd,?_,?_⟩ (by omega) ⟨I,I,I,I,I,trivial⟩ ?_
     ·intro n hn
      rw[getM_setM,getM_setM]at hn
      by_cases h1:n=e.b
      ·rw [if_pos h1]at hn;cases hn
      ·rw [if_neg h1]at hn
       by_cases h2:n=e.a
       ·rw [if_pos h2]at hn;cases hn
       ·rw [if_neg h2]at hn;simp[Tp.upd,h1,h2,hnil n hn]
     ·intro z;rw[hsmN,take_succ_get he];congr 2;simp only[List.mem_append,List.mem_singleton,eq_iff_iff];constructor
      ·rintro (h|⟨e',h4,h5⟩)
       ·exact ⟨e,.inr rfl,hok,h.symm⟩
       ·exact ⟨e',.inl h4,h5⟩
      ·rintro ⟨e',h4|rfl,h5,h6⟩
       ·exact .inr ⟨e',h4,h5,h6⟩
       ·exact .inl h6.symm
     ·refine Ent.trans (Ent.pick [1,2,4,5] I I) (Ent.trans (Ent.own0 ?_ ?_) (Ent.giveS (adj':=Tp.upd (Tp.upd adj e.a (adj e.a++[e.b])) e.b (adj e.b++[e.a])) (nodup_setM hnd) ?_))
      ·simp [Tp.upd,hba]
      ·simp [Tp.upd,cellsOf_app,cellsOf_one]
      ·intro n hn;simp[Tp.upd,hn]
    ·refine HL.bslice elemI I I I I I (by decide) (by decide) ?_
     intro v1
     refine HL.backA [3] I I ?_
     refine HA.one 6 (by kernel_rfl) I ?_
     refine HL.lookV 4 I keyI I I I I I I ?_
     refine HL.backA [3] I I ?_
     refine HA.one 10 (by kernel_rfl) I ?_
     refine HL.appR 1 I elemI (Rd.own 0 I) I I I I (allOne_spec I) (by omega) (by omega) ?_
     intro v2
     refine HL.backA [3] I I ?_
     refine HA.one 11 (by kernel_rfl) I ?_
     refine HL.updM 4 I keyI I I I I I ?_
     refine HL.backA [3] I I ?_
     refine HA.done (by kernel_rfl) ?_
     repeat' (first|(refine HL.isOp ?_;first|refine HL.ev I I ?_|refine HL.evc I I (by first|omega|(simp;done)|(simp;omega)) ?_|(refine HL.isLoad ?_;first|refine HL.L 0 I I I I ?_|refine HL.L 1 I I I I ?_|refine HL.L 2 I I I I ?_|refine HL.L 3 I I I I ?_)|(refine HL.isStore ?_;first|refine HL.S 0 I I I I I ?_|refine HL.S 1 I I I I I ?_|refine HL.S 2 I I I I I ?_|refine HL.S 3 I I I I I ?_)|refine HL.build I I ?_|refine HL.field I I ?_|(refine HL.box I I ?_;intro bk)|(refine HL.alloc I I ?_;intro bk)|refine HL.skip rfl rfl ?_|refine HL.skip0 rfl ?_|apply HL.andB rfl rfl rfl rfl rfl rfl rfl rfl|apply HL.orB rfl rfl rfl rfl rfl rfl rfl rfl)|refine HL.nil ?_|refine HR.ctl rfl ?_|refine HR.region ?_|refine HR.condT rfl ?_|refine HR.condF rfl ?_|exact HL.blkEnd rfl rfl Ent.refl|(refine fun (hb:(_:Bool)=_)=>?_;try simp at hb))
     refine ih (k+1) (setM e.b v2 (setM e.a v m)) (Tp.upd (Tp.upd adj e.a (adj e.a++[e.b])) e.b (adj e.b++[e.a])) (setM (Tp.link e) (.bool true) sm) _ _ ⟨hlt,nodup_setM (nodup_setM hnd),by rw[take_succ_get he];exact hadd,?_,?_⟩ (by omega) ⟨I,I,I,I,I,trivial⟩ ?_
     ·intro n hn
      rw[getM_setM,getM_setM]at hn
      by_cases h1:n=e.b
      ·rw [if_pos h1]at hn;cases hn
      ·rw [if_neg h1]at hn
       by_cases h2:n=e.a
       ·rw [if_pos h2]at hn;cases hn
       ·rw [if_neg h2]at hn;simp[Tp.upd,h1,h2,hnil n hn]
     ·intro z;rw[hsmN,take_succ_get he];congr 2;simp only[List.mem_append,List.mem_singleton,eq_iff_iff];constructor
      ·rintro (h|⟨e',h4,h5⟩)
       ·exact ⟨e,.inr rfl,hok,h.symm⟩
       ·exact ⟨e',.inl h4,h5⟩
      ·rintro ⟨e',h4|rfl,h5,h6⟩
       ·exact .inr ⟨e',h4,h5,h6⟩
       ·exact .inl h6.symm
     ·refine Ent.trans (Ent.pick [1,2,4,5] I I) (Ent.trans (Ent.own0 ?_ ?_) (Ent.giveS (adj':=Tp.upd (Tp.upd adj e.a (adj e.a++[e.b])) e.b (adj e.b++[e.a])) (nodup_setM hnd) ?_))
      ·simp [Tp.upd,hba]
      ·simp [Tp.upd,cellsOf_app,cellsOf_one]
      ·intro n hn;simp[Tp.upd,hn]
   ·refine HR.ent (H':=[ownC ((getM e.a m).getD (.slice none 0 0)) 3 1 (adj e.a).length (cellsOf iC (adj e.a)),slicesC 3 (delM e.a m) adj,blkC bk [.int .i64 e.a,.int .i64 e.b] 206,mapC encI b m,mapC encE bs (setM (Tp.link e) (.bool true) sm)]) (Ent.trans (Ent.pick [1,0,2,3] I I) (Ent.takeS hnd (hnil _) I)) ?_
    refine HR.regionA [2] I I hmix ?_
    first|refine HA.ev 0 (by kernel_rfl) I I I ?_|refine HA.evc 0 (by kernel_rfl) I I I (by first|omega|(simp;done)|(simp;omega)) ?_|refine HA.loadB 0 0 (by kernel_rfl) I I I I I I I ?_|refine HA.loadB 0 1 (by kernel_rfl) I I I I I I I ?_|refine HA.loadB 0 2 (by kernel_rfl) I I I I I I I ?_|refine HA.loadB 0 3 (by kernel_rfl) I I I I I I I ?_|refine HA.loadR 0 0 (by kernel_rfl) I I I I I I I I ?_|refine HA.loadR 0 1 (by kernel_rfl) I I I I I I I I ?_|refine HA.loadR 0 2 (by kernel_rfl) I I I I I I I I ?_|refine HA.loadR 0 3 (by kernel_rfl) I I I I I I I I ?_|refine HA.build 0 (by kernel_rfl) I I I ?_
    first|refine HA.ev 1 (by kernel_rfl) I I I ?_|refine HA.evc 1 (by kernel_rfl) I I I (by first|omega|(simp;done)|(simp;omega)) ?_|refine HA.loadB 1 0 (by kernel_rfl) I I I I I I I ?_|refine HA.loadB 1 1 (by kernel_rfl) I I I I I I I ?_|refine HA.loadB 1 2 (by kernel_rfl) I I I I I I I ?_|refine HA.loadB 1 3 (by kernel_rfl) I I I I I I I ?_|refine HA.loadR 1 0 (by kernel_rfl) I I I I I I I I ?_|refine HA.loadR 1 1 (by kernel_rfl) I I I I I I I I ?_|refine HA.loadR 1 2 (by kernel_rfl) I I I I I I I I ?_|refine HA.loadR 1 3 (by kernel_rfl) I I I I I I I I ?_|refine HA.build 1 (by kernel_rfl) I I I ?_
    first|refine HA.ev 2 (by kernel_rfl) I I I ?_|refine HA.evc 2 (by kernel_rfl) I I I (by first|omega|(simp;done)|(simp;omega)) ?_|refine HA.loadB 2 0 (by kernel_rfl) I I I I I I I ?_|refine HA.loadB 2 1 (by kernel_rfl) I I I I I I I ?_|refine HA.loadB 2 2 (by kernel_rfl) I I I I I I I ?_|refine HA.loadB 2 3 (by kernel_rfl) I I I I I I I ?_|refine HA.loadR 2 0 (by kernel_rfl) I I I I I I I I ?_|refine HA.loadR 2 1 (by kernel_rfl) I I I I I I I I ?_|refine HA.loadR 2 2 (by kernel_rfl) I I I I I I I I ?_|refine HA.loadR 2 3 (by kernel_rfl) I I I I I I I I ?_|refine HA.build 2 (by kernel_rfl) I I I ?_
    first|refine HA.ev 3 (by kernel_rfl) I I I ?_|refine HA.evc 3 (by kernel_rfl) I I I (by first|omega|(simp;done)|(simp;omega)) ?_|refine HA.loadB 3 0 (by kernel_rfl) I I I I I I I ?_|refine HA.loadB 3 1 (by kernel_rfl) I I I I I I I ?_|refine HA.loadB 3 2 (by kernel_rfl) I I I I I I I ?_|refine HA.loadB 3 3 (by kernel_rfl) I I I I I I I ?_|refine HA.loadR 3 0 (by kernel_rfl) I I I I I I I I ?_|refine HA.loadR 3 1 (by kernel_rfl) I I I I I I I I ?_|refine HA.loadR 3 2 (by kernel_rfl) I I I I I I I I ?_|refine HA.loadR 3 3 (by kernel_rfl) I I I I I I I I ?_|refine HA.build 3 (by kernel_rfl) I I I ?_
    first|refine HA.ev 4 (by kernel_rfl) I I I ?_|refine HA.evc 4 (by kernel_rfl) I I I (by first|omega|(simp;done)|(simp;omega)) ?_|refine HA.loadB 4 0 (by kernel_rfl) I I I I I I I ?_|refine HA.loadB 4 1 (by kernel_rfl) I I I I I I I ?_|refine HA.loadB 4 2 (by kernel_rfl) I I I I I I I ?_|refine HA.loadB 4 3 (by kernel_rfl) I I I I I I I ?_|refine HA.loadR 4 0 (by kernel_rfl) I I I I I I I I ?_|refine HA.loadR 4 1 (by kernel_rfl) I I I I I I I I ?_|refine HA.loadR 4 2 (by kernel_rfl) I I I I I I I I ?_|refine HA.loadR 4 3 (by kernel_rfl) I I I I I I I I ?_|refine HA.build 4 (by kernel_rfl) I I I ?_
    first|refine HA.ev 5 (by kernel_rfl) I I I ?_|refine HA.evc 5 (by kernel_rfl) I I I (by first|omega|(simp;done)|(simp;omega)) ?_|refine HA.loadB 5 0 (by kernel_rfl) I I I I I I I ?_|refine HA.loadB 5 1 (by kernel_rfl) I I I I I I I ?_|refine HA.loadB 5 2 (by kernel_rfl) I I I I I I I ?_|refine HA.loadB 5 3 (by kernel_rfl) I I I I I I I ?_|refine HA.loadR 5 0 (by kernel_rfl) I I I I I I I I ?_|refine HA.loadR 5 1 (by kernel_rfl) I I I I I I I I ?_|refine HA.loadR 5 2 (by kernel_rfl) I I I I I I I I ?_|refine HA.loadR 5 3 (by kernel_rfl) I I I I I I I I ?_|refine HA.build 5 (by kernel_rfl) I I I ?_
    first|refine HA.ev 7 (by kernel_rfl) I I I ?_|refine HA.evc 7 (by kernel_rfl) I I I (by first|omega|(simp;done)|(simp;omega)) ?_|refine HA.loadB 7 0 (by kernel_rfl) I I I I I I I ?_|refine HA.loadB 7 1 (by kernel_rfl) I I I I I I I ?_|refine HA.loadB 7 2 (by kernel_rfl) I I I I I I I ?_|refine HA.loadB 7 3 (by kernel_rfl) I I I I I I I ?_|refine HA.loadR 7 0 (by kernel_rfl) I I I I I I I I ?_|refine HA.loadR 7 1 (by kernel_rfl) I I I I I I I I ?_|refine HA.loadR 7 2 (by kernel_rfl) I I I I I I I I ?_|refine HA.loadR 7 3 (by kernel_rfl) I I I I I I I I ?_|refine HA.build 7 (by kernel_rfl) I I I ?_
    first|refine HA.ev 8 (by kernel_rfl) I I I ?_|refine HA.evc 8 (by kernel_rfl) I I I (by first|omega|(simp;done)|(simp;omega)) ?_|refine HA.loadB 8 0 (by kernel_rfl) I I I I I I I ?_|refine HA.loadB 8 1 (by kernel_rfl) I I I I I I I ?_|refine HA.loadB 8 2 (by kernel_rfl) I I I I I I I ?_|refine HA.loadB 8 3 (by kernel_rfl) I I I I I I I ?_|refine HA.loadR 8 0 (by kernel_rfl) I I I I I I I I ?_|refine HA.loadR 8 1 (by kernel_rfl) I I I I I I I I ?_|refine HA.loadR 8 2 (by kernel_rfl) I I I I I I I I ?_|refine HA.loadR 8 3 (by kernel_rfl) I I I I I I I I ?_|refine HA.build 8 (by kernel_rfl) I I I ?_
    refine HA.two 6 9 (by kernel_rfl) I I ?_ ?_
    ·refine HL.lookV 3 I keyI I I I I I I ?_
     refine HL.backA [2] I I ?_
     refine HA.one 9 (by kernel_rfl) I ?_
     refine HL.bslice elemI I I I I I (by decide) (by decide) ?_
     intro v1
     refine HL.backA [3] I I ?_
     refine HA.one 10 (by kernel_rfl) I ?_
     refine HL.appR 1 I elemI (Rd.own 0 I) I I I I (allOne_spec I) (by omega) (by omega) ?_
     intro v2
     refine HL.backA [3] I I ?_
     refine HA.one 11 (by kernel_rfl) I ?_
     refine HL.updM 4 I keyI I I I I I ?_
     refine HL.backA [3] I I ?_
     refine HA.done (by kernel_rfl) ?_
     refine hj v2 _ _ trivial ⟨I,I,I,I,I,I,trivial⟩ (Ent.trans (Ent.pick [1,2,3,4,5] I I) (Ent.trans (Ent.own0 ?_ ?_) (Ent.giveS (adj':=Tp.upd adj e.a (adj e.a++[e.b])) hnd ?_)))
     ·simp [Tp.upd]
     ·simp [Tp.upd,cellsOf_app,cellsOf_one]
     ·intro n hn;simp[Tp.upd,hn]
    ·refine HL.bslice elemI I I I I I (by decide) (by decide) ?_
     intro v1
     refine HL.backA [3] I I ?_
     refine HA.one 6 (by kernel_rfl) I ?_
     refine HL.lookV 4 I keyI I I I I I I ?_
     refine HL.backA [3] I I ?_
     refine HA.one 10 (by kernel_rfl) I ?_
     refine HL.appR 1 I elemI (Rd.own 0 I) I I I I (allOne_spec I) (by omega) (by omega) ?_
     intro v2
     refine HL.backA [3] I I ?_
     refine HA.one 11 (by kernel_rfl) I ?_
     refine HL.updM 4 I keyI I I I I I ?_
     refine HL.backA [3] I I ?_
     refine HA.done (by kernel_rfl) ?_
     refine hj v2 _ _ trivial ⟨I,I,I,I,I,I,trivial⟩ (Ent.trans (Ent.pick [1,2,3,4,5] I I) (Ent.trans (Ent.own0 ?_ ?_) (Ent.giveS (adj':=Tp.upd adj e.a (adj e.a++[e.b])) hnd ?_)))
     ·simp [Tp.upd]
     ·simp [Tp.upd,cellsOf_app,cellsOf_one]
     ·intro n hn;simp[Tp.upd,hn]
  ·repeat' (first|(refine HL.isOp ?_;first|refine HL.ev I I ?_|refine HL.evc I I (by first|omega|(simp;done)|(simp;omega)) ?_|(refine HL.isLoad ?_;first|refine HL.L 0 I I I I ?_|refine HL.L 1 I I I I ?_|refine HL.L 2 I I I I ?_|refine HL.L 3 I I I I ?_)|(refine HL.isStore ?_;first|refine HL.S 0 I I I I I ?_|refine HL.S 1 I I I I I ?_|refine HL.S 2 I I I I I ?_|refine HL.S 3 I I I I I ?_)|refine HL.build I I ?_|refine HL.field I I ?_|(refine HL.box I I ?_;intro bk)|(refine HL.alloc I I ?_;intro bk)|refine HL.skip rfl rfl ?_|refine HL.skip0 rfl ?_|apply HL.andB rfl rfl rfl rfl rfl rfl rfl rfl|apply HL.orB rfl rfl rfl rfl rfl rfl rfl rfl)|refine HL.nil ?_|refine HR.ctl rfl ?_|refine HR.region ?_|refine HR.condT rfl ?_|refine HR.condF rfl ?_|exact HL.blkEnd rfl rfl Ent.refl|(refine fun (hb:(_:Bool)=_)=>?_;try simp at hb))
   have hst:Tp.okE e=false∨∃e'∈l.take k,Tp.okE e'=true∧Tp.link e'=Tp.link e:=by
    rcases Bool.and_eq_false_iff.1 h3 with h|h
    ·exact .inl h
    ·right;simpa using h
   refine ih (k+1) m adj sm _ _ ⟨hlt,hnd,by rw[take_succ_get he];exact hadj.skip hst,hnil,?_⟩ (by omega) ⟨I,I,I,I,I,trivial⟩ (Ent.pick [1,2,3] I I)
   intro z
   rw[hsm,take_succ_get he]
   congr 2
   simp only[List.mem_append,List.mem_singleton,eq_iff_iff]
   constructor
   ·rintro ⟨e',h4,h5⟩;exact ⟨e',.inl h4,h5⟩
   ·rintro ⟨e',h4|rfl,h5,h6⟩
    ·exact ⟨e',h4,h5,h6⟩
    ·rcases hst with h|⟨e2,g1,g2,g3⟩
     ·rw [h]at h5;cases h5
     ·exact ⟨e2,g1,g2,by rw[g3,h6]⟩
 ·have hke:k=l.length:=by have:=of_decide_eq_false h2;omega
  subst hke
  rw[List.take_length]at hadj
  repeat' (first|(refine HL.isOp ?_;first|refine HL.ev I I ?_|refine HL.evc I I (by first|omega|(simp;done)|(simp;omega)) ?_|refine HL.rangeM 1 I I I I ?_|(refine HL.isLoad ?_;first|refine HL.L 0 I I I I ?_|refine HL.L 1 I I I I ?_|refine HL.L 2 I I I I ?_|refine HL.L 3 I I I I ?_)|(refine HL.isStore ?_;first|refine HL.S 0 I I I I I ?_|refine HL.S 1 I I I I I ?_|refine HL.S 2 I I I I I ?_|refine HL.S 3 I I I I I ?_)|refine HL.build I I ?_|refine HL.field I I ?_|(refine HL.box I I ?_;intro bk)|(refine HL.alloc I I ?_;intro bk)|refine HL.skip rfl rfl ?_|refine HL.skip0 rfl ?_|apply HL.andB rfl rfl rfl rfl rfl rfl rfl rfl|apply HL.orB rfl rfl rfl rfl rfl rfl rfl rfl)|refine HL.nil ?_|refine HR.ctl rfl ?_|refine HR.region ?_|refine HR.condT rfl ?_|refine HR.condF rfl ?_|exact HL.blkEnd rfl rfl Ent.refl|(refine fun (hb:(_:Bool)=_)=>?_;try simp at hb))
  intro r
  repeat' (first|(refine HL.isOp ?_;first|refine HL.ev I I ?_|refine HL.evc I I (by first|omega|(simp;done)|(simp;omega)) ?_|(refine HL.isLoad ?_;first|refine HL.L 0 I I I I ?_|refine HL.L 1 I I I I ?_|refine HL.L 2 I I I I ?_|refine HL.L 3 I I I I ?_)|(refine HL.isStore ?_;first|refine HL.S 0 I I I I I ?_|refine HL.S 1 I I I I I ?_|refine HL.S 2 I I I I I ?_|refine HL.S 3 I I I I I ?_)|refine HL.build I I ?_|refine HL.field I I ?_|(refine HL.box I I ?_;intro bk)|(refine HL.alloc I I ?_;intro bk)|refine HL.skip rfl rfl ?_|refine HL.skip0 rfl ?_|apply HL.andB rfl rfl rfl rfl rfl rfl rfl rfl|apply HL.orB rfl rfl rfl rfl rfl rfl rfl rfl)|refine HL.nil ?_|refine HR.ctl rfl ?_|refine HR.region ?_|refine HR.condT rfl ?_|refine HR.condF rfl ?_|exact HL.blkEnd rfl rfl Ent.refl|(refine fun (hb:(_:Bool)=_)=>?_;try simp at hb))
  have hsame:∀n,(if n∈([]:List Int)then Tp.nbrs l n else adj n)=adj n:=fun n=>by simp
  refine HR.loop (ι:=List Int) (fun seen=>seen.Nodup∧seen.Subset (m.map (·.1))) (fun seen=>[(3,.map (some b)),(53,.pointer (some ⟨r,0,none⟩))]) (fun seen=>[slicesC 3 m (fun n=>if n∈seen then Tp.nbrs l n else adj n),iterC encI r b m seen]) (fun seen=>m.length-seen.length) [] ⟨List.nodup_nil,by intro x hx;cases hx⟩ ⟨I,I,trivial⟩ (Ent.trans (Ent.pick [0,1] I I) (Ent.asS fun n=>(hsame n).symm)) ?_
  rintro seen ⟨hsn,hss⟩ ih2
  repeat' (first|(refine HL.isOp ?_;first|refine HL.ev I I ?_|refine HL.evc I I (by first|omega|(simp;done)|(simp;omega)) ?_|(refine HL.isLoad ?_;first|refine HL.L 0 I I I I ?_|refine HL.L 1 I I I I ?_|refine HL.L 2 I I I I ?_|refine HL.L 3 I I I I ?_)|(refine HL.isStore ?_;first|refine HL.S 0 I I I I I ?_|refine HL.S 1 I I I I I ?_|refine HL.S 2 I I I I I ?_|refine HL.S 3 I I I I I ?_)|refine HL.build I I ?_|refine HL.field I I ?_|(refine HL.box I I ?_;intro bk)|(refine HL.alloc I I ?_;intro bk)|refine HL.skip rfl rfl ?_|refine HL.skip0 rfl ?_|apply HL.andB rfl rfl rfl rfl rfl rfl rfl rfl|apply HL.orB rfl rfl rfl rfl rfl rfl rfl rfl)|refine HL.nil ?_|refine HR.ctl rfl ?_|refine HR.region ?_|refine HR.condT rfl ?_|refine HR.condF rfl ?_|exact HL.blkEnd rfl rfl Ent.refl|(refine fun (hb:(_:Bool)=_)=>?_;try simp at hb))
  refine HL.nextM 1 I (fun a b h=>by simpa using h) I I (fun hend=>?_) (fun a u hau hns=>?_)
  ·repeat' (first|(refine HL.isOp ?_;first|refine HL.ev I I ?_|refine HL.evc I I (by first|omega|(simp;done)|(simp;omega)) ?_|(refine HL.isLoad ?_;first|refine HL.L 0 I I I I ?_|refine HL.L 1 I I I I ?_|refine HL.L 2 I I I I ?_|refine HL.L 3 I I I I ?_)|(refine HL.isStore ?_;first|refine HL.S 0 I I I I I ?_|refine HL.S 1 I I I I I ?_|refine HL.S 2 I I I I I ?_|refine HL.S 3 I I I I I ?_)|refine HL.build I I ?_|refine HL.field I I ?_|(refine HL.box I I ?_;intro bk)|(refine HL.alloc I I ?_;intro bk)|refine HL.skip rfl rfl ?_|refine HL.skip0 rfl ?_|apply HL.andB rfl rfl rfl rfl rfl rfl rfl rfl|apply HL.orB rfl rfl rfl rfl rfl rfl rfl rfl)|refine HL.nil ?_|refine HR.ctl rfl ?_|refine HR.region ?_|refine HR.condT rfl ?_|refine HR.condF rfl ?_|exact HL.blkEnd rfl rfl Ent.refl|(refine fun (hb:(_:Bool)=_)=>?_;try simp at hb))
   refine HR.iterEnd 1 I ?_
   have hfin:∀n,(if n∈seen then Tp.nbrs l n else adj n)=Tp.nbrs l n:=by
    intro n
    by_cases hn:n∈seen
    ·rw [if_pos hn]
    ·rw [if_neg hn]
     have h0:adj n=[]:=by
      refine hnil n (getM_none.2 fun hm=>?_)
      obtain ⟨p,hp,rfl⟩:=List.mem_map.1 hm
      exact hn (hend p hp)
     rw[h0,← hadj.sorted n,h0,sortZ_nil]
   refine HR.ent (Ent.asS hfin) ?_
   refine HR.ret Tryz.func161 I [_] (fun _ _=>⟨I,trivial⟩) ?_
   refine fun w' hw=>⟨(b,m),rfl,fun n hn=>?_,hw⟩
   rw[← hadj.sorted n,hnil n hn,sortZ_nil]
  ·have hg:=getM_of_mem hnd hau
   have hla:=hadj.len a
   repeat' (first|(refine HL.isOp ?_;first|refine HL.ev I I ?_|refine HL.evc I I (by first|omega|(simp;done)|(simp;omega)) ?_|refine HL.entryM 1 I (fun a b h=>by simpa using h) hau I I ?_|(refine HL.isLoad ?_;first|refine HL.L 0 I I I I ?_|refine HL.L 1 I I I I ?_|refine HL.L 2 I I I I ?_|refine HL.L 3 I I I I ?_)|(refine HL.isStore ?_;first|refine HL.S 0 I I I I I ?_|refine HL.S 1 I I I I I ?_|refine HL.S 2 I I I I I ?_|refine HL.S 3 I I I I I ?_)|refine HL.build I I ?_|refine HL.field I I ?_|(refine HL.box I I ?_;intro bk)|(refine HL.alloc I I ?_;intro bk)|refine HL.skip rfl rfl ?_|refine HL.skip0 rfl ?_|apply HL.andB rfl rfl rfl rfl rfl rfl rfl rfl|apply HL.orB rfl rfl rfl rfl rfl rfl rfl rfl)|refine HL.nil ?_|refine HR.ctl rfl ?_|refine HR.region ?_|refine HR.condT rfl ?_|refine HR.condF rfl ?_|exact HL.blkEnd rfl rfl Ent.refl|(refine fun (hb:(_:Bool)=_)=>?_;try simp at hb))
   refine HL.ent (Ent.takeS (v:=u) hnd (fun h=>by rw[hg]at h;cases h) (by simp[hg])) ?_
   rw[if_neg hns]
   refine HL.callW (r:=fun _:Unit=> .tuple #[]) (Q:=fun _=>True) (G:=fun _=>[ownC u 3 1 (adj a).length (cellsOf iC (sortZ (adj a)))]) fn135 I I I (fun w hw=>sortI_any u _ _ w (by have:=hw.nth (i:=0) rfl;unfold ownC at this;exact this) (by omega)) ?_
   intro _ _
   repeat' (first|(refine HL.isOp ?_;first|refine HL.ev I I ?_|refine HL.evc I I (by first|omega|(simp;done)|(simp;omega)) ?_|(refine HL.isLoad ?_;first|refine HL.L 0 I I I I ?_|refine HL.L 1 I I I I ?_|refine HL.L 2 I I I I ?_|refine HL.L 3 I I I I ?_)|(refine HL.isStore ?_;first|refine HL.S 0 I I I I I ?_|refine HL.S 1 I I I I I ?_|refine HL.S 2 I I I I I ?_|refine HL.S 3 I I I I I ?_)|refine HL.build I I ?_|refine HL.field I I ?_|(refine HL.box I I ?_;intro bk)|(refine HL.alloc I I ?_;intro bk)|refine HL.skip rfl rfl ?_|refine HL.skip0 rfl ?_|apply HL.andB rfl rfl rfl rfl rfl rfl rfl rfl|apply HL.orB rfl rfl rfl rfl rfl rfl rfl rfl)|refine HL.nil ?_|refine HR.ctl rfl ?_|refine HR.region ?_|refine HR.condT rfl ?_|refine HR.condF rfl ?_|exact HL.blkEnd rfl rfl Ent.refl|(refine fun (hb:(_:Bool)=_)=>?_;try simp at hb))
   have hlen:(Tp.nbrs l a).length=(adj a).length:=by rw[← hadj.sorted a,sortZ_len]
   have hin:(a::seen).Nodup∧(a::seen).Subset (m.map (·.1)):=⟨List.nodup_cons.2 ⟨hns,hsn⟩,fun x hx=>by rcases List.mem_cons.1 hx with rfl|hx;exact List.mem_map.2 ⟨_,hau,rfl⟩;exact hss hx⟩
   have hlt:(a::seen).length≤m.length:=by
    have:=List.Nodup.length_le_of_subset hin.1 hin.2
    simpa using this
   refine ih2 (a::seen) _ _ hin (by simp at hlt ⊢;omega) ⟨I,I,trivial⟩ (Ent.trans (Ent.own0 (n':=(if a∈a::seen then Tp.nbrs l a else adj a).length) (xs':=cellsOf iC (if a∈a::seen then Tp.nbrs l a else adj a)) ?_ ?_) ?_)
   ·simp [hlen]
   ·simp [hadj.sorted a]
   ·have:=Ent.giveS (B:=base w) (H:=[iterC encI r b m (a::seen)]) (e:=3) (v:=u) (a:=a) (adj:=fun n=>if n∈seen then Tp.nbrs l n else adj n) (adj':=fun n=>if n∈a::seen then Tp.nbrs l n else adj n) hnd (fun n hn=>by simp[hn])
    rw[setM_same hg]at this
    exact this
end Go.Proofs.YtgfdoognildoeaaGreat
namespace Go.Proofs.YtgfdoognildoeaaGreat
open Go.GX Go.RowKit
attribute [local irreducible] Calls Run RunL RunQ RunD HR HL HD blkC ownC mapC Rd slicesC iterC
theorem fn83:IsFn Tryz.prog 83:=⟨⟨_,_,Tryz.func83,rfl,by decide⟩⟩
theorem near_any (l:List Ed) (n:Int) (vl:Value) (w:World) (hl:Sl w vl (cellsOf edC l) l.length) (hll:l.length≤1000):
  Calls Tryz.prog 83 #[vl,.int .i64 n] w fun e w'=>∃v,e= .returned v∧Sat (base w) [ownC v 3 1 (Tp.nbrs l n).length (cellsOf iC (Tp.nbrs l n))] w':=by
 refine calls_hr Tryz.func83 I (Nat.le_of_ble_eq_true I) ?_
 refine HR.sub (σ':=[(0,vl),(1,.int .i64 n)]) ⟨I,I,trivial⟩ ?_
 repeat' (first|(refine HL.isOp ?_;first|refine HL.ev I I ?_|refine HL.evc I I (by first|omega|(simp;done)|(simp;omega)) ?_|(refine HL.isLoad ?_;first|refine HL.L 0 I I I I ?_|refine HL.L 1 I I I I ?_|refine HL.L 2 I I I I ?_|refine HL.L 3 I I I I ?_)|(refine HL.isStore ?_;first|refine HL.S 0 I I I I I ?_|refine HL.S 1 I I I I I ?_|refine HL.S 2 I I I I I ?_|refine HL.S 3 I I I I I ?_)|refine HL.build I I ?_|refine HL.field I I ?_|(refine HL.box I I ?_;intro bk)|(refine HL.alloc I I ?_;intro bk)|refine HL.skip rfl rfl ?_|refine HL.skip0 rfl ?_|apply HL.andB rfl rfl rfl rfl rfl rfl rfl rfl|apply HL.orB rfl rfl rfl rfl rfl rfl rfl rfl)|refine HL.nil ?_|refine HR.ctl rfl ?_|refine HR.region ?_|refine HR.condT rfl ?_|refine HR.condF rfl ?_|exact HL.blkEnd rfl rfl Ent.refl|(refine fun (hb:(_:Bool)=_)=>?_;try simp at hb))
 refine HL.callX fn161 I I (fun w hw=>graph_any l vl w ((Rd.arg hl).at hw) hll) ?_
 rintro ⟨b,m⟩ h0
 refine HL.know (Q:=NodupM m) (fun w hw=>hw.nodupM (i:=1) I) fun hnd=>?_
 repeat' (first|(refine HL.isOp ?_;first|refine HL.ev I I ?_|refine HL.evc I I (by first|omega|(simp;done)|(simp;omega)) ?_|refine HL.lookV 1 I keyI I I I I I I ?_|(refine HL.isLoad ?_;first|refine HL.L 0 I I I I ?_|refine HL.L 1 I I I I ?_|refine HL.L 2 I I I I ?_|refine HL.L 3 I I I I ?_)|(refine HL.isStore ?_;first|refine HL.S 0 I I I I I ?_|refine HL.S 1 I I I I I ?_|refine HL.S 2 I I I I I ?_|refine HL.S 3 I I I I I ?_)|refine HL.build I I ?_|refine HL.field I I ?_|(refine HL.box I I ?_;intro bk)|(refine HL.alloc I I ?_;intro bk)|refine HL.skip rfl rfl ?_|refine HL.skip0 rfl ?_|apply HL.andB rfl rfl rfl rfl rfl rfl rfl rfl|apply HL.orB rfl rfl rfl rfl rfl rfl rfl rfl)|refine HL.nil ?_|refine HR.ctl rfl ?_|refine HR.region ?_|refine HR.condT rfl ?_|refine HR.condF rfl ?_|exact HL.blkEnd rfl rfl Ent.refl|(refine fun (hb:(_:Bool)=_)=>?_;try simp at hb))
 refine HR.ret Tryz.func83 I [_] (fun _ _=>⟨I,trivial⟩) ?_
 exact fun w' hw=>⟨_,rfl,(Ent.takeS hnd (h0 n) I w' hw).pick [0] I rfl⟩
end Go.Proofs.YtgfdoognildoeaaGreat
