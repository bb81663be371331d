/- A part of the proof: contracts of the program's functions. Conditions: none. -/
import Derived.Carry
import Derived.Deep.MidRow
import Derived.Deep.Quiet
import Derived.Laws.IdiomRangeMap
import Derived.Laws.MakeOwn
import Derived.Laws.StructEq
import Derived.Laws.Tables
import Derived.Lib.AppendStr
import Derived.Lib.AppendZerosOnto
import Derived.Lib.OthersKept
import Derived.Lib.Overlaps
import Derived.Lib.OwnBridge
import Derived.Lib.SlicesCompact
import Derived.MapKept
import Derived.Orders
import Derived.OrdersHeld
import Derived.Scope
import Derived.Sort.Grow
import Derived.StillTail
import Derived.Test.YtgfdoognildoeaaGreatProg
import Derived.WalkKit
import Derived.WalkLawsBesides
import Derived.WalkSpells
import Derived.Test.YtgfdoognildoeaaGreatLB1
import Derived.Test.YtgfdoognildoeaaGreatLB2
import Derived.Test.YtgfdoognildoeaaGreatLB3
import Derived.Test.YtgfdoognildoeaaGreatLB4
import Derived.Test.YtgfdoognildoeaaGreatLB5
set_option linter.unusedVariables false
set_option linter.unusedSectionVars false
set_option linter.unusedSimpArgs false
set_option maxRecDepth 100000
set_option maxHeartbeats 4000000
namespace Go.Proofs.YtgfdoognildoeaaGreat
open Go.GX Go.RowKit
attribute [local irreducible] Calls Run jZ jf JK HR HL HD jT jG JY Rd jK jY
open Nd
theorem jKp {t:List Ro} (ha:Asc (·.dest) t) {d:Int} (h:rat t d=none):jPE t d=false:=by
 unfold jPE
 have:=Asc.jM7 ha (n:=d) h
 split
 ·rename_i x hx
  simpa using this x hx
 ·rfl
theorem jH0 (t:List Ro) (fr:Int) (r:Ro) (v:Value) (B0:Base) (w:World) (hw0:Sat B0 [jG v 94 4 t.length (cellsOf roC t)] w) (hl:t.length≤24) (hasc:Asc (·.dest) t) (hok:∀x∈t,Tp.okN x.dest=true) (hr:Tp.okN r.dest=true):
  Calls Tryz.prog 270 #[v,.int .i64 fr,.agg ⟨roC r⟩] w fun e w'=>∃x:Value,e= .returned x∧True∧Sat ⟨w,Zn [jG v 94 4 t.length (cellsOf roC t)]⟩ [jG x 94 4 (JZ t fr r).length (cellsOf roC (JZ t fr r))] w':=by
 have hple:=jKj t r.dest
 refine jg [jG v 94 4 t.length (cellsOf roC t)] (hw0) Tryz.func270 I (Nat.le_of_ble_eq_true I) ?_
 refine HR.sub (σ':=[(0,v),(1,.int .i64 fr),(2,.agg ⟨roC r⟩)]) ⟨I,I,I,trivial⟩ ?_
 rcases hf:rat t r.dest with _|o
 ·have hh:=jKp hasc hf
  repeat' (first|refine zh ?_|refine HL.jR (r:= .tuple ⟨[.int .i64 (rpos t r.dest:Int),.bool false]⟩) jQL I I (fun w hw=>by have:=jBu t r.dest v w ((Rd.own 1 rfl).at hw) (by omega) hasc hok hr;rw[hh]at this;exact this) ?_|intro (bk:Nat))
  cases hfin:fin r
  ·refine HR.JF Jc (by kernel_rfl) ?_
   repeat' (first|refine zq ?_|refine HQ.jR (r:= .bool false) Ky I I (fun w _=>by have:=Ji r w;rw[hfin]at this;exact this) ?_)
   repeat' (first|refine zh ?_|refine HL.jR (r:= .bool false) Ky I I (fun w _=>by have:=Ji r w;rw[hfin]at this;exact this) ?_|intro (bk:Nat))
   refine HR.JF Jc (by kernel_rfl) ?_
   repeat' (first|refine zq ?_|refine HQ.jR (r:= .bool false) Ky I I (fun w _=>by have:=Ji r w;rw[hfin]at this;exact this) ?_)
   repeat' (first|refine zh ?_|intro (bk:Nat))
   refine HR.ret Tryz.func270 I [_] (fun _ _=>⟨I,trivial⟩) ?_
   refine fun w' hw=>⟨_,rfl,trivial,?_⟩
   have e:JZ t fr r=t:=by unfold JZ;rw[hf];simp only;rw[if_neg (by rw[hfin];simp)]
   rw[e];exact hw.pick [1] I I
  ·refine HR.JF Jc (by kernel_rfl) ?_
   repeat' (first|refine zq ?_|refine HQ.jR (r:= .bool true) Ky I I (fun w _=>by have:=Ji r w;rw[hfin]at this;exact this) ?_)
   repeat' (first|refine zh ?_|refine HL.jR (r:= .bool true) Ky I I (fun w _=>by have:=Ji r w;rw[hfin]at this;exact this) ?_|refine HL.JN (Rd.own 1 I) I I I ?_|intro (bk:Nat))
   refine HR.cond I (fun h3=>?_) (fun h3=>?_)
   ·have h3:t.length<24:=by have:=of_decide_eq_true h3;omega
    repeat' (first|refine zh ?_|refine HL.jv Je I I I I I (by decide) (by decide) ?_|intro (bk:Nat))
    intro va
    refine HL.ent (Ent.pick (H':=[jG va 94 4 1 (roC r),jG v 94 4 t.length (cellsOf roC t)]) [0,2] I I) ?_
    refine HL.Jh (r:=fun r:Value=>r) (Q:=fun _=>True) (G0:=[jG va 94 4 1 (roC r),jG v 94 4 t.length (cellsOf roC t)]) (H0:=[]) (G:=fun x=>[jG x 94 4 (t.take (rpos t r.dest)++r::t.drop (rpos t r.dest)).length (cellsOf roC (t.take (rpos t r.dest)++r::t.drop (rpos t r.dest)))]) fn300 I I I (fun w hw=>jLv t r (rpos t r.dest) v va _ w hw hple (by omega)) ?_
    intro v2 _
    repeat' (first|refine zh ?_|intro (bk:Nat))
    refine HR.ret Tryz.func270 I [_] (fun _ _=>⟨I,trivial⟩) ?_
    refine fun w' hw=>⟨_,rfl,trivial,?_⟩
    have e:JZ t fr r=t.take (rpos t r.dest)++r::t.drop (rpos t r.dest):=by unfold JZ;rw[hf];simp only;rw[if_pos ⟨hfin,h3⟩]
    rw[e];exact hw
   ·have h3:¬t.length<24:=by have:=of_decide_eq_false h3;omega
    refine HR.ctl I ?_
    refine HR.JF Jc (by kernel_rfl) ?_
    repeat' (first|refine zq ?_|refine HQ.jR (r:= .bool true) Ky I I (fun w _=>by have:=Ji r w;rw[hfin]at this;exact this) ?_)
    repeat' (first|refine zh ?_|intro (bk:Nat))
    refine HR.ret Tryz.func270 I [_] (fun _ _=>⟨I,trivial⟩) ?_
    refine fun w' hw=>⟨_,rfl,trivial,?_⟩
    have e:JZ t fr r=t:=by unfold JZ;rw[hf];simp only;rw[if_neg (by omega)]
    rw[e];exact hw.pick [1] I I
 ·obtain ⟨hx,hd,hlt⟩:=Asc.pos hasc hf
  have hx:t[rpos t r.dest]? =some o:=hx
  have hlt:rpos t r.dest<t.length:=hlt
  have hh:=jKo hx hd
  repeat' (first|refine zh ?_|refine HL.jR (r:= .tuple ⟨[.int .i64 (rpos t r.dest:Int),.bool true]⟩) jQL I I (fun w hw=>by have:=jBu t r.dest v w ((Rd.own 1 rfl).at hw) (by omega) hasc hok hr;rw[hh]at this;exact this) ?_|intro (bk:Nat))
  cases hfin:fin r
  ·refine HR.JF Jc (by kernel_rfl) ?_
   repeat' (first|refine zq ?_|refine HQ.jR (r:= .bool false) Ky I I (fun w _=>by have:=Ji r w;rw[hfin]at this;exact this) ?_)
   repeat' (first|refine zh ?_|refine HL.jR (r:= .bool false) Ky I I (fun w _=>by have:=Ji r w;rw[hfin]at this;exact this) ?_|intro (bk:Nat))
   refine HR.JF Jc (by kernel_rfl) ?_
   repeat' (first|refine zq ?_|refine HQ.jR (r:= .bool false) Ky I I (fun w _=>by have:=Ji r w;rw[hfin]at this;exact this) ?_|refine HQ.JA (Rd.own 1 I) Je (rpos t r.dest) I I I I hlt ?_|refine HQ.Jt (Rd.own 1 I) (by rw[jC jq];omega) I I I I I I ?_|refine HQ.ji (Rd.own 1 I) I I I I (jQ jq hx (i:=3) I) ?_|refine HQ.ji (Rd.own 1 I) I I I I (jQ jq hx (i:=1) I) ?_|apply zb ?_ ?_|exact zc|(refine zi fun hb=>?_;try simp at hb))
   refine HR.cond I (fun h3=>?_) (fun h3=>?_)
   ·have h3:((o.nx==fr)&&decide (o.sq<r.sq))=true:=h3
    have e:JZ t fr r=t.set (rpos t r.dest) r:=by unfold JZ;rw[hf];simp only;rw[hfin];exact if_pos (by simpa using h3)
    repeat' (first|refine zh ?_|refine HL.JA (Rd.own 1 I) Je (rpos t r.dest) I I I I hlt ?_|refine HL.zP (us:=roC r) (j:=rpos t r.dest*4) 1 I I I I I I I (by rw[jC jq];show rpos t r.dest*4+4≤_;omega) (by simp) ?_|intro (bk:Nat))
    refine HR.ret Tryz.func270 I [_] (fun _ _=>⟨I,trivial⟩) ?_
    refine fun w' hw=>⟨_,rfl,trivial,Ent.JV ?_ ?_ w' (hw.pick [1] I rfl)⟩
    ·rw [e];simp
    ·rw [e];exact Jg (i:=0) jq hx I (show 0+4≤4 by decide)
   ·have h3:((o.nx==fr)&&decide (o.sq<r.sq))=false:=h3
    have e:JZ t fr r=t:=by unfold JZ;rw[hf];simp only;rw[hfin];exact if_neg (by simpa using h3)
    repeat' (first|refine zh ?_|intro (bk:Nat))
    refine HR.ret Tryz.func270 I [_] (fun _ _=>⟨I,trivial⟩) ?_
    refine fun w' hw=>⟨_,rfl,trivial,?_⟩
    rw[e];exact hw.pick [1] I I
  ·refine HR.JF Jc (by kernel_rfl) ?_
   repeat' (first|refine zq ?_|refine HQ.jR (r:= .bool true) Ky I I (fun w _=>by have:=Ji r w;rw[hfin]at this;exact this) ?_|refine HQ.JA (Rd.own 1 I) Je (rpos t r.dest) I I I I hlt ?_|refine HQ.JW (Rd.own 1 I) I I I I (by simp) I (jH jq hx) ?_|refine HQ.jR fn299 I I (fun w _=>jF4 r o w) ?_)
   refine HR.cond I (fun h3=>?_) (fun h3=>?_)
   ·have h3:better r o=true:=h3
    have e:JZ t fr r=t.set (rpos t r.dest) r:=by unfold JZ;rw[hf];simp only;rw[hfin];exact if_pos h3
    repeat' (first|refine zh ?_|refine HL.JA (Rd.own 1 I) Je (rpos t r.dest) I I I I hlt ?_|refine HL.zP (us:=roC r) (j:=rpos t r.dest*4) 1 I I I I I I I (by rw[jC jq];show rpos t r.dest*4+4≤_;omega) (by simp) ?_|intro (bk:Nat))
    refine HR.ret Tryz.func270 I [_] (fun _ _=>⟨I,trivial⟩) ?_
    refine fun w' hw=>⟨_,rfl,trivial,Ent.JV ?_ ?_ w' (hw.pick [1] I rfl)⟩
    ·rw [e];simp
    ·rw [e];exact Jg (i:=0) jq hx I (show 0+4≤4 by decide)
   ·have h3:better r o=false:=h3
    have e:JZ t fr r=t:=by unfold JZ;rw[hf];simp only;rw[hfin];exact if_neg (by simpa using h3)
    repeat' (first|refine zh ?_|refine HL.jR (r:= .bool true) Ky I I (fun w _=>by have:=Ji r w;rw[hfin]at this;exact this) ?_|intro (bk:Nat))
    refine HR.JF Jc (by kernel_rfl) ?_
    repeat' (first|refine zq ?_|refine HQ.jR (r:= .bool true) Ky I I (fun w _=>by have:=Ji r w;rw[hfin]at this;exact this) ?_)
    repeat' (first|refine zh ?_|intro (bk:Nat))
    refine HR.ret Tryz.func270 I [_] (fun _ _=>⟨I,trivial⟩) ?_
    refine fun w' hw=>⟨_,rfl,trivial,?_⟩
    rw[e];exact hw.pick [1] I I
theorem jG4 (t:List Ro) (self fr cost:Int) (adv:List Ro) (v va:Value) (w:World) (hv:Sl w v (cellsOf roC t) t.length) (hva:Sl w va (cellsOf roC adv) adv.length) (hl:t.length≤1000) (hla:adv.length≤1000):
  Calls Tryz.prog 217 #[v,.int .i64 self,.int .i64 fr,.int .i64 cost,va] w fun e w'=>∃v',e= .returned v'∧Sat (base w) [jG v' 94 4 (jEM t self fr cost adv).length (cellsOf roC (jEM t self fr cost adv))] w':=by
 have ht:=Zh t self
 have hokt:∀r∈Kg t self,Tp.okN r.dest=true:=jG6
 refine jD Tryz.func217 I (Nat.le_of_ble_eq_true I) ?_
 refine HR.sub (σ':=[(0,v),(1,.int .i64 self),(2,.int .i64 fr),(3,.int .i64 cost),(4,va)]) ⟨I,I,I,I,I,trivial⟩ ?_
 repeat' (first|refine zh ?_|refine HL.jR jNt I I (fun w _=>jBV self w) ?_|intro (bk:Nat))
 repeat' (first|refine zh ?_|refine HL.JQ jQW I I (fun w hw=>jDd t self v w ((Rd.arg hv).at hw) hl) ?_|intro (bk:Nat))
 intro v1
 repeat' (first|refine zh ?_|refine HL.jR jME I I (fun w _=>Z4 fr w) ?_|apply zb ?_ ?_|exact zc|(refine zi fun hb=>?_;try simp at hb)|intro (bk:Nat))
 refine HR.cond I (fun h0=>?_) (fun h0=>?_)
 ·have h0:((((!Tp.okN fr)||(fr==lim self))||decide (cost<1))||decide (cost>200))=true:=h0
  have e:jEM t self fr cost adv=Kg t self:=by
   unfold jEM;rw[if_pos]
   simp only[Bool.or_eq_true,Bool.not_eq_true',beq_iff_eq,decide_eq_true_eq]at h0
   rcases h0 with ((h|h)|h)|h
   ·exact .inl h
   ·exact .inr (.inl h)
   ·exact .inr (.inr (.inl h))
   ·exact .inr (.inr (.inr h))
  repeat' (first|refine zh ?_|apply zb ?_ ?_|exact zc|(refine zi fun hb=>?_;try simp at hb)|intro (bk:Nat))
  refine HR.ret Tryz.func217 I [_] (fun _ _=>⟨I,trivial⟩) ?_
  exact fun w' hw=>⟨v1,rfl,by rw[e];exact hw⟩
 have h0:((((!Tp.okN fr)||(fr==lim self))||decide (cost<1))||decide (cost>200))=false:=h0
 simp only[Bool.or_eq_false_iff,Bool.not_eq_false',beq_eq_false_iff_ne,decide_eq_false_iff_not]at h0
 have e:jEM t self fr cost adv=adv.foldl (ZA self fr cost) (Kg t self):=by
  unfold jEM;rw[if_neg]
  rintro (h|h|h|h)
  ·rw [h0.1.1.1]at h;cases h
  ·exact h0.1.1.2 h
  ·exact h0.1.2 h
  ·exact h0.2 h
 rw[e]
 have hasc:=ht.asc
 have h24:=ht.len
 obtain ⟨T,hT⟩:∃T,T=Kg t self:=⟨_,rfl⟩
 rw[← hT]at hokt hasc h24 ⊢
 repeat' (first|refine zh ?_|refine HL.JN (Rd.arg hva) I I I ?_|apply zb ?_ ?_|exact zc|(refine zi fun hb=>?_;try simp at hb)|intro (bk:Nat))
 refine HR.jA2 (α:=Nat) (β:=Value) (fun k _=>k≤adv.length) (fun k u=>[(0,u),(1,.int .i64 (lim self)),(2,.int .i64 fr),(3,.int .i64 cost),(36,va),(37,.int .i64 (adv.length:Int)),(38,.int .i64 (k:Int))]) (fun k u=>[jG u 94 4 ((adv.take k).foldl (ZA self fr cost) T).length (cellsOf roC ((adv.take k).foldl (ZA self fr cost) T))]) (fun k _=>adv.length-k) 0 v1 (Nat.zero_le _) ⟨I,I,I,I,I,I,I,trivial⟩ Ent.refl ?_
 intro k u hk ih
 repeat' (first|refine zh ?_|intro (bk:Nat))
 refine HR.cond I (fun h2=>?_) (fun h2=>?_)
 ·have hlt:k<adv.length:=by have:=of_decide_eq_true h2;omega
  obtain ⟨x,hx⟩:=jJ hlt
  have hft:=jCE (ZA self fr cost) T hx
  obtain ⟨hS1,hS2⟩:=jEZ (self:=self) (fr:=fr) (cost:=cost) (adv:=adv.take k) hasc h24
  have hS3:=jGz (self:=self) (fr:=fr) (cost:=cost) (adv:=adv.take k) hokt
  obtain ⟨S,hS⟩:∃S,S=(adv.take k).foldl (ZA self fr cost) T:=⟨_,rfl⟩
  rw[← hS]at hft hS1 hS2 hS3 ⊢
  repeat' (first|refine zh ?_|refine HL.JA (Rd.arg hva) Je k I I I I hlt ?_|refine HL.JW (Rd.arg hva) I I I I (by simp) I (jH jq hx) ?_|intro (bk:Nat))
  repeat' (first|refine zh ?_|refine HL.jR jNq I I (fun w _=>Kc x w) ?_|apply zb ?_ ?_|exact zc|(refine zi fun hb=>?_;try simp at hb)|intro (bk:Nat))
  refine HR.cond I (fun h3=>?_) (fun h3=>?_)
  ·have h3:((!usable x)||(x.dest==lim self))=true:=h3
   have hst:ZA self fr cost S x=S:=by
    unfold ZA;rw[if_pos]
    simp only[Bool.or_eq_true,Bool.not_eq_true',beq_iff_eq]at h3
    exact h3
   rw[hst]at hft
   repeat' (first|refine zh ?_|apply zb ?_ ?_|exact zc|(refine zi fun hb=>?_;try simp at hb)|intro (bk:Nat))
   exact ih (k+1) u _ _ hlt (by omega) ⟨I,I,I,I,I,I,I,trivial⟩ (Ent.trans (Ent.pick [1] I I) (Ent.JV (by rw[hft]) (by rw[hft])))
  ·have h3:((!usable x)||(x.dest==lim self))=false:=h3
   simp only[Bool.or_eq_false_iff,Bool.not_eq_false',beq_eq_false_iff_ne]at h3
   have hst:ZA self fr cost S x=JZ S fr (jAt fr cost x):=by
    unfold ZA;rw[if_neg]
    rintro (h|h)
    ·rw [h3.1]at h;cases h
    ·exact h3.2 h
   rw[hst]at hft
   have hxo:=Zx h3.1
   have hrd:Tp.okN (jAt fr cost x).dest=true:=by rw[jEn];exact hxo.1
   refine HR.skip ?_
   repeat' (first|refine zh ?_|refine HL.jR Ky I I (fun w _=>Ji x w) ?_|intro (bk:Nat))
   repeat' (first|refine zh ?_|apply zb ?_ ?_|exact zc|(refine zi fun hb=>?_;try simp at hb)|intro (bk:Nat))
   refine HR.join (ι:=Unit) (fun _=>True) (fun _=>[(0,u),(1,.int .i64 (lim self)),(2,.int .i64 fr),(3,.int .i64 cost),(36,va),(37,.int .i64 (adv.length:Int)),(38,.int .i64 (k:Int)),(13,.pointer (some ⟨bk,0,none⟩))]) (fun _=>[jG u 94 4 S.length (cellsOf roC S),jT bk (roC (jAt fr cost x)) 94]) (fun _ _=>?_) (fun hj=>?_)
   ·repeat' (first|refine zh ?_|refine HL.Jh (r:=fun r:Value=>r) (Q:=fun _=>True) (G0:=[jG u 94 4 S.length (cellsOf roC S)]) (H0:=[jT bk (roC (jAt fr cost x)) 94]) (G:=fun y=>[jG y 94 4 (JZ S fr (jAt fr cost x)).length (cellsOf roC (JZ S fr (jAt fr cost x)))]) fn270 I I I (fun w hw=>jH0 S fr (jAt fr cost x) u _ w (hw.pick [0] I I) hS2 hS1 hS3 hrd) ?_|intro (bk:Nat))
    intro y _
    repeat' (first|refine zh ?_|apply zb ?_ ?_|exact zc|(refine zi fun hb=>?_;try simp at hb)|intro (bk:Nat))
    exact ih (k+1) y _ _ hlt (by omega) ⟨I,I,I,I,I,I,I,trivial⟩ (Ent.trans (Ent.pick [0] I I) (Ent.JV (by rw[hft]) (by rw[hft])))
   ·refine HR.cond I (fun h4=>?_) (fun h4=>?_)
    ·have h4:(fin x&&decide (x.cost+cost≤200))=true:=h4
     have hra:jAt fr cost x=⟨x.dest,x.sq,x.cost+cost,fr⟩:=by
      unfold jAt;rw[if_pos];simpa using h4
     rw[hra]at hj
     refine HR.region ?_
     repeat' (first|refine zn ?_|apply zb ?_ ?_|exact zc|(refine zi fun hb=>?_;try simp at hb)|intro (bk:Nat))
     exact hj () _ _ trivial ⟨I,I,I,I,I,I,I,I,trivial⟩ (Ent.pick [2,0] I I)
    ·have h4:(fin x&&decide (x.cost+cost≤200))=false:=h4
     have hra:jAt fr cost x=⟨x.dest,x.sq,255,255⟩:=by
      unfold jAt;rw[if_neg];intro hh;simp[hh.1,hh.2]at h4
     rw[hra]at hj
     refine HR.skip ?_
     exact hj () _ _ trivial ⟨I,I,I,I,I,I,I,I,trivial⟩ (Ent.pick [2,0] I I)
 ·have hke:k=adv.length:=by have:=of_decide_eq_false h2;omega
  subst hke
  rw[List.take_length]
  repeat' (first|refine zh ?_|apply zb ?_ ?_|exact zc|(refine zi fun hb=>?_;try simp at hb)|intro (bk:Nat))
  refine HR.ret Tryz.func217 I [_] (fun _ _=>⟨I,trivial⟩) ?_
  exact fun w' hw=>⟨u,rfl,hw⟩
end Go.Proofs.YtgfdoognildoeaaGreat
namespace Go.Proofs.YtgfdoognildoeaaGreat
open Go.GX Go.RowKit
attribute [local irreducible] Calls Run jZ jf JK HR HL HD jT jG JY Rd jK jY
open Nd
theorem fn212:IsFn Tryz.prog 212:=⟨⟨_,_,Tryz.func212,rfl,by decide⟩⟩
theorem fn216:IsFn Tryz.prog 216:=⟨⟨_,_,Tryz.func216,rfl,by decide⟩⟩
theorem jML:Elem Tryz.prog 198 5 1 1:=⟨rfl,⟨_,_,rfl,rfl,rfl,rfl,rfl⟩,by decide⟩
theorem jCw {n:Int} (h:0≤n∧n≤255):((u8 n).toNat:Int)=n:=by
 unfold u8;rw[u8n];omega
theorem jQy {n:Int} (h:0≤n):((u8 n).toNat:Int)=n%256:=by
 unfold u8;rw[u8n];omega
theorem jF3 {x:Ro} (h:usable x=true):ZH (jCh x)=[.int .u8 x.dest,.int .u8 (x.sq / 256),.int .u8 (x.sq%256),.int .u8 x.cost]:=by
 obtain ⟨h1,h2,h3,h4,h5⟩:=Zx h
 rw[zT]at h1
 unfold jCh ZH
 simp only[List.map_cons,List.map_nil]
 rw[jCw (n:=x.dest) (by omega),jCw (n:=x.sq / 256) (by omega),jQy h2,jCw (n:=x.cost) (by omega)]
theorem jH3 (t:List Ro):(jCi t).length≤96:=by
 unfold jCi;rw[jBX,List.length_take];omega
theorem jM1 (t:List Ro) (v:Value) (w:World) (hv:Sl w v (cellsOf roC t) t.length) (hl:t.length≤1000):
  Calls Tryz.prog 212 #[v] w fun e w'=>e= .returned (str (jCi t))∧Below w.heap.size w w':=by
 refine jD Tryz.func212 I (Nat.le_of_ble_eq_true I) ?_
 refine HR.sub (σ':=[(0,v)]) ⟨I,trivial⟩ ?_
 repeat' (first|refine zh ?_|refine HL.JN (Rd.arg hv) I I I ?_|intro (bk:Nat))
 refine HR.ZC 5 1 ?_
 refine HR.jA2 (α:=Nat) (β:=Value) (fun k _=>k≤t.length) (fun k u=>[(3,u),(6,v),(7,.int .i64 (t.length:Int)),(8,.int .i64 (k:Int))]) (fun k u=>[jG u 5 1 (jCi (t.take k)).length (ZH (jCi (t.take k)))]) (fun k _=>t.length-k) 0 (.slice none 0 0) (Nat.zero_le _) ⟨I,I,I,I,trivial⟩ (Ent.pick [0] I I) ?_
 intro k u hk ih
 repeat' (first|refine zh ?_|intro (bk:Nat))
 refine HR.cond I (fun h2=>?_) (fun h2=>?_)
 ·have hlt:k<t.length:=by have:=of_decide_eq_true h2;omega
  obtain ⟨x,hx⟩:=jJ hlt
  have hst:=jKr (t.take k) x
  rw[← jN hx]at hst
  have hb:=jH3 (t.take k)
  obtain ⟨S,hS⟩:∃S,S=jCi (t.take k):=⟨_,rfl⟩
  rw[← hS]at hst hb ⊢
  repeat' (first|refine zh ?_|refine HL.JA (Rd.arg hv) Je k I I I I hlt ?_|refine HL.JW (Rd.arg hv) I I I I (by simp) I (jH jq hx) ?_|intro (bk:Nat))
  repeat' (first|refine zh ?_|refine HL.jR jNq I I (fun w _=>Kc x w) ?_|refine HL.JN (Rd.own 1 I) I I I ?_|apply zb ?_ ?_|exact zc|(refine zi fun hb=>?_;try simp at hb)|intro (bk:Nat))
  refine HR.cond I (fun h3=>?_) (fun h3=>?_)
  ·have h3:(usable x&&decide ((S.length:Int)<96))=true:=h3
   simp only[Bool.and_eq_true,decide_eq_true_eq]at h3
   rw[if_pos ⟨h3.1,by omega⟩]at hst
   have hxo:=Zx h3.1
   have hd:=(zT _).1 hxo.1
   have hcl:=jF3 h3.1
   repeat' (first|refine zh ?_|refine HL.cv (x.sq%256) I I I I (by simp[IntKind.wrap,IntKind.bits,IntKind.signed]) ?_|refine HL.jv jML I I I I I (by decide) (by decide) ?_|intro (bk:Nat))
   intro va
   repeat' (first|refine zh ?_|refine HL.ZN 2 I jML (Rd.own 0 I) I I I I (jF I) (by omega) (by omega) ?_|intro (bk:Nat))
   intro o2
   repeat' (first|refine zh ?_|intro (bk:Nat))
   refine ih (k+1) o2 _ _ hlt (by omega) ⟨I,I,I,I,trivial⟩ (Ent.trans (Ent.pick [2] I I) (Ent.JV ?_ ?_))
   ·rw [hst];simp[jCh]
   ·rw [hst,jEJ,hcl]
  ·have h3:(usable x&&decide ((S.length:Int)<96))=false:=h3
   rw[if_neg (by rintro ⟨ha,hb⟩;rw[ha,decide_eq_true (by omega)]at h3;cases h3)]at hst
   repeat' (first|refine zh ?_|intro (bk:Nat))
   exact ih (k+1) u _ _ hlt (by omega) ⟨I,I,I,I,trivial⟩ (Ent.trans (Ent.pick [1] I I) (Ent.JV (by rw[hst]) (by rw[hst])))
 ·have hke:k=t.length:=by have:=of_decide_eq_false h2;omega
  subst hke
  rw[List.take_length]
  repeat' (first|refine zh ?_|refine HL.bstr (Rd.own 0 I) I I I I I ?_|intro (bk:Nat))
  refine HR.ret Tryz.func212 I [_] (fun _ _=>⟨I,trivial⟩) ?_
  exact fun w' hw=>⟨rfl,hw.jE⟩
end Go.Proofs.YtgfdoognildoeaaGreat
namespace Go.Proofs.YtgfdoognildoeaaGreat
open Go.GX Go.RowKit
attribute [local irreducible] Calls Run jZ jf JK HR HL HD jT jG JY Rd jK jY
open Nd
theorem jJw {l:List Ro} {k:Nat} {x:Ro} (hx:l[k]? =some x) (h:usable x=false):jEP l k=2:=by unfold jEP;rw[hx];simp only;rw[if_pos h]
theorem jJx {l:List Ro} {k:Nat} {x y:Ro} (hx:l[k]? =some x) (h:usable x=true) (h0:0<k) (hy:l[k-1]? =some y) (hle:x.dest≤y.dest):jEP l k=14:=by
 unfold jEP;rw[hx];simp only;rw[if_neg (by rw[h];decide),if_pos ⟨h0,by rw[hy];exact decide_eq_true hle⟩]
theorem jQk {l:List Ro} {k:Nat} {x:Ro} (hx:l[k]? =some x) (h:usable x=true) (h2:∀y,0<k→l[k-1]? =some y→¬x.dest≤y.dest):jEP l k=0:=by
 unfold jEP;rw[hx];simp only
 rw[if_neg (by rw[h];decide),if_neg]
 rintro ⟨h0,h3⟩
 split at h3
 ·rename_i y hy
  exact h2 y h0 hy (of_decide_eq_true h3)
 ·cases h3
theorem KX {f:Nat→Int} {k n:Nat} (h1:jc f k=0) (h2:f k≠0) (hk:k<n):jc f n=f k:=by
 induction n with
 |zero=>omega
 |succ n ih=>
  unfold jc
  by_cases hkn:k=n
  ·subst hkn;rw[if_neg (by rw[h1];simp)]
  ·rw [ih (by omega),if_pos h2]
theorem jM4 {s:By} (h:s.length%4≠0):jAA s=([],5):=by unfold jAA;rw[if_pos h]
theorem jKs {s:By} (h:s.length%4=0) (h2:s.length>96):jAA s=([],3):=by unfold jAA;rw[if_neg (by omega),if_pos h2]
theorem jHA {s:By} {k:Nat} (h:s.length%4=0) (h2:¬s.length>96) (h1:jc (jEP (zJ s (s.length / 4))) k=0) (h3:jEP (zJ s (s.length / 4)) k≠0) (hk:k<s.length / 4):jAA s=([],jEP (zJ s (s.length / 4)) k):=by
 have:=KX h1 h3 hk
 unfold jAA;rw[if_neg (by omega),if_neg h2,this,if_pos h3]
theorem jKt {s:By} (h:s.length%4=0) (h2:¬s.length>96) (h1:jc (jEP (zJ s (s.length / 4))) (s.length / 4)=0):jAA s=(zJ s (s.length / 4),0):=by
 unfold jAA;rw[if_neg (by omega),if_neg h2,if_neg (by rw[h1];simp)]
theorem jRF (a b:Nat) (h:b<256):(a*256 ||| b)=a*256+b:=by
 have:=Nat.shiftLeft_add_eq_or_of_lt (i:=8) (b:=b) (by omega) a
 rw[Nat.shiftLeft_eq]at this
 exact this.symm
theorem jJv (s:By) (w:World) (hs:s.length≤9223372036854775807):
  Calls Tryz.prog 216 #[str s] w fun e w'=>∃v',e= .returned (.tuple ⟨[v',.int .i64 (jAA s).2]⟩)∧True∧Sat (base w) [jG v' 94 4 (jAA s).1.length (cellsOf roC (jAA s).1)] w':=by
 refine jD Tryz.func216 I (Nat.le_of_ble_eq_true I) ?_
 refine HR.sub (σ':=[(0,str s)]) ⟨I,trivial⟩ ?_
 repeat' (first|refine zh ?_|intro (bk:Nat))
 refine HR.cond I (fun h=>?_) (fun h=>?_)
 ·have h:(((s.length:Int)%4) != 0)=true:=h
  have h:s.length%4≠0:=by simp at h;omega
  rw[jM4 h]
  repeat' (first|refine zh ?_|intro (bk:Nat))
  refine HR.ZC 94 4 ?_
  refine HR.ret Tryz.func216 I [_,_] (fun _ _=>⟨I,I,trivial⟩) ?_
  exact fun w' hw=>⟨_,rfl,trivial,hw⟩
 have h:(((s.length:Int)%4) != 0)=false:=h
 have h:s.length%4=0:=by simp at h;omega
 repeat' (first|refine zh ?_|intro (bk:Nat))
 refine HR.cond I (fun h2=>?_) (fun h2=>?_)
 ·have h2:s.length>96:=by have:=of_decide_eq_true h2;omega
  rw[jKs h h2]
  repeat' (first|refine zh ?_|intro (bk:Nat))
  refine HR.ZC 94 4 ?_
  refine HR.ret Tryz.func216 I [_,_] (fun _ _=>⟨I,I,trivial⟩) ?_
  exact fun w' hw=>⟨_,rfl,trivial,hw⟩
 have h2:¬s.length>96:=by have:=of_decide_eq_false h2;omega
 obtain ⟨n,hn⟩:∃n,n=s.length / 4:=⟨_,rfl⟩
 have hsn:s.length=4*n:=by omega
 repeat' (first|refine zh ?_|intro (bk:Nat))
 refine HR.ZC 94 4 ?_
 refine HR.jA2 (α:=Nat) (β:=Value) (fun k _=>k≤n∧jc (jEP (zJ s n)) k=0) (fun k u=>[(0,str (s.drop (4*k))),(4,u)]) (fun k u=>[jG u 94 4 (zJ s k).length (cellsOf roC (zJ s k))]) (fun k _=>n-k) 0 (.slice none 0 0) ⟨Nat.zero_le _,rfl⟩ ⟨I,I,trivial⟩ Ent.refl ?_
 rintro k u ⟨hk,hg⟩ ih
 have hdl:(s.drop (4*k)).length=4*(n-k):=by rw[List.length_drop];omega
 repeat' (first|refine zh ?_|intro (bk:Nat))
 refine HR.cond I (fun h3=>?_) (fun h3=>?_)
 ·have hlt:k<n:=by have:=of_decide_eq_true h3;omega
  have hx:(zJ s n)[k]? =some (jEj (s.drop (4*k))):=KJ s hlt
  have hrk:zJ s (k+1)=zJ s k++[jEj (s.drop (4*k))]:=rfl
  have hkl:=Za s k
  have hdr:(s.drop (4*k)).drop 4=s.drop (4*(k+1)):=by rw[List.drop_drop];congr 1
  obtain ⟨S,hS⟩:∃S,S=s.drop (4*k):=⟨_,rfl⟩
  rw[← hS]at hdl hx hrk hdr ⊢
  have b0:=(S.getD 0 0).toNat_lt
  have b1:=(S.getD 1 0).toNat_lt
  have b3:=(S.getD 3 0).toNat_lt
  have b2:=(S.getD 2 0).toNat_lt
  refine HR.ctl I ?_
  refine HR.j4 [(0,true),(1,true),(2,true),(3,true),(4,true),(5,true),(6,true),(7,true),(8,true),(9,true),(10,true),(11,true),(12,true),(13,true),(14,true),(15,false),(16,false)] [] I I Jc (by kernel_rfl) ?_
  repeat' (first|refine HD.ev I I I ?_|refine HD.evc I I I (by first|omega|(simp;done)|(simp;omega)) ?_|refine HD.L 0 I I I I I ?_|refine HD.L 1 I I I I I ?_|refine HD.L 2 I I I I I ?_|refine HD.L 3 I I I I I ?_|refine HD.build I I I ?_|refine HD.field I I I ?_|refine HD.skip I I I ?_|refine HD.kH I I I ?_|(refine HD.one I ?_;first|refine HL.ev I I ?_|(refine HL.isLoad ?_;first|refine HL.L 0 I I I I ?_|refine HL.L 1 I I I I ?_|refine HL.L 2 I I I I ?_|refine HL.L 3 I I I I ?_)|(refine HL.jL ?_;first|refine HL.S 0 I I I I I ?_|refine HL.S 1 I I I I I ?_|refine HL.S 2 I I I I I ?_|refine HL.S 3 I I I I I ?_)|(refine HL.alloc I I ?_;intro bk))|refine HL.back [] rfl rfl ?_|refine HD.nil ?_)
  refine HD.ZU 24 (v':= .int .i64 (((S.getD 1 0).toNat*256:Nat):Int)) I (by rw[Int.natCast_mul];rfl) ?_
  refine HD.evc I I I (by omega) ?_
  refine HD.ZU 28 (v':= .int .i64 (((S.getD 1 0).toNat*256+(S.getD 2 0).toNat:Nat):Int)) I (by rw[jRF _ _ b2]) ?_
  repeat' (first|refine HD.ev I I I ?_|refine HD.evc I I I (by first|omega|(simp;done)|(simp;omega)) ?_|refine HD.L 0 I I I I I ?_|refine HD.L 1 I I I I I ?_|refine HD.L 2 I I I I I ?_|refine HD.L 3 I I I I I ?_|refine HD.build I I I ?_|refine HD.field I I I ?_|refine HD.skip I I I ?_|refine HD.kH I I I ?_|(refine HD.one I ?_;first|refine HL.ev I I ?_|(refine HL.isLoad ?_;first|refine HL.L 0 I I I I ?_|refine HL.L 1 I I I I ?_|refine HL.L 2 I I I I ?_|refine HL.L 3 I I I I ?_)|(refine HL.jL ?_;first|refine HL.S 0 I I I I I ?_|refine HL.S 1 I I I I I ?_|refine HL.S 2 I I I I I ?_|refine HL.S 3 I I I I I ?_)|(refine HL.alloc I I ?_;intro bk))|refine HL.back [] rfl rfl ?_|refine HD.nil ?_)
  obtain ⟨x,hxe⟩:∃x,x=jEj S:=⟨_,rfl⟩
  refine HR.ent (Ent.pick (H':=[jT bk (roC (jEj S)) 94,jG u 94 4 (zJ s k).length (cellsOf roC (zJ s k))]) [0,1] I I) ?_
  rw[← hxe]at hx hrk ⊢
  rw[hkl]
  repeat' (first|refine zh ?_|refine HL.jR jNq I I (fun w _=>Kc x w) ?_|intro (bk:Nat))
  refine HR.cond I (fun h4=>?_) (fun h4=>?_)
  ·have h4:usable x=false:=by simpa using h4
   have e:=jJw hx h4
   rw[jHA h h2 (by rw[← hn];exact hg) (by rw[← hn,e];decide) (by omega),← hn,e]
   repeat' (first|refine zh ?_|intro (bk:Nat))
   refine HR.ZC 94 4 ?_
   refine HR.ret Tryz.func216 I [_,_] (fun _ _=>⟨I,I,trivial⟩) ?_
   exact fun w' hw=>⟨_,rfl,trivial,hw.pick [0] I rfl⟩
  have h4:usable x=true:=by simpa using h4
  have hxo:=Zx h4
  obtain ⟨y,hy⟩:∃y,(k=0∨(zJ s n)[k-1]? =some y)∧(k=0∨(zJ s k)[k-1]? =some y):=by
   by_cases h0:k=0
   ·exact ⟨x,.inl h0,.inl h0⟩
   ·exact ⟨jEj (s.drop (4*(k-1))),.inr (KJ s (by omega)),.inr (KJ s (by omega))⟩
  repeat' (first|refine zh ?_|intro (bk:Nat))
  refine HR.JF Jc (by kernel_rfl) ?_
  repeat' (first|refine zq ?_|refine HQ.JN (Rd.own 1 I) I I I ?_|refine HQ.JA (Rd.own 1 I) Je (k-1) I I I (by omega) (by omega) ?_|refine HQ.Jt (Rd.own 1 I) (by rw[jC jq];omega) I I I I I I ?_|refine HQ.ji (Rd.own 1 I) I I I I (jQ jq (hy.2.resolve_left (by omega)) (i:=0) I) ?_|apply zb ?_ ?_|exact zc|(refine zi fun hb=>?_;try simp at hb))
  refine HR.cond I (fun h5=>?_) (fun h5=>?_)
  ·have h5:(decide ((k:Int)>0)&&decide (x.dest≤y.dest))=true:=h5
   simp only[Bool.and_eq_true,decide_eq_true_eq]at h5
   have e:=jJx hx h4 (by omega) (hy.1.resolve_left (by omega)) h5.2
   rw[jHA h h2 (by rw[← hn];exact hg) (by rw[← hn,e];decide) (by omega),← hn,e]
   repeat' (first|refine zh ?_|intro (bk:Nat))
   refine HR.ZC 94 4 ?_
   refine HR.ret Tryz.func216 I [_,_] (fun _ _=>⟨I,I,trivial⟩) ?_
   exact fun w' hw=>⟨_,rfl,trivial,hw.pick [0] I rfl⟩
  ·have h5:(decide ((k:Int)>0)&&decide (x.dest≤y.dest))=false:=h5
   have hg2:jc (jEP (zJ s n)) (k+1)=0:=Zd hg (jQk hx h4 fun y' h0 hy' hle=>by
    have:=hy.1.resolve_left (by omega)
    rw[this]at hy'
    cases hy'
    rw[decide_eq_true (show (k:Int)>0 by omega),decide_eq_true hle]at h5
    cases h5)
   refine HR.skip ?_
   repeat' (first|refine zh ?_|refine HL.jv Je I I I I I (by decide) (by decide) ?_|intro (bk:Nat))
   intro va
   repeat' (first|refine zh ?_|refine HL.ZN 2 I Je (Rd.own 0 I) I I I I (jF I) (by omega) (by omega) ?_|intro (bk:Nat))
   intro o2
   repeat' (first|refine zh ?_|intro (bk:Nat))
   refine ih (k+1) o2 _ _ ⟨hlt,hg2⟩ (by omega) ⟨by rw[← hdr];rfl,rfl,trivial⟩ (Ent.trans (Ent.pick [2] I I) (Ent.JV ?_ ?_))
   ·rw [hrk];simp[hkl]
   ·rw [hrk,jP];rfl
 ·have hke:k=n:=by have:=of_decide_eq_false h3;omega
  subst hke
  rw[jKt h h2 (by rw[← hn];exact hg),← hn]
  repeat' (first|refine zh ?_|intro (bk:Nat))
  refine HR.ret Tryz.func216 I [_,_] (fun _ _=>⟨I,I,trivial⟩) ?_
  exact fun w' hw=>⟨_,rfl,trivial,hw⟩
end Go.Proofs.YtgfdoognildoeaaGreat
namespace Go.Proofs.YtgfdoognildoeaaGreat
open Go.GX Go.RowKit
attribute [local irreducible] Calls Run jZ jf JK HR HL HD jT jG JY Rd jK jY
open Nd
theorem jQR:IsFn Tryz.prog 166:=⟨⟨_,_,Tryz.func166,rfl,by decide⟩⟩
theorem fn150:IsFn Tryz.prog 150:=⟨⟨_,_,Tryz.func150,rfl,by decide⟩⟩
section
variable {α : Type} {E : α → List Value} {sz : Nat} {B : Base} {H : List Chunk}
theorem Rd.pre (hE:∀a,(E a).length=sz) {l:List α} {v:Value} (hv:Rd B H v (cellsOf E l) l.length) {n:Nat} (hn:n≤l.length):Rd B H (kF sz v 0 n) (cellsOf E (l.take n)) (l.take n).length:=by
 have h:=Rd.sub (sz:=sz) hv (jC hE _) (Nat.zero_le n) hn
 rw[Nat.zero_mul,List.drop_zero,Nat.sub_zero,JJ hE]at h
 rw[List.length_take,Nat.min_eq_left hn];exact h
theorem Rd.suf (hE:∀a,(E a).length=sz) {l:List α} {v:Value} (hv:Rd B H v (cellsOf E l) l.length) {n:Nat} (hn:n≤l.length):Rd B H (kF sz v n l.length) (cellsOf E (l.drop n)) (l.drop n).length:=by
 have h:=Rd.sub (sz:=sz) hv (jC hE _) hn (Nat.le_refl _)
 rw[JB hE,List.take_of_length_le (by rw[jC hE,List.length_drop];exact Nat.le_refl _)]at h
 rw[List.length_drop];exact h
end
theorem jP3 (n:Nat):(if (16:Int)<(n:Int)then (16:Int)else (n:Int))=((min 16 n:Nat):Int):=by split<;>omega
theorem jMm {α:Type} (k:Nat) (l:List α):l.take (min k l.length)=l.take k:=by
 rcases Nat.le_total k l.length with h|h
 ·rw [Nat.min_eq_left h]
 ·rw [Nat.min_eq_right h,List.take_of_length_le (Nat.le_refl _),List.take_of_length_le h]
theorem jAz (l:List Sn) (v:Value) (w:World) (hv:Sl w v (cellsOf snC l) l.length) (hl:l.length≤1000):
  Calls Tryz.prog 166 #[v] w fun e w'=>∃v',e= .returned v'∧Sat (base w) [jG v' 131 11 (l.take 16).length (cellsOf snC (l.take 16))] w':=by
 refine jD Tryz.func166 I (Nat.le_of_ble_eq_true I) ?_
 refine HR.sub (σ':=[(0,v)]) ⟨I,trivial⟩ ?_
 repeat' (first|refine zh ?_|refine HL.JN (Rd.arg hv) I I I ?_|intro (bk:Nat))
 refine HL.ZU 6 (v':= .int .i64 ((min 16 l.length:Nat):Int)) I (by rw[jP3]) ?_
 have hp:=Rd.pre JE (B:=base w) (H:=[]) (Rd.arg hv) (n:=min 16 l.length) (Nat.min_le_right _ _)
 rw[jMm]at hp
 repeat' (first|refine zh ?_|refine HL.jAo (sz:=11) 0 (min 16 l.length) (Rd.arg hv) I I I I (.inl ⟨rfl,rfl⟩) (.inr ⟨_,_,_,rfl,rfl,rfl⟩) (Nat.zero_le _) (Nat.min_le_right _ _) ?_|refine HL.JQ jNs I I (fun w hw=>kr (l.take 16) _ w (hp.at hw) (by simp;omega)) ?_|intro (bk:Nat))
 intro v1
 repeat' (first|refine zh ?_|intro (bk:Nat))
 refine HR.ret Tryz.func166 I [_] (fun _ _=>⟨I,trivial⟩) ?_
 exact fun w' hw=>⟨v1,rfl,hw⟩
theorem jLU (l:List Sn) (v:Value) (w:World) (hv:Sl w v (cellsOf snC l) l.length) (hl:l.length≤1000) (hf:∀s∈l,fits .i64 s.wt):
  Calls Tryz.prog 150 #[v] w fun e w'=>∃v',e= .returned v'∧Sat (base w) [jG v' 131 11 (Z6 l).length (cellsOf snC (Z6 l))] w':=by
 have hf16:∀s∈l.take 16,fits .i64 s.wt:=fun s hs=>hf s (List.mem_of_mem_take hs)
 have h16:(l.take 16).length≤16:=by simp;omega
 unfold Z6
 refine jD Tryz.func150 I (Nat.le_of_ble_eq_true I) ?_
 refine HR.sub (σ':=[(0,v)]) ⟨I,trivial⟩ ?_
 repeat' (first|refine zh ?_|refine HL.JQ jQR I I (fun w hw=>jAz l v w ((Rd.arg hv).at hw) hl) ?_|intro (bk:Nat))
 intro v1
 obtain ⟨T,hT⟩:∃T,T=l.take 16:=⟨_,rfl⟩
 rw[← hT]at hf16 h16 ⊢
 repeat' (first|refine zh ?_|refine HL.JN (Rd.own 0 I) I I I ?_|intro (bk:Nat))
 refine HR.loop (ι:=Nat) (fun k=>k≤T.length) (fun k=>[(3,v1),(8,.int .i64 (T.length:Int)),(9,.int .i64 (k:Int))]) (fun k=>[jG v1 131 11 T.length (cellsOf snC ((T.take k).map KR++T.drop k))]) (fun k=>T.length-k) 0 (Nat.zero_le _) ⟨I,I,I,trivial⟩ Ent.refl ?_
 intro k hk ih
 have hml:=jBG KR T k
 repeat' (first|refine zh ?_|intro (bk:Nat))
 refine HR.cond I (fun h2=>?_) (fun h2=>?_)
 ·have hlt:k<T.length:=by have:=of_decide_eq_true h2;omega
  obtain ⟨x,hx⟩:=jJ hlt
  have hmg:=Zk KR hx
  have hms:=jBb KR hx
  have hxf:-9223372036854775808≤x.wt∧x.wt≤9223372036854775807:=hf16 x (List.mem_of_getElem? hx)
  repeat' (first|refine zh ?_|refine HL.JA (Rd.own 0 I) zf k I I I I hlt ?_|refine HL.Jt (Rd.own 0 I) (by rw[jC JE,hml];omega) I I I I I I ?_|refine HL.ji (Rd.own 0 I) I I I I (jQ JE hmg (i:=10) I) ?_|intro (bk:Nat))
  refine HR.cond I (fun h3=>?_) (fun h3=>?_)
  ·have h3:x.wt>0:=of_decide_eq_true h3
   have e:KR x=⟨x.f,x.tr,x.wt-1⟩:=by unfold KR;rw[if_pos h3]
   rw[e]at hms
   repeat' (first|refine zh ?_|refine HL.JA (Rd.own 0 I) zf k I I I I hlt ?_|refine HL.Jt (Rd.own 0 I) (by rw[jC JE,hml];omega) I I I I I I ?_|refine HL.ji (Rd.own 0 I) I I I I (jQ JE hmg (i:=10) I) ?_|refine HL.KA (j:=k*11+10) 0 I I I I I I I (by rw[jC JE,hml];omega) ?_|intro (bk:Nat))
   refine ih (k+1) _ _ hlt (by omega) ⟨I,I,I,trivial⟩ (Ent.JV I ?_)
   rw[← hms]
   exact Jv (i:=10) JE hmg I (by decide)
  ·have h3:¬x.wt>0:=of_decide_eq_false h3
   have e:KR x=x:=by unfold KR;rw[if_neg h3]
   repeat' (first|refine zh ?_|intro (bk:Nat))
   refine ih (k+1) _ _ hlt (by omega) ⟨I,I,I,trivial⟩ (Ent.JV I ?_)
   rw[jAZ _ hx e]
 ·have hke:k=T.length:=by have:=of_decide_eq_false h2;omega
  subst hke
  rw[List.take_length,List.drop_length,List.append_nil]
  repeat' (first|refine zh ?_|intro (bk:Nat))
  refine HR.ret Tryz.func150 I [_] (fun _ _=>⟨I,trivial⟩) ?_
  exact fun w' hw=>⟨v1,rfl,Ent.JV (by simp) I w' hw⟩
end Go.Proofs.YtgfdoognildoeaaGreat
namespace Go.Proofs.YtgfdoognildoeaaGreat
open Go.GX Go.RowKit
attribute [local irreducible] Calls Run jZ jf JK HR HL HD jT jG JY Rd jK jY
open Nd
def sn0:Sn:=⟨fr0,0,0⟩
end Go.Proofs.YtgfdoognildoeaaGreat
namespace Go.Proofs.YtgfdoognildoeaaGreat
open Go.GX Go.RowKit
attribute [local irreducible] Calls Run jZ jf JK HR HL HD jT jG JY Rd jK jY
open Nd
theorem jLY {q:List Sn} {i:Nat} {ok:Bool} (h:(q.take 16).length≤i):kU q i ok=(q.take 16,false):=by unfold kU;rw[List.getElem?_eq_none h]
theorem jLX {q:List Sn} {i:Nat} {ok:Bool} {s:Sn} (h:(q.take 16)[i]? =some s):kU q i ok=if ok then ((q.take 16).eraseIdx i,false)else if j3 s=8 then ((q.take 16).eraseIdx i,true)
  else ((q.take 16).set i ⟨s.f,j3 s,if s.f.ur then 0 else min (j3 s) 4⟩,false):=by unfold kU;rw[h]
end Go.Proofs.YtgfdoognildoeaaGreat
namespace Go.Proofs.YtgfdoognildoeaaGreat
open Go.GX Go.RowKit
attribute [local irreducible] Calls Run jZ jf JK HR HL HD jT jG JY Rd jK jY
open Nd
theorem fn226:IsFn Tryz.prog 226:=⟨⟨_,_,Tryz.func226,rfl,by decide⟩⟩
theorem jNr:IsFn Tryz.prog 157:=⟨⟨_,_,Tryz.func157,rfl,by decide⟩⟩
theorem fn266:IsFn Tryz.prog 266:=⟨⟨_,_,Tryz.func266,rfl,by decide⟩⟩
theorem jMP (l:List Li) (i:Nat) (v:Value) (B0:Base) (w:World) (hw0:Sat B0 [jG v 162 3 l.length (cellsOf liC l)] w) (hi:i<l.length) (hl:l.length≤1000):
  Calls Tryz.prog 226 #[v,.int .i64 (i:Int),.int .i64 ((i:Int)+1)] w fun e w'=>∃r:Value,e= .returned r∧True∧Sat ⟨w,Zn [jG v 162 3 l.length (cellsOf liC l)]⟩ [jG r 162 3 (l.eraseIdx i).length (cellsOf liC (l.eraseIdx i))] w':=by
 obtain ⟨g,off,c,rfl,hnc,hcm⟩:=Vw.row (Sat.vw hw0 (i:=0) I) (by omega)
 have hcm:c≤9223372036854775807:=hcm
 have hel:(l.eraseIdx i).length=l.length-1:=List.length_eraseIdx_of_lt hi
 refine jg [jG (.slice (some ⟨g,off,none⟩) l.length c) 162 3 l.length (cellsOf liC l)] (hw0) Tryz.func226 I (Nat.le_of_ble_eq_true I) ?_
 refine HR.sub (σ':=[(0,.slice (some ⟨g,off,none⟩) l.length c),(1,.int .i64 (i:Int)),(2,.int .i64 ((i:Int)+1))]) ⟨I,I,I,trivial⟩ ?_
 repeat' (first|refine zh ?_|refine HL.JN (Rd.own 0 I) I I I ?_|refine HL.cut i (i+1) l.length I I I I (.inr ⟨_,_,rfl,rfl⟩) (.inr ⟨_,_,rfl,rfl⟩) (.inr ⟨_,_,rfl,rfl⟩) (by omega) (by omega) hnc ?_|apply zb ?_ ?_|exact zc|(refine zi fun hb=>?_;try simp at hb)|intro (bk:Nat))
 refine HR.jDc 16 false I (by simp;omega) ?_
 repeat' (first|refine zh ?_|refine HL.JN (Rd.own 0 I) I I I ?_|apply zb ?_ ?_|exact zc|(refine zi fun hb=>?_;try simp at hb)|intro (bk:Nat))
 refine HR.j4 [(0,true),(1,true),(2,true),(3,true),(4,true),(5,true),(6,false),(7,true)] [] I I Jc (by kernel_rfl) ?_
 repeat' (first|refine HD.ev I I I ?_|refine HD.evc I I I (by first|omega|(simp;done)|(simp;omega)) ?_|refine HD.cut (sz:=3) 0 i c I I I I I (.inl ⟨rfl,rfl⟩) (.inr ⟨_,_,rfl,rfl⟩) (.inl ⟨rfl,rfl⟩) (by omega) (by omega) (by omega) ?_|refine HD.cut (sz:=3) (i+1) l.length c I I I I I (.inr ⟨_,_,rfl,rfl⟩) (.inl ⟨rfl,rfl,rfl⟩) (.inl ⟨rfl,rfl⟩) (by omega) (by omega) (by omega) ?_|refine HD.L 0 I I I I I ?_|refine HD.L 1 I I I I I ?_|refine HD.L 2 I I I I I ?_|refine HD.L 3 I I I I I ?_|refine HD.build I I I ?_|refine HD.field I I I ?_|refine HD.skip I I I ?_|refine HD.kH I I I ?_|(refine HD.one I ?_;first|refine HL.ev I I ?_|refine HL.jGr i (i+1) 0 I Ze I I I (by omega) (by omega) hnc (jU jD4 _) ?_|(refine HL.isLoad ?_;first|refine HL.L 0 I I I I ?_|refine HL.L 1 I I I I ?_|refine HL.L 2 I I I I ?_|refine HL.L 3 I I I I ?_)|(refine HL.jL ?_;first|refine HL.S 0 I I I I I ?_|refine HL.S 1 I I I I I ?_|refine HL.S 2 I I I I I ?_|refine HL.S 3 I I I I I ?_)|(refine HL.alloc I I ?_;intro bk))|refine HL.back [] rfl rfl ?_|refine HD.nil ?_)
 have hx:(cellsOf liC l).take (i*3)++(cellsOf liC l).drop ((i+1)*3)++(cellsOf liC l).drop (i*3+(l.length-(i+1))*3)=cellsOf liC (l.eraseIdx i)++(cellsOf liC l).drop ((l.length-1)*3):=by
  rw[JJ JL,JB JL,← jP,List.eraseIdx_eq_take_drop_succ]
  congr 2
  omega
 refine HR.ent (Ent.JV I hx) ?_
 refine HR.ZU 0 (v':= .slice (some ⟨g,off,none⟩) (l.length-1) c) I (by rw[show i+(l.length-(i+1))=l.length-1 by omega]) ?_
 refine HR.ZU 7 (v':= .int .i64 (l.length:Int)) I I ?_
 repeat' (first|refine zh ?_|refine HL.cut (sz:=3) (l.length-1) l.length c I I I I (.inr ⟨_,_,rfl,rfl⟩) (.inr ⟨_,_,rfl,rfl⟩) (.inl ⟨rfl,rfl⟩) (by omega) hnc (Nat.le_refl _) ?_|intro (bk:Nat))
 refine HL.jCg (zy (by omega)) ?_
 refine HL.jHf (l.length-1) 0 I I I I I I (by decide) I (by omega) ?_
 repeat' (first|refine zh ?_|apply zb ?_ ?_|exact zc|(refine zi fun hb=>?_;try simp at hb)|intro (bk:Nat))
 refine HR.ret Tryz.func226 I [_] (fun _ _=>⟨I,trivial⟩) ?_
 have hcl:(cellsOf liC (l.eraseIdx i)).length=(l.length-1)*3:=by rw[jC JL,hel]
 refine fun w' hw=>⟨_,rfl,trivial,?_⟩
 rw[hel]
 refine Sat.cutK hw (by omega) ?_
 rw[List.take_append_of_le_length (by simp[hcl]),List.take_take,Nat.min_self,List.take_append_of_le_length (by omega),List.take_of_length_le (by omega)]
theorem jAk (l:List Sn) (i:Nat) (v:Value) (B0:Base) (w:World) (hw0:Sat B0 [jG v 131 11 l.length (cellsOf snC l)] w) (hi:i<l.length) (hl:l.length≤1000):
  Calls Tryz.prog 157 #[v,.int .i64 (i:Int),.int .i64 ((i:Int)+1)] w fun e w'=>∃r:Value,e= .returned r∧True∧Sat ⟨w,Zn [jG v 131 11 l.length (cellsOf snC l)]⟩ [jG r 131 11 (l.eraseIdx i).length (cellsOf snC (l.eraseIdx i))] w':=by
 obtain ⟨g,off,c,rfl,hnc,hcm⟩:=Vw.row (Sat.vw hw0 (i:=0) I) (by omega)
 have hcm:c≤9223372036854775807:=hcm
 have hel:(l.eraseIdx i).length=l.length-1:=List.length_eraseIdx_of_lt hi
 refine jg [jG (.slice (some ⟨g,off,none⟩) l.length c) 131 11 l.length (cellsOf snC l)] (hw0) Tryz.func157 I (Nat.le_of_ble_eq_true I) ?_
 refine HR.sub (σ':=[(0,.slice (some ⟨g,off,none⟩) l.length c),(1,.int .i64 (i:Int)),(2,.int .i64 ((i:Int)+1))]) ⟨I,I,I,trivial⟩ ?_
 repeat' (first|refine zh ?_|refine HL.JN (Rd.own 0 I) I I I ?_|refine HL.cut i (i+1) l.length I I I I (.inr ⟨_,_,rfl,rfl⟩) (.inr ⟨_,_,rfl,rfl⟩) (.inr ⟨_,_,rfl,rfl⟩) (by omega) (by omega) hnc ?_|apply zb ?_ ?_|exact zc|(refine zi fun hb=>?_;try simp at hb)|intro (bk:Nat))
 refine HR.jDc 16 false I (by simp;omega) ?_
 repeat' (first|refine zh ?_|refine HL.JN (Rd.own 0 I) I I I ?_|apply zb ?_ ?_|exact zc|(refine zi fun hb=>?_;try simp at hb)|intro (bk:Nat))
 refine HR.j4 [(0,true),(1,true),(2,true),(3,true),(4,true),(5,true),(6,false),(7,true)] [] I I Jc (by kernel_rfl) ?_
 repeat' (first|refine HD.ev I I I ?_|refine HD.evc I I I (by first|omega|(simp;done)|(simp;omega)) ?_|refine HD.cut (sz:=11) 0 i c I I I I I (.inl ⟨rfl,rfl⟩) (.inr ⟨_,_,rfl,rfl⟩) (.inl ⟨rfl,rfl⟩) (by omega) (by omega) (by omega) ?_|refine HD.cut (sz:=11) (i+1) l.length c I I I I I (.inr ⟨_,_,rfl,rfl⟩) (.inl ⟨rfl,rfl,rfl⟩) (.inl ⟨rfl,rfl⟩) (by omega) (by omega) (by omega) ?_|refine HD.L 0 I I I I I ?_|refine HD.L 1 I I I I I ?_|refine HD.L 2 I I I I I ?_|refine HD.L 3 I I I I I ?_|refine HD.build I I I ?_|refine HD.field I I I ?_|refine HD.skip I I I ?_|refine HD.kH I I I ?_|(refine HD.one I ?_;first|refine HL.ev I I ?_|refine HL.jGr i (i+1) 0 I zf I I I (by omega) (by omega) hnc (jU jFs _) ?_|(refine HL.isLoad ?_;first|refine HL.L 0 I I I I ?_|refine HL.L 1 I I I I ?_|refine HL.L 2 I I I I ?_|refine HL.L 3 I I I I ?_)|(refine HL.jL ?_;first|refine HL.S 0 I I I I I ?_|refine HL.S 1 I I I I I ?_|refine HL.S 2 I I I I I ?_|refine HL.S 3 I I I I I ?_)|(refine HL.alloc I I ?_;intro bk))|refine HL.back [] rfl rfl ?_|refine HD.nil ?_)
 have hx:(cellsOf snC l).take (i*11)++(cellsOf snC l).drop ((i+1)*11)++(cellsOf snC l).drop (i*11+(l.length-(i+1))*11)=cellsOf snC (l.eraseIdx i)++(cellsOf snC l).drop ((l.length-1)*11):=by
  rw[JJ JE,JB JE,← jP,List.eraseIdx_eq_take_drop_succ]
  congr 2
  omega
 refine HR.ent (Ent.JV I hx) ?_
 refine HR.ZU 0 (v':= .slice (some ⟨g,off,none⟩) (l.length-1) c) I (by rw[show i+(l.length-(i+1))=l.length-1 by omega]) ?_
 refine HR.ZU 7 (v':= .int .i64 (l.length:Int)) I I ?_
 repeat' (first|refine zh ?_|refine HL.cut (sz:=11) (l.length-1) l.length c I I I I (.inr ⟨_,_,rfl,rfl⟩) (.inr ⟨_,_,rfl,rfl⟩) (.inl ⟨rfl,rfl⟩) (by omega) hnc (Nat.le_refl _) ?_|intro (bk:Nat))
 refine HL.jCg (zy (by omega)) ?_
 refine HL.jHf (l.length-1) 0 I I I I I I (by decide) I (by omega) ?_
 repeat' (first|refine zh ?_|apply zb ?_ ?_|exact zc|(refine zi fun hb=>?_;try simp at hb)|intro (bk:Nat))
 refine HR.ret Tryz.func157 I [_] (fun _ _=>⟨I,trivial⟩) ?_
 have hcl:(cellsOf snC (l.eraseIdx i)).length=(l.length-1)*11:=by rw[jC JE,hel]
 refine fun w' hw=>⟨_,rfl,trivial,?_⟩
 rw[hel]
 refine Sat.cutK hw (by omega) ?_
 rw[List.take_append_of_le_length (by simp[hcl]),List.take_take,Nat.min_self,List.take_append_of_le_length (by omega),List.take_of_length_le (by omega)]
theorem jMN (l:List Ma) (i:Nat) (v:Value) (B0:Base) (w:World) (hw0:Sat B0 [jG v 166 10 l.length (cellsOf maC l)] w) (hi:i<l.length) (hl:l.length≤1000):
  Calls Tryz.prog 266 #[v,.int .i64 (i:Int),.int .i64 ((i:Int)+1)] w fun e w'=>∃r:Value,e= .returned r∧True∧Sat ⟨w,Zn [jG v 166 10 l.length (cellsOf maC l)]⟩ [jG r 166 10 (l.eraseIdx i).length (cellsOf maC (l.eraseIdx i))] w':=by
 obtain ⟨g,off,c,rfl,hnc,hcm⟩:=Vw.row (Sat.vw hw0 (i:=0) I) (by omega)
 have hcm:c≤9223372036854775807:=hcm
 have hel:(l.eraseIdx i).length=l.length-1:=List.length_eraseIdx_of_lt hi
 refine jg [jG (.slice (some ⟨g,off,none⟩) l.length c) 166 10 l.length (cellsOf maC l)] (hw0) Tryz.func266 I (Nat.le_of_ble_eq_true I) ?_
 refine HR.sub (σ':=[(0,.slice (some ⟨g,off,none⟩) l.length c),(1,.int .i64 (i:Int)),(2,.int .i64 ((i:Int)+1))]) ⟨I,I,I,trivial⟩ ?_
 repeat' (first|refine zh ?_|refine HL.JN (Rd.own 0 I) I I I ?_|refine HL.cut i (i+1) l.length I I I I (.inr ⟨_,_,rfl,rfl⟩) (.inr ⟨_,_,rfl,rfl⟩) (.inr ⟨_,_,rfl,rfl⟩) (by omega) (by omega) hnc ?_|apply zb ?_ ?_|exact zc|(refine zi fun hb=>?_;try simp at hb)|intro (bk:Nat))
 refine HR.jDc 16 false I (by simp;omega) ?_
 repeat' (first|refine zh ?_|refine HL.JN (Rd.own 0 I) I I I ?_|apply zb ?_ ?_|exact zc|(refine zi fun hb=>?_;try simp at hb)|intro (bk:Nat))
 refine HR.j4 [(0,true),(1,true),(2,true),(3,true),(4,true),(5,true),(6,false),(7,true)] [] I I Jc (by kernel_rfl) ?_
 repeat' (first|refine HD.ev I I I ?_|refine HD.evc I I I (by first|omega|(simp;done)|(simp;omega)) ?_|refine HD.cut (sz:=10) 0 i c I I I I I (.inl ⟨rfl,rfl⟩) (.inr ⟨_,_,rfl,rfl⟩) (.inl ⟨rfl,rfl⟩) (by omega) (by omega) (by omega) ?_|refine HD.cut (sz:=10) (i+1) l.length c I I I I I (.inr ⟨_,_,rfl,rfl⟩) (.inl ⟨rfl,rfl,rfl⟩) (.inl ⟨rfl,rfl⟩) (by omega) (by omega) (by omega) ?_|refine HD.L 0 I I I I I ?_|refine HD.L 1 I I I I I ?_|refine HD.L 2 I I I I I ?_|refine HD.L 3 I I I I I ?_|refine HD.build I I I ?_|refine HD.field I I I ?_|refine HD.skip I I I ?_|refine HD.kH I I I ?_|(refine HD.one I ?_;first|refine HL.ev I I ?_|refine HL.jGr i (i+1) 0 I ZM I I I (by omega) (by omega) hnc (jU jGV _) ?_|(refine HL.isLoad ?_;first|refine HL.L 0 I I I I ?_|refine HL.L 1 I I I I ?_|refine HL.L 2 I I I I ?_|refine HL.L 3 I I I I ?_)|(refine HL.jL ?_;first|refine HL.S 0 I I I I I ?_|refine HL.S 1 I I I I I ?_|refine HL.S 2 I I I I I ?_|refine HL.S 3 I I I I I ?_)|(refine HL.alloc I I ?_;intro bk))|refine HL.back [] rfl rfl ?_|refine HD.nil ?_)
 have hx:(cellsOf maC l).take (i*10)++(cellsOf maC l).drop ((i+1)*10)++(cellsOf maC l).drop (i*10+(l.length-(i+1))*10)=cellsOf maC (l.eraseIdx i)++(cellsOf maC l).drop ((l.length-1)*10):=by
  rw[JJ zU,JB zU,← jP,List.eraseIdx_eq_take_drop_succ]
  congr 2
  omega
 refine HR.ent (Ent.JV I hx) ?_
 refine HR.ZU 0 (v':= .slice (some ⟨g,off,none⟩) (l.length-1) c) I (by rw[show i+(l.length-(i+1))=l.length-1 by omega]) ?_
 refine HR.ZU 7 (v':= .int .i64 (l.length:Int)) I I ?_
 repeat' (first|refine zh ?_|refine HL.cut (sz:=10) (l.length-1) l.length c I I I I (.inr ⟨_,_,rfl,rfl⟩) (.inr ⟨_,_,rfl,rfl⟩) (.inl ⟨rfl,rfl⟩) (by omega) hnc (Nat.le_refl _) ?_|intro (bk:Nat))
 refine HL.jCg (zy (by omega)) ?_
 refine HL.jHf (l.length-1) 0 I I I I I I (by decide) I (by omega) ?_
 repeat' (first|refine zh ?_|apply zb ?_ ?_|exact zc|(refine zi fun hb=>?_;try simp at hb)|intro (bk:Nat))
 refine HR.ret Tryz.func266 I [_] (fun _ _=>⟨I,trivial⟩) ?_
 have hcl:(cellsOf maC (l.eraseIdx i)).length=(l.length-1)*10:=by rw[jC zU,hel]
 refine fun w' hw=>⟨_,rfl,trivial,?_⟩
 rw[hel]
 refine Sat.cutK hw (by omega) ?_
 rw[List.take_append_of_le_length (by simp[hcl]),List.take_take,Nat.min_self,List.take_append_of_le_length (by omega),List.take_of_length_le (by omega)]
end Go.Proofs.YtgfdoognildoeaaGreat
namespace Go.GX
open Go.RowKit
section
variable {P : Program} {f : FuncId} {N : Nat} {k : List Item} {σ : Store} {B : Base} {H H0 : List Chunk} {R : Ending → World → Prop} {ops l : List Oper} {o : Oper} {K : Act → World → Prop}
variable {d : Nat} {d' : Option Nat} {ty : TypeId} {pos : String} {af : Array Edge} {gd : Option (Nat × Bool)} {u v : Value}
theorem jQE {x:Operand} {n j:Nat} {cs:List Value} (hv:Rd B H v cs n) (hj:j<cs.length) (hx:lookO σ x=some (jk v j)):
  ∀w,Sat B H w→(execOp (evO σ) ⟨some d,.nilCheck x,ty,pos,af,gd⟩).run P w= .ok (.value (jk v j)) w:=by
 intro w hw
 rcases (hv.is hw)with ⟨_,_,rfl⟩|⟨b,off,cap,rfl,_⟩
 ·simp at hj
 ·have hx':lookO σ x=some (.pointer (some ⟨b,off+j,none⟩)):=hx
  have hc:jMK P σ (.nilCheck x)=some (.pointer (some ⟨b,off+j,none⟩)):=by simp only[jMK,hx']
  exact jAh hc
theorem HL.jRR {x:Operand} {n j:Nat} {cs:List Value} (hv:Rd B H v cs n) (hj:j<cs.length) (hs:stat N ops ⟨some d,.nilCheck x,ty,pos,af,gd⟩ σ=true) (hx:lookO σ x=some (jk v j))
  (h:HL P N ops l ((d,jk v j)::σ) B H K):HL P N ops (⟨some d,.nilCheck x,ty,pos,af,gd⟩::l) σ B H K:=
 HL.rd hs (jQE hv hj hx) h
theorem HL.jo (o:Nat) {s:TypeId} {x:Operand} {fl:List Field} {fi j n:Nat} {fd:Field} {ti:TypeInfo} {cs:List Value} (hv:Rd B H v cs n) (hj:j<cs.length) (hs:stat N ops ⟨some d,.fieldAddr s x fi,ty,pos,af,gd⟩ σ=true) (hT:P.underlying s=some (.struct ⟨fl⟩)) (hf:jJL fl fi=some fd) (hti:P.info? fd.type=some ti) (hz:Nat.ble 1 ti.size=true) (hx:lookO σ x=some (jk v j)) (ho:fd.offset=o)
  (h:HL P N ops l ((d,jk v (j+o))::σ) B H K):HL P N ops (⟨some d,.fieldAddr s x fi,ty,pos,af,gd⟩::l) σ B H K:=by
 subst ho;exact HL.Jt hv hj hs hT hf hti hz hx h
theorem HQ.jo {KQ:Act→Prop} (o:Nat) {s:TypeId} {x:Operand} {fl:List Field} {fi j n:Nat} {fd:Field} {ti:TypeInfo} {cs:List Value} (hv:Rd B H v cs n) (hj:j<cs.length) (hs:stat N ops ⟨some d,.fieldAddr s x fi,ty,pos,af,gd⟩ σ=true) (hT:P.underlying s=some (.struct ⟨fl⟩)) (hf:jJL fl fi=some fd) (hti:P.info? fd.type=some ti) (hz:Nat.ble 1 ti.size=true) (hx:lookO σ x=some (jk v j)) (ho:fd.offset=o)
  (h:HQ P N ops l ((d,jk v (j+o))::σ) B H KQ):HQ P N ops (⟨some d,.fieldAddr s x fi,ty,pos,af,gd⟩::l) σ B H KQ:=by
 subst ho;exact HQ.Jt hv hj hs hT hf hti hz hx h
theorem HD.jo {F:List Chunk} (o:Nat) {i:Nat} {p:List (Nat×Bool)} {s:TypeId} {x:Operand} {fl:List Field} {fi j n:Nat} {fd:Field} {ti:TypeInfo} {cs:List Value} (hv:Rd B F v cs n) (hj:j<cs.length) (ho':ops[i]? =some ⟨some d,.fieldAddr s x fi,ty,pos,af,gd⟩) (hs:stat N ops ⟨some d,.fieldAddr s x fi,ty,pos,af,gd⟩ σ=true) (hT:P.underlying s=some (.struct ⟨fl⟩)) (hf:jJL fl fi=some fd) (hti:P.info? fd.type=some ti) (hz:Nat.ble 1 ti.size=true) (hx:lookO σ x=some (jk v j)) (ho:fd.offset=o)
  (h:HD P N ops p ((d,jk v (j+o))::σ) B H F K):HD P N ops ((i,true)::p) σ B H F K:=by
 subst ho;exact HD.Jt hv hj ho' hs hT hf hti hz hx h
theorem HL.jN2 {g:FuncId} {args:List Operand} {a1:List Value} {tys:Array TypeId} {e sz n e' sz' n':Nat} {xs xs':List Value} (hg:IsFn P g)
  (hs:stat N ops ⟨some d,.call ⟨.value (.func g),args.toArray,tys⟩,ty,pos,af,gd⟩ σ=true) (ha:vals σ args=some a1)
  (hc:∀w,Sat B (jG v e sz n xs::H0) w→Calls P g a1.toArray w fun e0 w'=>∃r,e0= .returned r∧True∧Sat ⟨w,Zn [jG v e sz n xs]⟩ [jG r e' sz' n' xs'] w')
  (h:∀r,HL P N ops l ((d,r)::σ) B (jG r e' sz' n' xs'::H0) K):HL P N ops (⟨some d,.call ⟨.value (.func g),args.toArray,tys⟩,ty,pos,af,gd⟩::l) σ B (jG v e sz n xs::H0) K:=
 HL.Jh (r:=fun r:Value=>r) (Q:=fun _=>True) (G0:=[jG v e sz n xs]) (G:=fun r=>[jG r e' sz' n' xs']) hg hs ha I hc fun r _=>h r
theorem HL.jPW {c2:Chunk} {g:FuncId} {args:List Operand} {a1:List Value} {tys:Array TypeId} {e sz n e' sz' n':Nat} {xs xs':List Value} (hg:IsFn P g)
  (hs:stat N ops ⟨some d,.call ⟨.value (.func g),args.toArray,tys⟩,ty,pos,af,gd⟩ σ=true) (ha:vals σ args=some a1)
  (hc:∀w,Sat B (jG v e sz n xs::c2::H0) w→Calls P g a1.toArray w fun e0 w'=>∃r,e0= .returned r∧True∧Sat ⟨w,Zn [jG v e sz n xs,c2]⟩ [jG r e' sz' n' xs'] w')
  (h:∀r,HL P N ops l ((d,r)::σ) B (jG r e' sz' n' xs'::H0) K):HL P N ops (⟨some d,.call ⟨.value (.func g),args.toArray,tys⟩,ty,pos,af,gd⟩::l) σ B (jG v e sz n xs::c2::H0) K:=
 HL.Jh (r:=fun r:Value=>r) (Q:=fun _=>True) (G0:=[jG v e sz n xs,c2]) (G:=fun r=>[jG r e' sz' n' xs']) hg hs ha I hc fun r _=>h r
theorem HR.scope {c:Code} (h:HR P f N (.code c:: .inScope c::k) σ B H R):HR P f N (.code (.scope c)::k) σ B H R:=
 fun w hw a ha=> .of_steps (fun _ _=> .one step_scope) (h w hw a ha)
theorem HR.inScope {c:Code} (h:HR P f N k σ B H R):HR P f N (.inScope c::k) σ B H R:=
 fun w hw a ha=> .of_steps (fun _ _=> .one step_inScope) (h w hw a ha)
theorem HR.label {n:Nat} (h:HR P f N k σ B H R):HR P f N (.code (.label n)::k) σ B H R:=
 fun w hw a ha=> .of_steps (fun _ _=> .one step_label) (h w hw a ha)
theorem HA.three {F:List Chunk} {n:Nat} {L:Array Bool} {o2 o3:Oper} (i j m:Nat) (hr:decide (Region.ready .any ops.toArray L=[i,j,m])=true) (ho:ops[i]? =some o) (ho2:ops[j]? =some o2) (ho3:ops[m]? =some o3) (h:HL P N ops [o] σ B H (AK P B F ops n (L.setIfInBounds i true) K)) (h2:HL P N ops [o2] σ B H (AK P B F ops n (L.setIfInBounds j true) K)) (h3:HL P N ops [o3] σ B H (AK P B F ops n (L.setIfInBounds m true) K)):HA P N ops (n+1) L σ B H F K:=by
 intro w hw hF a ha
 refine wpAnyH_all (of_decide_eq_true hr) (by simp) fun q hq=>?_
 simp only[List.mem_cons,List.not_mem_nil,or_false]at hq
 rcases hq with rfl|rfl|rfl
 ·exact HA.opI q ho h w hw a ha
 ·exact HA.opI q ho2 h2 w hw a ha
 ·exact HA.opI q ho3 h3 w hw a ha
theorem jRY {g:FuncId} {caps:List Operand} {vs:List Value} (hv:vals σ caps=some vs) (w:World):
  (execOp (evO σ) ⟨d',.makeFunc (.func g) #[] caps.toArray,ty,pos,af,gd⟩).run P w= .ok (.value (.func (.func g) #[] vs.toArray)) w:=by
 have:=jBk hv
 simp only[execOp,List.map_toArray]
 rw[this]
 simp[Instr.makeFunc]
theorem HL.mkF {g:FuncId} {caps:List Operand} {vs:List Value} (hs:stat N ops ⟨some d,.makeFunc (.func g) #[] caps.toArray,ty,pos,af,gd⟩ σ=true) (hv:vals σ caps=some vs)
  (h:HL P N ops l ((d,.func (.func g) #[] vs.toArray)::σ) B H K):HL P N ops (⟨some d,.makeFunc (.func g) #[] caps.toArray,ty,pos,af,gd⟩::l) σ B H K:=
 HL.rd hs (fun w _=>jRY hv w) h
end
end Go.GX
namespace Go.Proofs.YtgfdoognildoeaaGreat
open Go.GX Go.RowKit
attribute [local irreducible] Calls Run jZ jf JK HR HL HD jT jG JY Rd jK jY
open Nd
theorem fn90:IsFn Tryz.prog 90:=⟨⟨_,_,Tryz.func90,rfl,by decide⟩⟩
theorem fn196:IsFn Tryz.prog 196:=⟨⟨_,_,Tryz.func196,rfl,by decide⟩⟩
theorem fn222:IsFn Tryz.prog 222:=⟨⟨_,_,Tryz.func222,rfl,by decide⟩⟩
theorem fn274:IsFn Tryz.prog 274:=⟨⟨_,_,Tryz.func274,rfl,by decide⟩⟩
theorem fn302:IsFn Tryz.prog 302:=⟨⟨_,_,Tryz.func302,rfl,by decide⟩⟩
theorem jJN {q:List Sn} {f:Fr} (h:f.ur=false):jDB q f=if (q.take 16).length=16 then (q.take 16,false)else (q.take 16++[⟨f,0,0⟩],true):=by unfold jDB jMd;rw[if_pos (show sur ⟨f,0,0⟩=false from h)]
def jE0 (T:List Sn) (f:Fr):List Sn×Bool:=if T.length=16 then (match lastIdx sdr T with
  |none=>(T,false)
  |some i=>(ins sur (T.eraseIdx i) ⟨f,0,0⟩,true))else (ins sur T ⟨f,0,0⟩,true)
theorem jGT {q:List Sn} {f:Fr} (h:f.ur=true):jDB q f=jE0 (q.take 16) f:=by unfold jDB jMd;rw[if_neg (show ¬sur ⟨f,0,0⟩=false by rw[show sur ⟨f,0,0⟩=f.ur from rfl,h];decide)];rfl
theorem jJQ {T:List Sn} {f:Fr} (h:T.length≤15):jE0 T f=(ins sur T ⟨f,0,0⟩,true):=if_neg (by omega)
theorem jJR {T:List Sn} {f:Fr} (h:T.length=16) (h2:∀a∈T,sdr a=false):jE0 T f=(T,false):=by unfold jE0;rw[if_pos h,K8 h2]
theorem jJP {T:List Sn} {f:Fr} {i:Nat} {a:Sn} (h:T.length=16) (ha:T[i]? =some a) (hp:sdr a=true) (hj:∀j b,i<j→T[j]? =some b→sdr b=false):jE0 T f=(ins sur (T.eraseIdx i) ⟨f,0,0⟩,true):=by unfold jE0;rw[if_pos h,jDH ha hp hj]
theorem jB4 (l:List Sn) (n:Nat) (ok:Bool) (v:Value) (w:World) (hv:Sl w v (cellsOf snC l) l.length) (hl:l.length≤1000):
  Calls Tryz.prog 90 #[v,.int .i64 (n:Int),.bool ok] w fun e w'=>∃v',e= .returned (.tuple ⟨[v',.bool (kU l n ok).2]⟩)∧True∧Sat (base w) [jG v' 131 11 (kU l n ok).1.length (cellsOf snC (kU l n ok).1)] w':=by
 have h16:(l.take 16).length≤16:=by simp;omega
 refine jD Tryz.func90 I (Nat.le_of_ble_eq_true I) ?_
 refine HR.sub (σ':=[(0,v),(1,.int .i64 (n:Int)),(2,.bool ok)]) ⟨I,I,I,trivial⟩ ?_
 repeat' (first|refine zh ?_|refine HL.JQ jQR I I (fun w hw=>jAz l v w ((Rd.arg hv).at hw) hl) ?_|intro (bk:Nat))
 intro v1
 repeat' (first|refine zh ?_|refine HL.JN (Rd.own 0 I) I I I ?_|intro (bk:Nat))
 refine HR.cond I (fun h2=>?_) (fun h2=>?_)
 ·have h2:(l.take 16).length≤n:=by have:=of_decide_eq_true h2;omega
  rw[jLY h2]
  repeat' (first|refine zh ?_|intro (bk:Nat))
  refine HR.ret Tryz.func90 I [_,_] (fun _ _=>⟨I,I,trivial⟩) ?_
  exact fun w' hw=>⟨v1,rfl,trivial,hw⟩
 have h2:n<(l.take 16).length:=by have:=of_decide_eq_false h2;omega
 obtain ⟨s,hs⟩:=jJ h2
 rw[jLX hs]
 obtain ⟨T,hT⟩:∃T,T=l.take 16:=⟨_,rfl⟩
 rw[← hT]at h16 h2 hs ⊢
 have hcl:∀T:List Sn,(cellsOf snC T).length=T.length*11:=jC JE
 repeat' (first|refine zh ?_|intro (bk:Nat))
 refine HR.cond I (fun h3=>?_) (fun h3=>?_)
 ·have h3:ok=true:=h3
  subst h3
  repeat' (first|refine zh ?_|intro (bk:Nat))
  refine HL.jN2 jNr I I (fun w hw=>jAk T n v1 _ w hw h2 (by omega)) ?_
  intro r
  repeat' (first|refine zh ?_|intro (bk:Nat))
  refine HR.ret Tryz.func90 I [_,_] (fun _ _=>⟨I,I,trivial⟩) ?_
  exact fun w' hw=>⟨r,rfl,trivial,hw⟩
 have h3:ok=false:=h3
 subst h3
 rw[if_neg (show ¬false=true by decide)]
 have hm:j3 s=min (max s.tr 0) 7+1:=rfl
 have hs2:(T.set n ⟨s.f,j3 s,s.wt⟩)[n]? =some ⟨s.f,j3 s,s.wt⟩:=List.getElem?_set_self h2
 have hl2:(T.set n ⟨s.f,j3 s,s.wt⟩).length=T.length:=List.length_set
 have hmt:(if 7<(if 0>s.tr then (0:Int)else s.tr)then (7:Int)else if 0>s.tr then (0:Int)else s.tr)+1=j3 s:=by rw[hm];split<;>split<;>omega
 repeat' (first|refine zh ?_|refine HL.JA (Rd.own 0 I) zf n I I I I h2 ?_|refine HL.jRR (Rd.own 0 I) (by rw[hcl];omega) I I ?_|refine HL.Jt (Rd.own 0 I) (by rw[hcl];omega) I I I I I I ?_|refine HL.ji (Rd.own 0 I) I I I I (jQ JE hs (i:=9) I) ?_|intro (bk:Nat))
 refine HL.ZU 37 (v':= .int .i64 (j3 s)) I (by rw[hmt]) ?_
 refine HL.KA (j:=n*11+9) 0 I I I I I I I (by rw[hcl];omega) ?_
 refine HL.ent (H':=[jG v1 131 11 (T.set n ⟨s.f,j3 s,s.wt⟩).length (cellsOf snC (T.set n ⟨s.f,j3 s,s.wt⟩))]) (Ent.JV hl2.symm (Jv (i:=9) JE hs I (by decide))) ?_
 obtain ⟨U,hU⟩:∃U,U=T.set n ⟨s.f,j3 s,s.wt⟩:=⟨_,rfl⟩
 rw[← hU]at hs2 hl2 ⊢
 have h2u:n<U.length:=by omega
 repeat' (first|refine zh ?_|refine HL.jRR (Rd.own 0 I) (by rw[hcl];omega) I I ?_|refine HL.Jt (Rd.own 0 I) (by rw[hcl];omega) I I I I I I ?_|refine HL.ji (Rd.own 0 I) I I I I (jQ JE hs2 (i:=9) I) ?_|intro (bk:Nat))
 refine HR.cond I (fun h4=>?_) (fun h4=>?_)
 ·have h4:j3 s=8:=eq_of_beq h4
  rw[if_pos h4]
  repeat' (first|refine zh ?_|refine HL.jN2 jNr I I (fun w hw=>jAk U n v1 _ w hw h2u (by omega)) ?_|intro (bk:Nat))
  intro r
  repeat' (first|refine zh ?_|intro (bk:Nat))
  refine HR.ret Tryz.func90 I [_,_] (fun _ _=>⟨I,I,trivial⟩) ?_
  refine fun w' hw=>⟨r,rfl,trivial,?_⟩
  have e:U.eraseIdx n=T.eraseIdx n:=by
   rw[hU,List.eraseIdx_set_eq]
  rw[← e];exact hw
 have h4:¬j3 s=8:=by intro e;have h4:(j3 s==8)=false:=h4;rw[e]at h4;cases h4
 rw[if_neg h4]
 have hmn:(if 4<j3 s then (4:Int)else j3 s)=min (j3 s) 4:=by split<;>omega
 have hs3:(U.set n ⟨s.f,j3 s,min (j3 s) 4⟩)[n]? =some ⟨s.f,j3 s,min (j3 s) 4⟩:=List.getElem?_set_self h2u
 have hl3:(U.set n ⟨s.f,j3 s,min (j3 s) 4⟩).length=U.length:=List.length_set
 repeat' (first|refine zh ?_|refine HL.jRR (Rd.own 0 I) (by rw[hcl];omega) I I ?_|refine HL.Jt (Rd.own 0 I) (by rw[hcl];omega) I I I I I I ?_|refine HL.ji (Rd.own 0 I) I I I I (jQ JE hs2 (i:=9) I) ?_|intro (bk:Nat))
 refine HL.ZU 55 (v':= .int .i64 (min (j3 s) 4)) I (by rw[hmn]) ?_
 refine HL.KA (j:=n*11+10) 0 I I I I I I I (by rw[hcl];omega) ?_
 refine HL.ent (H':=[jG v1 131 11 (U.set n ⟨s.f,j3 s,min (j3 s) 4⟩).length (cellsOf snC (U.set n ⟨s.f,j3 s,min (j3 s) 4⟩))]) (Ent.JV hl3.symm (Jv (i:=10) JE hs2 I (by decide))) ?_
 obtain ⟨V,hV⟩:∃V,V=U.set n ⟨s.f,j3 s,min (j3 s) 4⟩:=⟨_,rfl⟩
 rw[← hV]at hs3 hl3 ⊢
 have h2v:n<V.length:=by omega
 have hVT:V=T.set n ⟨s.f,j3 s,min (j3 s) 4⟩:=by rw[hV,hU,List.set_set]
 repeat' (first|refine zh ?_|refine HL.jRR (Rd.own 0 I) (by rw[hcl];omega) I I ?_|refine HL.Jt (Rd.own 0 I) (by rw[hcl];omega) I I I I I I ?_|intro (bk:Nat))
 refine HL.ZU 60 (v':=jk v1 (n*11)) I I ?_
 repeat' (first|refine zh ?_|refine HL.Jt (Rd.own 0 I) (by rw[hcl];omega) I I I I I I ?_|refine HL.ji (Rd.own 0 I) I I I I (jQ JE hs3 (i:=7) I) ?_|intro (bk:Nat))
 refine HR.cond I (fun h5=>?_) (fun h5=>?_)
 ·have h5:s.f.ur=true:=h5
  repeat' (first|refine zh ?_|refine HL.jRR (Rd.own 0 I) (by rw[hcl];omega) I I ?_|refine HL.Jt (Rd.own 0 I) (by rw[hcl];omega) I I I I I I ?_|refine HL.KA (j:=n*11+10) 0 I I I I I I I (by rw[hcl];omega) ?_|intro (bk:Nat))
  refine HR.ret Tryz.func90 I [_,_] (fun _ _=>⟨I,I,trivial⟩) ?_
  refine fun w' hw=>⟨v1,rfl,trivial,Ent.JV (by rw[List.length_set];omega) ?_ w' hw⟩
  rw[h5,if_pos rfl,Jv (i:=10) (b:=⟨s.f,j3 s,0⟩) JE hs3 I (by decide),hVT,List.set_set]
 ·have h5:s.f.ur=false:=h5
  repeat' (first|refine zh ?_|intro (bk:Nat))
  refine HR.ret Tryz.func90 I [_,_] (fun _ _=>⟨I,I,trivial⟩) ?_
  refine fun w' hw=>⟨v1,rfl,trivial,Ent.JV (by rw[List.length_set];omega) ?_ w' hw⟩
  rw[h5,if_neg (by decide),hVT]
end Go.Proofs.YtgfdoognildoeaaGreat
namespace Go.Proofs.YtgfdoognildoeaaGreat
open Go.GX Go.RowKit
attribute [local irreducible] Calls Run jZ jf JK HR HL HD jT jG JY Rd jK jY
open Nd
theorem jM6 {n:Nat} (h:n≤16) (h2:((n:Int)==16)=false):n≤15:=by
 have h2:(n:Int)≠16:=by simpa using h2
 omega
theorem jNX (l:List Sn) (f:Fr) (v:Value) (w:World) (hv:Sl w v (cellsOf snC l) l.length) (hl:l.length≤1000):
  Calls Tryz.prog 196 #[v,.agg ⟨frC f⟩] w fun e w'=>∃v',e= .returned (.tuple ⟨[v',.bool (jDB l f).2]⟩)∧True∧Sat (base w) [jG v' 131 11 (jDB l f).1.length (cellsOf snC (jDB l f).1)] w':=by
 have h16:(l.take 16).length≤16:=by simp;omega
 have hcl:∀T:List Sn,(cellsOf snC T).length=T.length*11:=jC JE
 refine jD Tryz.func196 I (Nat.le_of_ble_eq_true I) ?_
 refine HR.sub (σ':=[(0,v),(1,.agg ⟨frC f⟩)]) ⟨I,I,trivial⟩ ?_
 repeat' (first|refine zh ?_|refine HL.JQ jQR I I (fun w hw=>jAz l v w ((Rd.arg hv).at hw) hl) ?_|intro (bk:Nat))
 intro v1
 repeat' (first|refine zh ?_|intro (bk:Nat))
 refine HR.cond I (fun h0=>?_) (fun h0=>?_)
 ·have h0:f.ur=false:=by have h0:(!f.ur)=true:=h0;simpa using h0
  rw[jJN h0]
  obtain ⟨T,hT⟩:∃T,T=l.take 16:=⟨_,rfl⟩
  rw[← hT]at h16 ⊢
  repeat' (first|refine zh ?_|refine HL.JN (Rd.own 0 I) I I I ?_|intro (bk:Nat))
  refine HR.cond I (fun h2=>?_) (fun h2=>?_)
  ·have h2:T.length=16:=by have h2:((T.length:Int)==16)=true:=h2;simp at h2;omega
   rw[if_pos h2]
   repeat' (first|refine zh ?_|intro (bk:Nat))
   refine HR.ret Tryz.func196 I [_,_] (fun _ _=>⟨I,I,trivial⟩) ?_
   exact fun w' hw=>⟨v1,rfl,trivial,hw.pick [0] I rfl⟩
  ·have h2:T.length≤15:=jM6 h16 h2
   rw[if_neg (by omega)]
   repeat' (first|refine zh ?_|refine HL.jv zf I I I I I (by decide) (by decide) ?_|intro (bk:Nat))
   intro va
   repeat' (first|refine zh ?_|refine HL.ZN 1 I zf (Rd.own 0 I) I I I I (jF I) (by omega) (by omega) ?_|intro (bk:Nat))
   intro v2
   repeat' (first|refine zh ?_|intro (bk:Nat))
   refine HR.ret Tryz.func196 I [_,_] (fun _ _=>⟨I,I,trivial⟩) ?_
   refine fun w' hw=>⟨v2,rfl,trivial,Ent.JV (by simp) ?_ w' (hw.pick [1] I rfl)⟩
   rw[jP];rfl
 have h0:f.ur=true:=by have h0:(!f.ur)=false:=h0;simpa using h0
 rw[jGT h0]
 obtain ⟨T,hT⟩:∃T,T=l.take 16:=⟨_,rfl⟩
 rw[← hT]at h16 ⊢
 repeat' (first|refine zh ?_|refine HL.JN (Rd.own 0 I) I I I ?_|intro (bk:Nat))
 refine HR.join (ι:=Value×List Sn) (fun i=>i.2.length≤15∧jE0 T f=(ins sur i.2 ⟨f,0,0⟩,true)) (fun i=>[(3,.pointer (some ⟨bk,0,none⟩)),(6,i.1)]) (fun i=>[jG i.1 131 11 i.2.length (cellsOf snC i.2),jT bk (frC f) 75]) (fun i=>?_) (fun hj=>?_)
 ·obtain ⟨u,L⟩:=i
  rintro ⟨hL,e⟩
  have hL:L.length≤15:=hL
  have e:jE0 T f=(ins sur L ⟨f,0,0⟩,true):=e
  rw[e]
  repeat' (first|refine zh ?_|intro (bk:Nat))
  refine HR.loop (ι:=Nat) (fun b=>b≤L.length∧∀k a,k<b→L[k]? =some a→sur a=true) (fun b=>[(3,.pointer (some ⟨bk,0,none⟩)),(6,u),(8,.int .i64 (b:Int))]) (fun _=>[jG u 131 11 L.length (cellsOf snC L),jT bk (frC f) 75]) (fun b=>L.length-b) 0 ⟨Nat.zero_le _,fun k a hk=>absurd hk (Nat.not_lt_zero _)⟩ ⟨I,I,I,trivial⟩ Ent.refl ?_
  rintro b ⟨hb,hg⟩ ih
  repeat' (first|refine zh ?_|refine HL.JN (Rd.own 0 I) I I I ?_|refine HL.JA (Rd.own 0 I) zf b I I I I (by omega) ?_|refine HL.jo 0 (Rd.own 0 I) (by rw[hcl];omega) I I I I I I I ?_|refine HL.jo 7 (Rd.own 0 I) (by rw[hcl];omega) I I I I I I I ?_|refine HL.ji (Rd.own 0 I) I I I I (jQ JE (zW (by omega) sn0) (i:=7) I) ?_|apply zb ?_ ?_|exact zc|(refine zi fun hb=>?_;try simp at hb)|intro (bk:Nat))
  refine HR.cond I (fun h3=>?_) (fun h3=>?_)
  ·have h3:(decide ((b:Int)<L.length)&&(L.getD b sn0).f.ur)=true:=h3
   simp only[Bool.and_eq_true,decide_eq_true_eq]at h3
   repeat' (first|refine zh ?_|intro (bk:Nat))
   refine ih (b+1) _ _ ⟨by omega,fun k a hk ha=>?_⟩ (by omega) ⟨I,I,I,trivial⟩ Ent.refl
   by_cases e2:k=b
   ·subst e2;rw[zW (by omega) sn0]at ha;cases ha;exact h3.2
   ·exact hg k a (by omega) ha
  ·have h3:(decide ((b:Int)<L.length)&&(L.getD b sn0).f.ur)=false:=h3
   have hi:ins sur L ⟨f,0,0⟩=L.take b++⟨f,0,0⟩::L.drop b:=by
    refine jLt hb hg fun a ha=>?_
    have hbl:=(List.getElem?_eq_some_iff.1 ha).1
    rw[zW hbl sn0]at ha;cases ha
    rw[decide_eq_true (show (b:Int)<L.length by omega),Bool.true_and]at h3
    exact h3
   rw[hi]
   repeat' (first|refine zh ?_|refine HL.jv zf I I I I I (by decide) (by decide) ?_|intro (bk:Nat))
   intro va
   repeat' (first|refine zh ?_|refine HL.jPW fn246 I I (fun w hw=>jLu L ⟨f,0,0⟩ b u va _ w (hw.pick [0,1] I I) hb (by omega)) ?_|intro (bk:Nat))
   intro r
   repeat' (first|refine zh ?_|intro (bk:Nat))
   refine HR.ret Tryz.func196 I [_,_] (fun _ _=>⟨I,I,trivial⟩) ?_
   exact fun w' hw=>⟨r,rfl,trivial,hw.pick [0] I rfl⟩
 ·refine HR.cond I (fun h2=>?_) (fun h2=>?_)
  ·have h2:T.length=16:=by have h2:((T.length:Int)==16)=true:=h2;simp at h2;omega
   refine HR.scope ?_
   repeat' (first|refine zh ?_|refine HL.JN (Rd.own 0 I) I I I ?_|intro (bk:Nat))
   refine HR.label ?_
   repeat' (first|refine zh ?_|intro (bk:Nat))
   refine HR.loop (ι:=Nat) (fun a=>a≤16∧∀j x,a≤j→T[j]? =some x→sdr x=false) (fun a=>[(3,.pointer (some ⟨bk,0,none⟩)),(6,v1),(7,.int .i64 ((a:Int)-1))]) (fun _=>[jG v1 131 11 T.length (cellsOf snC T),jT bk (frC f) 75]) (fun a=>a) 16 ⟨Nat.le_refl _,fun j x hj hx=>by have:=(List.getElem?_eq_some_iff.1 hx).1;omega⟩ ⟨rfl,rfl,by show some (Value.int IntKind.i64 ((T.length:Int)-1))=_;rw[h2],trivial⟩ Ent.refl ?_
   rintro a ⟨ha,hg⟩ ih
   repeat' (first|refine zh ?_|intro (bk:Nat))
   refine HR.cond I (fun h3=>?_) (fun h3=>?_)
   ·have h3:((a:Int)-1)≥0:=of_decide_eq_true h3
    obtain ⟨m,rfl⟩:∃m,a=m+1:=⟨a-1,by omega⟩
    have hml:m<T.length:=by omega
    obtain ⟨x,hx⟩:=jJ hml
    repeat' (first|refine zh ?_|refine HL.JA (Rd.own 0 I) zf m I I I (by omega) hml ?_|refine HL.jo 0 (Rd.own 0 I) (by rw[hcl];omega) I I I I I I I ?_|refine HL.jo 7 (Rd.own 0 I) (by rw[hcl];omega) I I I I I I I ?_|refine HL.jo 9 (Rd.own 0 I) (by rw[hcl];omega) I I I I I I I ?_|refine HL.ji (Rd.own 0 I) I I I I (jQ JE hx (i:=7) I) ?_|refine HL.ji (Rd.own 0 I) I I I I (jQ JE hx (i:=9) I) ?_|apply zb ?_ ?_|exact zc|(refine zi fun hb=>?_;try simp at hb)|intro (bk:Nat))
    refine HR.cond I (fun h4=>?_) (fun h4=>?_)
    ·have h4:(x.f.ur||decide (x.tr>0))=true:=h4
     repeat' (first|refine zh ?_|intro (bk:Nat))
     refine ih m _ _ ⟨by omega,fun j y hj hy=>?_⟩ (by omega) ⟨rfl,rfl,by show some (Value.int IntKind.i64 _)=some (Value.int IntKind.i64 _);congr 2;omega,trivial⟩ Ent.refl
     by_cases e:j=m
     ·subst e;rw[hx]at hy;cases hy
      unfold sdr
      rw[Bool.or_eq_true]at h4
      rcases h4 with h4|h4
      ·rw [h4];rfl
      ·rw [decide_eq_false (by have:=of_decide_eq_true h4;omega),Bool.and_false]
     ·exact hg j y (by omega) hy
    ·have h4:(x.f.ur||decide (x.tr>0))=false:=h4
     rw[Bool.or_eq_false_iff]at h4
     have hd:sdr x=true:=by
      unfold sdr
      rw[h4.1,decide_eq_true (by have:=of_decide_eq_false h4.2;omega)];rfl
     have e:=jJP (f:=f) h2 hx hd (fun j b hj hb=>hg j b (by omega) hb)
     refine HR.ZU 7 (v':= .int .i64 (m:Int)) I (by congr 1;omega) ?_
     repeat' (first|refine zh ?_|intro (bk:Nat))
     refine HL.jN2 jNr I I (fun w hw=>jAk T m v1 _ w (hw.pick [0] I I) hml (by omega)) ?_
     intro r
     repeat' (first|refine zh ?_|intro (bk:Nat))
     refine HR.inScope ?_
     exact hj (r,T.eraseIdx m) _ _ ⟨by show (T.eraseIdx m).length≤15;rw[List.length_eraseIdx_of_lt hml];omega,e⟩ ⟨I,I,trivial⟩ Ent.refl
   ·have h3:¬((a:Int)-1)≥0:=of_decide_eq_false h3
    have ha0:a=0:=by omega
    subst ha0
    rw[jJR h2 fun x hx=>by
     obtain ⟨j,hj⟩:=List.getElem?_of_mem hx
     exact hg j x (Nat.zero_le _) hj]
    repeat' (first|refine zh ?_|intro (bk:Nat))
    refine HR.ret Tryz.func196 I [_,_] (fun _ _=>⟨I,I,trivial⟩) ?_
    exact fun w' hw=>⟨v1,rfl,trivial,hw.pick [0] I rfl⟩
  ·have h2:T.length≤15:=jM6 h16 h2
   refine HR.skip ?_
   exact hj (v1,T) _ _ ⟨h2,jJQ h2⟩ ⟨I,I,trivial⟩ Ent.refl
end Go.Proofs.YtgfdoognildoeaaGreat
namespace Go.Proofs.YtgfdoognildoeaaGreat
open Go.GX Go.RowKit
attribute [local irreducible] Calls Run jZ jf JK HR HL HD jT jG JY Rd jK jY
open Nd
theorem fn88:IsFn Tryz.prog 88:=⟨⟨_,_,Tryz.func88,rfl,by decide⟩⟩
theorem fn267:IsFn Tryz.prog 267:=⟨⟨_,_,Tryz.func267,rfl,by decide⟩⟩
theorem fn273:IsFn Tryz.prog 273:=⟨⟨_,_,Tryz.func273,rfl,by decide⟩⟩
theorem fn227:IsFn Tryz.prog 227:=⟨⟨_,_,Tryz.func227,rfl,by decide⟩⟩
theorem fn264:IsFn Tryz.prog 264:=⟨⟨_,_,Tryz.func264,rfl,by decide⟩⟩
theorem fn219:IsFn Tryz.prog 219:=⟨⟨_,_,Tryz.func219,rfl,by decide⟩⟩
def fidx {α:Type} (p:α→Bool) (l:List α):Int:=match l.findIdx? p with
 |some i=>(i:Int)
 |none=>-1
theorem Jk {α:Type} (p:α→Bool) (l:List α):(fidx p l= -1∧l.findIdx? p=none∧∀a∈l,p a=false)∨∃(i:Nat) (a:α),fidx p l=(i:Int)∧l.findIdx? p=some i∧l[i]? =some a∧p a=true∧∀j b,j<i→l[j]? =some b→p b=false:=by
 unfold fidx
 cases h:l.findIdx? p with
 |none=>exact .inl ⟨rfl,rfl,fun a ha=>by have:=List.findIdx?_eq_none_iff.1 h a ha;simpa using this⟩
 |some i=>
  obtain ⟨h1,h2,h3⟩:=List.findIdx?_eq_some_iff_getElem.1 h
  refine .inr ⟨i,l[i],rfl,rfl,List.getElem?_eq_getElem h1,h2,fun j b hj hb=>?_⟩
  obtain ⟨hjl,rfl⟩:=List.getElem?_eq_some_iff.1 hb
  have:=h3 j hj
  simpa using this
theorem kY {α:Type} {p:α→Bool} {l:List α} {i:Nat} {a:α} (ha:l[i]? =some a) (hp:p a=true) (hno:∀j b,j<i→l[j]? =some b→p b=false):fidx p l=(i:Int):=by
 rcases Jk p l with ⟨_,_,h⟩|⟨k,b,e,_,hb,hpb,hk⟩
 ·rw [h a (List.mem_of_getElem? ha)]at hp;cases hp
 ·rw [e]
  rcases Nat.lt_trichotomy k i with h|h|h
  ·rw [hno k b h hb]at hpb;cases hpb
  ·rw [h]
  ·rw [hk i a h ha]at hp;cases hp
theorem zX {α:Type} {p:α→Bool} {l:List α} (hno:∀j b,j<l.length→l[j]? =some b→p b=false):fidx p l= -1:=by
 rcases Jk p l with ⟨h,_⟩|⟨k,b,e,_,hb,hpb,hk⟩
 ·exact h
 ·rw [hno k b (List.getElem?_eq_some_iff.1 hb).1 hb]at hpb;cases hpb
theorem jBf {α:Type} (p:α→Bool) (l:List α):decide (fidx p l≥0)=l.any p:=by
 rcases Jk p l with ⟨h,_,h2⟩|⟨k,b,e,_,hb,hpb,hk⟩
 ·rw [h,decide_eq_false (by decide)]
  symm
  rw[← Bool.not_eq_true,List.any_eq_true]
  rintro ⟨a,ha,hp⟩
  rw[h2 a ha]at hp;cases hp
 ·rw [e,decide_eq_true (by omega)]
  exact (List.any_eq_true.2 ⟨b,List.mem_of_getElem? hb,hpb⟩).symm
def jPa (P:Program) (g:FuncId) (caps:List Value) {α:Type} (E:α→Value) (p:α→Bool) (l:List α) (w:World):Prop:=
 ∀a∈l,∀w',Below w.heap.size w w'→Calls P g ((E a::caps).toArray) w' fun e w''=>e= .returned (.bool (p a))∧Below w'.heap.size w' w''
theorem jBJ (l:List Sn) (p:Sn→Bool) (g:FuncId) (caps:List Value) (v:Value) (w:World) (hg:IsFn Tryz.prog g) (hp:jPa Tryz.prog g caps (fun a=> .agg ⟨snC a⟩) p l w) (hv:Sl w v (cellsOf snC l) l.length) (hl:l.length≤1000000):
  Calls Tryz.prog 88 #[v,.func (.func g) #[] caps.toArray] w fun e w'=>e= .returned (.int .i64 (fidx p l))∧Below w.heap.size w w':=by
 refine jD Tryz.func88 I (Nat.le_of_ble_eq_true I) ?_
 refine HR.sub (σ':=[(0,v),(1,.func (.func g) #[] caps.toArray)]) ⟨I,I,trivial⟩ ?_
 repeat' (first|refine zh ?_|refine HL.JN (Rd.arg hv) I I I ?_|intro (bk:Nat))
 refine HR.loop (ι:=Nat) (fun k=>k≤l.length∧∀j b,j<k→l[j]? =some b→p b=false) (fun k=>[(0,v),(1,.func (.func g) #[] caps.toArray),(7,.int .i64 (l.length:Int)),(8,.int .i64 (k:Int))]) (fun _=>[]) (fun k=>l.length-k) 0 ⟨Nat.zero_le _,fun j b hj=>absurd hj (Nat.not_lt_zero _)⟩ ⟨I,I,I,I,trivial⟩ Ent.refl ?_
 rintro k ⟨hk,hno⟩ ih
 repeat' (first|refine zh ?_|intro (bk:Nat))
 refine HR.cond I (fun h2=>?_) (fun h2=>?_)
 ·have hlt:k<l.length:=by have:=of_decide_eq_true h2;omega
  obtain ⟨x,hx⟩:=jJ hlt
  repeat' (first|refine zh ?_|refine HL.JA (Rd.arg hv) zf k I I I I hlt ?_|refine HL.JW (Rd.arg hv) I I I I (by simp) I (jH JE hx) ?_|refine HL.jEF (caps:=caps) hg I I I (fun w' hw=>hp x (List.mem_of_getElem? hx) w' hw.jE) ?_|intro (bk:Nat))
  refine HR.cond I (fun h3=>?_) (fun h3=>?_)
  ·have h3:p x=true:=h3
   repeat' (first|refine zh ?_|intro (bk:Nat))
   refine HR.ret Tryz.func88 I [_] (fun _ _=>⟨I,trivial⟩) ?_
   rw[kY hx h3 hno]
   exact fun w' hw=>⟨rfl,hw.jE⟩
  ·have h3:p x=false:=h3
   repeat' (first|refine zh ?_|intro (bk:Nat))
   refine ih (k+1) _ _ ⟨hlt,fun j b hj hb=>?_⟩ (by omega) ⟨I,I,I,I,trivial⟩ Ent.refl
   by_cases e:j=k
   ·subst e;rw[hx]at hb;cases hb;exact h3
   ·exact hno j b (by omega) hb
 ·have hke:k=l.length:=by have:=of_decide_eq_false h2;omega
  subst hke
  rw[zX hno]
  repeat' (first|refine zh ?_|intro (bk:Nat))
  refine HR.ret Tryz.func88 I [_] (fun _ _=>⟨I,trivial⟩) ?_
  exact fun w' hw=>⟨rfl,hw.jE⟩
theorem jGi (l:List Sn) (p:Sn→Bool) (g:FuncId) (caps:List Value) (v:Value) (w:World) (hg:IsFn Tryz.prog g) (hp:jPa Tryz.prog g caps (fun a=> .agg ⟨snC a⟩) p l w) (hv:Sl w v (cellsOf snC l) l.length) (hl:l.length≤1000000):
  Calls Tryz.prog 264 #[v,.func (.func g) #[] caps.toArray] w fun e w'=>e= .returned (.bool (l.any p))∧Below w.heap.size w w':=by
 rw[← jBf]
 refine jD Tryz.func264 I (Nat.le_of_ble_eq_true I) ?_
 refine HR.sub (σ':=[(0,v),(1,.func (.func g) #[] caps.toArray)]) ⟨I,I,trivial⟩ ?_
 repeat' (first|refine zh ?_|intro (bk:Nat))
 refine HL.jR fn88 I I (fun w' hw=>jBJ l p g caps v w' hg (fun a ha w2 hb=>hp a ha w2 (GX.Below.seq hw.jE hb)) ((Rd.arg hv).at hw) hl) ?_
 repeat' (first|refine zh ?_|intro (bk:Nat))
 refine HR.ret Tryz.func264 I [_] (fun _ _=>⟨I,trivial⟩) ?_
 exact fun w' hw=>⟨rfl,hw.jE⟩
theorem jE9 (l:List Ma) (p:Ma→Bool) (g:FuncId) (caps:List Value) (v:Value) (w:World) (hg:IsFn Tryz.prog g) (hp:jPa Tryz.prog g caps (fun a=> .agg ⟨maC a⟩) p l w) (hv:Sl w v (cellsOf maC l) l.length) (hl:l.length≤1000000):
  Calls Tryz.prog 267 #[v,.func (.func g) #[] caps.toArray] w fun e w'=>e= .returned (.int .i64 (fidx p l))∧Below w.heap.size w w':=by
 refine jD Tryz.func267 I (Nat.le_of_ble_eq_true I) ?_
 refine HR.sub (σ':=[(0,v),(1,.func (.func g) #[] caps.toArray)]) ⟨I,I,trivial⟩ ?_
 repeat' (first|refine zh ?_|refine HL.JN (Rd.arg hv) I I I ?_|intro (bk:Nat))
 refine HR.loop (ι:=Nat) (fun k=>k≤l.length∧∀j b,j<k→l[j]? =some b→p b=false) (fun k=>[(0,v),(1,.func (.func g) #[] caps.toArray),(7,.int .i64 (l.length:Int)),(8,.int .i64 (k:Int))]) (fun _=>[]) (fun k=>l.length-k) 0 ⟨Nat.zero_le _,fun j b hj=>absurd hj (Nat.not_lt_zero _)⟩ ⟨I,I,I,I,trivial⟩ Ent.refl ?_
 rintro k ⟨hk,hno⟩ ih
 repeat' (first|refine zh ?_|intro (bk:Nat))
 refine HR.cond I (fun h2=>?_) (fun h2=>?_)
 ·have hlt:k<l.length:=by have:=of_decide_eq_true h2;omega
  obtain ⟨x,hx⟩:=jJ hlt
  repeat' (first|refine zh ?_|refine HL.JA (Rd.arg hv) ZM k I I I I hlt ?_|refine HL.JW (Rd.arg hv) I I I I (by simp) I (jH zU hx) ?_|refine HL.jEF (caps:=caps) hg I I I (fun w' hw=>hp x (List.mem_of_getElem? hx) w' hw.jE) ?_|intro (bk:Nat))
  refine HR.cond I (fun h3=>?_) (fun h3=>?_)
  ·have h3:p x=true:=h3
   repeat' (first|refine zh ?_|intro (bk:Nat))
   refine HR.ret Tryz.func267 I [_] (fun _ _=>⟨I,trivial⟩) ?_
   rw[kY hx h3 hno]
   exact fun w' hw=>⟨rfl,hw.jE⟩
  ·have h3:p x=false:=h3
   repeat' (first|refine zh ?_|intro (bk:Nat))
   refine ih (k+1) _ _ ⟨hlt,fun j b hj hb=>?_⟩ (by omega) ⟨I,I,I,I,trivial⟩ Ent.refl
   by_cases e:j=k
   ·subst e;rw[hx]at hb;cases hb;exact h3
   ·exact hno j b (by omega) hb
 ·have hke:k=l.length:=by have:=of_decide_eq_false h2;omega
  subst hke
  rw[zX hno]
  repeat' (first|refine zh ?_|intro (bk:Nat))
  refine HR.ret Tryz.func267 I [_] (fun _ _=>⟨I,trivial⟩) ?_
  exact fun w' hw=>⟨rfl,hw.jE⟩
theorem jE7 (l:List Ro) (p:Ro→Bool) (g:FuncId) (caps:List Value) (v:Value) (w:World) (hg:IsFn Tryz.prog g) (hp:jPa Tryz.prog g caps (fun a=> .agg ⟨roC a⟩) p l w) (hv:Sl w v (cellsOf roC l) l.length) (hl:l.length≤1000000):
  Calls Tryz.prog 273 #[v,.func (.func g) #[] caps.toArray] w fun e w'=>e= .returned (.int .i64 (fidx p l))∧Below w.heap.size w w':=by
 refine jD Tryz.func273 I (Nat.le_of_ble_eq_true I) ?_
 refine HR.sub (σ':=[(0,v),(1,.func (.func g) #[] caps.toArray)]) ⟨I,I,trivial⟩ ?_
 repeat' (first|refine zh ?_|refine HL.JN (Rd.arg hv) I I I ?_|intro (bk:Nat))
 refine HR.loop (ι:=Nat) (fun k=>k≤l.length∧∀j b,j<k→l[j]? =some b→p b=false) (fun k=>[(0,v),(1,.func (.func g) #[] caps.toArray),(7,.int .i64 (l.length:Int)),(8,.int .i64 (k:Int))]) (fun _=>[]) (fun k=>l.length-k) 0 ⟨Nat.zero_le _,fun j b hj=>absurd hj (Nat.not_lt_zero _)⟩ ⟨I,I,I,I,trivial⟩ Ent.refl ?_
 rintro k ⟨hk,hno⟩ ih
 repeat' (first|refine zh ?_|intro (bk:Nat))
 refine HR.cond I (fun h2=>?_) (fun h2=>?_)
 ·have hlt:k<l.length:=by have:=of_decide_eq_true h2;omega
  obtain ⟨x,hx⟩:=jJ hlt
  repeat' (first|refine zh ?_|refine HL.JA (Rd.arg hv) Je k I I I I hlt ?_|refine HL.JW (Rd.arg hv) I I I I (by simp) I (jH jq hx) ?_|refine HL.jEF (caps:=caps) hg I I I (fun w' hw=>hp x (List.mem_of_getElem? hx) w' hw.jE) ?_|intro (bk:Nat))
  refine HR.cond I (fun h3=>?_) (fun h3=>?_)
  ·have h3:p x=true:=h3
   repeat' (first|refine zh ?_|intro (bk:Nat))
   refine HR.ret Tryz.func273 I [_] (fun _ _=>⟨I,trivial⟩) ?_
   rw[kY hx h3 hno]
   exact fun w' hw=>⟨rfl,hw.jE⟩
  ·have h3:p x=false:=h3
   repeat' (first|refine zh ?_|intro (bk:Nat))
   refine ih (k+1) _ _ ⟨hlt,fun j b hj hb=>?_⟩ (by omega) ⟨I,I,I,I,trivial⟩ Ent.refl
   by_cases e:j=k
   ·subst e;rw[hx]at hb;cases hb;exact h3
   ·exact hno j b (by omega) hb
 ·have hke:k=l.length:=by have:=of_decide_eq_false h2;omega
  subst hke
  rw[zX hno]
  repeat' (first|refine zh ?_|intro (bk:Nat))
  refine HR.ret Tryz.func273 I [_] (fun _ _=>⟨I,trivial⟩) ?_
  exact fun w' hw=>⟨rfl,hw.jE⟩
theorem jGj (l:List Ro) (p:Ro→Bool) (g:FuncId) (caps:List Value) (v:Value) (w:World) (hg:IsFn Tryz.prog g) (hp:jPa Tryz.prog g caps (fun a=> .agg ⟨roC a⟩) p l w) (hv:Sl w v (cellsOf roC l) l.length) (hl:l.length≤1000000):
  Calls Tryz.prog 219 #[v,.func (.func g) #[] caps.toArray] w fun e w'=>e= .returned (.bool (l.any p))∧Below w.heap.size w w':=by
 rw[← jBf]
 refine jD Tryz.func219 I (Nat.le_of_ble_eq_true I) ?_
 refine HR.sub (σ':=[(0,v),(1,.func (.func g) #[] caps.toArray)]) ⟨I,I,trivial⟩ ?_
 repeat' (first|refine zh ?_|intro (bk:Nat))
 refine HL.jR fn273 I I (fun w' hw=>jE7 l p g caps v w' hg (fun a ha w2 hb=>hp a ha w2 (GX.Below.seq hw.jE hb)) ((Rd.arg hv).at hw) hl) ?_
 repeat' (first|refine zh ?_|intro (bk:Nat))
 refine HR.ret Tryz.func219 I [_] (fun _ _=>⟨I,trivial⟩) ?_
 exact fun w' hw=>⟨rfl,hw.jE⟩
theorem jGc (l:List Int) (p:Int→Bool) (g:FuncId) (caps:List Value) (v:Value) (w:World) (hg:IsFn Tryz.prog g) (hp:jPa Tryz.prog g caps (fun a=> .int .i64 a) p l w) (hv:Sl w v (cellsOf iC l) l.length) (hl:l.length≤1000000):
  Calls Tryz.prog 227 #[v,.func (.func g) #[] caps.toArray] w fun e w'=>e= .returned (.int .i64 (fidx p l))∧Below w.heap.size w w':=by
 refine jD Tryz.func227 I (Nat.le_of_ble_eq_true I) ?_
 refine HR.sub (σ':=[(0,v),(1,.func (.func g) #[] caps.toArray)]) ⟨I,I,trivial⟩ ?_
 repeat' (first|refine zh ?_|refine HL.JN (Rd.arg hv) I I I ?_|intro (bk:Nat))
 refine HR.loop (ι:=Nat) (fun k=>k≤l.length∧∀j b,j<k→l[j]? =some b→p b=false) (fun k=>[(0,v),(1,.func (.func g) #[] caps.toArray),(7,.int .i64 (l.length:Int)),(8,.int .i64 (k:Int))]) (fun _=>[]) (fun k=>l.length-k) 0 ⟨Nat.zero_le _,fun j b hj=>absurd hj (Nat.not_lt_zero _)⟩ ⟨I,I,I,I,trivial⟩ Ent.refl ?_
 rintro k ⟨hk,hno⟩ ih
 repeat' (first|refine zh ?_|intro (bk:Nat))
 refine HR.cond I (fun h2=>?_) (fun h2=>?_)
 ·have hlt:k<l.length:=by have:=of_decide_eq_true h2;omega
  obtain ⟨x,hx⟩:=jJ hlt
  repeat' (first|refine zh ?_|refine HL.JA (Rd.arg hv) Jw k I I I I hlt ?_|refine HL.ji (Rd.arg hv) I I I I (jW hx) ?_|refine HL.jEF (caps:=caps) hg I I I (fun w' hw=>hp x (List.mem_of_getElem? hx) w' hw.jE) ?_|intro (bk:Nat))
  refine HR.cond I (fun h3=>?_) (fun h3=>?_)
  ·have h3:p x=true:=h3
   repeat' (first|refine zh ?_|intro (bk:Nat))
   refine HR.ret Tryz.func227 I [_] (fun _ _=>⟨I,trivial⟩) ?_
   rw[kY hx h3 hno]
   exact fun w' hw=>⟨rfl,hw.jE⟩
  ·have h3:p x=false:=h3
   repeat' (first|refine zh ?_|intro (bk:Nat))
   refine ih (k+1) _ _ ⟨hlt,fun j b hj hb=>?_⟩ (by omega) ⟨I,I,I,I,trivial⟩ Ent.refl
   by_cases e:j=k
   ·subst e;rw[hx]at hb;cases hb;exact h3
   ·exact hno j b (by omega) hb
 ·have hke:k=l.length:=by have:=of_decide_eq_false h2;omega
  subst hke
  rw[zX hno]
  repeat' (first|refine zh ?_|intro (bk:Nat))
  refine HR.ret Tryz.func227 I [_] (fun _ _=>⟨I,trivial⟩) ?_
  exact fun w' hw=>⟨rfl,hw.jE⟩
end Go.Proofs.YtgfdoognildoeaaGreat
namespace Go.Proofs.YtgfdoognildoeaaGreat
open Go.GX Go.RowKit
attribute [local irreducible] Calls Run jZ jf JK HR HL HD jT jG JY Rd jK jY
open Nd
theorem jQN:IsFn Tryz.prog 205:=⟨⟨_,_,Tryz.func205,rfl,by decide⟩⟩
theorem jRq:IsFn Tryz.prog 206:=⟨⟨_,_,Tryz.func206,rfl,by decide⟩⟩
theorem fn213:IsFn Tryz.prog 213:=⟨⟨_,_,Tryz.func213,rfl,by decide⟩⟩
theorem fn268:IsFn Tryz.prog 268:=⟨⟨_,_,Tryz.func268,rfl,by decide⟩⟩
theorem jRi:IsFn Tryz.prog 221:=⟨⟨_,_,Tryz.func221,rfl,by decide⟩⟩
theorem fn151:IsFn Tryz.prog 151:=⟨⟨_,_,Tryz.func151,rfl,by decide⟩⟩
def ma0:Ma:=⟨fr0,0⟩
theorem jAM (n:Int):0≤tick n∧tick n≤1099511627776:=by
 have e:(1099511627776:Int)=JU:=rfl
 unfold tick clamp;rw[← e];omega
theorem jDx (l:List Ma) (v:Value) (w0 w:World) (hv:Sl w0 v (cellsOf maC l) l.length):
  Calls Tryz.prog 205 #[v] w fun e w'=>∃v',e= .returned v'∧Sl w0 v' (cellsOf maC (l.take 16)) (l.take 16).length∧Sat (base w) [] w':=by
 obtain ⟨hsl,ad,c,rfl,hc⟩:=hv
 have h0:min 16 l.length≤l.length:=Nat.min_le_right _ _
 refine jD Tryz.func205 I (Nat.le_of_ble_eq_true I) ?_
 refine HR.sub (σ':=[(0,.slice ad l.length c)]) ⟨I,trivial⟩ ?_
 repeat' (first|refine zh ?_|intro (bk:Nat))
 refine HL.ZU 8 (v':= .int .i64 ((min 16 l.length:Nat):Int)) I (by rw[jP3]) ?_
 refine HL.ZU 9 (v':= .int .i64 ((min 16 l.length:Nat):Int)) I (by rw[jP3]) ?_
 repeat' (first|refine zh ?_|refine HL.cut (sz:=10) 0 (min 16 l.length) (min 16 l.length) I I I I (.inl ⟨rfl,rfl⟩) (.inr ⟨_,_,rfl,rfl⟩) (.inr ⟨_,_,rfl,rfl⟩) (Nat.zero_le _) (Nat.le_refl _) (by omega) ?_|intro (bk:Nat))
 refine HR.ret Tryz.func205 I [_] (fun _ _=>⟨I,trivial⟩) ?_
 refine fun w' hw=>⟨_,rfl,?_,hw⟩
 have hlen:(l.take 16).length=min 16 l.length:=List.length_take
 rw[hlen]
 show Sl w0 (cutV 10 ad 0 (min 16 l.length) (min 16 l.length)) _ _
 refine ⟨?_,_,_,rfl,by simp⟩
 rcases hsl with ⟨h1,h2,h3⟩|⟨b,off,cap,he,h1⟩
 ·have hz:l=[]:=List.eq_nil_of_length_eq_zero h2
  subst hz
  refine .inl ⟨?_,rfl,rfl⟩
  rcases h1 with h1|⟨a,c',h1⟩
  ·cases h1;exact .inl I
  ·cases h1;exact .inr ⟨_,_,rfl⟩
 ·cases he
  refine .inr ⟨b,off,min 16 l.length,?_,fun j u hu=>?_⟩
  ·unfold cutV
   simp only[Nat.zero_mul,Nat.sub_zero,Option.map_some]
   congr 1
   split<;>rfl
  ·refine h1 j u ?_
   have e:cellsOf maC (l.take 16)=(cellsOf maC l).take (16*10):=(JJ zU 16 l).symm
   rw[e]at hu
   rw[List.getElem?_take]at hu
   split at hu
   ·exact hu
   ·cases hu
theorem jBF (m:Ma) (now life:Int) (w:World):Calls Tryz.prog 206 #[.agg ⟨maC m⟩,.int .i64 now,.int .i64 life] w fun e w'=>e= .returned (.bool (bold now life m))∧Below w.heap.size w w':=by
 have t1:=jAM now
 have t2:=jAM m.si
 have t3:=jAM life
 refine jD Tryz.func206 I (Nat.le_of_ble_eq_true I) ?_
 refine HR.sub (σ':=[(0,.agg ⟨maC m⟩),(1,.int .i64 now),(2,.int .i64 life)]) ⟨I,I,I,trivial⟩ ?_
 repeat' (first|refine zh ?_|intro (bk:Nat))
 refine HR.j4 [(0,true),(2,true),(3,true),(6,true),(1,false),(4,false),(5,true),(7,false),(8,true),(9,true)] [0] I I Jc (by kernel_rfl) ?_
 repeat' (first|refine zd ?_|refine HD.jR [0] I I jQM I I I (fun w _=>jGS _ w) ?_|refine HD.field I I I ?_)
 refine HD.nil ?_
 repeat' (first|refine zh ?_|intro (bk:Nat))
 refine HR.ret Tryz.func206 I [_] (fun _ _=>⟨I,trivial⟩) ?_
 exact fun w' hw=>⟨rfl,hw.jE⟩
theorem jLZ (m:Ma) (w:World):Calls Tryz.prog 268 #[.agg ⟨maC m⟩] w fun e w'=>e= .returned (.bool (bdr m))∧Below w.heap.size w w':=by
 refine jD Tryz.func268 I (Nat.le_of_ble_eq_true I) ?_
 refine HR.sub (σ':=[(0,.agg ⟨maC m⟩)]) ⟨I,trivial⟩ ?_
 repeat' (first|refine zh ?_|intro (bk:Nat))
 refine HR.ret Tryz.func268 I [_] (fun _ _=>⟨I,trivial⟩) ?_
 exact fun w' hw=>⟨rfl,hw.jE⟩
theorem jJ3 {q:List Ma} {f:Fr} {now:Int} (h:f.ur=false):jEQ q f now=if (q.take 16).length=16 then (q.take 16,false)else (q.take 16++[⟨f,tick now⟩],true):=by unfold jEQ jMd;rw[if_pos (show bur ⟨f,tick now⟩=false from h)]
def jFX (T:List Ma) (x:Ma):List Ma×Bool:=if T.length=16 then (match lastIdx bdr T with
  |none=>(T,false)
  |some i=>(ins bur (T.eraseIdx i) x,true))else (ins bur T x,true)
theorem jGp {q:List Ma} {f:Fr} {now:Int} (h:f.ur=true):jEQ q f now=jFX (q.take 16) ⟨f,tick now⟩:=by unfold jEQ jMd;rw[if_neg (show ¬bur ⟨f,tick now⟩=false by rw[show bur ⟨f,tick now⟩=f.ur from rfl,h];decide)];rfl
theorem jJ5 {T:List Ma} {x:Ma} (h:T.length≤15):jFX T x=(ins bur T x,true):=if_neg (by omega)
theorem jJ6 {T:List Ma} {x:Ma} (h:T.length=16) (h2:∀a∈T,bdr a=false):jFX T x=(T,false):=by unfold jFX;rw[if_pos h,K8 h2]
theorem jJ4 {T:List Ma} {x:Ma} {i:Nat} {a:Ma} (h:T.length=16) (ha:T[i]? =some a) (hp:bdr a=true) (hj:∀j b,i<j→T[j]? =some b→bdr b=false):jFX T x=(ins bur (T.eraseIdx i) x,true):=by unfold jFX;rw[if_pos h,jDH ha hp hj]
theorem jN4 (l:List Ma) (f:Fr) (now:Int) (v:Value) (w:World) (hv:Sl w v (cellsOf maC l) l.length) (hl:l.length≤1000):
  Calls Tryz.prog 213 #[v,.agg ⟨frC f⟩,.int .i64 now] w fun e w'=>∃v',e= .returned (.tuple ⟨[v',.bool (jEQ l f now).2]⟩)∧True∧Sat (base w) [jG v' 166 10 (jEQ l f now).1.length (cellsOf maC (jEQ l f now).1)] w':=by
 have h16:(l.take 16).length≤16:=by simp;omega
 have hcl:∀T:List Ma,(cellsOf maC T).length=T.length*10:=jC zU
 refine jD Tryz.func213 I (Nat.le_of_ble_eq_true I) ?_
 refine HR.sub (σ':=[(0,v),(1,.agg ⟨frC f⟩),(2,.int .i64 now)]) ⟨I,I,I,trivial⟩ ?_
 repeat' (first|refine zh ?_|intro (bk:Nat))
 refine HR.join (ι:=Nat) (fun _=>True) (fun b=>[(0,v),(4,.pointer (some ⟨bk,0,none⟩)),(8,.pointer (some ⟨b,0,none⟩))]) (fun b=>[jT b (maC ⟨f,tick now⟩) 166,jT bk (frC f) 75]) (fun b8 _=>?_) (fun hj=>?_)
 ·obtain ⟨x,hx⟩:∃x:Ma,x=⟨f,tick now⟩:=⟨_,rfl⟩
  have hxu:x.f.ur=f.ur:=by rw[hx]
  rw[← hx]
  repeat' (first|refine zh ?_|intro (bk:Nat))
  refine HL.JC (r:=fun v':Value=>v') (Q:=fun v'=>Sl w v' (cellsOf maC (l.take 16)) (l.take 16).length) (G:=fun _=>[]) jQN I I (fun w1 _=>jDx l v w w1 hv) ?_
  intro vb hvb
  repeat' (first|refine zh ?_|refine HL.JQ jQU I I (fun w1 hw1=>jAG (l.take 16) vb w1 ((Rd.arg hvb).at hw1) (by omega)) ?_|intro (bk:Nat))
  intro v1
  repeat' (first|refine zh ?_|intro (bk:Nat))
  refine HR.cond I (fun h0=>?_) (fun h0=>?_)
  ·have h0:f.ur=false:=by have h0:(!f.ur)=true:=h0;simpa using h0
   rw[jJ3 h0,← hx]
   obtain ⟨T,hT⟩:∃T,T=l.take 16:=⟨_,rfl⟩
   rw[← hT]at h16 ⊢
   repeat' (first|refine zh ?_|refine HL.JN (Rd.own 0 I) I I I ?_|intro (bk:Nat))
   refine HR.cond I (fun h2=>?_) (fun h2=>?_)
   ·have h2:T.length=16:=by have h2:((T.length:Int)==16)=true:=h2;simp at h2;omega
    rw[if_pos h2]
    repeat' (first|refine zh ?_|intro (bk:Nat))
    refine HR.ret Tryz.func213 I [_,_] (fun _ _=>⟨I,I,trivial⟩) ?_
    exact fun w' hw=>⟨v1,rfl,trivial,hw.pick [0] I rfl⟩
   ·have h2:T.length≤15:=jM6 h16 h2
    rw[if_neg (by omega)]
    repeat' (first|refine zh ?_|refine HL.jv ZM I I I I I (by decide) (by decide) ?_|intro (bk:Nat))
    intro va
    repeat' (first|refine zh ?_|refine HL.ZN 1 I ZM (Rd.own 0 I) I I I I (jF I) (by omega) (by omega) ?_|intro (bk:Nat))
    intro v2
    repeat' (first|refine zh ?_|intro (bk:Nat))
    refine HR.ret Tryz.func213 I [_,_] (fun _ _=>⟨I,I,trivial⟩) ?_
    refine fun w' hw=>⟨v2,rfl,trivial,Ent.JV (by simp) ?_ w' (hw.pick [1] I rfl)⟩
    rw[jP];rfl
  have h0:f.ur=true:=by have h0:(!f.ur)=false:=h0;simpa using h0
  rw[jGp h0,← hx]
  obtain ⟨T,hT⟩:∃T,T=l.take 16:=⟨_,rfl⟩
  rw[← hT]at h16 ⊢
  repeat' (first|refine zh ?_|refine HL.JN (Rd.own 0 I) I I I ?_|intro (bk:Nat))
  refine HR.join (ι:=Value×List Ma) (fun i=>i.2.length≤15∧jFX T x=(ins bur i.2 x,true)) (fun i=>[(8,.pointer (some ⟨b8,0,none⟩)),(9,i.1)]) (fun i=>[jG i.1 166 10 i.2.length (cellsOf maC i.2),jT b8 (maC x) 166]) (fun i=>?_) (fun hj=>?_)
  ·obtain ⟨u,L⟩:=i
   rintro ⟨hL,e⟩
   have hL:L.length≤15:=hL
   have e:jFX T x=(ins bur L x,true):=e
   rw[e]
   repeat' (first|refine zh ?_|refine HL.jR fn267 I I (fun w1 hw1=>jE9 L bdr 268 [] u w1 fn268 (fun a _ w2 _=>jLZ a w2) ((Rd.own 0 rfl).at hw1) (by omega)) ?_|intro (bk:Nat))
   refine HR.join (ι:=Nat) (fun i=>i≤L.length∧ins bur L x=L.take i++x::L.drop i) (fun i=>[(8,.pointer (some ⟨b8,0,none⟩)),(9,u),(11,.int .i64 (i:Int))]) (fun i=>[jG u 166 10 L.length (cellsOf maC L),jT b8 (maC x) 166]) (fun i=>?_) (fun hj2=>?_)
   ·rintro ⟨hi,hins⟩
    rw[hins]
    repeat' (first|refine zh ?_|refine HL.jv ZM I I I I I (by decide) (by decide) ?_|intro (bk:Nat))
    intro va
    repeat' (first|refine zh ?_|refine HL.jPW fn269 I I (fun w hw=>jLx L x i u va _ w (hw.pick [0,1] I I) hi (by omega)) ?_|intro (bk:Nat))
    intro r
    repeat' (first|refine zh ?_|intro (bk:Nat))
    refine HR.ret Tryz.func213 I [_,_] (fun _ _=>⟨I,I,trivial⟩) ?_
    exact fun w' hw=>⟨r,rfl,trivial,hw.pick [0] I rfl⟩
   ·rcases Jk bdr L with ⟨e1,_,e2⟩|⟨i,y,e1,_,hy,hpy,hno⟩
    ·rw [e1]
     refine HR.jy I ?_
     refine HR.region ?_
     repeat' (first|refine zn ?_|refine HL.JN (Rd.own 0 I) I I I ?_|apply zb ?_ ?_|exact zc|(refine zi fun hb=>?_;try simp at hb)|intro (bk:Nat))
     refine hj2 L.length _ _ ⟨Nat.le_refl _,jLt (Nat.le_refl _) (fun k a _ ha=>?_) (fun a ha=>?_)⟩ ⟨I,I,I,trivial⟩ Ent.refl
     ·have:=e2 a (List.mem_of_getElem? ha)
      unfold bdr at this;unfold bur;simpa using this
     ·have:=(List.getElem?_eq_some_iff.1 ha).1;omega
    ·rw [e1]
     refine HR.jr I ?_
     refine HR.skip ?_
     refine hj2 i _ _ ⟨Nat.le_of_lt (List.getElem?_eq_some_iff.1 hy).1,jLt (Nat.le_of_lt (List.getElem?_eq_some_iff.1 hy).1) (fun k a hk ha=>?_) (fun a ha=>?_)⟩ ⟨I,I,I,trivial⟩ Ent.refl
     ·have:=hno k a hk ha
      unfold bdr at this;unfold bur;simpa using this
     ·rw [hy]at ha;cases ha
      unfold bdr at hpy;unfold bur;simpa using hpy
  ·refine HR.cond I (fun h2=>?_) (fun h2=>?_)
   ·have h2:T.length=16:=by have h2:((T.length:Int)==16)=true:=h2;simp at h2;omega
    repeat' (first|refine zh ?_|refine HL.JN (Rd.own 0 I) I I I ?_|intro (bk:Nat))
    refine HR.loop (ι:=Nat) (fun a=>a≤16∧∀j y,a≤j→T[j]? =some y→bdr y=false) (fun a=>[(8,.pointer (some ⟨b8,0,none⟩)),(9,v1),(10,.int .i64 ((a:Int)-1))]) (fun _=>[jG v1 166 10 T.length (cellsOf maC T),jT b8 (maC x) 166]) (fun a=>a) 16 ⟨Nat.le_refl _,fun j y hj hy=>by have:=(List.getElem?_eq_some_iff.1 hy).1;omega⟩ ⟨rfl,rfl,by show some (Value.int IntKind.i64 ((T.length:Int)-1))=_;rw[h2],trivial⟩ (Ent.pick [0,1] I I) ?_
    rintro a ⟨ha,hg⟩ ih
    repeat' (first|refine zh ?_|refine HL.JA (Rd.own 0 I) ZM (a-1) I I I (by omega) (by omega) ?_|refine HL.jo 0 (Rd.own 0 I) (by rw[hcl];omega) I I I I I I I ?_|refine HL.jo 7 (Rd.own 0 I) (by rw[hcl];omega) I I I I I I I ?_|refine HL.ji (Rd.own 0 I) I I I I (jQ zU (zW (by omega) ma0) (i:=7) I) ?_|apply zb ?_ ?_|exact zc|(refine zi fun hb=>?_;try simp at hb)|intro (bk:Nat))
    refine HR.cond I (fun h3=>?_) (fun h3=>?_)
    ·have h3:(decide ((a:Int)-1≥0)&&(T.getD (a-1) ma0).f.ur)=true:=h3
     simp only[Bool.and_eq_true,decide_eq_true_eq]at h3
     repeat' (first|refine zh ?_|intro (bk:Nat))
     refine ih (a-1) _ _ ⟨by omega,fun j y hj hy=>?_⟩ (by omega) ⟨rfl,rfl,by show some (Value.int IntKind.i64 _)=some (Value.int IntKind.i64 _);congr 2;omega,trivial⟩ Ent.refl
     by_cases e:j=a-1
     ·subst e;rw[zW (by omega) ma0]at hy;cases hy
      unfold bdr;rw[h3.2];rfl
     ·exact hg j y (by omega) hy
    ·have h3:(decide ((a:Int)-1≥0)&&(T.getD (a-1) ma0).f.ur)=false:=h3
     rcases Nat.eq_zero_or_pos a with ha0|ha0
     ·subst ha0
      rw[jJ6 h2 fun y hy=>by
       obtain ⟨j,hj⟩:=List.getElem?_of_mem hy
       exact hg j y (Nat.zero_le _) hj]
      repeat' (first|refine zh ?_|intro (bk:Nat))
      refine HR.ret Tryz.func213 I [_,_] (fun _ _=>⟨I,I,trivial⟩) ?_
      exact fun w' hw=>⟨v1,rfl,trivial,hw.pick [0] I rfl⟩
     ·obtain ⟨m,rfl⟩:∃m,a=m+1:=⟨a-1,by omega⟩
      rw[decide_eq_true (by omega),Bool.true_and,Nat.add_sub_cancel]at h3
      have hml:m<T.length:=by omega
      have hd:bdr (T.getD m ma0)=true:=by unfold bdr;rw[h3];rfl
      have e:=jJ4 (x:=x) h2 (zW hml ma0) hd (fun j b hj hb=>hg j b (by omega) hb)
      refine HR.ZU 10 (v':= .int .i64 (m:Int)) I (by congr 1;omega) ?_
      repeat' (first|refine zh ?_|intro (bk:Nat))
      refine HL.jN2 fn266 I I (fun w hw=>jMN T m v1 _ w (hw.pick [0] I I) hml (by omega)) ?_
      intro r
      repeat' (first|refine zn ?_|apply zb ?_ ?_|exact zc|(refine zi fun hb=>?_;try simp at hb)|intro (bk:Nat))
      exact hj (r,T.eraseIdx m) _ _ ⟨by show (T.eraseIdx m).length≤15;rw[List.length_eraseIdx_of_lt hml];omega,e⟩ ⟨I,I,trivial⟩ Ent.refl
   ·have h2:T.length≤15:=jM6 h16 h2
    refine HR.skip ?_
    exact hj (v1,T) _ _ ⟨h2,jJ5 h2⟩ ⟨I,I,trivial⟩ (Ent.pick [0,1] I I)
 ·refine HR.kM [0] I I Jc ?_
  refine za 0 ?_
  refine za 1 ?_
  refine HA.two 2 4 (by kernel_rfl) I I ?_ ?_
  ·refine HL.jR jQM I I (fun w _=>jGS now w) ?_
   refine HL.jh [0] I I ?_
   refine za 3 ?_
   refine HA.one 4 (by kernel_rfl) I ?_
   refine HL.alloc I I ?_
   intro b8
   refine HL.jh [1] I I ?_
   refine HA.one 5 (by kernel_rfl) I ?_
   repeat' (first|refine zn ?_|intro (bk:Nat))
   refine HL.jh [1] I I ?_
   refine HA.done (by kernel_rfl) ?_
   exact hj b8 _ _ trivial ⟨I,I,I,trivial⟩ Ent.refl
  ·refine HL.alloc I I ?_
   intro b8
   refine HL.jh [1] I I ?_
   refine HA.one 2 (by kernel_rfl) I ?_
   refine HL.jR jQM I I (fun w _=>jGS now w) ?_
   refine HL.jh [1] I I ?_
   refine za 3 ?_
   refine HA.one 5 (by kernel_rfl) I ?_
   repeat' (first|refine zn ?_|intro (bk:Nat))
   refine HL.jh [1] I I ?_
   refine HA.done (by kernel_rfl) ?_
   exact hj b8 _ _ trivial ⟨I,I,I,trivial⟩ Ent.refl
end Go.Proofs.YtgfdoognildoeaaGreat
