/- A part of the proof: contracts of the program's functions. Conditions: none. -/
import Derived.Carry
import Derived.Deep.MidRow
import Derived.Deep.Quiet
import Derived.Laws.IdiomRangeMap
import Derived.Laws.MakeOwn
import Derived.Laws.StructEq
import Derived.Laws.Tables
import Derived.Lib.AppendStr
import Derived.Lib.AppendZerosOnto
import Derived.Lib.OthersKept
import Derived.Lib.Overlaps
import Derived.Lib.OwnBridge
import Derived.Lib.SlicesCompact
import Derived.MapKept
import Derived.Orders
import Derived.OrdersHeld
import Derived.Scope
import Derived.Sort.Grow
import Derived.StillTail
import Derived.Test.YtgfdoognildoeaaGreatProg
import Derived.Test.YtgfdoognildoeaaGreatShelf
import Derived.WalkKit
import Derived.WalkLawsBesides
import Derived.WalkSpells
import Derived.Test.YtgfdoognildoeaaGreatQB1
import Derived.Test.YtgfdoognildoeaaGreatQB2
import Derived.Test.YtgfdoognildoeaaGreatQB3
import Derived.Test.YtgfdoognildoeaaGreatQB4
import Derived.Test.YtgfdoognildoeaaGreatQB5
import Derived.Test.YtgfdoognildoeaaGreatQB6
import Derived.Test.YtgfdoognildoeaaGreatQB7
set_option linter.unusedVariables false
set_option linter.unusedSectionVars false
set_option linter.unusedSimpArgs false
set_option maxRecDepth 100000
set_option maxHeartbeats 4000000
namespace Go.Proofs.YtgfdoognildoeaaGreat
open Go.GX Go.RowKit
attribute [local irreducible] Calls Run jg jh JU HR HL HD jU jK Jc Rd jL jd
open Nd
theorem fn260:IsFn Tryz.prog 260:=⟨⟨_,_,Tryz.func260,rfl,by decide⟩⟩
theorem fn262:IsFn Tryz.prog 262:=⟨⟨_,_,Tryz.func262,rfl,by decide⟩⟩
theorem jST:IsFn Tryz.prog 261:=⟨⟨_,_,Tryz.func261,rfl,by decide⟩⟩
theorem jSa:IsFn Tryz.prog 207:=⟨⟨_,_,Tryz.func207,rfl,by decide⟩⟩
theorem jQ3:IsFn Tryz.prog 276:=⟨⟨_,_,Tryz.func276,rfl,by decide⟩⟩
theorem fn152:IsFn Tryz.prog 152:=⟨⟨_,_,Tryz.func152,rfl,by decide⟩⟩
theorem fn223:IsFn Tryz.prog 223:=⟨⟨_,_,Tryz.func223,rfl,by decide⟩⟩
structure RdPt (w:World) (p:PtV):Prop where
 h:Sl w p.vh (cellsOf bC p.pt.hv) p.pt.hv.length
 d:Sl w p.vd (cellsOf sC p.pt.da) p.pt.da.length
theorem RdPt.ext {w w':World} {p:PtV} (h:RdPt w p) (hb:Below w.heap.size w w'):RdPt w' p:=⟨h.h.ext hb,h.d.ext hb⟩
def jBj (p:Pt):Prop:=p.hv.length≤140737488355328∧p.da.length≤8796093022208∧∀s∈p.da,s.length≤9223372036854775807
theorem jLi {p:Pt} {k:Nat} (hk:k<p.hv.length) (h:jKq p k=false):zJ p=false:=by
 unfold zJ
 have:(List.range p.hv.length).all (jKq p)=false:=by
  rw[← Bool.not_eq_true,List.all_eq_true]
  intro h2
  rw[h2 k (List.mem_range.2 hk)]at h;cases h
 rw[this];simp
theorem jLj {p:Pt} (h:jG4 p=true):zJ p=false:=by unfold zJ;rw[h];rfl
theorem jC5 {f:Nat→Bool} {k:Nat} (h:(List.range k).all f=true) (h2:f k=true):(List.range (k+1)).all f=true:=by
 rw[List.range_succ,List.all_append,h];simp[h2]
theorem jKQ (p:PtV) (w:World) (hr:RdPt w p) (hs:jBj p.pt):Calls Tryz.prog 260 #[.agg ⟨ptC p⟩] w fun e w'=>e= .returned (.bool (zJ p.pt))∧Below w.heap.size w w':=by
 obtain ⟨vh,vd,q⟩:=p
 obtain ⟨hh,hd⟩:=hr
 obtain ⟨s1,s2,s3⟩:=hs
 have hh:Sl w vh (cellsOf bC q.hv) q.hv.length:=hh
 have hd:Sl w vd (cellsOf sC q.da) q.da.length:=hd
 refine jB Tryz.func260 I (Nat.le_of_ble_eq_true I) ?_
 refine HR.sub (σ':=[(0,.agg ⟨ptC ⟨vh,vd,q⟩⟩)]) ⟨I,trivial⟩ ?_
 repeat' (first|refine zh ?_|refine HL.j4 (Rd.arg hh) I I I ?_|refine HL.j4 (Rd.arg hd) I I I ?_|apply zb ?_ ?_|exact zc|(refine zi fun hb=>?_;try simp at hb)|intro (bk:Nat))
 refine HR.cond I (fun h=>?_) (fun h=>?_)
 ·have h:jG4 q=true:=h
  rw[jLj h]
  repeat' (first|refine zh ?_|intro (bk:Nat))
  refine HR.ret Tryz.func260 I [_] (fun _ _=>⟨I,trivial⟩) ?_
  exact fun w' hw=>⟨rfl,hw.jE⟩
 have h:jG4 q=false:=h
 have H:=kR h
 have e1:=H.hv
 have e2:=H.da
 have c0:=H.ct0
 have c1:=H.ct1
 repeat' (first|refine zh ?_|refine HL.j4 (Rd.arg hh) I I I ?_|intro (bk:Nat))
 refine HR.loop (ι:=Nat) (fun k=>k≤q.hv.length∧(List.range k).all (jKq q)=true) (fun k=>[(1,.pointer (some ⟨bk,0,none⟩)),(3,.int .i64 ((jLv (q.hv.take k):Nat):Int)),(51,vh),(52,.int .i64 (q.hv.length:Int)),(53,.int .i64 (k:Int))]) (fun _=>[jU bk (ptC ⟨vh,vd,q⟩) 173]) (fun k=>q.hv.length-k) 0 ⟨Nat.zero_le _,rfl⟩ ⟨I,I,I,I,I,trivial⟩ Ent.refl ?_
 rintro k ⟨hk,hall⟩ ih
 have hpl:=jQf (q.hv.take k)
 have htl:(q.hv.take k).length≤k:=by simp;omega
 repeat' (first|refine zh ?_|intro (bk:Nat))
 refine HR.cond I (fun h2=>?_) (fun h2=>?_)
 ·have hlt:k<q.hv.length:=by have:=of_decide_eq_true h2;omega
  obtain ⟨b,hb⟩:=jH hlt
  obtain ⟨d,hdk⟩:=jH (show k<q.da.length by omega)
  have hpo:jKq q k=if b then fits k q.ct (d.length:Int)else decide (d=[]):=by
   unfold jKq
   rw[List.getD_eq_getElem?_getD,List.getD_eq_getElem?_getD,hb,hdk];rfl
  have hps:=jLu hb
  have hdl:=s3 d (List.mem_of_getElem? hdk)
  repeat' (first|refine zh ?_|refine HL.jw (Rd.arg hh) jAR k I I I I hlt ?_|refine HL.jY (Rd.arg hh) I I I I (jV hb) ?_|intro (bk:Nat))
  refine HR.join (ι:=Unit) (fun _=>True) (fun _=>[(1,.pointer (some ⟨bk,0,none⟩)),(3,.int .i64 ((jLv (q.hv.take k):Nat):Int)),(5,.bool b),(51,vh),(52,.int .i64 (q.hv.length:Int)),(53,.int .i64 (k:Int)),(83,.bool (!jKq q k))]) (fun _=>[jU bk (ptC ⟨vh,vd,q⟩) 173]) (fun _ _=>?_) (fun hj=>?_)
  ·refine HR.cond I (fun h3=>?_) (fun h3=>?_)
   ·have h3:jKq q k=false:=by have h3:(!jKq q k)=true:=h3;simpa using h3
    rw[jLi hlt h3]
    repeat' (first|refine zh ?_|intro (bk:Nat))
    refine HR.ret Tryz.func260 I [_] (fun _ _=>⟨I,trivial⟩) ?_
    exact fun w' hw=>⟨rfl,hw.jE⟩
   ·have h3:jKq q k=true:=by have h3:(!jKq q k)=false:=h3;simpa using h3
    have hall':=jC5 hall h3
    repeat' (first|refine zh ?_|intro (bk:Nat))
    refine HR.cond I (fun h4=>?_) (fun h4=>?_)
    ·have h4:b=true:=h4
     rw[h4,if_pos rfl]at hps
     repeat' (first|refine zh ?_|intro (bk:Nat))
     exact ih (k+1) _ _ ⟨hlt,hall'⟩ (by omega) ⟨rfl,by rw[hps];rfl,rfl,rfl,rfl,trivial⟩ Ent.refl
    ·have h4:b=false:=h4
     rw[h4,if_neg (by decide)]at hps
     repeat' (first|refine zh ?_|intro (bk:Nat))
     exact ih (k+1) _ _ ⟨hlt,hall'⟩ (by omega) ⟨rfl,by rw[hps];rfl,rfl,rfl,rfl,trivial⟩ Ent.refl
  ·refine HR.j3 [(0,true),(1,true),(2,true),(3,true),(4,true),(5,true),(6,true),(7,true),(8,true),(9,true),(10,true),(11,true),(12,true),(13,true),(14,true),(15,true),(16,true),(17,true),(18,true),(19,true),(20,true),(21,true),(22,false),(23,true),(24,true),(25,true)] [0] I I JZ (by kernel_rfl) ?_
   cases b with
   |true=>
    rw[if_pos rfl]at hpo
    rw[hpo]at hj
    repeat' (first|refine zd ?_|refine HD.jN [0] I I jSS I I I (fun w _=>jFz k q.ct d.length w (by omega)) ?_|refine HD.jw (Rd.arg hd) Zr k I I I I I (by omega) ?_|refine HD.jY (Rd.arg hd) I I I I I (jV hdk) ?_)
    refine HD.nil ?_
    exact hj () _ _ trivial ⟨I,I,I,I,I,I,I,trivial⟩ Ent.refl
   |false=>
    rw[if_neg (by decide)]at hpo
    rw[hpo]at hj
    by_cases hd0:d=[]
    ·subst hd0
     repeat' (first|refine zd ?_|refine HD.jw (Rd.arg hd) Zr k I I I I I (by omega) ?_|refine HD.jY (Rd.arg hd) I I I I I (jV hdk) ?_)
     refine HD.nil ?_
     exact hj () _ _ trivial ⟨I,I,I,I,I,I,I,trivial⟩ Ent.refl
    ·rw [decide_eq_false hd0]at hj
     repeat' (first|refine zd ?_|refine HD.jw (Rd.arg hd) Zr k I I I I I (by omega) ?_|refine HD.jY (Rd.arg hd) I I I I I (jV hdk) ?_)
     refine HD.jCu 68 true I (by show (d != ([]:By))=true;simpa using hd0) ?_
     repeat' (first|refine zd ?_|fail)
     refine HD.nil ?_
     exact hj () _ _ trivial ⟨I,I,I,I,I,I,I,trivial⟩ Ent.refl
 ·have hke:k=q.hv.length:=by have:=of_decide_eq_false h2;omega
  subst hke
  rw[List.take_length]
  have hpv:zJ q=(decide (((jLv q.hv:Nat):Int)>0)&&decide (((jLv q.hv:Nat):Int)<q.ct)):=by
   unfold zJ
   rw[h,hall]
   simp
  rw[hpv]
  repeat' (first|refine zh ?_|apply zb ?_ ?_|exact zc|(refine zi fun hb=>?_;try simp at hb)|intro (bk:Nat))
  refine HR.ret Tryz.func260 I [_] (fun _ _=>⟨I,trivial⟩) ?_
  exact fun w' hw=>⟨rfl,hw.jE⟩
end Go.Proofs.YtgfdoognildoeaaGreat
namespace Go.Proofs.YtgfdoognildoeaaGreat
open Go.GX Go.RowKit
attribute [local irreducible] Calls Run jg jh JU HR HL HD jU jK Jc Rd jL jd
open Nd
def pfi (l:List Pt) (s i:Int):Int:=fidx (pis s i) l
def pts (L:List PtV):List Pt:=L.map (·.pt)
theorem Zo {L:List PtV} {k:Nat} {x:PtV} (h:L[k]? =some x):(pts L)[k]? =some x.pt:=by unfold pts;rw[List.getElem?_map,h];rfl
theorem JF (L:List PtV):(pts L).length=L.length:=by unfold pts;simp
def jBN (p:PtV):Prop:=(∃ a n c,p.vh= .slice a n c)∧∃a n c,p.vd= .slice a n c
theorem RdPt.sh {w:World} {p:PtV} (h:RdPt w p):jBN p:=by
 obtain ⟨a,c,e,_⟩:=h.h.2
 obtain ⟨a',c',e',_⟩:=h.d.2
 exact ⟨⟨a,_,c,e⟩,⟨a',_,c',e'⟩⟩
theorem jF0 (L:List PtV) (s id:Int) (v:Value) (w:World) (hv:Sl w v (cellsOf ptC L) L.length) (hl:L.length≤1000000) (hsh:∀p∈L,jBN p):
  Calls Tryz.prog 261 #[v,.int .i64 s,.int .i64 id] w fun e w'=>e= .returned (.int .i64 (pfi (pts L) s id))∧Below w.heap.size w w':=by
 refine jB Tryz.func261 I (Nat.le_of_ble_eq_true I) ?_
 refine HR.sub (σ':=[(0,v),(1,.int .i64 s),(2,.int .i64 id)]) ⟨I,I,I,trivial⟩ ?_
 repeat' (first|refine zh ?_|refine HL.j4 (Rd.arg hv) I I I ?_|intro (bk:Nat))
 refine HR.loop (ι:=Nat) (fun k=>k≤L.length∧∀j b,j<k→(pts L)[j]? =some b→pis s id b=false) (fun k=>[(1,.int .i64 s),(2,.int .i64 id),(9,v),(10,.int .i64 (L.length:Int)),(11,.int .i64 (k:Int))]) (fun _=>[]) (fun k=>L.length-k) 0 ⟨Nat.zero_le _,fun j b hj=>absurd hj (Nat.not_lt_zero _)⟩ ⟨I,I,I,I,I,trivial⟩ Ent.refl ?_
 rintro k ⟨hk,hno⟩ ih
 repeat' (first|refine zh ?_|intro (bk:Nat))
 refine HR.cond I (fun h2=>?_) (fun h2=>?_)
 ·have hlt:k<L.length:=by have:=of_decide_eq_true h2;omega
  obtain ⟨x,hx⟩:=jH hlt
  have hs:=hsh x (List.mem_of_getElem? hx)
  obtain ⟨xh,xd,q⟩:=x
  obtain ⟨⟨ah,nh,ch,e1⟩,⟨ad,nd,cd,e2⟩⟩:=hs
  have e1:xh=_:=e1
  have e2:xd=_:=e2
  subst e1
  subst e2
  repeat' (first|refine zh ?_|refine HL.jw (Rd.arg hv) JR k I I I I hlt ?_|refine HL.JB (Rd.arg hv) I I I I (by simp) I (jF JX hx) ?_|apply zb ?_ ?_|exact zc|(refine zi fun hb=>?_;try simp at hb)|intro (bk:Nat))
  refine HR.cond I (fun h3=>?_) (fun h3=>?_)
  ·have h3:pis s id q=true:=h3
   repeat' (first|refine zh ?_|intro (bk:Nat))
   refine HR.ret Tryz.func261 I [_] (fun _ _=>⟨I,trivial⟩) ?_
   have e:pfi (pts L) s id=k:=Zq (Zo hx) h3 hno
   rw[e]
   exact fun w' hw=>⟨rfl,hw.jE⟩
  ·have h3:pis s id q=false:=h3
   repeat' (first|refine zh ?_|intro (bk:Nat))
   refine ih (k+1) _ _ ⟨hlt,fun j b hj hb=>?_⟩ (by omega) ⟨I,I,I,I,I,trivial⟩ (Ent.pick [] I I)
   by_cases e:j=k
   ·subst e;rw[Zo hx]at hb;cases hb;exact h3
   ·exact hno j b (by omega) hb
 ·have hke:k=L.length:=by have:=of_decide_eq_false h2;omega
  subst hke
  have e:pfi (pts L) s id= -1:=zK (fun j b hj hb=>hno j b (by rw[JF]at hj;exact hj) hb)
  rw[e]
  repeat' (first|refine zh ?_|intro (bk:Nat))
  refine HR.ret Tryz.func261 I [_] (fun _ _=>⟨I,trivial⟩) ?_
  exact fun w' hw=>⟨rfl,hw.jE⟩
def ptH (p:PtV):Chunk:=jK p.vh 4 1 p.pt.hv.length (cellsOf bC p.pt.hv)
def ptD (p:PtV):Chunk:=jK p.vd 9 1 p.pt.da.length (cellsOf sC p.pt.da)
theorem Za {α:Type} {E:α→List Value} (hE:∀a,(E a).length=1) (l:List α):(cellsOf E l).length=l.length:=by rw[jC hE,Nat.mul_one]
theorem jPd (p:PtV) (w:World) (hr:RdPt w p) (h0:0<p.pt.hv.length) (h1:0<p.pt.da.length) (h2:p.pt.hv.length≤1000) (h3:p.pt.da.length≤1000):
  Calls Tryz.prog 262 #[.agg ⟨ptC p⟩] w fun e w'=>∃x:Value×Value,e= .returned (.agg ⟨ptC ⟨x.1,x.2,p.pt⟩⟩)∧True∧Sat (base w) [ptH ⟨x.1,x.2,p.pt⟩,ptD ⟨x.1,x.2,p.pt⟩] w':=by
 obtain ⟨vh,vd,q⟩:=p
 obtain ⟨hh,hd⟩:=hr
 have hh:Sl w vh (cellsOf bC q.hv) q.hv.length:=hh
 have hd:Sl w vd (cellsOf sC q.da) q.da.length:=hd
 have h0:0<q.hv.length:=h0
 have h1:0<q.da.length:=h1
 have h2:q.hv.length≤1000:=h2
 have h3:q.da.length≤1000:=h3
 obtain ⟨ah,ch,evh,_⟩:=hh.2
 obtain ⟨ad,cd,evd,_⟩:=hd.2
 subst evh
 subst evd
 refine jB Tryz.func262 I (Nat.le_of_ble_eq_true I) ?_
 refine HR.sub (σ':=[(0,.agg ⟨ptC ⟨.slice ah q.hv.length ch,.slice ad q.da.length cd,q⟩⟩)]) ⟨I,trivial⟩ ?_
 refine HR.ctl I ?_
 refine HR.region ?_
 refine HL.box I I ?_
 intro b1
 refine HL.alloc I I ?_
 intro b2
 repeat' (first|refine zh ?_|intro (bk:Nat))
 obtain ⟨zc,hzc⟩:∃zc:List Value,zc=[.int .i64 0,.int .i64 0,.int .i64 0,.int .i64 0,.slice none 0 0,.slice none 0 0]:=⟨_,rfl⟩
 refine HR.join (ι:=Value×Value) (fun _=>True) (fun x=>[(1,.pointer (some ⟨b1,0,none⟩)),(2,.pointer (some ⟨b2,0,none⟩)),(3,x.1),(4,x.2)]) (fun x=>[jK x.1 4 1 q.hv.length ((List.replicate q.hv.length (jq (.bool false))).flatten),jK x.2 9 1 q.da.length ((List.replicate q.da.length (jq (str []))).flatten),jU b2 [.int .i64 0,.int .i64 0,.int .i64 0,.int .i64 0,.slice none 0 0,.slice none 0 0] 173,jU b1 (ptC ⟨.slice ah q.hv.length ch,.slice ad q.da.length cd,q⟩) 173]) (fun x _=>?_) (fun hj=>?_)
 ·obtain ⟨x1,x2⟩:=x
  have e1:(cellsOf bC q.hv).take (q.hv.length*1)++((List.replicate q.hv.length (jq (.bool false))).flatten).drop (q.hv.length*1)=cellsOf bC q.hv:=by
   rw[List.take_of_length_le (by rw[Za jGF];omega),List.drop_eq_nil_of_le (by rw[jX];exact Nat.le_refl _),List.append_nil]
  have e2:(cellsOf sC q.da).take (q.da.length*1)++((List.replicate q.da.length (jq (str []))).flatten).drop (q.da.length*1)=cellsOf sC q.da:=by
   rw[List.take_of_length_le (by rw[Za jE5];omega),List.drop_eq_nil_of_le (by rw[jX];exact Nat.le_refl _),List.append_nil]
  refine HR.row 0 I h0 fun g1 o1 c1 hv1 _ _=>?_
  have hv1:x1=_:=hv1
  subst hv1
  refine HR.row 1 I h1 fun g2 o2 c2 hv2 _ _=>?_
  have hv2:x2=_:=hv2
  subst hv2
  repeat' (first|refine zh ?_|intro (bk:Nat))
  refine HL.copyV q.hv.length 0 I (Rd.arg hh) I I I I I (by rw[Za jGF];omega) (fun u hu=>jT jQK _ u (List.mem_of_mem_take hu)) (Nat.min_self _) ?_
  repeat' (first|refine zh ?_|intro (bk:Nat))
  refine HL.copyV q.da.length 1 I (Rd.arg hd) I I I I I (by rw[Za jE5];omega) (fun u hu=>jT jP1 _ u (List.mem_of_mem_take hu)) (Nat.min_self _) ?_
  repeat' (first|refine zh ?_|intro (bk:Nat))
  refine HR.ret Tryz.func262 I [_] (fun w hw=>⟨⟨_,rfl,jP hw 2 I I I I rfl⟩,trivial⟩) ?_
  refine fun w' hw=>⟨(.slice (some ⟨g1,o1,none⟩) q.hv.length c1,.slice (some ⟨g2,o2,none⟩) q.da.length c2),rfl,trivial,?_⟩
  have:=hw.pick [0,1] I I
  rw[e1,e2]at this
  exact this
 ·refine HR.kM [1] I I JZ ?_
  refine za 0 ?_
  refine za 1 ?_
  refine za 2 ?_
  refine za 4 ?_
  refine za 5 ?_
  refine za 6 ?_
  refine HA.two 3 7 (by kernel_rfl) I I ?_ ?_
  ·refine HL.kX q.hv.length q.hv.length jAR I I I I I I (Nat.le_refl _) (show 1*q.hv.length≤_ by omega) (by omega) ?_
   intro v3
   refine HL.jm [2] I I ?_
   refine za 8 ?_
   refine HA.one 7 (by kernel_rfl) I ?_
   refine HL.kX q.da.length q.da.length Zr I I I I I I (Nat.le_refl _) (show 16*q.da.length≤_ by omega) (by omega) ?_
   intro v4
   refine HL.jm [3] I I ?_
   refine za 9 ?_
   refine HA.done (by kernel_rfl) ?_
   exact hj (v3,v4) _ _ trivial ⟨I,I,I,I,trivial⟩ (Ent.pick [1,0,2,3] I I)
  ·refine HL.kX q.da.length q.da.length Zr I I I I I I (Nat.le_refl _) (show 16*q.da.length≤_ by omega) (by omega) ?_
   intro v4
   refine HL.jm [2] I I ?_
   refine HA.one 3 (by kernel_rfl) I ?_
   refine HL.kX q.hv.length q.hv.length jAR I I I I I I (Nat.le_refl _) (show 1*q.hv.length≤_ by omega) (by omega) ?_
   intro v3
   refine HL.jm [3] I I ?_
   refine za 8 ?_
   refine za 9 ?_
   refine HA.done (by kernel_rfl) ?_
   exact hj (v3,v4) _ _ trivial ⟨I,I,I,I,trivial⟩ (Ent.pick [0,1,2,3] I I)
end Go.Proofs.YtgfdoognildoeaaGreat
namespace Go.Proofs.YtgfdoognildoeaaGreat
open Go.GX Go.RowKit
attribute [local irreducible] Calls Run jg jh JU HR HL HD jU jK Jc Rd jL jd
open Nd
theorem jBN.lit {p:PtV} (h:jBN p):∃a n c a' n' c',p=⟨.slice a n c,.slice a' n' c',p.pt⟩:=by
 obtain ⟨⟨a,n,c,e⟩,⟨a',n',c',e'⟩⟩:=h
 obtain ⟨vh,vd,q⟩:=p
 have e:vh=_:=e
 have e':vd=_:=e'
 subst e;subst e'
 exact ⟨a,n,c,a',n',c',rfl⟩
theorem jBN.one {p:PtV} (h:jBN p):J9 (ptC p)=true:=by
 obtain ⟨a,n,c,a',n',c',e⟩:=h.lit
 rw[e];rfl
theorem jLo {L:List PtV} (h:∀p∈L,jBN p):∀u∈cellsOf ptC L,u.oneCell'=true:=by
 intro u hu
 unfold cellsOf at hu
 obtain ⟨l,hl,hu⟩:=List.mem_flatten.1 hu
 obtain ⟨p,hp,rfl⟩:=List.mem_map.1 hl
 exact jJ (h p hp).one u hu
def ptG (L:List PtV):List Chunk:=L.flatMap fun p=>[ptH p,ptD p]
theorem kP (L L':List PtV):ptG (L++L')=ptG L++ptG L':=List.flatMap_append
theorem jCG (p:PtV):ptG [p]=[ptH p,ptD p]:=by unfold ptG;simp
theorem jQd (L:List PtV) (d:Nat):(ptG L).Perm (ptG (L.drop d)++ptG (L.take d)):=by
 conv=>lhs;rw[← List.take_append_drop d L]
 rw[kP];exact List.perm_append_comm
theorem jAg {L:List PtV} {i:Nat} {p:PtV} (h:L[i]? =some p):(ptG L).Perm (ptG (L.eraseIdx i)++[ptH p,ptD p]):=by
 obtain ⟨hi,rfl⟩:=List.getElem?_eq_some_iff.1 h
 have e:L=L.take i++L[i]::L.drop (i+1):=by rw[List.getElem_cons_drop,List.take_append_drop]
 conv=>lhs;rw[e]
 rw[List.eraseIdx_eq_take_drop_succ,kP,show L[i]::L.drop (i+1)=[L[i]]++L.drop (i+1)from rfl,kP,kP,jCG,List.append_assoc]
 exact List.Perm.append_left _ List.perm_append_comm
theorem jJ3 (p:PtV→Bool) (L:List PtV):(ptG L).Perm (ptG (L.filter p)++ptG (L.filter fun x=>!p x)):=by
 rw[← kP]
 unfold ptG
 exact (List.filter_append_perm p L).symm.flatMap_right _
theorem jGx (L L':List PtV):pts (L++L')=pts L++pts L':=List.map_append
theorem jPA {l:List Pt} {s i:Int}:(jBD l s i).isNone=decide (pfi l s i<0):=by
 unfold jBD pfi
 rcases Jr (pis s i) l with ⟨e1,e2,_⟩|⟨k,a,e1,e2,_⟩
 ·rw [e1,e2];rfl
 ·rw [e1,e2];simp
theorem jGz (l:List Pt) (k:Nat):((l.take k).foldl KU []).length≤k:=by
 have:=jDP (l.take k) []
 simp at this ⊢;omega
theorem max0n (n m:Nat):(if (n:Int)-m>0 then (n:Int)-m else 0)=((n-m:Nat):Int):=by split<;>omega
structure RdPts (w:World) (v:Value) (l:List PtV):Prop where
 s:Sl w v (cellsOf ptC l) l.length
 r:∀p∈l,RdPt w p
theorem RdPts.ext {w w':World} {v:Value} {l:List PtV} (h:RdPts w v l) (hb:Below w.heap.size w w'):RdPts w' v l:=⟨h.s.ext hb,fun p hp=>(h.r p hp).ext hb⟩
def jEm (x:Value×List PtV) (l:List Pt):Prop:=pts x.2=l∧∀p∈x.2,jBN p
abbrev jGy (x:Value×List PtV):List Chunk:=[jK x.1 173 6 x.2.length (cellsOf ptC x.2),jD (ptG x.2)]
theorem jDj (l:List PtV) (v:Value) (w:World) (hv:RdPts w v l) (hs:∀p∈l,jBj p.pt) (hl:l.length≤1000):
  Calls Tryz.prog 207 #[v] w fun e w'=>∃x:Value×List PtV,e= .returned x.1∧jEm x (zQ (pts l))∧Sat (base w) (jGy x) w':=by
 refine jB Tryz.func207 I (Nat.le_of_ble_eq_true I) ?_
 refine HR.sub (σ':=[(0,v)]) ⟨I,trivial⟩ ?_
 repeat' (first|refine zh ?_|refine HL.j4 (Rd.arg hv.s) I I I ?_|intro (bk:Nat))
 refine HR.zY 173 6 ?_
 refine HR.ent (H':=[jK (.slice none 0 0) 173 6 0 [],jD []]) (Ent.trans Ent.jKt (Ent.pick [1,0] I I)) ?_
 refine HR.jSC (α:=Nat) (β:=Value) (γ:=List PtV) (fun k o L=>k≤l.length∧pts L=((pts l).take k).foldl KU []∧∀p∈L,jBN p) (fun k o L=>[(3,o),(6,v),(7,.int .i64 (l.length:Int)),(8,.int .i64 (k:Int))]) (fun k o L=>jGy (o,L)) (fun k _ _=>l.length-k) 0 (.slice none 0 0) [] ⟨Nat.zero_le _,rfl,fun p hp=>by cases hp⟩ ⟨I,I,I,I,trivial⟩ Ent.refl ?_
 rintro k o L ⟨hk,hL,hsh⟩ ih
 have hLl:L.length≤k:=by have:=jGz (pts l) k;rw[← hL,JF]at this;exact this
 repeat' (first|refine zh ?_|intro (bk:Nat))
 refine HR.cond I (fun h2=>?_) (fun h2=>?_)
 ·have hlt:k<l.length:=by have:=of_decide_eq_true h2;omega
  obtain ⟨x,hx⟩:=jH hlt
  have hxm:=List.mem_of_getElem? hx
  have hrx:=hv.r x hxm
  have hsx:=hs x hxm
  have hst:((pts l).take (k+1)).foldl KU []=KU (((pts l).take k).foldl KU []) x.pt:=jCY _ _ (Zo hx)
  rw[← hL]at hst
  obtain ⟨a,n,c,a',n',c',ex⟩:=hrx.sh.lit
  obtain ⟨q,hq⟩:∃q,q=x.pt:=⟨_,rfl⟩
  rw[← hq]at hst ex hsx
  subst ex
  have hn:=jPA (l:=pts L) (s:=q.so) (i:=q.id)
  repeat' (first|refine zh ?_|refine HL.jw (Rd.arg hv.s) JR k I I I I hlt ?_|refine HL.JB (Rd.arg hv.s) I I I I (by simp) I (jF JX hx) ?_|refine HL.jN fn260 I I (fun w1 hw1=>jKQ ⟨.slice a n c,.slice a' n' c',q⟩ w1 (hrx.ext hw1.jE) hsx) ?_|refine HL.jN jST I I (fun w1 hw1=>jF0 L q.so q.id o w1 ((Rd.own 1 rfl).at hw1) (by omega) hsh) ?_|apply zb ?_ ?_|exact zc|(refine zi fun hb=>?_;try simp at hb)|intro (bk:Nat))
  refine HR.cond I (fun h3=>?_) (fun h3=>?_)
  ·have h3:(zJ q&&decide (pfi (pts L) q.so q.id<0))=true:=h3
   have hp:KU (pts L) q=pts L++[q]:=by unfold KU;rw[hn,if_pos h3]
   rw[hp]at hst
   have hpv:zJ q=true:=by simp only[Bool.and_eq_true]at h3;exact h3.1
   have H:=kR (ZC hpv)
   have i1:=H.hv
   have i2:=H.da
   have i3:=H.ct0
   have i4:=H.ct1
   repeat' (first|refine zh ?_|intro (bk:Nat))
   refine HL.JD (r:=fun y:Value×Value=> .agg ⟨ptC ⟨y.1,y.2,q⟩⟩) (Q:=fun _=>True) (G:=fun y=>[ptH ⟨y.1,y.2,q⟩,ptD ⟨y.1,y.2,q⟩]) fn262 I I (fun w1 hw1=>jPd ⟨.slice a n c,.slice a' n' c',q⟩ w1 (hrx.ext hw1.jE) (show 0<q.hv.length by omega) (show 0<q.da.length by omega) (show q.hv.length≤1000 by omega) (show q.da.length≤1000 by omega)) ?_
   rintro ⟨y1,y2⟩ _
   refine HL.row (v:=y1) (e:=4) (sz:=1) (n:=q.hv.length) (xs:=cellsOf bC q.hv) 0 I (by omega) fun g1 o1 c1 hv1 _ _=>?_
   subst hv1
   refine HL.row (v:=y2) (e:=9) (sz:=1) (n:=q.da.length) (xs:=cellsOf sC q.da) 1 I (by omega) fun g2 o2 c2 hv2 _ _=>?_
   subst hv2
   obtain ⟨P,hP⟩:∃P:PtV,P=⟨.slice (some ⟨g1,o1,none⟩) q.hv.length c1,.slice (some ⟨g2,o2,none⟩) q.da.length c2,q⟩:=⟨_,rfl⟩
   refine HL.jk JR I I I I I (by decide) (by decide) ?_
   intro va
   repeat' (first|refine zh ?_|intro (bk:Nat))
   refine HL.zD 4 I JR (Rd.own 0 I) I I I I (jJ I) (by show (L.length+1)*80≤_;omega) (by show L.length+1≤_;omega) ?_
   intro o3
   repeat' (first|refine zh ?_|intro (bk:Nat))
   refine ih (k+1) o3 (L++[P]) _ _ ⟨hlt,?_,?_⟩ (by omega) ⟨I,I,I,I,trivial⟩ ?_
   ·rw [jGx,hst,hP];rfl
   ·intro p hp
    rcases List.mem_append.1 hp with hp|hp
    ·exact hsh p hp
    ·rw [List.mem_singleton]at hp
     rw[hp,hP]
     exact ⟨⟨_,_,_,rfl⟩,⟨_,_,_,rfl⟩⟩
   ·refine Ent.trans (Ent.pick (H':=[ptH P,ptD P,jD (ptG L),jK o3 173 6 (L++[P]).length (cellsOf ptC (L++[P]))]) [1,2,5,4] ?_ I) (Ent.trans (Ent.group (G:=[ptH P,ptD P])) (Ent.trans Ent.jM0 ?_))
    ·rw [jM,hP];simp;rfl
    ·show Ent _ _ [_,jD (ptG (L++[P]))]
     rw[kP,jCG]
     exact Ent.pick [1,0] I I
  ·have h3:(zJ q&&decide (pfi (pts L) q.so q.id<0))=false:=h3
   have hp:KU (pts L) q=pts L:=by unfold KU;rw[hn,h3];rfl
   rw[hp]at hst
   repeat' (first|refine zh ?_|intro (bk:Nat))
   exact ih (k+1) o L _ _ ⟨hlt,hst.symm,hsh⟩ (by omega) ⟨I,I,I,I,trivial⟩ (Ent.pick [1,2] I I)
 ·have hke:k=l.length:=by have:=of_decide_eq_false h2;omega
  subst hke
  have hpo:zQ (pts l)=(pts L).drop (L.length-8):=by
   unfold zQ last
   rw[hL,List.take_of_length_le (by rw[JF];exact Nat.le_refl _),← JF L,hL,List.take_of_length_le (by rw[JF];exact Nat.le_refl _)]
  repeat' (first|refine zh ?_|refine HL.j4 (Rd.own 0 I) I I I ?_|intro (bk:Nat))
  refine HL.ZB 33 (v':= .int .i64 ((L.length-8:Nat):Int)) I (by rw[← max0n];rfl) ?_
  repeat' (first|refine zh ?_|refine HL.subO (sz:=6) (L.length-8) L.length 0 I I I I I (.inr ⟨_,_,rfl,rfl⟩) (.inl ⟨rfl,rfl⟩) (Nat.sub_le _ _) (Nat.le_refl _) ?_|intro (bk:Nat))
  refine HR.ret Tryz.func207 I [_] (fun _ _=>⟨I,trivial⟩) ?_
  refine fun w' hw=>⟨(_,L.drop (L.length-8)),rfl,⟨?_,fun p hp=>hsh p (List.mem_of_mem_drop hp)⟩,?_⟩
  ·rw [hpo];unfold pts;rw[List.map_drop]
  ·have hw2:=hw.pick [1,0] I I
   have hw3:=(Ent.jKP _ (jQd L (L.length-8))) w' hw2
   have hw4:=hw3.pick [1,0] I I
   refine Ent.JM (by simp) ?_ w' hw4
   rw[JH JX,List.take_of_length_le (by rw[jC JX,List.length_drop];exact Nat.le_refl _)]
theorem Kh (L:List PtV) (i:Nat) (v:Value) (w:World) (hv:Sl w v (cellsOf ptC L) L.length) (hsh:∀p∈L,jBN p) (hi:i<L.length) (hl:L.length≤1000):
  Calls Tryz.prog 276 #[v,.int .i64 (i:Int)] w fun e w'=>∃v',e= .returned v'∧Sat (base w) [jK v' 173 6 (L.eraseIdx i).length (cellsOf ptC (L.eraseIdx i))] w':=by
 refine jB Tryz.func276 I (Nat.le_of_ble_eq_true I) ?_
 refine HR.sub (σ':=[(0,v),(1,.int .i64 (i:Int))]) ⟨I,I,trivial⟩ ?_
 repeat' (first|refine zh ?_|refine HL.j4 (Rd.arg hv) I I I ?_|intro (bk:Nat))
 refine HL.kX 0 L.length JR I I I I I I (Nat.zero_le _) (show 80*L.length≤_ by omega) (by omega) ?_
 intro v1
 have hR1:=Rd.pre (B:=base w) (H:=[jK v1 173 6 0 []]) JX (l:=L) (Rd.arg hv) (n:=i) (by omega)
 repeat' (first|refine zh ?_|refine HL.KP (sz:=6) 0 i (Rd.arg hv) I I I I (.inl ⟨rfl,rfl⟩) (.inr ⟨_,_,_,rfl,rfl,rfl⟩) (Nat.zero_le _) (by omega) ?_|intro (bk:Nat))
 refine HL.zD 0 I JR hR1 I I I (jC JX _) (jLo fun p hp=>hsh p (List.mem_of_mem_take hp)) (by simp;omega) (by simp;omega) ?_
 intro v2
 have hR2:=Rd.suf (B:=base w) (H:=[jK v2 173 6 (0+(L.take i).length) ([]++cellsOf ptC (L.take i))]) JX (l:=L) (Rd.arg hv) (n:=i+1) (by omega)
 repeat' (first|refine zh ?_|refine HL.KP (sz:=6) (i+1) L.length (Rd.arg hv) I I I I (.inr ⟨_,_,_,rfl,rfl,rfl⟩) (.inl ⟨rfl,rfl⟩) (by omega) (Nat.le_refl _) ?_|intro (bk:Nat))
 refine HL.zD 0 I JR hR2 I I I (jC JX _) (jLo fun p hp=>hsh p (List.mem_of_mem_drop hp)) (by simp;omega) (by simp;omega) ?_
 intro v3
 repeat' (first|refine zh ?_|intro (bk:Nat))
 refine HR.ret Tryz.func276 I [_] (fun _ _=>⟨I,trivial⟩) ?_
 refine fun w' hw=>⟨v3,rfl,Ent.JM ?_ ?_ w' hw⟩
 ·rw [List.eraseIdx_eq_take_drop_succ];simp
 ·rw [List.eraseIdx_eq_take_drop_succ,jM];rfl
end Go.Proofs.YtgfdoognildoeaaGreat
namespace Go.Proofs.YtgfdoognildoeaaGreat
open Go.GX Go.RowKit
attribute [local irreducible] Calls Run jg jh JU HR HL HD jU jK Jc Rd jL jd
open Nd
theorem jFk (xs:List By):Lib.join xs []=xs.flatten:=by
 unfold Lib.join
 induction xs with
 |nil=>rfl
 |cons x xs ih=>
  cases xs with
  |nil=>simp[List.intercalate]
  |cons y ys=>
   have:([]:By).intercalate (x::y::ys)=x++([]:By).intercalate (y::ys):=by simp[List.intercalate]
   rw[this,ih];rfl
theorem jPV (l:List By) (v:Value) (w:World) (hv:Sl w v (cellsOf sC l) l.length) (h0:0<l.length) (hl:l.length≤1000000) (hb:l.flatten.length≤140737488355328):
  Calls Tryz.prog 277 #[v,str []] w fun e w'=>e= .returned (str l.flatten)∧Below w.heap.size w w':=by
 obtain ⟨h1,a,c,rfl,hc⟩:=hv
 rcases h1 with ⟨_,h2,_⟩|⟨b,off,cap,he,h1⟩
 ·omega
 ·cases he
  have hcell:∀(j:Nat) s,l[j]? =some s→w.cell? ⟨b,off+j,none⟩=some (str s):=by
   intro j s hj
   have:=h1 j (str s) (by rw[← jV (f:=fun s:By=>str s) hj,Nat.mul_one])
   exact this
  obtain ⟨x,hx⟩:=jH h0
  have hbk:=World.block_lt_of_cell? w _ (hcell 0 x hx)
  have hm:((l.map fun s=>(⟨⟨s⟩⟩:ByteArray)).map (·.data.toList))=l:=by rw[List.map_map];exact List.map_id l
  have key:=Tryz.strings_Join b off c (l.map fun s=>⟨⟨s⟩⟩) ⟨#[]⟩ w (fun j y hy=>by
   rw[List.getElem?_map]at hy
   cases hs:l[j]? with
   |none=>rw[hs]at hy;cases hy
   |some s=>rw[hs]at hy;cases hy;exact hcell j s hs) hbk (by simp;omega) (by simp;omega) (by rw[hm];show (Lib.join l []).length≤_;rw[jFk];exact hb)
  rw[hm]at key
  have e2:Lib.join l (⟨#[]⟩:ByteArray).data.toList=l.flatten:=jFk l
  rw[e2,List.length_map]at key
  exact key
theorem jPk (l:List PtV) (now life:Int) (v:Value) (w:World) (hv:RdPts w v l) (hs:∀p∈l,jBj p.pt) (hl:l.length≤1000):
  Calls Tryz.prog 152 #[v,.int .i64 now,.int .i64 life] w fun e w'=>∃x:Value×List PtV,e= .returned x.1∧jEm x (jEH (pts l) now life)∧Sat (base w) (jGy x) w':=by
 have t1:=jAa now
 have t3:=jAa life
 refine jB Tryz.func152 I (Nat.le_of_ble_eq_true I) ?_
 refine HR.sub (σ':=[(0,v),(1,.int .i64 now),(2,.int .i64 life)]) ⟨I,I,I,trivial⟩ ?_
 repeat' (first|refine zh ?_|intro (bk:Nat))
 refine HL.JD (r:=fun x:Value×List PtV=>x.1) (Q:=fun x=>jEm x (zQ (pts l))) (G:=fun x=>jGy x) jSa I I (fun w1 hw1=>jDj l v w1 (hv.ext hw1.jE) hs hl) ?_
 rintro ⟨v1,L⟩ ⟨hL,hsh⟩
 have hL:pts L=zQ (pts l):=hL
 have hsh:∀p∈L,jBN p:=hsh
 have hLl:L.length≤8:=by have:=Ku (pts l);rw[← hL,JF]at this;exact this
 have hpv:∀p∈L,Head p.pt:=fun p hp=>kR (ZC (ZL p.pt (by rw[← hL];exact List.mem_map_of_mem hp)))
 repeat' (first|refine zh ?_|refine HL.j4 (Rd.own 0 I) I I I ?_|intro (bk:Nat))
 refine HR.zY 173 6 ?_
 obtain ⟨p,hp⟩:∃p:PtV→Bool,p=fun x=>decide (tick now-x.pt.si≤tick life):=⟨_,rfl⟩
 refine HR.Kc (α:=Nat) (β:=Value) (fun k o=>k≤L.length) (fun k o=>[(1,.int .i64 now),(2,.int .i64 life),(7,o),(11,v1),(12,.int .i64 (L.length:Int)),(13,.int .i64 (k:Int))]) (fun k o=>[jK o 173 6 ((L.take k).filter p).length (cellsOf ptC ((L.take k).filter p)),jK v1 173 6 L.length (cellsOf ptC L),jD (ptG L)]) (fun k _=>L.length-k) 0 (.slice none 0 0) (Nat.zero_le _) ⟨I,I,I,I,I,I,trivial⟩ (Ent.pick [0,1,2] I I) ?_
 rintro k o hk ih
 have hfl:((L.take k).filter p).length≤8:=Nat.le_trans (List.length_filter_le _ _) (by simp;omega)
 repeat' (first|refine zh ?_|intro (bk:Nat))
 refine HR.cond I (fun h2=>?_) (fun h2=>?_)
 ·have hlt:k<L.length:=by have:=of_decide_eq_true h2;omega
  obtain ⟨x,hx⟩:=jH hlt
  have hxm:=List.mem_of_getElem? hx
  have hft:=jFx p hx
  have H:=hpv x hxm
  obtain ⟨a,n,c,a',n',c',ex⟩:=(hsh x hxm).lit
  obtain ⟨q,hq⟩:∃q,q=x.pt:=⟨_,rfl⟩
  rw[← hq]at ex H
  subst ex
  have s0:=H.si0
  have s1:q.si≤1099511627776:=H.si1
  repeat' (first|refine zh ?_|refine HL.jw (Rd.own 1 I) JR k I I I I hlt ?_|refine HL.JB (Rd.own 1 I) I I I I (by simp) I (jF JX hx) ?_|intro (bk:Nat))
  refine HR.j3 [(0,true),(2,true),(3,true),(5,true),(1,false),(4,true),(6,false),(7,true)] [0] I I JZ (by kernel_rfl) ?_
  repeat' (first|refine zd ?_|refine HD.jN [0] I I jKU I I I (fun w _=>K5 _ w) ?_)
  refine HD.nil ?_
  refine HR.cond I (fun h3=>?_) (fun h3=>?_)
  ·have h3:p ⟨.slice a n c,.slice a' n' c',q⟩=true:=by rw[hp];exact h3
   rw[if_pos h3]at hft
   repeat' (first|refine zh ?_|refine HL.jk JR I I I I I (by decide) (by decide) ?_|intro (bk:Nat))
   intro va
   repeat' (first|refine zh ?_|intro (bk:Nat))
   refine HL.zD 2 I JR (Rd.own 0 I) I I I I (jJ I) (by omega) (by omega) ?_
   intro o2
   repeat' (first|refine zh ?_|intro (bk:Nat))
   refine ih (k+1) o2 _ _ hlt (by omega) ⟨I,I,I,I,I,I,trivial⟩ (Ent.trans (Ent.pick [2,3,4] I I) (Ent.JM ?_ ?_))
   ·rw [hft];simp
   ·rw [hft,jM];rfl
  ·have h3:p ⟨.slice a n c,.slice a' n' c',q⟩=false:=by rw[hp];exact h3
   rw[if_neg (by rw[h3];decide)]at hft
   repeat' (first|refine zh ?_|intro (bk:Nat))
   refine ih (k+1) o _ _ hlt (by omega) ⟨I,I,I,I,I,I,trivial⟩ (Ent.trans (Ent.pick [1,2,3] I I) (Ent.JM ?_ ?_))
   ·rw [hft]
   ·rw [hft]
 ·have hke:k=L.length:=by have:=of_decide_eq_false h2;omega
  subst hke
  rw[List.take_length]
  repeat' (first|refine zh ?_|intro (bk:Nat))
  refine HR.ret Tryz.func152 I [_] (fun _ _=>⟨I,trivial⟩) ?_
  refine fun w' hw=>⟨(o,L.filter p),rfl,⟨?_,fun y hy=>hsh y (List.mem_filter.1 hy).1⟩,?_⟩
  ·unfold jEH
   rw[← hL,hp]
   unfold pts
   rw[List.filter_map];rfl
  ·have hw2:=hw.pick [2,0] I I
   have hw3:=(Ent.jKP _ (jJ3 p L)) w' hw2
   exact hw3.pick [1,0] I I
end Go.Proofs.YtgfdoognildoeaaGreat
namespace Go.Proofs.YtgfdoognildoeaaGreat
open Go.GX Go.RowKit
attribute [local irreducible] Calls Run jg jh JU HR HL HD jU jK Jc Rd jL jd
open Nd
theorem fn277:IsFn Tryz.prog 277:=⟨⟨_,_,Tryz.func277,rfl,by decide⟩⟩
def atI:Option Nat→Int
 |some a=>(a:Int)
 |none=>-1
theorem jPE {l:List Pt} {s now:Int} {x:By} (h:jGM x≠0):jFV l s now x=⟨[],[],false,jGM x⟩:=if_pos h
theorem jL6 {l:List Pt} {s now i0 i1 i2:Int} {x d:By} (h:jGM x=0) (h0:i0=b8 x 0) (h1:i1=b8 x 1) (h2:i2=b8 x 2) (hd:d=x.drop 3):
  jFV l s now x=if i2=1 then ⟨(zA (zQ l) s i0 1).1,d,true,0⟩else jRt (jEn (zA (zQ l) s i0 i2) s i0 i2 now) i1.toNat d:=by
 subst h0;subst h1;subst h2;subst hd
 unfold jFV;rw[if_neg (by simp[h])]
theorem HA.row {P:Program} {N n:Nat} {σ:Store} {B:Base} {H F:List Chunk} {ops:List Oper} {K:Act→World→Prop} {L:Array Bool} {v:Value} {e sz m:Nat} {xs:List Value} (i:Nat) (hi:zX H i=some (jK v e sz m xs)) (hn:0<m)
  (h:∀g off cap,v= .slice (some ⟨g,off,none⟩) m cap→HA P N ops n L σ B H F K):HA P N ops n L σ B H F K:=by
 intro w hw hF a ha
 obtain ⟨g,off,cap,e,_⟩:=Vw.row (Sat.vw hw hi) hn
 exact h g off cap e w hw hF a ha
theorem jM9 {i c n:Int} (h:fits i c n=true):n≤64:=by
 unfold Nd.fits at h
 split at h
 ·have:=eq_of_beq h;omega
 ·split at h
  ·exact of_decide_eq_true h
  ·split at h
   ·simp at h;omega
   ·simp at h;omega
theorem jFN {p:Pt} (h:zJ p=true):∀s∈p.da,s.length≤64:=by
 have H:=kR (ZC h)
 have h1:=H.hv
 have h2:=H.da
 unfold zJ at h
 simp only[Bool.and_eq_true]at h
 have hall:=List.all_eq_true.1 h.1.1.2
 intro s hs
 obtain ⟨j,hj⟩:=List.getElem?_of_mem hs
 have hjl:=(List.getElem?_eq_some_iff.1 hj).1
 have:=hall j (List.mem_range.2 (by omega))
 unfold jKq at this
 rw[show p.da.getD j []=s by rw[List.getD_eq_getElem?_getD,hj];rfl]at this
 split at this
 ·have:=jM9 this;omega
 ·have:=of_decide_eq_true this
  rw[this];simp
theorem jPB {l:List Pt} {s id c:Int} (h:∀p∈l,∀s∈p.da,s.length≤64):∀p∈(zA l s id c).1,∀s∈p.da,s.length≤64:=by
 unfold zA
 split
 ·split
  ·exact h
  ·exact fun p hp=>h p (List.mem_of_mem_eraseIdx hp)
 ·exact h
theorem jQg {o:List Pt×Option Nat} {s id c now:Int} (h:∀p∈o.1,∀s∈p.da,s.length≤64):∀p∈(jEn o s id c now).1,∀s∈p.da,s.length≤64:=by
 unfold jEn
 split
 ·exact h
 ·intro p hp
  rcases List.mem_append.1 hp with hp|hp
  ·refine h p ?_
   unfold jAL at hp
   split at hp
   ·exact List.mem_of_mem_eraseIdx hp
   ·exact hp
  ·rw [List.mem_singleton]at hp
   subst hp
   intro s hs
   have:=List.eq_of_mem_replicate hs
   rw[this];simp
theorem jDk {m:Nat}:∀ {l:List By},(∀ s∈l,s.length≤m)→l.flatten.length≤m*l.length
 |[],_=>by simp
 |s::l,h=>by
  have h1:=h s (List.mem_cons_self ..)
  have h2:=jDk (l:=l) fun x hx=>h x (List.mem_cons_of_mem _ hx)
  rw[List.flatten_cons,List.length_append,List.length_cons,Nat.mul_add];omega
theorem jPm (l:List PtV) (s now:Int) (x:By) (v:Value) (w:World) (hv:RdPts w v l) (hs:∀p∈l,jBj p.pt) (hl:l.length≤1000) (hx:x.length≤1000):
  Calls Tryz.prog 223 #[v,.int .i64 s,.int .i64 now,str x] w fun e w'=>∃y:Value×List PtV,e= .returned (.tuple ⟨[y.1,str (jFV (pts l) s now x).t,.bool (jFV (pts l) s now x).ok,.int .i64 (jFV (pts l) s now x).e]⟩)∧jEm y (jFV (pts l) s now x).l∧Sat (base w) (jGy y) w':=by
 refine jB Tryz.func223 I (Nat.le_of_ble_eq_true I) ?_
 refine HR.sub (σ':=[(0,v),(1,.int .i64 s),(2,.int .i64 now),(3,str x)]) ⟨I,I,I,I,trivial⟩ ?_
 repeat' (first|refine zh ?_|refine HL.jN fn275 I I (fun w _=>jHR x w (by omega)) ?_|intro (bk:Nat))
 refine HR.cond I (fun h=>?_) (fun h=>?_)
 ·have h:jGM x≠0:=by have h:(jGM x != 0)=true:=h;simpa using h
  rw[jPE h]
  repeat' (first|refine zh ?_|intro (bk:Nat))
  refine HR.zY 173 6 ?_
  refine HR.ent (Ent.trans Ent.jKt (Ent.pick [1,0] I I)) ?_
  refine HR.ret Tryz.func223 I [_,_,_,_] (fun _ _=>⟨I,I,I,I,trivial⟩) ?_
  exact fun w' hw=>⟨(_,[]),rfl,⟨rfl,fun p hp=>by cases hp⟩,hw⟩
 have h:jGM x=0:=by have h:(jGM x != 0)=false:=h;simpa using h
 obtain ⟨c0,c1,c2,c3,c4,c5,c6,c7⟩:=jFS h
 obtain ⟨i0,h0⟩:∃i0:Int,i0=b8 x 0:=⟨_,rfl⟩
 obtain ⟨i1,h1⟩:∃i1:Int,i1=b8 x 1:=⟨_,rfl⟩
 obtain ⟨i2,h2⟩:∃i2:Int,i2=b8 x 2:=⟨_,rfl⟩
 obtain ⟨d,hd⟩:∃d,d=x.drop 3:=⟨_,rfl⟩
 rw[jL6 h h0 h1 h2 hd]
 have hdl:(d.length:Int)=(x.length:Int)-3:=by rw[hd,List.length_drop];omega
 have hd64:d.length≤64:=by have:=jM9 c5;omega
 have g0:0≤i0∧i0≤255:=by omega
 have g1:0≤i1∧i1<i2:=by omega
 have g2:1≤i2∧i2≤16:=by omega
 clear c1 c2 c3 c4 c5 c6 c7
 repeat' (first|refine zh ?_|intro (bk:Nat))
 refine HR.jo JZ (by kernel_rfl) ?_
 have b0:=(x.getD 0 0).toNat_lt
 have b1:=(x.getD 1 0).toNat_lt
 have b2:=(x.getD 2 0).toNat_lt
 repeat' (first|refine zq ?_|fail)
 refine HR.ZB 13 (v':= .int .i64 i0) I (by rw[h0];try rfl) ?_
 refine HR.ZB 14 (v':= .int .i64 i1) I (by rw[h1];try rfl) ?_
 refine HR.ZB 15 (v':= .int .i64 i2) I (by rw[h2];try rfl) ?_
 refine HR.ZB 16 (v':=str d) I (by rw[hd];try rfl) ?_
 repeat' (first|refine zh ?_|intro (bk:Nat))
 refine HL.JD (r:=fun x:Value×List PtV=>x.1) (Q:=fun x=>jEm x (zQ (pts l))) (G:=fun x=>jGy x) jSa I I (fun w1 hw1=>jDj l v w1 (hv.ext hw1.jE) hs hl) ?_
 rintro ⟨v1,L⟩ ⟨hL,hsh⟩
 have hL:pts L=zQ (pts l):=hL
 have hsh:∀p∈L,jBN p:=hsh
 have hLl:L.length≤8:=by have:=Ku (pts l);rw[← hL,JF]at this;exact this
 have hfr:jC6 (pts L):=by rw[hL];exact jFQ _
 rw[← hL]
 have hcl:∀T:List PtV,(cellsOf ptC T).length=T.length*6:=jC JX
 repeat' (first|refine zh ?_|intro (bk:Nat))
 refine HL.jN jST I I (fun w1 hw1=>jF0 L s i0 v1 w1 ((Rd.own 0 rfl).at hw1) (by omega) hsh) ?_
 repeat' (first|refine zn ?_|apply zb ?_ ?_|exact zc|(refine zi fun hb=>?_;try simp at hb)|intro (bk:Nat))
 refine HR.ctl I ?_
 refine HR.join (ι:=Unit) (fun _=>True) (fun _=>[(1,.int .i64 s),(2,.int .i64 now),(13,.int .i64 i0),(14,.int .i64 i1),(15,.int .i64 i2),(16,str d),(17,v1),(18,.int .i64 (atI (jBD (pts L) s i0))),(54,.bool (match jBD (pts L) s i0 with|some a=>(((pts L).getD a pz).ct != i2)|none=>false))]) (fun _=>jGy (v1,L)) (fun _ _=>?_) (fun hj=>?_)
 ·refine HR.join (ι:=Value×List PtV×Option Nat) (fun i=>(pts i.2.1,i.2.2)=zA (pts L) s i0 i2∧∀p∈i.2.1,jBN p) (fun i=>[(1,.int .i64 s),(2,.int .i64 now),(13,.int .i64 i0),(14,.int .i64 i1),(15,.int .i64 i2),(16,str d),(17,i.1),(18,.int .i64 (atI i.2.2))]) (fun i=>jGy (i.1,i.2.1)) (fun i=>?_) (fun hj2=>?_)
  ·obtain ⟨v2,M,at2⟩:=i
   rintro ⟨hM,hshM⟩
   have hM:(pts M,at2)=zA (pts L) s i0 i2:=hM
   have hshM:∀p∈M,jBN p:=hshM
   have hMl:M.length≤8:=by have:=jAi (l:=pts L) (by rw[JF];omega) s i0 i2;rw[← hM,JF]at this;exact this
   repeat' (first|refine zh ?_|intro (bk:Nat))
   refine HR.cond I (fun h5=>?_) (fun h5=>?_)
   ·have h5:i2=1:=eq_of_beq h5
    rw[if_pos h5]
    have e:(zA (pts L) s i0 1).1=pts M:=by rw[← h5,← hM]
    rw[e]
    repeat' (first|refine zh ?_|intro (bk:Nat))
    refine HR.ret Tryz.func223 I [_,_,_,_] (fun _ _=>⟨I,I,I,I,trivial⟩) ?_
    exact fun w' hw=>⟨(v2,M),rfl,⟨rfl,hshM⟩,hw.pick [0,1] I rfl⟩
   have h5:¬i2=1:=by have h5:(i2==1)=false:=h5;simpa using h5
   rw[if_neg h5,← hM]
   have hsp:=jLw (now:=now) (s:=s) hfr (by rw[JF];omega) (id:=i0) (c:=i2) (by omega) (by omega) (by omega) (by omega)
   rw[← hM]at hsp
   have hi2:i2=((i2.toNat:Nat):Int):=by omega
   have smM:∀p∈pts M,∀s∈p.da,s.length≤64:=by
    have:=jPB (l:=pts L) (s:=s) (id:=i0) (c:=i2) (by rw[hL];exact fun p hp=>jFN (ZL p hp))
    rw[← hM]at this;exact this
   repeat' (first|refine zh ?_|intro (bk:Nat))
   refine HR.join (ι:=Value×List PtV×Nat) (fun i=>(pts i.2.1,i.2.2)=jEn (pts M,at2) s i0 i2 now∧∀p∈i.2.1,jBN p) (fun i=>[(14,.int .i64 i1),(16,str d),(17,i.1),(18,.int .i64 (i.2.2:Int))]) (fun i=>jGy (i.1,i.2.1)) (fun i=>?_) (fun hj3=>?_)
   ·obtain ⟨v3,L3,a⟩:=i
    rintro ⟨hP,hsh3⟩
    have hP:(pts L3,a)=jEn (pts M,at2) s i0 i2 now:=hP
    have hsh3:∀p∈L3,jBN p:=hsh3
    rw[← hP]at hsp ⊢
    obtain ⟨f3,l3,a3,ct3⟩:=hsp
    have sm3:∀p∈pts L3,∀s∈p.da,s.length≤64:=by
     have:=jQg (o:=(pts M,at2)) (s:=s) (id:=i0) (c:=i2) (now:=now) (fun p hp=>smM p hp)
     rw[← hP]at this;exact this
    have l3:L3.length≤8:=by have l3:(pts L3).length≤8:=l3;rw[JF]at l3;exact l3
    have a3:a<L3.length:=by have a3:a<(pts L3).length:=a3;rw[JF]at a3;exact a3
    obtain ⟨p,hp⟩:=jH a3
    have hpm:=List.mem_of_getElem? hp
    have hgd:(pts L3).getD a pz=p.pt:=by rw[List.getD_eq_getElem?_getD,Zo hp];rfl
    have ct3:((pts L3).getD a pz).ct=i2:=ct3
    rw[hgd]at ct3
    have f3:jC6 (pts L3):=f3
    obtain ⟨H,hal⟩:=f3 p.pt (List.mem_map_of_mem hpm)
    have h1:=H.hv
    have h2:=H.da
    obtain ⟨sa,sn,sc,ta,tn,tc,ep⟩:=(hsh3 p hpm).lit
    obtain ⟨q,hq⟩:∃q,q=p.pt:=⟨_,rfl⟩
    rw[← hq]at ct3 hal h1 h2 ep hgd
    have hq':q=p.pt:=hq
    have hpx:p=⟨p.vh,p.vd,q⟩:=by rw[hq]
    obtain ⟨vh,hvh⟩:∃vh,vh=p.vh:=⟨_,rfl⟩
    obtain ⟨vd,hvd⟩:∃vd,vd=p.vd:=⟨_,rfl⟩
    rw[← hvh,← hvd]at hpx
    have shp:=hsh3 p hpm
    clear ep
    subst hpx
    have hpe:jRt (pts L3,a) i1.toNat d=if (jAh q i1.toNat d).hv.all id then ⟨(pts L3).eraseIdx a,(jAh q i1.toNat d).da.flatten,true,0⟩else ⟨(pts L3).set a (jAh q i1.toNat d),[],false,0⟩:=by
     unfold jRt;simp only;rw[hgd]
    rw[hpe]
    obtain ⟨j,hj⟩:∃j,j=i1.toNat:=⟨_,rfl⟩
    have hij:i1=((j:Nat):Int):=by omega
    rw[← hj]
    have hjl:j<q.hv.length:=by omega
    have hjd:j<q.da.length:=by omega
    obtain ⟨b,hb⟩:=jH hjl
    have hbd:q.hv.getD j false=b:=by rw[List.getD_eq_getElem?_getD,hb];rfl
    obtain ⟨R,hR⟩:∃R,R=ptG (L3.eraseIdx a):=⟨_,rfl⟩
    refine HR.ent (H':=[jK v3 173 6 L3.length (cellsOf ptC L3),ptH ⟨vh,vd,q⟩,ptD ⟨vh,vd,q⟩,jD R]) ?_ ?_
    ·refine Ent.trans (Ent.pick [1,0] I I) (Ent.trans (Ent.jKP (G':=[ptH ⟨vh,vd,q⟩,ptD ⟨vh,vd,q⟩]++R) [] ?_) ?_)
     ·rw [List.append_nil,hR]
      exact (jAg hp).trans List.perm_append_comm
     ·refine Ent.trans (Ent.jSM (A:=[]) (c:=ptH ⟨vh,vd,q⟩) (C:=ptD ⟨vh,vd,q⟩::R)) (Ent.trans (Ent.pick [1,0,2] I I) (Ent.trans (Ent.jSM (A:=[]) (c:=ptD ⟨vh,vd,q⟩) (C:=R)) (Ent.pick [3,2,0,1] I I)))
    have hH:∀(Q:Pt) (i:Nat) (H:List Chunk),zX H i=some (ptH ⟨vh,vd,Q⟩)→Rd (base w) H vh (cellsOf bC Q.hv) Q.hv.length:=fun Q i H hi=>Rd.own i hi
    have hD:∀(Q:Pt) (i:Nat) (H:List Chunk),zX H i=some (ptD ⟨vh,vd,Q⟩)→Rd (base w) H vd (cellsOf sC Q.da) Q.da.length:=fun Q i H hi=>Rd.own i hi
    repeat' (first|refine zh ?_|refine HL.jw (Rd.own 0 I) JR a I I I I a3 ?_|refine HL.JL 4 (Rd.own 0 I) (by rw[hcl];omega) I I I I I I I ?_|refine HL.jY (Rd.own 0 I) I I I I (jR JX hp (i:=4) I) ?_|refine HL.jw (hH q 1 _ I) jAR j I I I hij hjl ?_|refine HL.jY (hH q 1 _ I) I I I I (jV hb) ?_|intro (bk:Nat))
    obtain ⟨Q,hQ⟩:∃Q,Q=jAh q j d:=⟨_,rfl⟩
    have hQs:Q.so=q.so∧Q.id=q.id∧Q.ct=q.ct∧Q.si=q.si∧Q.hv.length=q.hv.length∧Q.da.length=q.da.length:=by
     rw[hQ];unfold jAh;split
     ·exact ⟨rfl,rfl,rfl,rfl,rfl,rfl⟩
     ·exact ⟨rfl,rfl,rfl,rfl,List.length_set,List.length_set⟩
    obtain ⟨q1,q2,q3,q4,q5,q6⟩:=hQs
    have hQd:∀s∈Q.da,s.length≤64:=by
     rw[hQ];unfold jAh;split
     ·exact sm3 q (by rw[hq'];exact List.mem_map_of_mem hpm)
     ·intro s hs
      rcases List.mem_or_eq_of_mem_set hs with hs|rfl
      ·exact sm3 q (by rw[hq'];exact List.mem_map_of_mem hpm) s hs
      ·exact hd64
    rw[← hQ]
    refine HR.join (ι:=Unit) (fun _=>True) (fun _=>[(17,v3),(18,.int .i64 (a:Int))]) (fun _=>[jK v3 173 6 L3.length (cellsOf ptC L3),ptH ⟨vh,vd,Q⟩,ptD ⟨vh,vd,Q⟩,jD R]) (fun _ _=>?_) (fun hj5=>?_)
    ·repeat' (first|refine zh ?_|refine HL.jw (Rd.own 0 I) JR a I I I I a3 ?_|refine HL.JL 4 (Rd.own 0 I) (by rw[hcl];omega) I I I I I I I ?_|refine HL.jY (Rd.own 0 I) I I I I (jR JX hp (i:=4) I) ?_|refine HL.j4 (hH Q 1 _ I) I I I ?_|intro (bk:Nat))
     refine HR.loop (ι:=Nat) (fun k=>k≤Q.hv.length∧(Q.hv.take k).all id=true) (fun k=>[(17,v3),(18,.int .i64 (a:Int)),(113,vh),(114,.int .i64 (Q.hv.length:Int)),(115,.int .i64 (k:Int))]) (fun _=>[jK v3 173 6 L3.length (cellsOf ptC L3),ptH ⟨vh,vd,Q⟩,ptD ⟨vh,vd,Q⟩,jD R]) (fun k=>Q.hv.length-k) 0 ⟨Nat.zero_le _,by rw[List.take_zero];rfl⟩ ⟨I,I,I,I,I,trivial⟩ Ent.refl ?_
     rintro k ⟨hk,hall⟩ ih
     repeat' (first|refine zh ?_|intro (bk:Nat))
     refine HR.cond I (fun h6=>?_) (fun h6=>?_)
     ·have hlt:k<Q.hv.length:=by have:=of_decide_eq_true h6;omega
      obtain ⟨b6,hb6⟩:=jH hlt
      repeat' (first|refine zh ?_|refine HL.jw (hH Q 1 _ I) jAR k I I I I hlt ?_|refine HL.jY (hH Q 1 _ I) I I I I (jV hb6) ?_|intro (bk:Nat))
      refine HR.cond I (fun h7=>?_) (fun h7=>?_)
      ·have h7:b6=false:=by have h7:(!b6)=true:=h7;simpa using h7
       have hna:¬Q.hv.all id=true:=fun hh=>by
        have:=List.all_eq_true.1 hh b6 (List.mem_of_getElem? hb6)
        rw[h7]at this;cases this
       rw[if_neg hna]
       repeat' (first|refine zh ?_|intro (bk:Nat))
       refine HR.ret Tryz.func223 I [_,_,_,_] (fun _ _=>⟨I,I,I,I,trivial⟩) ?_
       refine fun w' hw=>⟨(v3,L3.set a ⟨vh,vd,Q⟩),rfl,⟨by unfold pts;rw[List.map_set],fun y hy=>?_⟩,?_⟩
       ·rcases List.mem_or_eq_of_mem_set hy with hy|rfl
        ·exact hsh3 y hy
        ·exact shp
       ·have hcs:cellsOf ptC (L3.set a ⟨vh,vd,Q⟩)=cellsOf ptC L3:=by
         unfold cellsOf
         rw[List.map_set]
         have e:ptC ⟨vh,vd,Q⟩=ptC ⟨vh,vd,q⟩:=by
          show [Value.int .i64 Q.so,.int .i64 Q.id,.int .i64 Q.ct,.int .i64 Q.si,vh,vd]=[.int .i64 q.so,.int .i64 q.id,.int .i64 q.ct,.int .i64 q.si,vh,vd]
          rw[q1,q2,q3,q4]
         rw[e]
         congr 1
         refine List.ext_getElem? fun m=>?_
         rw[List.getElem?_set]
         split
         ·rename_i e2
          subst e2
          rw[if_pos (by rw[List.length_map];exact a3),List.getElem?_map,hp];rfl
         ·rfl
        have w1:=hw.pick [1,2,3,0] I I
        have w2:=(Ent.group (G:=[ptH ⟨vh,vd,Q⟩,ptD ⟨vh,vd,Q⟩])) w' w1
        have w3:=Ent.jM0 w' w2
        have hset:(L3.set a ⟨vh,vd,Q⟩)[a]? =some ⟨vh,vd,Q⟩:=List.getElem?_set_self a3
        have hpm2:(R++[ptH ⟨vh,vd,Q⟩,ptD ⟨vh,vd,Q⟩]).Perm (ptG (L3.set a ⟨vh,vd,Q⟩)++[]):=by
         rw[List.append_nil]
         have:=jAg hset
         rw[List.eraseIdx_set_eq,← hR]at this
         exact this.symm
        have w4:=(Ent.jKP [] hpm2) w' w3
        have w5:=w4.pick [1,0] I I
        exact Ent.JM (by rw[List.length_set]) hcs.symm w' w5
      ·have h7:b6=true:=by have h7:(!b6)=false:=h7;simpa using h7
       repeat' (first|refine zh ?_|intro (bk:Nat))
       refine ih (k+1) _ _ ⟨hlt,?_⟩ (by omega) ⟨I,I,I,I,I,trivial⟩ Ent.refl
       rw[jG hb6,List.all_append,hall,h7];rfl
     ·have hke:k=Q.hv.length:=by have:=of_decide_eq_false h6;omega
      subst hke
      rw[List.take_length]at hall
      rw[if_pos hall]
      have hfl:Q.da.flatten.length≤64*Q.da.length:=jDk hQd
      repeat' (first|refine zh ?_|refine HL.jw (Rd.own 0 I) JR a I I I I a3 ?_|refine HL.JL 5 (Rd.own 0 I) (by rw[hcl];omega) I I I I I I I ?_|refine HL.jY (Rd.own 0 I) I I I I (jR JX hp (i:=5) I) ?_|intro (bk:Nat))
      refine HL.jN fn277 I I (fun w1 hw1=>jPV Q.da vd w1 ((hD Q 2 _ rfl).at hw1) (by omega) (by omega) (by omega)) ?_
      repeat' (first|refine zh ?_|intro (bk:Nat))
      refine HL.JN jQ3 I I (fun w1 hw1=>Kh L3 a v3 w1 ((Rd.own 0 rfl).at hw1) hsh3 a3 (by omega)) ?_
      intro r
      repeat' (first|refine zh ?_|intro (bk:Nat))
      refine HR.ret Tryz.func223 I [_,_,_,_] (fun _ _=>⟨I,I,I,I,trivial⟩) ?_
      refine fun w' hw=>⟨(r,L3.eraseIdx a),rfl,⟨jB0 _ _ _,fun y hy=>hsh3 y (List.mem_of_mem_eraseIdx hy)⟩,?_⟩
      have w1:=hw.pick [0,4] I I
      rw[hR]at w1
      exact w1
    ·refine HR.cond I (fun h6=>?_) (fun h6=>?_)
     ·have h6:b=false:=by have h6:(!b)=true:=h6;simpa using h6
      have hQe:Q=⟨q.so,q.id,q.ct,q.si,q.hv.set j true,q.da.set j d⟩:=by rw[hQ];unfold jAh;rw[hbd,h6,if_neg (by decide)]
      refine HR.ctl I ?_
      refine HR.region ?_
      repeat' (first|refine zn ?_|refine HL.jw (Rd.own 0 I) JR a I I I I a3 ?_|refine HL.JL 4 (Rd.own 0 I) (by rw[hcl];omega) I I I I I I I ?_|refine HL.jY (Rd.own 0 I) I I I I (jR JX hp (i:=4) I) ?_|refine HL.jw (hH q 1 _ I) jAR j I I I hij hjl ?_|refine HL.KD (v:=vh) (e:=4) (sz:=1) (n:=q.hv.length) (xs:=cellsOf bC q.hv) 1 I I I I I I I (by rw[Za jGF];omega) ?_|apply zb ?_ ?_|exact zc|(refine zi fun hb=>?_;try simp at hb)|intro (bk:Nat))
      refine HR.region ?_
      repeat' (first|refine zn ?_|refine HL.jw (Rd.own 0 I) JR a I I I I a3 ?_|refine HL.JL 5 (Rd.own 0 I) (by rw[hcl];omega) I I I I I I I ?_|refine HL.jY (Rd.own 0 I) I I I I (jR JX hp (i:=5) I) ?_|refine HL.jw (hD q 2 _ I) Zr j I I I hij hjd ?_|refine HL.KD (v:=vd) (e:=9) (sz:=1) (n:=q.da.length) (xs:=cellsOf sC q.da) 2 I I I I I I I (by rw[Za jE5];omega) ?_|apply zb ?_ ?_|exact zc|(refine zi fun hb=>?_;try simp at hb)|intro (bk:Nat))
      refine hj5 () _ _ trivial ⟨I,I,trivial⟩ (Ent.of_eq ?_)
      have e1:=jDt (f:=fun b:Bool=>Value.bool b) q.hv j true
      have e2:=jDt (f:=fun s:By=>str s) q.da j d
      show [jK v3 _ 6 L3.length (cellsOf ptC L3),jK vh 4 1 q.hv.length ((cellsOf bC q.hv).set (j*1) (.bool true)),jK vd 9 1 q.da.length ((cellsOf sC q.da).set (j*1) (str d)),jD R]=[_,jK vh 4 1 Q.hv.length (cellsOf bC Q.hv),jK vd 9 1 Q.da.length (cellsOf sC Q.da),_]
      rw[e1,e2,q5,q6,hQe]
     ·have h6:b=true:=by have h6:(!b)=false:=h6;simpa using h6
      have hQe:Q=q:=by rw[hQ,jN4 (by rw[hbd,h6])]
      refine HR.skip ?_
      exact hj5 () _ _ trivial ⟨I,I,trivial⟩ (Ent.of_eq (by rw[hQe]))
   ·cases at2 with
    |some a=>
     refine HR.jy I ?_
     refine HR.skip ?_
     exact hj3 (v2,M,a) _ _ ⟨rfl,hshM⟩ ⟨I,I,I,I,trivial⟩ (Ent.pick [0,1] I I)
    |none=>
     refine HR.JA I ?_
     repeat' (first|refine zh ?_|refine HL.j4 (Rd.own 0 I) I I I ?_|intro (bk:Nat))
     refine HR.join (ι:=Value×List PtV) (fun i=>pts i.2=jAL (pts M)∧∀p∈i.2,jBN p) (fun i=>[(1,.int .i64 s),(2,.int .i64 now),(13,.int .i64 i0),(14,.int .i64 i1),(15,.int .i64 i2),(16,str d),(17,i.1)]) (fun i=>jGy i) (fun i=>?_) (fun hj6=>?_)
     ·obtain ⟨v4,N⟩:=i
      rintro ⟨hN,hshN⟩
      have hN:pts N=jAL (pts M):=hN
      have hshN:∀p∈N,jBN p:=hshN
      have hNl:N.length≤7:=by have:=jCK (l:=pts M) (by rw[JF];omega);rw[← hN,JF]at this;exact this
      obtain ⟨pb,hpb⟩:∃pb,pb=Jk s i0 i2 now:=⟨_,rfl⟩
      have hbl:i2.toNat=pb.hv.length:=by rw[hpb];simp[Jk]
      have hsl:i2.toNat=pb.da.length:=by rw[hpb];simp[Jk]
      have hbl0:0<pb.hv.length:=by rw[← hbl];omega
      have hsl0:0<pb.da.length:=by rw[← hsl];omega
      have hbc:((List.replicate i2.toNat (jq (.bool false))).flatten)=cellsOf bC pb.hv:=by rw[hpb];unfold cellsOf Jk;simp only;rw[List.map_replicate];rfl
      have hsc:((List.replicate i2.toNat (jq (str []))).flatten)=cellsOf sC pb.da:=by rw[hpb];unfold cellsOf Jk;simp only;rw[List.map_replicate];rfl
      repeat' (first|refine zh ?_|intro (bk:Nat))
      refine HR.join (ι:=Value×PtV) (fun i=>i.2.pt=pb∧jBN i.2) (fun i=>[(14,.int .i64 i1),(16,str d),(17,i.1)]) (fun i=>[ptH i.2,ptD i.2,jD (ptG N),jK i.1 173 6 (N.length+1) (cellsOf ptC N++ptC i.2)]) (fun i=>?_) (fun hj4=>?_)
      ·obtain ⟨o3,P⟩:=i
       rintro ⟨hP,hshP⟩
       have hP:P.pt=pb:=hP
       refine HR.ent (H':=jGy (o3,N++[P])) ?_ ?_
       ·refine Ent.trans (Ent.group (G:=[ptH P,ptD P])) (Ent.trans Ent.jM0 ?_)
        have e:ptG N++[ptH P,ptD P]=ptG (N++[P]):=by rw[kP,jCG]
        rw[e]
        refine Ent.trans (Ent.pick [1,0] I I) (Ent.JM (by simp) ?_)
        rw[jM,J6]
       first|refine HR.ctl I ?_|skip
       refine HR.region ?_
       repeat' (first|refine zn ?_|refine HL.j4 (Rd.own 0 I) I I I ?_|apply zb ?_ ?_|exact zc|(refine zi fun hb=>?_;try simp at hb)|intro (bk:Nat))
       refine hj3 (o3,N++[P],N.length) _ _ ⟨?_,fun p hp=>?_⟩ ⟨rfl,rfl,rfl,by show some (Value.int IntKind.i64 _)=some _;congr 2;simp,trivial⟩ Ent.refl
       ·show (pts (N++[P]),N.length)=(jAL (pts M)++[Jk s i0 i2 now],(jAL (pts M)).length)
        rw[← hN,← hpb,← hP,jGx,JF];rfl
       ·rcases List.mem_append.1 hp with hp|hp
        ·exact hshN p hp
        ·rw [List.mem_singleton]at hp;subst hp;exact hshP
      ·refine HR.kM [] I I JZ ?_
       refine za 0 ?_
       refine za 1 ?_
       refine za 2 ?_
       refine za 3 ?_
       refine za 4 ?_
       refine za 6 ?_
       refine za 8 ?_
       refine HA.three 5 7 9 (by kernel_rfl) I I I ?_ ?_ ?_
       ·refine HL.jN jKU I I (fun w _=>K5 now w) ?_
        refine HL.jm [] I I ?_
        refine HA.two 7 9 (by kernel_rfl) I I ?_ ?_
        ·refine HL.kX i2.toNat i2.toNat jAR I I I I hi2 hi2 (Nat.le_refl _) (show 1*i2.toNat≤_ by omega) (by omega) ?_
         intro vb
         refine HL.ent (Ent.JM hbl hbc) ?_
         refine HL.jm [] I I ?_
         refine HA.one 9 (by kernel_rfl) I ?_
         refine HL.kX i2.toNat i2.toNat Zr I I I I hi2 hi2 (Nat.le_refl _) (show 16*i2.toNat≤_ by omega) (by omega) ?_
         intro vs
         refine HL.ent (Ent.JM hsl hsc) ?_
         refine HL.jm [] I I ?_
         refine HA.row 1 I (v:=vb) (e:=4) (sz:=1) (m:=pb.hv.length) (xs:=cellsOf bC pb.hv) hbl0 fun g1 o1 e1 hvb=>?_
         subst hvb
         refine HA.row 0 I (v:=vs) (e:=9) (sz:=1) (m:=pb.da.length) (xs:=cellsOf sC pb.da) hsl0 fun g2 o2 e2 hvs=>?_
         subst hvs
         refine za 10 ?_
         refine HA.one 11 (by kernel_rfl) I ?_
         refine HL.jk JR I I I I I (by decide) (by decide) ?_
         intro va
         refine HL.jm [] I I ?_
         refine HA.one 12 (by kernel_rfl) I ?_
         refine HL.zD 3 I JR (Rd.own 0 I) I I I I (jJ I) (by show (N.length+1)*80≤_;omega) (by show N.length+1≤_;omega) ?_
         intro o3
         refine HL.jm [] I I ?_
         refine za 13 ?_
         refine HA.done (by kernel_rfl) ?_
         subst hpb
         exact hj4 (o3,⟨.slice (some ⟨g1,o1,none⟩) (Jk s i0 i2 now).hv.length e1,.slice (some ⟨g2,o2,none⟩) (Jk s i0 i2 now).da.length e2,Jk s i0 i2 now⟩) _ _ ⟨rfl,⟨_,_,_,rfl⟩,⟨_,_,_,rfl⟩⟩ ⟨I,I,I,trivial⟩ (Ent.pick [2,1,4,3] I I)
        ·refine HL.kX i2.toNat i2.toNat Zr I I I I hi2 hi2 (Nat.le_refl _) (show 16*i2.toNat≤_ by omega) (by omega) ?_
         intro vs
         refine HL.ent (Ent.JM hsl hsc) ?_
         refine HL.jm [] I I ?_
         refine HA.one 7 (by kernel_rfl) I ?_
         refine HL.kX i2.toNat i2.toNat jAR I I I I hi2 hi2 (Nat.le_refl _) (show 1*i2.toNat≤_ by omega) (by omega) ?_
         intro vb
         refine HL.ent (Ent.JM hbl hbc) ?_
         refine HL.jm [] I I ?_
         refine HA.row 0 I (v:=vb) (e:=4) (sz:=1) (m:=pb.hv.length) (xs:=cellsOf bC pb.hv) hbl0 fun g1 o1 e1 hvb=>?_
         subst hvb
         refine HA.row 1 I (v:=vs) (e:=9) (sz:=1) (m:=pb.da.length) (xs:=cellsOf sC pb.da) hsl0 fun g2 o2 e2 hvs=>?_
         subst hvs
         refine za 10 ?_
         refine HA.one 11 (by kernel_rfl) I ?_
         refine HL.jk JR I I I I I (by decide) (by decide) ?_
         intro va
         refine HL.jm [] I I ?_
         refine HA.one 12 (by kernel_rfl) I ?_
         refine HL.zD 3 I JR (Rd.own 0 I) I I I I (jJ I) (by show (N.length+1)*80≤_;omega) (by show N.length+1≤_;omega) ?_
         intro o3
         refine HL.jm [] I I ?_
         refine za 13 ?_
         refine HA.done (by kernel_rfl) ?_
         subst hpb
         exact hj4 (o3,⟨.slice (some ⟨g1,o1,none⟩) (Jk s i0 i2 now).hv.length e1,.slice (some ⟨g2,o2,none⟩) (Jk s i0 i2 now).da.length e2,Jk s i0 i2 now⟩) _ _ ⟨rfl,⟨_,_,_,rfl⟩,⟨_,_,_,rfl⟩⟩ ⟨I,I,I,trivial⟩ (Ent.pick [1,2,4,3] I I)
       ·refine HL.kX i2.toNat i2.toNat jAR I I I I hi2 hi2 (Nat.le_refl _) (show 1*i2.toNat≤_ by omega) (by omega) ?_
        intro vb
        refine HL.ent (Ent.JM hbl hbc) ?_
        refine HL.jm [] I I ?_
        refine HA.two 5 9 (by kernel_rfl) I I ?_ ?_
        ·refine HL.jN jKU I I (fun w _=>K5 now w) ?_
         refine HL.jm [] I I ?_
         refine HA.one 9 (by kernel_rfl) I ?_
         refine HL.kX i2.toNat i2.toNat Zr I I I I hi2 hi2 (Nat.le_refl _) (show 16*i2.toNat≤_ by omega) (by omega) ?_
         intro vs
         refine HL.ent (Ent.JM hsl hsc) ?_
         refine HL.jm [] I I ?_
         refine HA.row 1 I (v:=vb) (e:=4) (sz:=1) (m:=pb.hv.length) (xs:=cellsOf bC pb.hv) hbl0 fun g1 o1 e1 hvb=>?_
         subst hvb
         refine HA.row 0 I (v:=vs) (e:=9) (sz:=1) (m:=pb.da.length) (xs:=cellsOf sC pb.da) hsl0 fun g2 o2 e2 hvs=>?_
         subst hvs
         refine za 10 ?_
         refine HA.one 11 (by kernel_rfl) I ?_
         refine HL.jk JR I I I I I (by decide) (by decide) ?_
         intro va
         refine HL.jm [] I I ?_
         refine HA.one 12 (by kernel_rfl) I ?_
         refine HL.zD 3 I JR (Rd.own 0 I) I I I I (jJ I) (by show (N.length+1)*80≤_;omega) (by show N.length+1≤_;omega) ?_
         intro o3
         refine HL.jm [] I I ?_
         refine za 13 ?_
         refine HA.done (by kernel_rfl) ?_
         subst hpb
         exact hj4 (o3,⟨.slice (some ⟨g1,o1,none⟩) (Jk s i0 i2 now).hv.length e1,.slice (some ⟨g2,o2,none⟩) (Jk s i0 i2 now).da.length e2,Jk s i0 i2 now⟩) _ _ ⟨rfl,⟨_,_,_,rfl⟩,⟨_,_,_,rfl⟩⟩ ⟨I,I,I,trivial⟩ (Ent.pick [2,1,4,3] I I)
        ·refine HL.kX i2.toNat i2.toNat Zr I I I I hi2 hi2 (Nat.le_refl _) (show 16*i2.toNat≤_ by omega) (by omega) ?_
         intro vs
         refine HL.ent (Ent.JM hsl hsc) ?_
         refine HL.jm [] I I ?_
         refine HA.one 5 (by kernel_rfl) I ?_
         refine HL.jN jKU I I (fun w _=>K5 now w) ?_
         refine HL.jm [] I I ?_
         refine HA.row 1 I (v:=vb) (e:=4) (sz:=1) (m:=pb.hv.length) (xs:=cellsOf bC pb.hv) hbl0 fun g1 o1 e1 hvb=>?_
         subst hvb
         refine HA.row 0 I (v:=vs) (e:=9) (sz:=1) (m:=pb.da.length) (xs:=cellsOf sC pb.da) hsl0 fun g2 o2 e2 hvs=>?_
         subst hvs
         refine za 10 ?_
         refine HA.one 11 (by kernel_rfl) I ?_
         refine HL.jk JR I I I I I (by decide) (by decide) ?_
         intro va
         refine HL.jm [] I I ?_
         refine HA.one 12 (by kernel_rfl) I ?_
         refine HL.zD 3 I JR (Rd.own 0 I) I I I I (jJ I) (by show (N.length+1)*80≤_;omega) (by show N.length+1≤_;omega) ?_
         intro o3
         refine HL.jm [] I I ?_
         refine za 13 ?_
         refine HA.done (by kernel_rfl) ?_
         subst hpb
         exact hj4 (o3,⟨.slice (some ⟨g1,o1,none⟩) (Jk s i0 i2 now).hv.length e1,.slice (some ⟨g2,o2,none⟩) (Jk s i0 i2 now).da.length e2,Jk s i0 i2 now⟩) _ _ ⟨rfl,⟨_,_,_,rfl⟩,⟨_,_,_,rfl⟩⟩ ⟨I,I,I,trivial⟩ (Ent.pick [2,1,4,3] I I)
       ·refine HL.kX i2.toNat i2.toNat Zr I I I I hi2 hi2 (Nat.le_refl _) (show 16*i2.toNat≤_ by omega) (by omega) ?_
        intro vs
        refine HL.ent (Ent.JM hsl hsc) ?_
        refine HL.jm [] I I ?_
        refine HA.two 5 7 (by kernel_rfl) I I ?_ ?_
        ·refine HL.jN jKU I I (fun w _=>K5 now w) ?_
         refine HL.jm [] I I ?_
         refine HA.one 7 (by kernel_rfl) I ?_
         refine HL.kX i2.toNat i2.toNat jAR I I I I hi2 hi2 (Nat.le_refl _) (show 1*i2.toNat≤_ by omega) (by omega) ?_
         intro vb
         refine HL.ent (Ent.JM hbl hbc) ?_
         refine HL.jm [] I I ?_
         refine HA.row 0 I (v:=vb) (e:=4) (sz:=1) (m:=pb.hv.length) (xs:=cellsOf bC pb.hv) hbl0 fun g1 o1 e1 hvb=>?_
         subst hvb
         refine HA.row 1 I (v:=vs) (e:=9) (sz:=1) (m:=pb.da.length) (xs:=cellsOf sC pb.da) hsl0 fun g2 o2 e2 hvs=>?_
         subst hvs
         refine za 10 ?_
         refine HA.one 11 (by kernel_rfl) I ?_
         refine HL.jk JR I I I I I (by decide) (by decide) ?_
         intro va
         refine HL.jm [] I I ?_
         refine HA.one 12 (by kernel_rfl) I ?_
         refine HL.zD 3 I JR (Rd.own 0 I) I I I I (jJ I) (by show (N.length+1)*80≤_;omega) (by show N.length+1≤_;omega) ?_
         intro o3
         refine HL.jm [] I I ?_
         refine za 13 ?_
         refine HA.done (by kernel_rfl) ?_
         subst hpb
         exact hj4 (o3,⟨.slice (some ⟨g1,o1,none⟩) (Jk s i0 i2 now).hv.length e1,.slice (some ⟨g2,o2,none⟩) (Jk s i0 i2 now).da.length e2,Jk s i0 i2 now⟩) _ _ ⟨rfl,⟨_,_,_,rfl⟩,⟨_,_,_,rfl⟩⟩ ⟨I,I,I,trivial⟩ (Ent.pick [1,2,4,3] I I)
        ·refine HL.kX i2.toNat i2.toNat jAR I I I I hi2 hi2 (Nat.le_refl _) (show 1*i2.toNat≤_ by omega) (by omega) ?_
         intro vb
         refine HL.ent (Ent.JM hbl hbc) ?_
         refine HL.jm [] I I ?_
         refine HA.one 5 (by kernel_rfl) I ?_
         refine HL.jN jKU I I (fun w _=>K5 now w) ?_
         refine HL.jm [] I I ?_
         refine HA.row 0 I (v:=vb) (e:=4) (sz:=1) (m:=pb.hv.length) (xs:=cellsOf bC pb.hv) hbl0 fun g1 o1 e1 hvb=>?_
         subst hvb
         refine HA.row 1 I (v:=vs) (e:=9) (sz:=1) (m:=pb.da.length) (xs:=cellsOf sC pb.da) hsl0 fun g2 o2 e2 hvs=>?_
         subst hvs
         refine za 10 ?_
         refine HA.one 11 (by kernel_rfl) I ?_
         refine HL.jk JR I I I I I (by decide) (by decide) ?_
         intro va
         refine HL.jm [] I I ?_
         refine HA.one 12 (by kernel_rfl) I ?_
         refine HL.zD 3 I JR (Rd.own 0 I) I I I I (jJ I) (by show (N.length+1)*80≤_;omega) (by show N.length+1≤_;omega) ?_
         intro o3
         refine HL.jm [] I I ?_
         refine za 13 ?_
         refine HA.done (by kernel_rfl) ?_
         subst hpb
         exact hj4 (o3,⟨.slice (some ⟨g1,o1,none⟩) (Jk s i0 i2 now).hv.length e1,.slice (some ⟨g2,o2,none⟩) (Jk s i0 i2 now).da.length e2,Jk s i0 i2 now⟩) _ _ ⟨rfl,⟨_,_,_,rfl⟩,⟨_,_,_,rfl⟩⟩ ⟨I,I,I,trivial⟩ (Ent.pick [1,2,4,3] I I)
     ·refine HR.cond I (fun h6=>?_) (fun h6=>?_)
      ·have h6:M.length=8:=by have h6:((M.length:Int)==8)=true:=h6;simp at h6;omega
       obtain ⟨m0,hm0⟩:=jH (show 0<M.length by omega)
       refine HR.region ?_
       repeat' (first|refine zn ?_|apply zb ?_ ?_|exact zc|(refine zi fun hb=>?_;try simp at hb)|intro (bk:Nat))
       refine HL.JN jQ3 I I (fun w1 hw1=>Kh M 0 v2 w1 ((Rd.own 0 rfl).at hw1) hshM (by omega) (by omega)) ?_
       intro r
       repeat' (first|refine zn ?_|apply zb ?_ ?_|exact zc|(refine zi fun hb=>?_;try simp at hb)|intro (bk:Nat))
       refine hj6 (r,M.eraseIdx 0) _ _ ⟨?_,fun y hy=>hshM y (List.mem_of_mem_eraseIdx hy)⟩ ⟨I,I,I,I,I,I,I,trivial⟩ (Ent.trans (Ent.pick [2,0] I I) (Ent.trans (Ent.jKP _ (jAg hm0)) (Ent.pick [1,0] I I)))
       show pts (M.eraseIdx 0)=jAL (pts M)
       unfold jAL
       rw[if_pos (by rw[JF];exact h6)]
       exact jB0 _ _ _
      ·have h6:¬M.length=8:=by intro e;have h6:((M.length:Int)==8)=false:=h6;rw[e]at h6;cases h6
       refine HR.skip ?_
       refine hj6 (v2,M) _ _ ⟨?_,hshM⟩ ⟨I,I,I,I,I,I,I,trivial⟩ (Ent.pick [0,1] I I)
       show pts M=jAL (pts M)
       unfold jAL
       rw[if_neg (by rw[JF];exact h6)]
  ·rcases Jr (pis s i0) (pts L)with ⟨_,e2,_⟩|⟨a,q,_,e2,hq,_,_⟩
   ·have e2:jBD (pts L) s i0=none:=e2
    rw[e2]
    refine HR.jy I ?_
    refine HR.skip ?_
    exact hj2 (v1,L,none) _ _ ⟨by unfold zA;rw[e2],hsh⟩ ⟨I,I,I,I,I,I,I,I,trivial⟩ Ent.refl
   ·have e2:jBD (pts L) s i0=some a:=e2
    have hal:a<L.length:=by have:=(List.getElem?_eq_some_iff.1 hq).1;rw[JF]at this;exact this
    have hgq:(pts L).getD a pz=q:=by rw[List.getD_eq_getElem?_getD,hq];rfl
    rw[e2]
    obtain ⟨m0,hm0⟩:=jH hal
    refine HR.cond I (fun h6=>?_) (fun h6=>?_)
    ·have h6:¬((pts L).getD a pz).ct=i2:=by have h6:(((pts L).getD a pz).ct != i2)=true:=h6;simpa using h6
     refine HR.ctl I ?_
     refine HR.region ?_
     repeat' (first|refine zn ?_|apply zb ?_ ?_|exact zc|(refine zi fun hb=>?_;try simp at hb)|intro (bk:Nat))
     refine HL.JN jQ3 I I (fun w1 hw1=>Kh L a v1 w1 ((Rd.own 0 rfl).at hw1) hsh hal (by omega)) ?_
     intro r
     repeat' (first|refine zn ?_|apply zb ?_ ?_|exact zc|(refine zi fun hb=>?_;try simp at hb)|intro (bk:Nat))
     refine HR.region ?_
     repeat' (first|refine zn ?_|apply zb ?_ ?_|exact zc|(refine zi fun hb=>?_;try simp at hb)|intro (bk:Nat))
     refine hj2 (r,L.eraseIdx a,none) _ _ ⟨?_,fun y hy=>hsh y (List.mem_of_mem_eraseIdx hy)⟩ ⟨I,I,I,I,I,I,I,I,trivial⟩ (Ent.trans (Ent.pick [2,0] I I) (Ent.trans (Ent.jKP _ (jAg hm0)) (Ent.pick [1,0] I I)))
     show (pts (L.eraseIdx a),(none:Option Nat))=zA (pts L) s i0 i2
     unfold zA
     rw[e2]
     simp only
     rw[if_neg h6]
     exact congrArg (·,none) (jB0 _ _ _)
    ·have h6:((pts L).getD a pz).ct=i2:=by have h6:(((pts L).getD a pz).ct != i2)=false:=h6;simpa using h6
     refine HR.skip ?_
     refine hj2 (v1,L,some a) _ _ ⟨?_,hsh⟩ ⟨I,I,I,I,I,I,I,I,trivial⟩ Ent.refl
     show (pts L,some a)=zA (pts L) s i0 i2
     unfold zA
     rw[e2]
     simp only
     rw[if_pos h6]
 ·have hpf:pfi (pts L) s i0=atI (jBD (pts L) s i0):=by
   unfold pfi jBD fidx atI
   cases List.findIdx? (pis s i0) (pts L)<;>rfl
  rw[hpf]
  rcases Jr (pis s i0) (pts L)with ⟨_,e2,_⟩|⟨a,q,_,e2,hq,_,_⟩
  ·have e2:jBD (pts L) s i0=none:=e2
   rw[e2]at hj ⊢
   refine HR.region ?_
   repeat' (first|refine zn ?_|intro (bk:Nat))
   exact hj () _ _ trivial ⟨I,I,I,I,I,I,I,I,I,trivial⟩ Ent.refl
  ·have e2:jBD (pts L) s i0=some a:=e2
   have hal:a<L.length:=by have:=(List.getElem?_eq_some_iff.1 hq).1;rw[JF]at this;exact this
   have hgq:(pts L).getD a pz=q:=by rw[List.getD_eq_getElem?_getD,hq];rfl
   obtain ⟨p,hp⟩:=jH hal
   have hpq:p.pt=q:=by rw[Zo hp]at hq;cases hq;rfl
   rw[e2]at hj ⊢
   simp only[hgq,← hpq]at hj
   refine HR.region ?_
   repeat' (first|refine zn ?_|refine HL.jw (Rd.own 0 I) JR a I I I I hal ?_|refine HL.JL 2 (Rd.own 0 I) (show a*6<(cellsOf ptC L).length by rw[hcl];omega) I I I I I I I ?_|refine HL.jY (Rd.own 0 I) I I I I (jR JX hp (i:=2) I) ?_|intro (bk:Nat))
   exact hj () _ _ trivial ⟨I,I,I,I,I,I,I,I,I,trivial⟩ Ent.refl
end Go.Proofs.YtgfdoognildoeaaGreat
namespace Go.GX
open Go.RowKit
def jLq (md:Region.Mode) (ops:Array Oper) (i:Nat):List Nat:=match ops[i]? with
 |some o=>(o.after.toList.filter fun e=>Region.binds md e).map (·.on)
 |none=>[]
def jGK:List Nat→List Nat→List Nat
 |l,[]=>l
 |l,x::xs=>match kV x l with
  |true=>jGK l xs
  |false=>jGK (x::l) xs
def jJR (md:Region.Mode) (ops:Array Oper):Nat→List Nat→List Nat
 |0,l=>l
 |n+1,l=>jJR md ops n (jGK l (l.flatMap (jLq md ops)))
def jHj (md:Region.Mode) (ops:Array Oper) (z:Nat):Bool:=(List.range ops.size).all fun i=>Nat.beq i z||kV i (jJR md ops 12 (jLq md ops z))
def Closed (md:Region.Mode) (ops:Array Oper) (listed:Array Bool):Prop:=∀(j:Nat) (oj:Oper),ops[j]? =some oj→listed.getD j true=true→∀e∈oj.after,Region.binds md e=true→listed.getD e.on false=true
section
variable {P : Program} {md : Region.Mode} {ops : Array Oper} {Q : Exit → Act → World → Prop} {S : World → Prop} {z : Nat} {listed : Array Bool}
theorem jBM {x:Nat}:∀ {xs l:List Nat},x∈jGK l xs→x∈l∨x∈xs
 |[],l,h=> .inl h
 |y::xs,l,h=>by
  unfold jGK at h
  split at h
  ·exact (jBM h).imp id (List.mem_cons_of_mem _)
  ·rcases jBM h with h|h
   ·rcases List.mem_cons.1 h with rfl|h
    ·exact .inr (List.mem_cons_self ..)
    ·exact .inl h
   ·exact .inr (List.mem_cons_of_mem _ h)
theorem jBB {i j:Nat} (h:j∈jLq md ops i):∃o,ops[i]? =some o∧∃e∈o.after,Region.binds md e=true∧e.on=j:=by
 unfold jLq at h
 split at h
 ·rename_i o ho
  obtain ⟨e,he,rfl⟩:=List.mem_map.1 h
  rw[List.mem_filter]at he
  exact ⟨o,ho,e,by simpa using he.1,he.2,rfl⟩
 ·cases h
theorem jAt {j:Nat} (h:listed.getD j false=true):listed.getD j true=true:=by
 simp only[Array.getD_eq_getD_getElem?]at*
 cases h2:listed[j]? with
 |none=>rfl
 |some b=>rw[h2]at h;exact h
theorem ku (hc:Closed md ops listed):∀(n:Nat) (l:List Nat),(∀ x∈l,listed.getD x false=true)→∀x∈jJR md ops n l,listed.getD x false=true
 |0,l,h,x,hx=>h x hx
 |n+1,l,h,x,hx=>by
  refine ku hc n _ (fun y hy=>?_) x hx
  rcases jBM hy with hy|hy
  ·exact h y hy
  ·obtain ⟨i,hi,hy⟩:=List.mem_flatMap.1 hy
   obtain ⟨o,ho,e,he,hb,rfl⟩:=jBB hy
   exact hc i o ho (jAt (h i hi)) e he hb
theorem jGR (hz:jHj md ops z=true) (hc:Closed md ops listed) (hr:z∈Region.ready md ops listed) {i:Nat} (hi:i<ops.size) (hne:i≠z):listed.getD i false=true:=by
 have h1:=List.all_eq_true.1 hz i (List.mem_range.2 hi)
 have h2:Nat.beq i z=false:=by
  rw[← Bool.not_eq_true];intro hb;exact hne (Nat.eq_of_beq_eq_true hb)
 rw[h2,Bool.false_or]at h1
 obtain ⟨_,oz,hoz,hall⟩:=mem_ready.1 hr
 refine ku hc 12 _ (fun y hy=>?_) i (KX h1)
 obtain ⟨o,ho,e,he,hb,rfl⟩:=jBB hy
 rw[hoz]at ho;cases ho
 exact hall e he hb
theorem Closed.set (hc:Closed md ops listed) {j:Nat} (hr:j∈Region.ready md ops listed):Closed md ops (listed.setIfInBounds j true):=by
 obtain ⟨_,oj,hoj,hall⟩:=mem_ready.1 hr
 intro k ok hk hl e he hb
 by_cases hkj:j=k
 ·subst hkj
  rw[hoj]at hk;cases hk
  exact getD_set_true (hall e he hb)
 ·rw [getD_set_ne true hkj]at hl
  exact getD_set_true (hc k ok hk hl e he hb)
theorem Closed.start {n:Nat} (hn:n=ops.size):Closed md ops (Array.replicate n false):=by
 subst hn
 intro j oj hj hl
 have hlt:=(Array.getElem?_eq_some_iff.1 hj).1
 simp[Array.getD_eq_getD_getElem?,hlt]at hl
theorem jEs (hz:jHj md ops z=true) {i:Nat} {oi:Oper} {v:Value} (hi:ops[i]? =some oi) (hiz:i≠z) (hsel:∀(j:Nat) (o:Oper) cs b,ops[j]? =some o→o.op≠ .select cs b)
  (hQ:∀c a w,Q (.panic c) (a.put oi.dst v) w→Q (.panic c) a w):
  ∀(fuel:Nat) (listed:Array Bool) (a:Act) (w:World),Closed md ops listed→
   (∀ j oj,ops[j]? =some oj→j≠i→listed.getD j true=false→(∀ e∈oj.after,Region.binds md e=true→e.on≠i)→oi.apart ops oj=true)→
   i∈Region.ready md ops listed→YieldsIf P ops S oi v a→S w→
   jBQ P md ops Q S z fuel (listed.setIfInBounds i true) (a.put oi.dst v) w→jBQ P md ops Q S z (fuel+1) listed a w:=by
 intro fuel
 induction fuel with
 |zero=>
  intro listed a w _ _ hr hy hS H
  refine ⟨fun h=>(by rw[h]at hr;cases hr),fun j hj=>?_⟩
  by_cases hji:j=i
  ·subst hji;exact hy.wpOp hi hS ⟨.inr hS,H⟩
  ·have:=ready_mono hj hji
   rw[H.1]at this
   cases this
 |succ fuel ih=>
  intro listed a w hc hfree hr hy hS H
  refine ⟨fun h=>(by rw[h]at hr;cases hr),fun j hj=>?_⟩
  by_cases hji:j=i
  ·subst hji;exact hy.wpOp hi hS ⟨.inr hS,H⟩
  ·have h1:=H.2 j (ready_mono hj hji)
   obtain ⟨hjun,oj,hoj,hall⟩:=mem_ready.1 hj
   have h0:=(mem_ready.1 hr).1
   have hnot:∀e∈oj.after,Region.binds md e=true→e.on≠i:=fun e he hb heq=>by
    have h1:=hall e he hb
    rw[heq]at h1
    rw[jAt h1]at h0;cases h0
   have hjz:j≠z:=by
    intro e
    subst e
    have:=jGR hz hc hj (Array.getElem?_eq_some_iff.1 hi).1 (Ne.symm hji)
    rw[jAt this]at h0;cases h0
   have h2:=wpOp_putIf hoj (hfree j oj hoj hji hjun hnot) (fun cs b=>hsel i oi cs b hi) (fun cs b=>hsel j oj cs b hoj) hQ hy h1
   have hfree':∀k ok,ops[k]? =some ok→k≠i→(listed.setIfInBounds j true).getD k true=false→
     (∀ e∈ok.after,Region.binds md e=true→e.on≠i)→oi.apart ops ok=true:=fun k ok hk hki hun hno=>by
    refine hfree k ok hk hki ?_ hno
    by_cases hjk:j=k
    ·subst hjk;exact hjun
    ·rw [getD_set_ne true hjk]at hun;exact hun
   refine wpOp_mono (fun a' w' h3=>?_) h2
   have hS':S w':=h3.2.1.resolve_left hjz
   refine ⟨.inr hS',ih (listed.setIfInBounds j true) a' w' (hc.set hj) hfree' (ready_mono hr (Ne.symm hji)) h3.1 hS' ?_⟩
   rw[Array.setIfInBounds_comm _ _ hji]
   exact h3.2.2
end
def jMD (z:Nat):List (Nat×Bool)→Bool
 |[]=>true
 |(i,_)::p=>match Nat.beq i z with
  |true=>false
  |false=>jMD z p
def jLy (ops:Array Oper) (p:List (Nat×Bool)) (z:Nat):Bool:=Region.noSelect ops&&Nat.beq (p.length+1) ops.size&&jMD z p&&jHj .any ops z&&Zg ops (p++[(z,false)]) (Array.replicate ops.size false)
section
variable {P : Program} {f : FuncId} {N : Nat} {k : List Item} {σ : Store} {B : Base} {H F : List Chunk} {R : Ending → World → Prop} {ops l : List Oper} {o : Oper} {K : Act → World → Prop} {S : World → Prop} {z : Nat}
theorem jKw {ops:Array Oper} {K1 K2:Act→World→Prop} {i:Nat} {next:Act→World→Prop} {a:Act} {w:World} (h:wpOp P ops (QN K1) i next a w):wpOp P ops (QN K2) i next a w:=by
 unfold wpOp at*
 split
 ·rename_i ho
  simpa[ho]using h
 ·rename_i o ho
  simp only[ho]at h
  split
  ·rename_i hw
   rw[if_pos hw]at h
   rcases h with h|h
   ·exact .inl (jQQ h)
   ·exact (K9 h.2).elim
  ·rename_i hw
   rw[if_neg hw]at h
   exact h
theorem Zb {ops:Array Oper} {K:Act→World→Prop} (hn:Region.noSelect ops=true) (hz:jHj .any ops z=true):∀(p:List (Nat×Bool)) (listed:Array Bool) (a:Act) (w:World),S w→Closed .any ops listed→jMD z p=true→
  Zg ops (p++[(z,false)]) listed=true→jAE P ops S (fun a w=>wpOp P ops (QN K) z K a w) p a w→jBQ P .any ops (QN K) S z (p.length+1) listed a w
 |[],listed,a,w,hS,_,_,hB,h=>by
  simp only[List.nil_append,Zg,Bool.and_eq_true,decide_eq_true_eq]at hB
  refine ⟨fun h0=>absurd (hB.1.symm.trans h0) (by simp),fun j hj=>?_⟩
  rw[hB.1]at hj
  have:j=z:=by simpa using hj
  subst this
  exact wpOp_mono (fun a' w' h'=>⟨.inl rfl,by simpa using hB.2,rfl,h'⟩) h
 |(i,true)::p,listed,a,w,hS,hc,hnz,hB,h=>by
  obtain ⟨o,v,ho,hy,h⟩:=h
  simp only[List.cons_append,Zg,Bool.and_eq_true]at hB
  have hf:=Region.free_spec ho hB.1.2
  unfold jMD at hnz
  split at hnz
  ·cases hnz
  ·rename_i hb
   have hiz:i≠z:=by rintro rfl;rw[Nat.beq_refl]at hb;cases hb
   have hr:i∈Region.ready .any ops listed:=by simpa using hB.1.1
   exact jEs hz ho hiz (Region.noSelect_spec hn) (fun c a w h=>absurd h.1 (by nofun)) _ listed a w hc hf hr hy hS (Zb hn hz p _ _ _ hS (hc.set hr) hnz hB.2 h)
 |(i,false)::p,listed,a,w,hS,hc,hnz,hB,h=>by
  simp only[List.cons_append,Zg,Bool.and_eq_true,decide_eq_true_eq]at hB
  refine ⟨fun h0=>absurd (hB.1.symm.trans h0) (by simp),fun j hj=>?_⟩
  have hj0:=hj
  rw[hB.1]at hj
  have:j=i:=by simpa using hj
  subst this
  unfold jMD at hnz
  split at hnz
  ·cases hnz
  ·exact jKw (wpOp_mono (fun a' w' h'=>⟨.inr h'.1,Zb hn hz p _ _ _ h'.1 (hc.set hj0) hnz hB.2 h'.2⟩) h)
theorem HR.Jm (p:List (Nat×Bool)) (z:Nat) (is:List Nat) (hF:jAM H is=some F) (hd:Js is=true) {id:Nat} (hm:P.follows .mixedOrders=true) (hB:jLy ops.toArray p z=true)
  (h:HD P N ops p σ B H F (KZ P ops z (Ko P f k R))):HR P f N (.code (.region id ops.toArray true)::k) σ B H R:=by
 intro w hw a ha
 simp only[jLy,Bool.and_eq_true]at hB
 obtain ⟨⟨⟨⟨h1,h2⟩,h3⟩,h4⟩,h5⟩:=hB
 have hb:Below w.heap.size w { w with drawn:=w.drawn+1 }:=⟨rfl,rfl,rfl,Nat.le_refl _,fun _ _=>rfl⟩
 have hw1:Sat B H { w with drawn:=w.drawn+1 }:=hw.grow hb
 refine Ko.of_wp (wp_region_any hm (jA5 (S:=fun w=>Sat B F w) (z:=z) _ _ _ _ ?_))
 rw[show ops.toArray.size=p.length+1 from (Nat.eq_of_beq_eq_true h2).symm]
 rw[show ops.toArray.size=p.length+1 from (Nat.eq_of_beq_eq_true h2).symm]at h5
 exact Zb h1 h4 p _ _ _ (hw1.pick is hF hd) (Closed.start (Nat.eq_of_beq_eq_true h2)) h3 h5 (h _ hw1 (hw1.pick is hF hd) a ha)
end
end Go.GX
namespace Go.Proofs.YtgfdoognildoeaaGreat
open Go.GX Go.RowKit
attribute [local irreducible] Calls Run jg jh JU HR HL HD jU jK Jc Rd jL jd
open Nd
theorem jKV:IsFn Tryz.prog 160:=⟨⟨_,_,Tryz.func160,rfl,by decide⟩⟩
theorem jM8:IsFn Tryz.prog 119:=⟨⟨_,_,Tryz.func119,rfl,by decide⟩⟩
theorem jSf:IsFn Tryz.prog 158:=⟨⟨_,_,Tryz.func158,rfl,by decide⟩⟩
theorem jSq:IsFn Tryz.prog 118:=⟨⟨_,_,Tryz.func118,rfl,by decide⟩⟩
abbrev SV:=Option Addr×Nat
abbrev sv (x:SV) (n:Nat):Value:= .slice x.1 n x.2
structure NV where
 ta:SV
 li:SV
 ou:SV
 ch:SV
 bo:SV
 se:SV
 pa:SV
 ib:SV
 ps:List PtV
abbrev ndC (V:NV) (n:Nd):List Value:=[.int .i64 n.addr,.int .i64 n.poll,.int .i64 n.parent,sv V.ta n.table.length,sv V.li n.links.length,sv V.ou n.out.length,sv V.ch n.children.length,sv V.bo n.boxes.length,sv V.se n.seen.length,sv V.pa V.ps.length,sv V.ib n.inbox.length,.int .i64 n.seq,.int .i64 n.lost]
abbrev stC (V:NV) (n:Nd) (now:Int):List Value:=[.int .i64 n.addr,.int .i64 n.poll,.int .i64 n.parent,sv V.ta n.table.length,sv V.li n.links.length,sv V.ou n.out.length,sv V.ch n.children.length,sv V.bo n.boxes.length,sv V.se n.seen.length,sv V.pa V.ps.length,sv V.ib n.inbox.length,.int .i64 n.seq,.int .i64 n.lost,.int .i64 now]
abbrev cTa (v:Value) (l:List Ro):Chunk:=jK v 94 4 l.length (cellsOf roC l)
abbrev cLi (v:Value) (l:List Li):Chunk:=jK v 162 3 l.length (cellsOf liC l)
abbrev cSn (v:Value) (l:List Sn):Chunk:=jK v 131 11 l.length (cellsOf snC l)
abbrev cI (v:Value) (l:List Int):Chunk:=jK v 3 1 l.length (cellsOf iC l)
abbrev cMa (v:Value) (l:List Ma):Chunk:=jK v 166 10 l.length (cellsOf maC l)
abbrev cPr (v:Value) (l:List Pr):Chunk:=jK v 171 2 l.length (cellsOf prC l)
abbrev cPt (v:Value) (l:List PtV):Chunk:=jK v 173 6 l.length (cellsOf ptC l)
abbrev cDe (v:Value) (l:List De):Chunk:=jK v 65 2 l.length (cellsOf deC l)
abbrev ndH (V:NV) (n:Nd):List Chunk:=[cTa (sv V.ta n.table.length) n.table,cLi (sv V.li n.links.length) n.links,cSn (sv V.ou n.out.length) n.out,cI (sv V.ch n.children.length) n.children,cMa (sv V.bo n.boxes.length) n.boxes,cPr (sv V.se n.seen.length) n.seen,cPt (sv V.pa V.ps.length) V.ps,jD (ptG V.ps),cDe (sv V.ib n.inbox.length) n.inbox]
abbrev jCn (b:Nat) (V:NV) (n:Nd) (now:Int):Chunk:=jU b (stC V n now) 113
abbrev stH (b:Nat) (V:NV) (n:Nd) (now:Int):List Chunk:=jCn b V n now::ndH V n
abbrev ptr (b:Nat):Value:= .pointer (some ⟨b,0,none⟩)
structure Pts (V:NV) (n:Nd):Prop where
 eq:pts V.ps=n.parts
 sh:∀p∈V.ps,jBN p
theorem Zz (b:Nat) (V:NV) (n:Nd) (now:Int) (B:Base) (w:World) (hw:Sat B [jCn b V n now] w) (ho:0≤n.lost∧n.lost≤JY):
  Calls Tryz.prog 160 #[ptr b] w fun e w'=>∃_x:Unit,e= .returned (.tuple ⟨[]⟩)∧True∧Sat ⟨w,Zi [jCn b V n now]⟩ [jCn b V (lose n) now] w':=by
 obtain ⟨h0,h1⟩:=ho
 have h1:n.lost≤1099511627776:=h1
 refine ji [jCn b V n now] (hw) Tryz.func160 I (Nat.le_of_ble_eq_true I) ?_
 refine HR.sub (σ':=[(0,ptr b)]) ⟨I,trivial⟩ ?_
 repeat' (first|refine zh ?_|intro (bk:Nat))
 refine HR.fin Tryz.func160 I [] (fun _ _=>trivial) ?_
 have e:(if 1099511627776<n.lost+1 then (1099511627776:Int)else n.lost+1)=min (n.lost+1) JY:=by
  show _=min (n.lost+1) 1099511627776
  split<;>omega
 refine fun w' hw=>⟨(),rfl,trivial,?_⟩
 have hw2:Sat _ [jCn b V { n with lost:=if 1099511627776<n.lost+1 then 1099511627776 else n.lost+1 } now] w':=hw
 rw[e]at hw2
 exact hw2
theorem Zy (b:Nat) (V:NV) (n:Nd) (now:Int) (f:Fr) (B:Base) (w:World) (hw:Sat B (stH b V n now) w) (ho:Ord n):
  Calls Tryz.prog 119 #[ptr b,.agg ⟨frC f⟩] w fun e w'=>∃x:SV,e= .returned (.bool (queue n f).2)∧True∧Sat ⟨w,Zi (stH b V n now)⟩ (stH b { V with ou:=x } (queue n f).1 now) w':=by
 have h16:=ho.out
 have hlo:=ho.lost
 refine ji (stH b V n now) (hw) Tryz.func119 I (Nat.le_of_ble_eq_true I) ?_
 refine HR.sub (σ':=[(0,ptr b),(1,.agg ⟨frC f⟩)]) ⟨I,I,trivial⟩ ?_
 repeat' (first|refine zh ?_|intro (bk:Nat))
 refine HR.j3 [(0,true),(1,true),(2,true),(3,true),(4,true),(5,true),(6,false),(7,true),(8,true),(9,true),(10,true),(11,true)] [0,1] I I JZ (by kernel_rfl) ?_
 repeat' (first|refine zd ?_|fail)
 refine HD.one I ?_
 refine HL.JD (r:=fun v':Value=> .tuple ⟨[v',.bool (jC1 n.out f).2]⟩) (Q:=fun _=>True) (G:=fun v'=>[cSn v' (jC1 n.out f).1]) fn196 I I (fun w1 hw1=>jPM n.out f (sv V.ou n.out.length) w1 ((Rd.own 4 rfl).at hw1) (by omega)) ?_
 intro v1 _
 refine HL.shape 0 I fun a c hv=>?_
 subst hv
 refine HL.back [1,2] I I ?_
 repeat' (first|refine zd ?_|fail)
 refine HD.nil ?_
 obtain ⟨q,hq⟩:∃q,q=jC1 n.out f:=⟨_,rfl⟩
 have hsp:queue n f=(if q.2=false∨q.1.length=n.out.length then lose { n with out:=q.1 } else { n with out:=q.1 },q.2):=by rw[hq];rfl
 rw[hsp,← hq]
 refine HR.ent (H':=jCn b V n now::cSn (.slice a q.1.length c) q.1::ndH V n) (Ent.pick [2,0,3,4,5,6,7,8,9,10,11] I I) ?_
 obtain ⟨m,hm⟩:∃m:Nd,m=(if q.2=false∨q.1.length=n.out.length then lose n else n):=⟨_,rfl⟩
 have hmo:(if q.2=false∨q.1.length=n.out.length then lose { n with out:=q.1 } else { n with out:=q.1 })={ m with out:=q.1 }:=by
  rw[hm];split<;>rfl
 have hmn:∀V:NV,ndH V m=ndH V n:=by intro V;rw[hm];split<;>rfl
 rw[hmo]
 repeat' (first|refine zh ?_|apply zb ?_ ?_|exact zc|(refine zi fun hb=>?_;try simp at hb)|intro (bk:Nat))
 refine HR.join (ι:=Unit) (fun _=>True) (fun _=>[(0,ptr b),(5,.slice a q.1.length c),(6,.bool q.2)]) (fun _=>jCn b V m now::cSn (.slice a q.1.length c) q.1::ndH V m) (fun _ _=>?_) (fun hj=>?_)
 ·repeat' (first|refine zh ?_|intro (bk:Nat))
  refine HR.ret Tryz.func119 I [_] (fun _ _=>⟨I,trivial⟩) ?_
  refine fun w' hw=>⟨(a,c),rfl,trivial,?_⟩
  exact hw.pick [0,2,3,1,5,6,7,8,9,10] I I
 ·refine HR.cond I (fun h=>?_) (fun h=>?_)
  ·have h:(!q.2||((q.1.length:Int)==(n.out.length:Int)))=true:=h
   have h2:q.2=false∨(q.1.length:Int)=(n.out.length:Int):=by simpa using h
   have h:q.2=false∨q.1.length=n.out.length:=h2.imp id (fun e=>by omega)
   rw[if_pos h]at hm
   refine HR.region ?_
   repeat' (first|refine zn ?_|apply zb ?_ ?_|exact zc|(refine zi fun hb=>?_;try simp at hb)|intro (bk:Nat))
   refine HL.Jo (r:=fun _:Unit=> .tuple ⟨[]⟩) (Q:=fun _=>True) (G0:=[jCn b V n now]) (H0:=cSn (.slice a q.1.length c) q.1::ndH V n) (G:=fun _=>[jCn b V (lose n) now]) jKV I I I (fun w1 hw1=>Zz b V n now _ w1 (hw1.pick [0] I I) hlo) ?_
   intro _ _
   repeat' (first|refine zn ?_|apply zb ?_ ?_|exact zc|(refine zi fun hb=>?_;try simp at hb)|intro (bk:Nat))
   refine hj () _ _ trivial ⟨I,I,I,trivial⟩ (Ent.of_eq ?_)
   rw[hmn,hm];rfl
  ·have h:(!q.2||((q.1.length:Int)==(n.out.length:Int)))=false:=h
   have h2:¬(q.2=false∨(q.1.length:Int)=(n.out.length:Int)):=by simpa using h
   have h:¬(q.2=false∨q.1.length=n.out.length):=fun e=>h2 (e.imp id (fun e=>by omega))
   rw[if_neg h]at hm
   refine HR.skip ?_
   refine hj () _ _ trivial ⟨I,I,I,trivial⟩ (Ent.of_eq ?_)
   rw[hmn,hm]
theorem jHp (b:Nat) (V:NV) (n:Nd) (now:Int) (f:Fr) (B:Base) (w:World) (hw:Sat B (stH b V n now) w) (ho:Ord n):
  Calls Tryz.prog 158 #[ptr b,.agg ⟨frC f⟩] w fun e w'=>∃x:SV,e= .returned (.tuple ⟨[]⟩)∧True∧Sat ⟨w,Zi (stH b V n now)⟩ (stH b { V with bo:=x } (box n f now) now) w':=by
 have h16:=ho.boxes
 have hlo:=ho.lost
 refine ji (stH b V n now) (hw) Tryz.func158 I (Nat.le_of_ble_eq_true I) ?_
 refine HR.sub (σ':=[(0,ptr b),(1,.agg ⟨frC f⟩)]) ⟨I,I,trivial⟩ ?_
 repeat' (first|refine zh ?_|intro (bk:Nat))
 refine HR.j3 [(0,true),(1,true),(2,true),(3,true),(4,true),(5,true),(6,true),(7,true),(8,true),(9,true),(10,false),(11,true),(12,true),(13,true),(14,true),(15,true)] [0,1] I I JZ (by kernel_rfl) ?_
 repeat' (first|refine zd ?_|fail)
 refine HD.one I ?_
 refine HL.JD (r:=fun v':Value=> .tuple ⟨[v',.bool (jGB n.boxes f now).2]⟩) (Q:=fun _=>True) (G:=fun v'=>[cMa v' (jGB n.boxes f now).1]) fn213 I I (fun w1 hw1=>jPt n.boxes f now (sv V.bo n.boxes.length) w1 ((Rd.own 6 rfl).at hw1) (by omega)) ?_
 intro v1 _
 refine HL.shape 0 I fun a c hv=>?_
 subst hv
 refine HL.back [1,2] I I ?_
 repeat' (first|refine zd ?_|fail)
 refine HD.nil ?_
 obtain ⟨q,hq⟩:∃q,q=jGB n.boxes f now:=⟨_,rfl⟩
 have hsp:box n f now=(if q.2=false∨q.1.length=n.boxes.length then lose { n with boxes:=q.1 } else { n with boxes:=q.1 }):=by rw[hq];rfl
 rw[hsp]
 rw[← hq]
 refine HR.ent (H':=jCn b V n now::cMa (.slice a q.1.length c) q.1::ndH V n) (Ent.pick [2,0,3,4,5,6,7,8,9,10,11] I I) ?_
 obtain ⟨m,hm⟩:∃m:Nd,m=(if q.2=false∨q.1.length=n.boxes.length then lose n else n):=⟨_,rfl⟩
 have hmo:(if q.2=false∨q.1.length=n.boxes.length then lose { n with boxes:=q.1 } else { n with boxes:=q.1 })={ m with boxes:=q.1 }:=by
  rw[hm];split<;>rfl
 have hmn:∀V:NV,ndH V m=ndH V n:=by intro V;rw[hm];split<;>rfl
 rw[hmo]
 repeat' (first|refine zh ?_|apply zb ?_ ?_|exact zc|(refine zi fun hb=>?_;try simp at hb)|intro (bk:Nat))
 refine HR.join (ι:=Unit) (fun _=>True) (fun _=>[(0,ptr b),(4,.slice a q.1.length c),(5,.bool q.2)]) (fun _=>jCn b V m now::cMa (.slice a q.1.length c) q.1::ndH V m) (fun _ _=>?_) (fun hj=>?_)
 ·repeat' (first|refine zh ?_|intro (bk:Nat))
  refine HR.fin Tryz.func158 I [] (fun _ _=>trivial) ?_
  refine fun w' hw=>⟨(a,c),rfl,trivial,?_⟩
  exact hw.pick [0,2,3,4,5,1,7,8,9,10] I I
 ·refine HR.cond I (fun h=>?_) (fun h=>?_)
  ·have h:(!q.2||((q.1.length:Int)==(n.boxes.length:Int)))=true:=h
   have h2:q.2=false∨(q.1.length:Int)=(n.boxes.length:Int):=by simpa using h
   have h:q.2=false∨q.1.length=n.boxes.length:=h2.imp id (fun e=>by omega)
   rw[if_pos h]at hm
   refine HR.region ?_
   repeat' (first|refine zn ?_|apply zb ?_ ?_|exact zc|(refine zi fun hb=>?_;try simp at hb)|intro (bk:Nat))
   refine HL.Jo (r:=fun _:Unit=> .tuple ⟨[]⟩) (Q:=fun _=>True) (G0:=[jCn b V n now]) (H0:=cMa (.slice a q.1.length c) q.1::ndH V n) (G:=fun _=>[jCn b V (lose n) now]) jKV I I I (fun w1 hw1=>Zz b V n now _ w1 (hw1.pick [0] I I) hlo) ?_
   intro _ _
   repeat' (first|refine zn ?_|apply zb ?_ ?_|exact zc|(refine zi fun hb=>?_;try simp at hb)|intro (bk:Nat))
   refine hj () _ _ trivial ⟨I,I,I,trivial⟩ (Ent.of_eq ?_)
   rw[hmn,hm];rfl
  ·have h:(!q.2||((q.1.length:Int)==(n.boxes.length:Int)))=false:=h
   have h2:¬(q.2=false∨(q.1.length:Int)=(n.boxes.length:Int)):=by simpa using h
   have h:¬(q.2=false∨q.1.length=n.boxes.length):=fun e=>h2 (e.imp id (fun e=>by omega))
   rw[if_neg h]at hm
   refine HR.skip ?_
   refine hj () _ _ trivial ⟨I,I,I,trivial⟩ (Ent.of_eq ?_)
   rw[hmn,hm]
theorem jBR (b:Nat) (V:NV) (n:Nd) (now:Int) (d:De) (B:Base) (w:World) (hw:Sat B (stH b V n now) w) (ho:Ord n):
  Calls Tryz.prog 118 #[ptr b,.agg ⟨deC d⟩] w fun e w'=>∃x:SV,e= .returned (.tuple ⟨[]⟩)∧True∧Sat ⟨w,Zi (stH b V n now)⟩ (stH b { V with ib:=x } (deliver n d) now) w':=by
 have h256:=ho.inbox
 have hlo:=ho.lost
 refine ji (stH b V n now) (hw) Tryz.func118 I (Nat.le_of_ble_eq_true I) ?_
 refine HR.sub (σ':=[(0,ptr b),(1,.agg ⟨deC d⟩)]) ⟨I,I,trivial⟩ ?_
 repeat' (first|refine zh ?_|intro (bk:Nat))
 refine HR.cond I (fun h=>?_) (fun h=>?_)
 ·have h:n.inbox.length≥256:=by have:=of_decide_eq_true h;omega
  have e:deliver n d=lose n:=by unfold deliver;rw[if_pos h]
  rw[e]
  repeat' (first|refine zh ?_|intro (bk:Nat))
  refine HL.ent (Ent.pick [1,2,3,4,5,6,7,8,9,10] I I) ?_
  refine HL.Jo (r:=fun _:Unit=> .tuple ⟨[]⟩) (Q:=fun _=>True) (G0:=[jCn b V n now]) (H0:=ndH V n) (G:=fun _=>[jCn b V (lose n) now]) jKV I I I (fun w1 hw1=>Zz b V n now _ w1 (hw1.pick [0] I I) hlo) ?_
  intro _ _
  repeat' (first|refine zh ?_|intro (bk:Nat))
  refine HR.ret Tryz.func118 I [] (fun _ _=>trivial) ?_
  exact fun w' hw=>⟨V.ib,rfl,trivial,hw⟩
 ·have h:¬n.inbox.length≥256:=by have:=of_decide_eq_false h;omega
  have e:deliver n d={ n with inbox:=n.inbox++[d] }:=by unfold deliver;rw[if_neg h]
  rw[e]
  repeat' (first|refine zh ?_|intro (bk:Nat))
  refine HR.Jm [(0,true),(1,true),(2,true),(3,true),(4,true),(5,true),(6,true),(7,false),(8,false),(9,true),(10,true),(11,true)] 12 [0,1] I I JZ (by kernel_rfl) ?_
  repeat' (first|refine zd ?_|fail)
  refine HD.one I ?_
  refine HL.jk jAK I I I I I (by decide) (by decide) ?_
  intro va
  refine HL.back [1,2] I I ?_
  refine HD.one I ?_
  refine HL.zD 11 I jAK (Rd.own 0 I) I I I I (jJ I) (by omega) (by omega) ?_
  intro v2
  refine HL.back [1,2] I I ?_
  repeat' (first|refine zd ?_|fail)
  refine HD.last I ?_
  refine HL.shape 11 I fun a c hv=>?_
  subst hv
  repeat' (first|refine zn ?_|intro (bk:Nat))
  refine HR.fin Tryz.func118 I [] (fun _ _=>trivial) ?_
  refine fun w' hw=>⟨(a,c),rfl,trivial,?_⟩
  have w1:=hw.pick [11,2,3,4,5,6,7,8,9,10] I I
  have hl:n.inbox.length+1=(n.inbox++[d]).length:=by simp
  have hc:cellsOf deC n.inbox++deC d=cellsOf deC (n.inbox++[d]):=by rw[jM];rfl
  have w2:Sat _ (jK (.slice a (n.inbox.length+1) c) 65 2 (n.inbox.length+1) (cellsOf deC n.inbox++deC d)::jU b [.int .i64 n.addr,.int .i64 n.poll,.int .i64 n.parent,sv V.ta n.table.length,sv V.li n.links.length,sv V.ou n.out.length,sv V.ch n.children.length,sv V.bo n.boxes.length,sv V.se n.seen.length,sv V.pa V.ps.length,.slice a (n.inbox.length+1) c,.int .i64 n.seq,.int .i64 n.lost,.int .i64 now] 113::[cTa (sv V.ta n.table.length) n.table,cLi (sv V.li n.links.length) n.links,cSn (sv V.ou n.out.length) n.out,cI (sv V.ch n.children.length) n.children,cMa (sv V.bo n.boxes.length) n.boxes,cPr (sv V.se n.seen.length) n.seen,cPt (sv V.pa V.ps.length) V.ps,jD (ptG V.ps)]) w':=w1
  rw[hl,hc]at w2
  exact w2.pick [1,2,3,4,5,6,7,8,9,0] I I
end Go.Proofs.YtgfdoognildoeaaGreat
