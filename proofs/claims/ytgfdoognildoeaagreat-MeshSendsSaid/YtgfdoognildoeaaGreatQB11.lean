/- A part of the proof: contracts of the program's functions. Conditions: none. -/
import Derived.Carry
import Derived.Deep.MidRow
import Derived.Deep.Quiet
import Derived.Laws.IdiomRangeMap
import Derived.Laws.MakeOwn
import Derived.Laws.StructEq
import Derived.Laws.Tables
import Derived.Lib.AppendStr
import Derived.Lib.AppendZerosOnto
import Derived.Lib.OthersKept
import Derived.Lib.Overlaps
import Derived.Lib.OwnBridge
import Derived.Lib.SlicesCompact
import Derived.MapKept
import Derived.Orders
import Derived.OrdersHeld
import Derived.Scope
import Derived.Sort.Grow
import Derived.StillTail
import Derived.Test.YtgfdoognildoeaaGreatProg
import Derived.Test.YtgfdoognildoeaaGreatShelf
import Derived.WalkKit
import Derived.WalkLawsBesides
import Derived.WalkSpells
import Derived.Test.YtgfdoognildoeaaGreatQB1
import Derived.Test.YtgfdoognildoeaaGreatQB2
import Derived.Test.YtgfdoognildoeaaGreatQB3
import Derived.Test.YtgfdoognildoeaaGreatQB4
import Derived.Test.YtgfdoognildoeaaGreatQB5
import Derived.Test.YtgfdoognildoeaaGreatQB6
import Derived.Test.YtgfdoognildoeaaGreatQB7
import Derived.Test.YtgfdoognildoeaaGreatQB8
import Derived.Test.YtgfdoognildoeaaGreatQB9
import Derived.Test.YtgfdoognildoeaaGreatQB10
set_option linter.unusedVariables false
set_option linter.unusedSectionVars false
set_option linter.unusedSimpArgs false
set_option maxRecDepth 100000
set_option maxHeartbeats 4000000
namespace Go.Proofs.YtgfdoognildoeaaGreat
open Go.GX Go.RowKit
attribute [local irreducible] Calls Run jg jh JU HR HL HD jU jK Jc Rd jL jd
open Nd
theorem fn163:IsFn Tryz.prog 163:=⟨⟨_,_,Tryz.func163,rfl,by decide⟩⟩
theorem fn220:IsFn Tryz.prog 220:=⟨⟨_,_,Tryz.func220,rfl,by decide⟩⟩
theorem fn164:IsFn Tryz.prog 164:=⟨⟨_,_,Tryz.func164,rfl,by decide⟩⟩
theorem jPy (r:Ro) (w:World):Calls Tryz.prog 220 #[.agg ⟨roC r⟩] w fun e w'=>e= .returned (.bool ((r.dest==0)&&decide (r.cost≤200)))∧Below w.heap.size w w':=by
 refine jB Tryz.func220 I (Nat.le_of_ble_eq_true I) ?_
 refine HR.sub (σ':=[(0,.agg ⟨roC r⟩)]) ⟨I,trivial⟩ ?_
 repeat' (first|refine zh ?_|apply zb ?_ ?_|exact zc|(refine zi fun hb=>?_;try simp at hb)|intro (bk:Nat))
 refine HR.ret Tryz.func220 I [_] (fun _ _=>⟨I,trivial⟩) ?_
 exact fun w' hw=>⟨rfl,hw.jE⟩
theorem jNj (b:Nat) (V:NV) (n:Nd) (now:Int) (f:Fr) (B:Base) (w:World) (hw:Sat B (stH b V n now) w) (ho:Ord n) (hfd:f.da.length≤1000):
  Calls Tryz.prog 163 #[ptr b,.agg ⟨frC f⟩] w fun e w'=>∃x:SV×SV,e= .returned (.tuple ⟨[]⟩)∧True∧Sat ⟨w,Zi (stH b V n now)⟩ (stH b { V with ta:=x.1,li:=x.2 } (Jh n f) now) w':=by
 have h24:=jNb ho
 have l24:=llen ho
 obtain ⟨a,ha⟩:∃a:Nd,a={ n with links:=ZW n.links f.fr true }:=⟨_,rfl⟩
 have hal:a.links.length≤24:=by rw[ha];exact jFi (jBu _ _ _)
 have hat:a.table.length≤24:=by rw[ha];exact h24
 obtain ⟨d,hd⟩:∃d,d=jBg f.da:=⟨_,rfl⟩
 obtain ⟨g,hg⟩:∃g:Nd,g={ a with table:=jGe a.table a.addr f.fr (jEX a.links f.fr) d.1 }:=⟨_,rfl⟩
 have hsp:Jh n f=if d.2≠0 then a else if g.poll>0∧g.parent=255∧(KF d.1 0).2=true then { g with parent:=f.fr } else g:=by rw[hg,hd,ha];rfl
 rw[hsp]
 refine ji (stH b V n now) (hw) Tryz.func163 I (Nat.le_of_ble_eq_true I) ?_
 refine HR.sub (σ':=[(0,ptr b),(1,.agg ⟨frC f⟩)]) ⟨I,I,trivial⟩ ?_
 refine HR.ctl I ?_
 refine HR.region ?_
 refine HL.box I I ?_
 intro bf
 repeat' (first|refine zh ?_|intro (bk:Nat))
 refine HR.Jm [(0,true),(1,true),(2,true),(3,true),(4,true),(5,true),(6,true),(7,true),(8,false),(9,true),(10,true),(11,true)] 12 [0,1] I I JZ (by kernel_rfl) ?_
 repeat' (first|refine zd ?_|fail)
 refine HD.one I ?_
 refine HL.JN fn92 I I (fun w1 hw1=>jFg n.links f.fr true _ w1 ((Rd.own 3 rfl).at hw1) (by omega)) ?_
 intro v1
 refine HL.shape 0 I fun a1 c1 hv=>?_
 subst hv
 refine HL.back [1,2] I I ?_
 repeat' (first|refine zd ?_|fail)
 refine HD.last I ?_
 repeat' (first|refine zn ?_|intro (bk:Nat))
 refine HR.ent (H':=jU bf (frC f) 75::stH b { V with li:=(a1,c1) } { n with links:=ZW n.links f.fr true } now) (Ent.pick [1,2,3,0,5,6,7,8,9,10,11] I I) ?_
 rw[← ha]
 repeat' (first|refine zh ?_|intro (bk:Nat))
 refine HL.JD (r:=fun v':Value=> .tuple ⟨[v',.int .i64 d.2]⟩) (Q:=fun _=>True) (G:=fun v'=>[cTa v' d.1]) fn216 I I (fun w1 _=>by rw[hd];exact jKb f.da w1 (by omega)) ?_
 intro v2 _
 repeat' (first|refine zh ?_|intro (bk:Nat))
 refine HR.cond I (fun h1=>?_) (fun h1=>?_)
 ·have h1:d.2≠0:=by simpa using h1
  rw[if_pos h1]
  repeat' (first|refine zh ?_|intro (bk:Nat))
  refine HR.ret Tryz.func163 I [] (fun _ _=>trivial) ?_
  exact fun w' hw=>⟨(V.ta,(a1,c1)),rfl,trivial,hw.pick [2,3,4,5,6,7,8,9,10,11] I rfl⟩
 have h1:¬d.2≠0:=by simpa using h1
 rw[if_neg h1]
 have h0:(jBg f.da).2=0:=by rw[← hd];omega
 obtain ⟨g1,g2,g3⟩:=jQZ h0
 rw[← hd]at g1 g2 g3
 have hld:=jMe g2 g3
 repeat' (first|refine zh ?_|intro (bk:Nat))
 refine HR.Jm [(0,true),(1,true),(2,true),(3,true),(4,true),(5,true),(6,true),(7,true),(8,true),(9,true),(10,true),(11,true),(12,true),(13,true),(14,true),(15,true),(16,true),(17,true),(18,true),(19,true),(21,true),(20,false),(22,false),(23,true),(24,true),(25,true)] 26 [1,2] I I JZ (by kernel_rfl) ?_
 repeat' (first|refine zd ?_|fail)
 refine HD.one I ?_
 refine HL.jN fn218 I I (fun w1 hw1=>jMf a.links f.fr _ w1 ((Rd.own 4 rfl).at hw1) (by omega)) ?_
 refine HL.back [1,2] I I ?_
 refine HD.one I ?_
 refine HL.JN jSV I I (fun w1 hw1=>jHq a.table a.addr f.fr (jEX a.links f.fr) d.1 _ v2 w1 ((Rd.own 3 rfl).at hw1) ((Rd.own 0 rfl).at hw1) (by omega) (by omega)) ?_
 intro v3
 refine HL.shape 0 I fun a3 c3 hv=>?_
 subst hv
 refine HL.back [2,3] I I ?_
 repeat' (first|refine zd ?_|fail)
 refine HD.last I ?_
 repeat' (first|refine zn ?_|intro (bk:Nat))
 refine HR.ent (H':=cTa v2 d.1::jU bf (frC f) 75::stH b { V with li:=(a1,c1),ta:=(a3,c3) } { a with table:=jGe a.table a.addr f.fr (jEX a.links f.fr) d.1 } now) (Ent.pick [1,2,3,0,5,6,7,8,9,10,11,12] I I) ?_
 rw[← hg]
 repeat' (first|refine zh ?_|refine HL.jN fn219 I I (fun w1 hw1=>jHV d.1 (fun r=>(r.dest==0)&&decide (r.cost≤200)) 220 [] v2 w1 fn220 (fun r _ w2 _=>jPy r w2) ((Rd.own 0 rfl).at hw1) (by omega)) ?_|intro (bk:Nat))
 rw[hld]
 repeat' (first|refine zh ?_|apply zb ?_ ?_|exact zc|(refine zi fun hb=>?_;try simp at hb)|intro (bk:Nat))
 refine HR.cond I (fun h2=>?_) (fun h2=>?_)
 ·have h2:(decide (g.poll>0)&&(g.parent==255)&&(KF d.1 0).2)=true:=h2
  have h3:g.poll>0∧g.parent=255∧(KF d.1 0).2=true:=by simpa[and_assoc]using h2
  rw[if_pos h3]
  repeat' (first|refine zh ?_|intro (bk:Nat))
  refine HR.fin Tryz.func163 I [] (fun _ _=>trivial) ?_
  exact fun w' hw=>⟨((a3,c3),(a1,c1)),rfl,trivial,hw.pick [2,3,4,5,6,7,8,9,10,11] I rfl⟩
 ·have h2:(decide (g.poll>0)&&(g.parent==255)&&(KF d.1 0).2)=false:=h2
  have h3:¬(g.poll>0∧g.parent=255∧(KF d.1 0).2=true):=by
   intro e
   have:(decide (g.poll>0)&&(g.parent==255)&&(KF d.1 0).2)=true:=by simpa[and_assoc]using e
   rw[h2]at this;cases this
  rw[if_neg h3]
  repeat' (first|refine zh ?_|intro (bk:Nat))
  refine HR.fin Tryz.func163 I [] (fun _ _=>trivial) ?_
  exact fun w' hw=>⟨((a3,c3),(a1,c1)),rfl,trivial,hw.pick [2,3,4,5,6,7,8,9,10,11] I rfl⟩
end Go.Proofs.YtgfdoognildoeaaGreat
namespace Go.Proofs.YtgfdoognildoeaaGreat
open Go.GX Go.RowKit
attribute [local irreducible] Calls Run jg jh JU HR HL HD jU jK Jc Rd jL jd
open Nd
theorem jDo (fr now:Int) (k:Nat) (n:Nd):Nd.drain fr now (k+1) n=if (ZY n.boxes fr now 120).2.2 then Nd.drain fr now k (queue { n with boxes:=(ZY n.boxes fr now 120).2.1 } { (ZY n.boxes fr now 120).1 with fr:=n.addr }).1 else { n with boxes:=(ZY n.boxes fr now 120).2.1 }:=rfl
theorem jGX (b:Nat) (V:NV) (n:Nd) (now:Int) (f:Fr) (B:Base) (w:World) (hw:Sat B (stH b V n now) w) (ho:Ord n) (hf:Tp.okN f.fr=true) (hne:f.fr≠n.addr):
  Calls Tryz.prog 164 #[ptr b,.agg ⟨frC f⟩] w fun e w'=>∃x:SV×SV×SV×SV,e= .returned (.tuple ⟨[]⟩)∧True∧Sat ⟨w,Zi (stH b V n now)⟩ (stH b { V with ch:=x.1,ta:=x.2.1,ou:=x.2.2.1,bo:=x.2.2.2 } (polled n f now) now) w':=by
 have h24:=jNb ho
 have hk251:=klen ho
 have hb16:=ho.boxes
 obtain ⟨C,hC⟩:∃C,C=child n.children f.fr:=⟨_,rfl⟩
 obtain ⟨TT,hTT⟩:∃TT,TT=jGe n.table n.addr f.fr 10 [⟨f.fr,f.sq,0,0⟩]:=⟨_,rfl⟩
 have ho2:Ord { n with children:=C,table:=TT }:=by
  rw[hC,hTT]
  obtain ⟨g1,g2⟩:=jD6 (fr:=f.fr) (cost:=10) (adv:=[⟨f.fr,f.sq,0,0⟩]) ho.table
  obtain ⟨c1,c2⟩:=Kn ho.kids f.fr
  refine { ho with table:=g1,kids:=c1,kid:=fun x hx=>?_ }
  rcases (c2 x).1 hx with rfl|hx
  ·exact ⟨hf,hne⟩
  ·exact ho.kid x hx
 have hsp:polled n f now=Nd.drain f.fr now 17 { n with children:=C,table:=TT }:=by rw[hC,hTT];rfl
 obtain ⟨Z,hZ⟩:∃Z,Z=polled n f now:=⟨_,rfl⟩
 rw[← hZ]
 rw[hsp]at hZ
 refine ji (stH b V n now) (hw) Tryz.func164 I (Nat.le_of_ble_eq_true I) ?_
 refine HR.sub (σ':=[(0,ptr b),(1,.agg ⟨frC f⟩)]) ⟨I,I,trivial⟩ ?_
 refine HR.ctl I ?_
 refine HR.region ?_
 refine HL.box I I ?_
 intro bf
 repeat' (first|refine zh ?_|intro (bk:Nat))
 refine HR.j3 [(0,true),(1,true),(2,true),(3,true),(4,true),(5,true),(6,true),(7,false),(8,true)] [0,1] I I JZ (by kernel_rfl) ?_
 repeat' (first|refine zd ?_|fail)
 refine HD.one I ?_
 refine HL.jN jQE I I (fun w1 hw1=>ZP n.children f.fr _ w1 ((Rd.own 5 rfl).at hw1) (by omega)) ?_
 refine HL.back [0,1] I I ?_
 repeat' (first|refine zd ?_|fail)
 refine HD.nil ?_
 refine HR.join (ι:=SV) (fun _=>True) (fun _=>[(0,ptr b),(3,ptr bf)]) (fun x=>jU bf (frC f) 75::stH b { V with ch:=x } { n with children:=C } now) (fun x _=>?_) (fun hj=>?_)
 rotate_left
 ·refine HR.cond I (fun h1=>?_) (fun h1=>?_)
  ·have h1:(!decide (f.fr∈n.children))=true:=h1
   have h2:¬f.fr∈n.children:=by simpa using h1
   have hcs:=jF4 ho.kids h2
   obtain ⟨L,hL⟩:∃L,L=n.children++[f.fr]:=⟨_,rfl⟩
   have hLl:L.length=n.children.length+1:=by rw[hL];simp
   have hLs:Tf.srt L=C:=by rw[hL,hcs,hC]
   have hLp:L.length=C.length:=by rw[← hLs];exact (List.mergeSort_perm _ _).length_eq.symm
   repeat' (first|refine zh ?_|intro (bk:Nat))
   refine HR.Jm [(0,true),(1,true),(2,true),(3,true),(4,true),(5,true),(6,true),(7,true),(8,false),(9,false),(10,true),(11,true),(12,true)] 13 [0,1] I I JZ (by kernel_rfl) ?_
   repeat' (first|refine zd ?_|fail)
   refine HD.one I ?_
   refine HL.jk Jg I I I I I (by decide) (by decide) ?_
   intro va
   refine HL.back [1,2] I I ?_
   refine HD.one I ?_
   refine HL.zD 6 I Jg (Rd.own 0 I) I I I I (jJ I) (by omega) (by omega) ?_
   intro v1
   refine HL.back [1,2] I I ?_
   repeat' (first|refine zd ?_|fail)
   refine HD.last I ?_
   refine HL.shape 6 I fun a1 c1 hv=>?_
   subst hv
   repeat' (first|refine zn ?_|intro (bk:Nat))
   refine HR.ent (H':=[jK (.slice a1 (n.children.length+1) c1) 3 1 (n.children.length+1) (cellsOf iC n.children++iC f.fr),_,_,_,_,_,_,_,_,_,_]) (Ent.pick [6,1,2,3,4,5,7,8,9,10,11] I I) ?_
   rw[← hLl,show cellsOf iC n.children++iC f.fr=cellsOf iC L from by rw[hL,jM];rfl]
   repeat' (first|refine zh ?_|intro (bk:Nat))
   refine HL.Jo (r:=fun _:Unit=> .tuple #[]) (Q:=fun _=>True) (G0:=[cI (.slice a1 L.length c1) L]) (H0:=[_,_,_,_,_,_,_,_,_,_]) (G:=fun _=>[jK (.slice a1 L.length c1) 3 1 L.length (cellsOf iC (Tf.srt L))]) jRB I I I (fun w1 hw1=>jB5 _ _ L w1 (hw1.vw (i:=0) I) (by omega)) ?_
   intro _ _
   rw[hLs]
   repeat' (first|refine zn ?_|intro (bk:Nat))
   refine hj (a1,c1) _ _ trivial ⟨I,I,trivial⟩ ?_
   rw[hLp]
   exact Ent.pick [1,2,3,4,5,0,6,7,8,9,10] I I
  ·have h1:(!decide (f.fr∈n.children))=false:=h1
   have h2:f.fr∈n.children:=by simpa using h1
   have hCn:C=n.children:=by rw[hC];unfold child;rw[if_pos h2]
   refine HR.skip ?_
   refine hj V.ch _ _ trivial ⟨I,I,trivial⟩ ?_
   rw[hCn]
   exact Ent.refl
 repeat' (first|refine zh ?_|intro (bk:Nat))
 refine HR.Jm [(0,true),(1,true),(2,true),(3,true),(4,true),(5,true),(6,true),(7,true),(8,true),(9,true),(10,true),(11,true),(12,true),(13,true),(14,true),(15,true),(16,true),(17,true),(18,false),(19,false),(20,true),(21,true),(22,true)] 23 [0,1] I I JZ (by kernel_rfl) ?_
 repeat' (first|refine zd ?_|fail)
 refine HD.one I ?_
 refine HL.jk JE I I I I I (by decide) (by decide) ?_
 intro va
 refine HL.back [1,2] I I ?_
 refine HD.one I ?_
 refine HL.JN jSV I I (fun w1 hw1=>jHq n.table n.addr f.fr 10 [⟨f.fr,f.sq,0,0⟩] _ va w1 ((Rd.own 3 rfl).at hw1) ((Rd.own 0 rfl).at hw1) (by omega) (show 1≤1000 by decide)) ?_
 intro v2
 refine HL.shape 0 I fun a2 c2 hv=>?_
 subst hv
 rw[← hTT]
 refine HL.back [2,3] I I ?_
 repeat' (first|refine zd ?_|fail)
 refine HD.last I ?_
 repeat' (first|refine zn ?_|intro (bk:Nat))
 refine HR.ent (H':=jU bf (frC f) 75::stH b { V with ch:=x,ta:=(a2,c2) } { n with children:=C,table:=TT } now) (Ent.pick [2,3,0,5,6,7,8,9,10,11,12] I I) ?_
 repeat' (first|refine zh ?_|intro (bk:Nat))
 refine HR.loop (ι:=Nat×Nd×SV×SV) (fun y=>Ord y.2.1∧Z=Nd.drain f.fr now y.1 y.2.1∧y.2.1.boxes.length<y.1) (fun _=>[(0,ptr b),(3,ptr bf)]) (fun y=>jU bf (frC f) 75::stH b { V with ch:=x,ta:=(a2,c2),ou:=y.2.2.1,bo:=y.2.2.2 } y.2.1 now) (fun y=>y.2.1.boxes.length) (17,{ n with children:=C,table:=TT },V.ou,V.bo) ⟨ho2,hZ,by show n.boxes.length<17;omega⟩ ⟨I,I,trivial⟩ Ent.refl ?_
 rintro ⟨K,p,y1,y2⟩ ⟨hpo,hZ1,hK⟩ ih
 have hpo:Ord p:=hpo
 have hZ1:Z=Nd.drain f.fr now K p:=hZ1
 have hK:p.boxes.length<K:=hK
 have hp16:=hpo.boxes
 obtain ⟨K,rfl⟩:∃K',K=K'+1:=⟨K-1,by omega⟩
 rw[jDo]at hZ1
 have hbl:=jF7 p.boxes f.fr now 120
 obtain ⟨r,hr⟩:∃r,r=ZY p.boxes f.fr now 120:=⟨_,rfl⟩
 rw[← hr]at hZ1 hbl
 obtain ⟨hbl1,hbl2⟩:=hbl
 have hpb:Ord { p with boxes:=r.2.1 }:=hpo.kK hbl1
 repeat' (first|refine zh ?_|intro (bk:Nat))
 refine HR.join (ι:=Value×Nat) (fun _=>True) (fun z=>[(0,ptr b),(3,ptr bf),(4,ptr z.2),(5,z.1),(6,.bool r.2.2)]) (fun z=>jU z.2 (frC r.1) 75::cMa z.1 r.2.1::jU bf (frC f) 75::stH b { V with ch:=x,ta:=(a2,c2),ou:=y1,bo:=y2 } p now) (fun z _=>?_) (fun hj=>?_)
 rotate_left
 ·refine HR.kM [0,1] I I JZ ?_
  refine za 0 ?_
  refine za 1 ?_
  refine za 2 ?_
  refine za 3 ?_
  refine za 4 ?_
  refine za 5 ?_
  refine za 6 ?_
  refine za 7 ?_
  refine za 8 ?_
  refine za 9 ?_
  refine za 10 ?_
  refine HA.two 11 16 (by kernel_rfl) I I ?_ ?_
  ·refine HL.JD (r:=fun v':Value=> .tuple ⟨[.agg ⟨frC r.1⟩,v',.bool r.2.2]⟩) (Q:=fun _=>True) (G:=fun v'=>[cMa v' r.2.1]) jSU I I (fun w1 hw1=>by rw[hr];exact jF8 p.boxes f.fr now 120 _ w1 ((Rd.own 6 rfl).at hw1) (by omega)) ?_
   intro v3 _
   refine HL.jm [1,2] I I ?_
   refine za 12 ?_
   refine za 13 ?_
   refine za 14 ?_
   refine za 15 ?_
   refine HA.one 16 (by kernel_rfl) I ?_
   refine HL.alloc I I ?_
   intro b4
   refine HL.jm [2,3] I I ?_
   refine HA.one 17 (by kernel_rfl) I ?_
   refine HL.S 0 I I I I I ?_
   refine HL.jm [2,3] I I ?_
   refine za 18 ?_
   refine za 19 ?_
   refine HA.done (by kernel_rfl) ?_
   exact hj (v3,b4) _ _ trivial ⟨I,I,I,I,I,trivial⟩ Ent.refl
  ·refine HL.alloc I I ?_
   intro b4
   refine HL.jm [1,2] I I ?_
   refine HA.one 11 (by kernel_rfl) I ?_
   refine HL.JD (r:=fun v':Value=> .tuple ⟨[.agg ⟨frC r.1⟩,v',.bool r.2.2]⟩) (Q:=fun _=>True) (G:=fun v'=>[cMa v' r.2.1]) jSU I I (fun w1 hw1=>by rw[hr];exact jF8 p.boxes f.fr now 120 _ w1 ((Rd.own 7 rfl).at hw1) (by omega)) ?_
   intro v3 _
   refine HL.jm [2,3] I I ?_
   refine za 12 ?_
   refine za 13 ?_
   refine za 14 ?_
   refine za 15 ?_
   refine HA.one 17 (by kernel_rfl) I ?_
   refine HL.S 1 I I I I I ?_
   refine HL.jm [2,3] I I ?_
   refine za 18 ?_
   refine za 19 ?_
   refine HA.done (by kernel_rfl) ?_
   exact hj (v3,b4) _ _ trivial ⟨I,I,I,I,I,trivial⟩ (Ent.pick [1,0,2,3,4,5,6,7,8,9,10,11,12] I I)
 obtain ⟨v3,b4⟩:=z
 repeat' (first|refine zh ?_|intro (bk:Nat))
 refine HL.shape (v:=v3) (e:=166) (sz:=10) (n:=r.2.1.length) (xs:=cellsOf maC r.2.1) 1 I fun a3 c3 hv=>?_
 subst hv
 repeat' (first|refine zh ?_|intro (bk:Nat))
 refine HR.cond I (fun h1=>?_) (fun h1=>?_)
 ·have h1:r.2.2=false:=by simpa using h1
  rw[if_neg (by rw[h1];decide)]at hZ1
  rw[hZ1]
  repeat' (first|refine zh ?_|intro (bk:Nat))
  refine HR.ret Tryz.func164 I [] (fun _ _=>trivial) ?_
  exact fun w' hw=>⟨(x,(a2,c2),y1,(a3,c3)),rfl,trivial,hw.pick [3,4,5,6,7,1,9,10,11,12] I rfl⟩
 have h1:r.2.2=true:=by simpa using h1
 rw[if_pos h1]at hZ1
 repeat' (first|refine zh ?_|intro (bk:Nat))
 refine HL.ent (Ent.pick [3,4,5,6,7,1,9,10,11,12,2] I I) ?_
 refine HL.Jo (r:=fun _:SV=> .bool (queue { p with boxes:=r.2.1 } { r.1 with fr:=p.addr }).2) (Q:=fun _=>True) (G0:=stH b { V with ch:=x,ta:=(a2,c2),ou:=y1,bo:=(a3,c3) } { p with boxes:=r.2.1 } now) (H0:=[_]) (G:=fun z=>stH b { V with ch:=x,ta:=(a2,c2),ou:=z,bo:=(a3,c3) } (queue { p with boxes:=r.2.1 } { r.1 with fr:=p.addr }).1 now) jM8 I I I (fun w1 hw1=>Zy b { V with ch:=x,ta:=(a2,c2),ou:=y1,bo:=(a3,c3) } { p with boxes:=r.2.1 } now { r.1 with fr:=p.addr } _ w1 (hw1.pick [0,1,2,3,4,5,6,7,8,9] I I) hpb) ?_
 intro z _
 have hqb:(queue { p with boxes:=r.2.1 } { r.1 with fr:=p.addr }).1.boxes.length=r.2.1.length:=by
  obtain ⟨q,l,e⟩:=jBq { p with boxes:=r.2.1 } { r.1 with fr:=p.addr }
  rw[e]
 repeat' (first|refine zh ?_|intro (bk:Nat))
 exact ih (K,(queue { p with boxes:=r.2.1 } { r.1 with fr:=p.addr }).1,z,(a3,c3)) _ _ ⟨hpb.queue _,hZ1,by show (queue { p with boxes:=r.2.1 } { r.1 with fr:=p.addr }).1.boxes.length<K;have:=hbl2 h1;omega⟩ (by show (queue { p with boxes:=r.2.1 } { r.1 with fr:=p.addr }).1.boxes.length<p.boxes.length;have:=hbl2 h1;omega) ⟨I,I,trivial⟩ (Ent.pick [10,0,1,2,3,4,5,6,7,8,9] I I)
end Go.Proofs.YtgfdoognildoeaaGreat
namespace Go.Proofs.YtgfdoognildoeaaGreat
open Go.GX Go.RowKit
attribute [local irreducible] Calls Run jg jh JU HR HL HD jU jK Jc Rd jL jd
open Nd
theorem fn165:IsFn Tryz.prog 165:=⟨⟨_,_,Tryz.func165,rfl,by decide⟩⟩
theorem jD0 (b:Nat) (V:NV) (n:Nd) (now:Int) (f:Fr) (B:Base) (w:World) (hw:Sat B (stH b V n now) w) (ho:Ord n) (hP:Pts V n) (hsm:∀p∈n.parts,jBj p) (hpl:n.parts.length≤1000) (hfd:f.da.length≤1000) (hhp:0≤f.hp∧f.hp≤15):
  Calls Tryz.prog 165 #[ptr b,.agg ⟨frC f⟩] w fun e w'=>∃V':NV,e= .returned (.tuple ⟨[]⟩)∧Pts V' (received n f now)∧Sat ⟨w,Zi (stH b V n now)⟩ (stH b V' (received n f now) now) w':=by
 obtain ⟨hhp0,hhp1⟩:=hhp
 have hse:=ho.seen
 have hml:=jDX n.seen ⟨f.so,f.sq⟩
 obtain ⟨r,hr⟩:∃r,r=KG n.seen ⟨f.so,f.sq⟩:=⟨_,rfl⟩
 obtain ⟨a,ha⟩:∃a:Nd,a={ n with seen:=r.1 }:=⟨_,rfl⟩
 obtain ⟨q,hq⟩:∃q,q=jFV a.parts f.so now f.da:=⟨_,rfl⟩
 rw[← hr]at hml
 have hao:Ord a:=by rw[ha];exact { ho with seen:=hml }
 have hap:a.parts=n.parts:=by rw[ha]
 have hPa:Pts V a:=⟨by rw[hap];exact hP.eq,hP.sh⟩
 have hps:V.ps.length≤1000:=by rw[← JF,hP.eq];exact hpl
 have hpm:∀p∈V.ps,jBj p.pt:=fun p hp=>hsm p.pt (by rw[← hP.eq];exact List.mem_map.2 ⟨p,hp,rfl⟩)
 have hsp:received n f now=if r.2=false then a else if f.ta=a.addr then (if q.e≠0 then a else if q.ok then deliver { a with parts:=q.l } ⟨f.so,q.t⟩else { a with parts:=q.l })else if a.poll>0∨f.hp=15 then lose a else (queue a { f with fr:=a.addr,dst:=255,hp:=f.hp+1 }).1:=by rw[hq,ha,hr];rfl
 rw[hsp]
 refine ji (stH b V n now) (hw) Tryz.func165 I (Nat.le_of_ble_eq_true I) ?_
 refine HR.sub (σ':=[(0,ptr b),(1,.agg ⟨frC f⟩)]) ⟨I,I,trivial⟩ ?_
 refine HR.ctl I ?_
 refine HR.region ?_
 refine HL.box I I ?_
 intro bf
 repeat' (first|refine zh ?_|intro (bk:Nat))
 refine HR.j3 [(0,true),(1,true),(2,true),(3,true),(4,true),(5,true),(6,true),(7,true),(8,true),(9,true),(10,false),(11,true),(12,true),(13,true),(14,true),(15,true)] [0,1] I I JZ (by kernel_rfl) ?_
 repeat' (first|refine zd ?_|fail)
 refine HD.one I ?_
 refine HL.JD (r:=fun v':Value=> .tuple ⟨[v',.bool r.2]⟩) (Q:=fun _=>True) (G:=fun v'=>[cPr v' r.1]) fn222 I I (fun w1 hw1=>by rw[hr];exact jKE n.seen ⟨f.so,f.sq⟩ _ w1 ((Rd.own 7 rfl).at hw1) (by omega)) ?_
 intro v1 _
 refine HL.shape 0 I fun a1 c1 hv=>?_
 subst hv
 refine HL.back [1,2] I I ?_
 repeat' (first|refine zd ?_|fail)
 refine HD.nil ?_
 repeat' (first|refine zh ?_|intro (bk:Nat))
 refine HR.ent (H':=jU bf (frC f) 75::stH b { V with se:=(a1,c1) } { n with seen:=r.1 } now) (Ent.pick [1,2,3,4,5,6,7,0,9,10,11] I I) ?_
 rw[← ha]
 refine HR.cond I (fun h1=>?_) (fun h1=>?_)
 ·have h1:r.2=false:=by simpa using h1
  rw[if_pos h1]
  repeat' (first|refine zh ?_|intro (bk:Nat))
  refine HR.fin Tryz.func165 I [] (fun _ _=>trivial) ?_
  exact fun w' hw=>⟨{ V with se:=(a1,c1) },rfl,⟨hPa.eq,hPa.sh⟩,hw.pick [1,2,3,4,5,6,7,8,9,10] I rfl⟩
 have h1:¬r.2=false:=by simpa using h1
 rw[if_neg h1]
 repeat' (first|refine zh ?_|intro (bk:Nat))
 refine HR.jo JZ (by kernel_rfl) ?_
 repeat' (first|refine zq ?_|apply zb ?_ ?_|exact zc|(refine zi fun hb=>?_;try simp at hb))
 refine HR.cond I (fun h2=>?_) (fun h2=>?_)
 ·have h2:f.ta=a.addr:=eq_of_beq h2
  rw[if_pos h2]
  repeat' (first|refine zh ?_|intro (bk:Nat))
  refine HR.j3 [(0,true),(1,true),(2,true),(3,true),(4,true),(5,true),(6,true),(7,true),(8,true),(9,true),(10,true),(11,true),(12,true),(13,false),(14,true),(15,true),(16,true),(17,true),(18,true),(19,true),(20,true),(21,true),(22,true)] [0,1] I I JZ (by kernel_rfl) ?_
  repeat' (first|refine zd ?_|fail)
  refine HD.one I ?_
  refine HL.JD (r:=fun y:Value×List PtV=> .tuple ⟨[y.1,str q.t,.bool q.ok,.int .i64 q.e]⟩) (Q:=fun y=>jEm y q.l) (G:=fun y=>jGy y) fn223 I I (fun w1 hw1=>by rw[hq,← hPa.eq];exact jPm V.ps f.so now f.da _ w1 (RdPts.own 8 9 hw1 I I) hpm hps hfd) ?_
  rintro ⟨v3,ps⟩ ⟨hg1,hg2⟩
  refine HL.shape (v:=v3) (e:=173) (sz:=6) (n:=ps.length) (xs:=cellsOf ptC ps) 0 I fun a3 c3 hv=>?_
  subst hv
  have hq1:pts ps=q.l:=hg1
  have hq2:∀p∈ps,jBN p:=hg2
  refine HL.back [2,3] I I ?_
  repeat' (first|refine zd ?_|fail)
  refine HD.nil ?_
  repeat' (first|refine zh ?_|intro (bk:Nat))
  refine HR.cond I (fun h3=>?_) (fun h3=>?_)
  ·have h3:q.e≠0:=by simpa using h3
   rw[if_pos h3]
   repeat' (first|refine zh ?_|intro (bk:Nat))
   refine HR.ret Tryz.func165 I [] (fun _ _=>trivial) ?_
   exact fun w' hw=>⟨{ V with se:=(a1,c1) },rfl,⟨hPa.eq,hPa.sh⟩,hw.pick [3,4,5,6,7,8,9,10,11,12] I rfl⟩
  have h3:¬q.e≠0:=by simpa using h3
  rw[if_neg h3]
  repeat' (first|refine zh ?_|intro (bk:Nat))
  obtain ⟨V3,hV3⟩:∃V3:NV,V3=⟨V.ta,V.li,V.ou,V.ch,V.bo,(a1,c1),(a3,c3),V.ib,ps⟩:=⟨_,rfl⟩
  have hao3:Ord { a with parts:=q.l }:=hao.jBk _
  refine HR.ent (H':=jU bf (frC f) 75::stH b ⟨V.ta,V.li,V.ou,V.ch,V.bo,(a1,c1),(a3,c3),V.ib,ps⟩ { a with parts:=q.l } now) (Ent.pick [2,3,4,5,6,7,8,9,0,1,12] I I) ?_
  rw[← hV3]
  have hP3:∀(ib:SV) (z:Nd),z.parts=q.l→Pts { V3 with ib:=ib } z:=fun ib z hz=>⟨by rw[hz,hV3];exact hq1,by rw[hV3];exact hq2⟩
  refine HR.cond I (fun h4=>?_) (fun h4=>?_)
  ·have h4:q.ok=true:=h4
   rw[if_pos h4]
   repeat' (first|refine zh ?_|intro (bk:Nat))
   refine HL.ent (Ent.pick [1,2,3,4,5,6,7,8,9,10] I I) ?_
   refine HL.Jo (r:=fun _:SV=> .tuple ⟨[]⟩) (Q:=fun _=>True) (G0:=stH b V3 { a with parts:=q.l } now) (H0:=[]) (G:=fun x=>stH b { V3 with ib:=x } (deliver { a with parts:=q.l } ⟨f.so,q.t⟩) now) jSq I I I (fun w1 hw1=>jBR b V3 { a with parts:=q.l } now ⟨f.so,q.t⟩ _ w1 (hw1.pick [0,1,2,3,4,5,6,7,8,9] I I) hao3) ?_
   intro x _
   repeat' (first|refine zh ?_|intro (bk:Nat))
   refine HR.fin Tryz.func165 I [] (fun _ _=>trivial) ?_
   exact fun w' hw=>⟨{ V3 with ib:=x },rfl,hP3 x _ (zu _ _),hw.pick [0,1,2,3,4,5,6,7,8,9] I rfl⟩
  ·have h4:q.ok=false:=h4
   rw[if_neg (by rw[h4];decide)]
   repeat' (first|refine zh ?_|intro (bk:Nat))
   refine HR.fin Tryz.func165 I [] (fun _ _=>trivial) ?_
   exact fun w' hw=>⟨V3,rfl,hP3 V3.ib _ rfl,hw.pick [1,2,3,4,5,6,7,8,9,10] I rfl⟩
 have h2:¬f.ta=a.addr:=by simpa using h2
 rw[if_neg h2]
 repeat' (first|refine zh ?_|apply zb ?_ ?_|exact zc|(refine zi fun hb=>?_;try simp at hb)|intro (bk:Nat))
 refine HR.cond I (fun h3=>?_) (fun h3=>?_)
 ·have h3:(decide (a.poll>0)||(f.hp==15))=true:=h3
  have h4:a.poll>0∨f.hp=15:=by simpa using h3
  rw[if_pos h4]
  repeat' (first|refine zh ?_|intro (bk:Nat))
  refine HL.ent (Ent.pick [1,2,3,4,5,6,7,8,9,10] I I) ?_
  refine HL.Jo (r:=fun _:Unit=> .tuple ⟨[]⟩) (Q:=fun _=>True) (G0:=[jCn b { V with se:=(a1,c1) } a now]) (H0:=ndH { V with se:=(a1,c1) } a) (G:=fun _=>[jCn b { V with se:=(a1,c1) } (lose a) now]) jKV I I I (fun w1 hw1=>Zz b { V with se:=(a1,c1) } a now _ w1 (hw1.pick [0] I I) hao.lost) ?_
  intro _ _
  repeat' (first|refine zh ?_|intro (bk:Nat))
  refine HR.fin Tryz.func165 I [] (fun _ _=>trivial) ?_
  exact fun w' hw=>⟨{ V with se:=(a1,c1) },rfl,⟨hPa.eq,hPa.sh⟩,hw.pick [0,1,2,3,4,5,6,7,8,9] I rfl⟩
 ·have h3:(decide (a.poll>0)||(f.hp==15))=false:=h3
  have h4:¬(a.poll>0∨f.hp=15):=by
   intro e
   have:(decide (a.poll>0)||(f.hp==15))=true:=by simpa using e
   rw[h3]at this;cases this
  rw[if_neg h4]
  repeat' (first|refine zh ?_|intro (bk:Nat))
  refine HL.ent (Ent.pick [1,2,3,4,5,6,7,8,9,10] I I) ?_
  refine HL.Jo (r:=fun _:SV=> .bool (queue a { f with fr:=a.addr,dst:=255,hp:=f.hp+1 }).2) (Q:=fun _=>True) (G0:=stH b { V with se:=(a1,c1) } a now) (H0:=[]) (G:=fun x=>stH b { V with se:=(a1,c1),ou:=x } (queue a { f with fr:=a.addr,dst:=255,hp:=f.hp+1 }).1 now) jM8 I I I (fun w1 hw1=>Zy b { V with se:=(a1,c1) } a now { f with fr:=a.addr,dst:=255,hp:=f.hp+1 } _ w1 (hw1.pick [0,1,2,3,4,5,6,7,8,9] I I) hao) ?_
  intro x _
  repeat' (first|refine zh ?_|intro (bk:Nat))
  refine HR.fin Tryz.func165 I [] (fun _ _=>trivial) ?_
  exact fun w' hw=>⟨{ V with se:=(a1,c1),ou:=x },rfl,⟨by rw[zM];exact hPa.eq,hPa.sh⟩,hw.pick [0,1,2,3,4,5,6,7,8,9] I rfl⟩
end Go.Proofs.YtgfdoognildoeaaGreat
namespace Go.Proofs.YtgfdoognildoeaaGreat
open Go.GX Go.RowKit
attribute [local irreducible] Calls Run jg jh JU HR HL HD jU jK Jc Rd jL jd
open Nd
theorem fn87:IsFn Tryz.prog 87:=⟨⟨_,_,Tryz.func87,rfl,by decide⟩⟩
theorem KJ (n:Nd) (f:Fr):(Jh n f).parts=n.parts:=by
 unfold Jh
 simp only
 split
 ·rfl
 ·split<;>rfl
theorem jCf (fr now:Int):∀(k:Nat) (n:Nd),(Nd.drain fr now k n).parts=n.parts
 |0,_=>rfl
 |k+1,n=>by
  rw[jDo]
  split
  ·rw [jCf fr now k,zM]
  ·rfl
theorem jBV (n:Nd) (f:Fr) (now:Int):(polled n f now).parts=n.parts:=by
 unfold polled;rw[jCf]
theorem jLF (V:NV) (n:Nd) (now:Int) (f:Fr) (w:World) (h:OkN w V n) (hs:SmN n) (hfl:f.da.length≤9223372036854775807):
  Calls Tryz.prog 87 #[.agg ⟨ndC V n⟩,.int .i64 now,.agg ⟨frC f⟩] w fun e w'=>∃V':NV,e= .returned (.agg ⟨ndC V' (hear n now f)⟩)∧Pts V' (hear n now f)∧Sat (base w) (ndH V' (hear n now f)) w':=by
 obtain ⟨m,hm⟩:∃m,m=order n:=⟨_,rfl⟩
 have ho:Ord m:=by rw[hm];exact Ji n
 have hmp:m.parts=n.parts:=by rw[hm];rfl
 obtain ⟨T,hT⟩:∃T,T=tick now:=⟨_,rfl⟩
 obtain ⟨c,hc⟩:∃c:Bool,c=((!(jC3 f==0)||(f.fr==m.addr))||(!(f.dst==m.addr)&&!(f.dst==255))):=⟨_,rfl⟩
 have hcc:c=true↔(jC3 f≠0∨f.fr=m.addr∨(f.dst≠m.addr∧f.dst≠255)):=by
  rw[hc];simp[or_assoc]
 have hsp:hear n now f=if jC3 f≠0∨f.fr=m.addr∨(f.dst≠m.addr∧f.dst≠255)then m else if f.kd=1 then Jh m f else if f.kd=3∧f.dst=m.addr∧m.poll=0 then polled m f T else if f.kd=2∧f.dst=m.addr then received m f T else m:=by rw[hm,hT];rfl
 rw[hsp]
 refine jB Tryz.func87 I (Nat.le_of_ble_eq_true I) ?_
 refine HR.sub (σ':=[(0,.agg ⟨ndC V n⟩),(1,.int .i64 now),(2,.agg ⟨frC f⟩)]) ⟨I,I,I,trivial⟩ ?_
 refine HR.ctl I ?_
 refine HR.region ?_
 refine HL.box I I ?_
 intro bn
 refine HL.box I I ?_
 intro bf
 refine HL.alloc I I ?_
 intro br
 repeat' (first|refine zh ?_|intro (bk:Nat))
 refine HL.JD (r:=fun x:Nat×NV=>ptr x.1) (Q:=fun x=>Pts x.2 m) (G:=fun x=>stH x.1 x.2 m T) jQD I I (fun w1 hw1=>by rw[hm,hT];exact ZN V n now w1 (h.ext hw1.jE) hs) ?_
 rintro ⟨b,V2⟩ hP
 have hP:Pts V2 m:=hP
 refine HL.ent (H':=rsC br::jU bf (frC f) 75::stH b V2 m T) (Ent.pick [10,11,0,1,2,3,4,5,6,7,8,9] I I) ?_
 repeat' (first|refine zh ?_|intro (bk:Nat))
 refine HR.join (ι:=Unit) (fun _=>True) (fun _=>[(5,ptr bf),(6,ptr br),(7,ptr b),(38,.bool c)]) (fun _=>rsC br::jU bf (frC f) 75::stH b V2 m T) (fun _ _=>?_) (fun hj=>?_)
 rotate_left
 ·refine HR.j3 [(0,true),(1,false),(2,true),(3,true),(4,true),(5,true),(6,true),(7,true),(8,true),(9,true),(10,true),(11,true),(12,true),(13,true),(14,true),(15,true),(16,true),(17,true),(18,true),(19,true),(20,true),(21,true),(22,true),(23,true),(24,true),(25,true),(26,true),(27,true)] [1,2] I I JZ (by kernel_rfl) ?_
  repeat' (first|refine zd ?_|fail)
  refine HD.one I ?_
  refine HL.jN fn162 I I (fun w1 _=>jKZ f w1 (by omega)) ?_
  refine HL.back [1,2] I I ?_
  repeat' (first|refine zd ?_|fail)
  refine HD.split 14 I (fun hb=>?_) (fun hb=>?_)
  ·have hb:(!(jC3 f==0))=true:=hb
   repeat' (first|refine zd ?_|fail)
   refine HD.nil ?_
   refine hj () _ _ trivial ⟨rfl,rfl,rfl,?_,trivial⟩ Ent.refl
   show some (Value.bool true)=some (Value.bool c)
   rw[hc,hb];rfl
  ·have hb:(!(jC3 f==0))=false:=hb
   repeat' (first|refine zd ?_|fail)
   refine HD.split 24 I (fun hb2=>?_) (fun hb2=>?_)
   ·have hb2:(f.fr==m.addr)=true:=hb2
    repeat' (first|refine zd ?_|fail)
    refine HD.nil ?_
    refine hj () _ _ trivial ⟨rfl,rfl,rfl,?_,trivial⟩ Ent.refl
    show some (Value.bool true)=some (Value.bool c)
    rw[hc,hb,hb2];rfl
   ·have hb2:(f.fr==m.addr)=false:=hb2
    repeat' (first|refine zd ?_|fail)
    refine HD.split 33 I (fun hb3=>?_) (fun hb3=>?_)
    ·have hb3:(!(f.dst==m.addr))=true:=hb3
     repeat' (first|refine zd ?_|fail)
     refine HD.nil ?_
     refine hj () _ _ trivial ⟨rfl,rfl,rfl,?_,trivial⟩ Ent.refl
     show some (Value.bool (!(f.dst==255)))=some (Value.bool c)
     rw[hc,hb,hb2,hb3];rfl
    ·have hb3:(!(f.dst==m.addr))=false:=hb3
     repeat' (first|refine zd ?_|fail)
     refine HD.nil ?_
     refine hj () _ _ trivial ⟨rfl,rfl,rfl,?_,trivial⟩ Ent.refl
     show some (Value.bool false)=some (Value.bool c)
     rw[hc,hb,hb2,hb3];rfl
 refine HR.cond I (fun h1=>?_) (fun h1=>?_)
 ·rw [if_pos (hcc.1 h1)]
  repeat' (first|refine zh ?_|intro (bk:Nat))
  refine HR.ret Tryz.func87 I [_] (fun w hw=>⟨⟨_,rfl,jP hw 0 I I I I rfl⟩,trivial⟩) ?_
  exact fun w' hw=>⟨V2,rfl,hP,hw.pick [3,4,5,6,7,8,9,10,11] I rfl⟩
 have h2:¬(jC3 f≠0∨f.fr=m.addr∨(f.dst≠m.addr∧f.dst≠255)):=fun e=>by rw[hcc.2 e]at h1;cases h1
 rw[if_neg h2]
 have hck:jC3 f=0:=Decidable.not_not.1 fun e=>h2 (.inl e)
 have hne:f.fr≠m.addr:=fun e=>h2 (.inr (.inl e))
 obtain ⟨k1,k2,k3,k4,k5,k6,k7⟩:=jHQ hck
 repeat' (first|refine zh ?_|intro (bk:Nat))
 refine HR.cond I (fun h3=>?_) (fun h3=>?_)
 ·have h3:f.kd=1:=eq_of_beq h3
  rw[if_pos h3]
  repeat' (first|refine zh ?_|intro (bk:Nat))
  refine HL.ent (Ent.pick [2,3,4,5,6,7,8,9,10,11,0] I I) ?_
  refine HL.Jo (r:=fun _:SV×SV=> .tuple ⟨[]⟩) (Q:=fun _=>True) (G0:=stH b V2 m T) (H0:=[_]) (G:=fun x=>stH b { V2 with ta:=x.1,li:=x.2 } (Jh m f) T) fn163 I I I (fun w1 hw1=>jNj b V2 m T f _ w1 (hw1.pick [0,1,2,3,4,5,6,7,8,9] I I) ho (by omega)) ?_
  intro x _
  refine HL.ent (Ent.pick [10,0,1,2,3,4,5,6,7,8,9] I I) ?_
  repeat' (first|refine zh ?_|intro (bk:Nat))
  refine HR.ret Tryz.func87 I [_] (fun w hw=>⟨⟨_,rfl,jP hw 0 I I I I rfl⟩,trivial⟩) ?_
  exact fun w' hw=>⟨{ V2 with ta:=x.1,li:=x.2 },rfl,⟨by rw[KJ];exact hP.eq,hP.sh⟩,hw.pick [2,3,4,5,6,7,8,9,10] I rfl⟩
 have h3:¬f.kd=1:=by simpa using h3
 rw[if_neg h3]
 repeat' (first|refine zh ?_|intro (bk:Nat))
 refine HR.jo JZ (by kernel_rfl) ?_
 repeat' (first|refine zq ?_|apply zb ?_ ?_|exact zc|(refine zi fun hb=>?_;try simp at hb))
 refine HR.cond I (fun h4=>?_) (fun h4=>?_)
 ·have h4:((f.kd==3)&&(f.dst==m.addr)&&(m.poll==0))=true:=h4
  have h5:f.kd=3∧f.dst=m.addr∧m.poll=0:=by simpa[and_assoc]using h4
  rw[if_pos h5]
  repeat' (first|refine zh ?_|intro (bk:Nat))
  refine HL.ent (Ent.pick [2,3,4,5,6,7,8,9,10,11,0] I I) ?_
  refine HL.Jo (r:=fun _:SV×SV×SV×SV=> .tuple ⟨[]⟩) (Q:=fun _=>True) (G0:=stH b V2 m T) (H0:=[_]) (G:=fun x=>stH b { V2 with ch:=x.1,ta:=x.2.1,ou:=x.2.2.1,bo:=x.2.2.2 } (polled m f T) T) fn164 I I I (fun w1 hw1=>jGX b V2 m T f _ w1 (hw1.pick [0,1,2,3,4,5,6,7,8,9] I I) ho k1 hne) ?_
  intro x _
  refine HL.ent (Ent.pick [10,0,1,2,3,4,5,6,7,8,9] I I) ?_
  repeat' (first|refine zh ?_|intro (bk:Nat))
  refine HR.ret Tryz.func87 I [_] (fun w hw=>⟨⟨_,rfl,jP hw 0 I I I I rfl⟩,trivial⟩) ?_
  exact fun w' hw=>⟨{ V2 with ch:=x.1,ta:=x.2.1,ou:=x.2.2.1,bo:=x.2.2.2 },rfl,⟨by rw[jBV];exact hP.eq,hP.sh⟩,hw.pick [2,3,4,5,6,7,8,9,10] I rfl⟩
 have h4:((f.kd==3)&&(f.dst==m.addr)&&(m.poll==0))=false:=h4
 have h5:¬(f.kd=3∧f.dst=m.addr∧m.poll=0):=by
  intro e
  have:((f.kd==3)&&(f.dst==m.addr)&&(m.poll==0))=true:=by simpa[and_assoc]using e
  rw[h4]at this;cases this
 rw[if_neg h5]
 repeat' (first|refine zh ?_|intro (bk:Nat))
 refine HR.jo JZ (by kernel_rfl) ?_
 repeat' (first|refine zq ?_|apply zb ?_ ?_|exact zc|(refine zi fun hb=>?_;try simp at hb))
 refine HR.cond I (fun h6=>?_) (fun h6=>?_)
 ·have h6:((f.kd==2)&&(f.dst==m.addr))=true:=h6
  have h7:f.kd=2∧f.dst=m.addr:=by simpa using h6
  rw[if_pos h7]
  repeat' (first|refine zh ?_|intro (bk:Nat))
  refine HL.ent (Ent.pick [2,3,4,5,6,7,8,9,10,11,0] I I) ?_
  refine HL.Jo (r:=fun _:NV=> .tuple ⟨[]⟩) (Q:=fun V'=>Pts V' (received m f T)) (G0:=stH b V2 m T) (H0:=[_]) (G:=fun V'=>stH b V' (received m f T) T) fn165 I I I (fun w1 hw1=>jD0 b V2 m T f _ w1 (hw1.pick [0,1,2,3,4,5,6,7,8,9] I I) ho hP (by rw[hmp];exact hs.sm) (by rw[hmp];exact hs.pa) (by omega) ⟨k5,k6⟩) ?_
  intro V3 hP3
  refine HL.ent (Ent.pick [10,0,1,2,3,4,5,6,7,8,9] I I) ?_
  repeat' (first|refine zh ?_|intro (bk:Nat))
  refine HR.ret Tryz.func87 I [_] (fun w hw=>⟨⟨_,rfl,jP hw 0 I I I I rfl⟩,trivial⟩) ?_
  exact fun w' hw=>⟨V3,rfl,hP3,hw.pick [2,3,4,5,6,7,8,9,10] I rfl⟩
 have h6:((f.kd==2)&&(f.dst==m.addr))=false:=h6
 have h7:¬(f.kd=2∧f.dst=m.addr):=by
  intro e
  have:((f.kd==2)&&(f.dst==m.addr))=true:=by simpa using e
  rw[h6]at this;cases this
 rw[if_neg h7]
 refine HR.ent (Ent.pick [0,2,3,4,5,6,7,8,9,10,11] I I) ?_
 repeat' (first|refine zh ?_|intro (bk:Nat))
 refine HR.ret Tryz.func87 I [_] (fun w hw=>⟨⟨_,rfl,jP hw 0 I I I I rfl⟩,trivial⟩) ?_
 exact fun w' hw=>⟨V2,rfl,hP,hw.pick [2,3,4,5,6,7,8,9,10] I rfl⟩
end Go.Proofs.YtgfdoognildoeaaGreat
namespace Go.Proofs.YtgfdoognildoeaaGreat
open Go.GX Go.RowKit
attribute [local irreducible] Calls Run jg jh JU HR HL HD jU jK Jc Rd jL jd
open Nd
theorem jSr:IsFn Tryz.prog 109:=⟨⟨_,_,Tryz.func109,rfl,by decide⟩⟩
theorem fn103:IsFn Tryz.prog 103:=⟨⟨_,_,Tryz.func103,rfl,by decide⟩⟩
theorem fn122:IsFn Tryz.prog 122:=⟨⟨_,_,Tryz.func122,rfl,by decide⟩⟩
theorem jFA (V:NV) (n:Nd) (w:World) (hl:0≤n.lost∧n.lost≤JY):
  Calls Tryz.prog 109 #[.agg ⟨ndC V n⟩] w fun e w'=>e= .returned (.agg ⟨ndC V (lose n)⟩)∧Below w.heap.size w w':=by
 obtain ⟨h0,h1⟩:=hl
 have h1:n.lost≤1099511627776:=h1
 refine jB Tryz.func109 I (Nat.le_of_ble_eq_true I) ?_
 refine HR.sub (σ':=[(0,.agg ⟨ndC V n⟩)]) ⟨I,trivial⟩ ?_
 repeat' (first|refine zh ?_|intro (bk:Nat))
 refine HR.ret Tryz.func109 I [_] (fun w hw=>⟨⟨_,rfl,jP hw 0 I I I I rfl⟩,trivial⟩) ?_
 have e:(if 1099511627776<n.lost+1 then (1099511627776:Int)else n.lost+1)=min (n.lost+1) JY:=by
  show _=min (n.lost+1) 1099511627776
  split<;>omega
 refine fun w' hw=>⟨?_,hw.jE⟩
 show Ending.returned (.agg ⟨ndC V { n with lost:=if 1099511627776<n.lost+1 then (1099511627776:Int)else n.lost+1 }⟩)=_
 rw[e];rfl
theorem jNp (V:NV) (n:Nd) (f:Fr) (w:World) (hv:Sl w (sv V.ou n.out.length) (cellsOf snC n.out) n.out.length) (hl:n.out.length≤1000) (hlo:0≤n.lost∧n.lost≤JY):
  Calls Tryz.prog 103 #[.agg ⟨ndC V n⟩,.agg ⟨frC f⟩] w fun e w'=>∃x:SV,e= .returned (.tuple ⟨[.agg ⟨ndC { V with ou:=x } (queue n f).1⟩,.bool (queue n f).2]⟩)∧True∧Sat (base w) [cSn (sv x (queue n f).1.out.length) (queue n f).1.out] w':=by
 obtain ⟨q,hq⟩:∃q,q=jC1 n.out f:=⟨_,rfl⟩
 have hsp:queue n f=(if q.2=false∨q.1.length=n.out.length then lose { n with out:=q.1 } else { n with out:=q.1 },q.2):=by rw[hq];rfl
 obtain ⟨m,hm⟩:∃m:Nd,m=(if q.2=false∨q.1.length=n.out.length then lose n else n):=⟨_,rfl⟩
 have hmo:(if q.2=false∨q.1.length=n.out.length then lose { n with out:=q.1 } else { n with out:=q.1 })={ m with out:=q.1 }:=by
  rw[hm];split<;>rfl
 rw[hmo]at hsp
 rw[hsp]
 refine jB Tryz.func103 I (Nat.le_of_ble_eq_true I) ?_
 refine HR.sub (σ':=[(0,.agg ⟨ndC V n⟩),(1,.agg ⟨frC f⟩)]) ⟨I,I,trivial⟩ ?_
 refine HR.ctl I ?_
 refine HR.region ?_
 refine HL.box I I ?_
 intro b2
 refine HL.box I I ?_
 intro b3
 refine HL.alloc I I ?_
 intro b4
 repeat' (first|refine zh ?_|intro (bk:Nat))
 refine HL.JD (r:=fun v':Value=> .tuple ⟨[v',.bool q.2]⟩) (Q:=fun _=>True) (G:=fun v'=>[cSn v' q.1]) fn182 I I (fun w1 hw1=>by rw[hq];exact jJy n.out f _ w1 ((Rd.arg hv).at hw1) (by omega)) ?_
 intro v1 _
 refine HL.shape 0 I fun a c hv=>?_
 subst hv
 repeat' (first|refine zh ?_|apply zb ?_ ?_|exact zc|(refine zi fun hb=>?_;try simp at hb)|intro (bk:Nat))
 refine HR.join (ι:=Unit) (fun _=>True) (fun _=>[(2,ptr b2),(4,ptr b4),(8,.bool q.2)]) (fun _=>[rsC b4,jU b2 (ndC { V with ou:=(a,c) } { m with out:=q.1 }) 62,cSn (.slice a q.1.length c) q.1]) (fun _ _=>?_) (fun hj=>?_)
 rotate_left
 ·refine HR.cond I (fun h=>?_) (fun h=>?_)
  ·have h:(!q.2||((q.1.length:Int)==(n.out.length:Int)))=true:=h
   have h2:q.2=false∨(q.1.length:Int)=(n.out.length:Int):=by simpa using h
   have h:q.2=false∨q.1.length=n.out.length:=h2.imp id (fun e=>by omega)
   rw[if_pos h]at hm
   refine HR.region ?_
   repeat' (first|refine zn ?_|refine HL.jN jSr I I (fun w1 _=>jFA { V with ou:=(a,c) } { n with out:=q.1 } w1 hlo) ?_|apply zb ?_ ?_|exact zc|(refine zi fun hb=>?_;try simp at hb)|intro (bk:Nat))
   refine hj () _ _ trivial ⟨I,I,I,trivial⟩ ?_
   rw[hm]
   exact Ent.pick [1,3,0] I I
  ·have h:(!q.2||((q.1.length:Int)==(n.out.length:Int)))=false:=h
   have h2:¬(q.2=false∨(q.1.length:Int)=(n.out.length:Int)):=by simpa using h
   have h:¬(q.2=false∨q.1.length=n.out.length):=fun e=>h2 (e.imp id (fun e=>by omega))
   rw[if_neg h]at hm
   refine HR.skip ?_
   refine hj () _ _ trivial ⟨I,I,I,trivial⟩ ?_
   rw[hm]
   exact Ent.pick [1,3,0] I I
 repeat' (first|refine zh ?_|intro (bk:Nat))
 refine HR.ret Tryz.func103 I [_,_] (fun w hw=>⟨⟨_,rfl,jP hw 0 I I I I rfl⟩,rfl,trivial⟩) ?_
 exact fun w' hw=>⟨(a,c),rfl,trivial,hw.pick [2] I rfl⟩
theorem jFC (V:NV) (n:Nd) (s:Int) (t:By) (B0:Base) (w:World) (hw0:Sat B0 [cDe (sv V.ib n.inbox.length) n.inbox] w) (hl:n.inbox.length≤1000) (hlo:0≤n.lost∧n.lost≤JY):
  Calls Tryz.prog 122 #[.agg ⟨ndC V n⟩,.int .i64 s,str t] w fun e w'=>∃x:SV,e= .returned (.agg ⟨ndC { V with ib:=x } (deliver n ⟨s,t⟩)⟩)∧True∧Sat ⟨w,Zi [cDe (sv V.ib n.inbox.length) n.inbox]⟩ [cDe (sv x (deliver n ⟨s,t⟩).inbox.length) (deliver n ⟨s,t⟩).inbox] w':=by
 refine ji [cDe (sv V.ib n.inbox.length) n.inbox] (hw0) Tryz.func122 I (Nat.le_of_ble_eq_true I) ?_
 refine HR.sub (σ':=[(0,.agg ⟨ndC V n⟩),(1,.int .i64 s),(2,str t)]) ⟨I,I,I,trivial⟩ ?_
 repeat' (first|refine zh ?_|intro (bk:Nat))
 refine HR.cond I (fun h=>?_) (fun h=>?_)
 ·have h:n.inbox.length≥256:=by have:=of_decide_eq_true h;omega
  have e:deliver n ⟨s,t⟩=lose n:=by unfold deliver;rw[if_pos h]
  rw[e]
  repeat' (first|refine zh ?_|refine HL.jN jSr I I (fun w1 _=>jFA V n w1 hlo) ?_|intro (bk:Nat))
  refine HR.ret Tryz.func122 I [_] (fun w hw=>⟨⟨_,rfl,jP hw 0 I I I I rfl⟩,trivial⟩) ?_
  exact fun w' hw=>⟨V.ib,rfl,trivial,hw.pick [2] I rfl⟩
 ·have h:¬n.inbox.length≥256:=by have:=of_decide_eq_false h;omega
  have e:deliver n ⟨s,t⟩={ n with inbox:=n.inbox++[⟨s,t⟩] }:=by unfold deliver;rw[if_neg h]
  rw[e]
  repeat' (first|refine zh ?_|intro (bk:Nat))
  refine HL.jk jAK I I I I I (by decide) (by decide) ?_
  intro va
  refine HL.zD 3 I jAK (Rd.own 0 I) I I I I (jJ I) (by omega) (by omega) ?_
  intro v2
  refine HL.shape 3 I fun a c hv=>?_
  subst hv
  repeat' (first|refine zh ?_|intro (bk:Nat))
  have hl2:n.inbox.length+1=(n.inbox++[(⟨s,t⟩:De)]).length:=by simp
  have hc:cellsOf deC n.inbox++deC ⟨s,t⟩=cellsOf deC (n.inbox++[⟨s,t⟩]):=by rw[jM];rfl
  refine HR.ret Tryz.func122 I [_] (fun w hw=>⟨⟨_,rfl,jP hw 1 I I I I rfl⟩,trivial⟩) ?_
  refine fun w' hw=>⟨(a,c),?_,trivial,?_⟩
  ·show _=Ending.returned (.agg ⟨ndC { V with ib:=(a,c) } { n with inbox:=n.inbox++[⟨s,t⟩] }⟩)
   show Ending.returned (.agg ⟨[_,_,_,_,_,_,_,_,_,_,.slice a (n.inbox.length+1) c,_,_]⟩)=Ending.returned (.agg ⟨[_,_,_,_,_,_,_,_,_,_,.slice a (n.inbox++[(⟨s,t⟩:De)]).length c,_,_]⟩)
   rw[← hl2]
  ·have w1:Sat _ [jK (.slice a (n.inbox.length+1) c) 65 2 (n.inbox.length+1) (cellsOf deC n.inbox++deC ⟨s,t⟩)] w':=hw.pick [3] I I
   rw[hl2,hc]at w1
   exact w1
end Go.Proofs.YtgfdoognildoeaaGreat
namespace Go.Proofs.YtgfdoognildoeaaGreat
open Go.GX Go.RowKit
attribute [local irreducible] Calls Run jg jh JU HR HL HD jU jK Jc Rd jL jd
open Nd
theorem fn145:IsFn Tryz.prog 145:=⟨⟨_,_,Tryz.func145,rfl,by decide⟩⟩
end Go.Proofs.YtgfdoognildoeaaGreat
namespace Go.Proofs.YtgfdoognildoeaaGreat
open Go.GX Go.RowKit
attribute [local irreducible] Calls Run jg jh JU HR HL HD jU jK Jc Rd jL jd
open Nd
theorem jKy {p:Int→Bool}:∀ {l:List Int} {k:Nat},k≤l.length→(∀ j a,j<k→l[j]? =some a→p a=true)→(∀ a,l[k]? =some a→p a=false)→l.takeWhile p=l.take k∧l.dropWhile p=l.drop k
 |[],k,hk,_,_=>by
  have:k=0:=by simpa using hk
  subst this;exact ⟨rfl,rfl⟩
 |x::l,0,_,_,h2=>by
  have hx:=h2 x I
  rw[List.takeWhile_cons_of_neg (by rw[hx];decide),List.dropWhile_cons_of_neg (by rw[hx];decide)]
  exact ⟨rfl,rfl⟩
 |x::l,k+1,hk,h1,h2=>by
  have hx:=h1 0 x (Nat.succ_pos _) I
  obtain ⟨e1,e2⟩:=jKy (l:=l) (k:=k) (by simpa using hk) (fun j a hj ha=>h1 (j+1) a (by omega) ha) (fun a ha=>h2 a ha)
  rw[List.takeWhile_cons_of_pos hx,List.dropWhile_cons_of_pos hx,e1,e2]
  exact ⟨rfl,rfl⟩
theorem jPo {l:List Int} {c:Int} {k:Nat} (ha:Asc id l) (hk:k≤l.length) (h1:∀j a,j<k→l[j]? =some a→a<c) (h2:∀a,l[k]? =some a→¬a<c):child l c=if l[k]? =some c then l else l.take k++c::l.drop k:=by
 obtain ⟨e1,e2⟩:=jKy (p:=fun x=>decide (x<c)) hk (fun j a hj hja=>decide_eq_true (h1 j a hj hja)) (fun a hka=>decide_eq_false (h2 a hka))
 unfold child
 rw[e1,e2]
 have hmem:c∈l↔l[k]? =some c:=by
  constructor
  ·intro h
   obtain ⟨j,hj⟩:=List.getElem?_of_mem h
   rcases Nat.lt_trichotomy j k with h3|h3|h3
   ·exact absurd (h1 j c h3 hj) (Int.lt_irrefl c)
   ·rw [← h3];exact hj
   ·obtain ⟨x,hx⟩:=jH (show k<l.length by have:=(List.getElem?_eq_some_iff.1 hj).1;omega)
    have h4:x<c:=ha.lt h3 hx hj
    exact absurd h4 (h2 x hx)
  ·exact fun h=>List.mem_of_getElem? h
 by_cases h:c∈l
 ·rw [if_pos h,if_pos (hmem.1 h)]
 ·rw [if_neg h,if_neg fun e=>h (hmem.2 e)]
theorem jQB (a:Int):J9 (iC a)=true:=rfl
theorem jJw (l:List Int) (c:Int) (v:Value) (B0:Base) (w:World) (hw0:Sat B0 [cI v l] w) (hl:l.length≤1000) (ha:Asc id l):
  Calls Tryz.prog 145 #[v,.int .i64 c] w fun e w'=>∃r:Value,e= .returned r∧True∧Sat ⟨w,Zi [cI v l]⟩ [cI r (child l c)] w':=by
 refine ji [cI v l] (hw0) Tryz.func145 I (Nat.le_of_ble_eq_true I) ?_
 refine HR.sub (σ':=[(0,v),(1,.int .i64 c)]) ⟨I,I,trivial⟩ ?_
 repeat' (first|refine zh ?_|intro (bk:Nat))
 refine HR.zY 3 1 ?_
 refine HR.jSE (ι:=Nat×Value) (fun x=>x.1≤l.length∧(∀ j a,j<x.1→l[j]? =some a→a<c)∧∀a,l[x.1]? =some a→¬a<c) (fun x=>[(0,v),(1,.int .i64 c),(5,x.2),(6,.int .i64 (x.1:Int))]) (fun x=>[cI x.2 (l.take x.1),cI v l]) (fun x hx=>?_) (fun hj=>?_)
 rotate_left
 ·refine HR.loop (ι:=Nat×Value) (fun x=>x.1≤l.length∧∀j a,j<x.1→l[j]? =some a→a<c) (fun x=>[(0,v),(1,.int .i64 c),(5,x.2),(6,.int .i64 (x.1:Int))]) (fun x=>[cI x.2 (l.take x.1),cI v l]) (fun x=>l.length-x.1) (0,.slice none 0 0) ⟨Nat.zero_le _,fun j a hj=>absurd hj (Nat.not_lt_zero _)⟩ ⟨I,I,I,I,trivial⟩ Ent.refl ?_
  rintro ⟨k,o⟩ ⟨hk,hg⟩ ih
  have hk:k≤l.length:=hk
  have hg:∀j a,j<k→l[j]? =some a→a<c:=hg
  refine HR.ctl I ?_
  refine HR.region ?_
  repeat' (first|refine zn ?_|refine HL.j4 (Rd.own 1 I) I I I ?_|intro (bk:Nat))
  refine HL.split 11 I (fun hb=>?_) (fun hb=>?_)
  ·have hlt:k<l.length:=by have h1:(k:Int)<(l.length:Int):=of_decide_eq_true hb;omega
   obtain ⟨x,hx⟩:=jH hlt
   repeat' (first|refine zn ?_|refine HL.jw (Rd.own 1 I) Jg k I I I I hlt ?_|refine HL.jY (Rd.own 1 I) I I I I (jV hx) ?_|intro (bk:Nat))
   refine HR.cond I (fun h2=>?_) (fun h2=>?_)
   ·have h2:x<c:=of_decide_eq_true h2
    repeat' (first|refine zh ?_|refine HL.jw (Rd.own 1 I) Jg k I I I I hlt ?_|refine HL.jY (Rd.own 1 I) I I I I (jV hx) ?_|intro (bk:Nat))
    refine HL.jk Jg I I I I I (by decide) (by decide) ?_
    intro va
    refine HL.zD 1 I Jg (Rd.own 0 I) I I I I (jJ I) (by show ((l.take k).length+1)*8≤_;rw[List.length_take];omega) (by show (l.take k).length+1≤_;rw[List.length_take];omega) ?_
    intro v2
    repeat' (first|refine zh ?_|intro (bk:Nat))
    refine ih (k+1,v2) _ _ ⟨hlt,fun j a hj hja=>?_⟩ (by show l.length-(k+1)<l.length-k;omega) ⟨I,I,I,I,trivial⟩ ?_
    ·by_cases hjk:j=k
     ·subst hjk;rw[hx]at hja;cases hja;exact h2
     ·have hj:j<k+1:=hj
      exact hg j a (by omega) hja
    ·show Ent _ _ [jK v2 3 1 (l.take (k+1)).length (cellsOf iC (l.take (k+1))),cI v l]
     rw[jG hx,List.length_append,jM]
     exact Ent.pick [1,2] I I
   ·have h2:¬x<c:=of_decide_eq_false h2
    refine HR.exit I ?_
    exact hj (k,o) _ _ ⟨hk,hg,fun a hka=>by have hka:l[k]? =some a:=hka;rw[hx]at hka;cases hka;exact h2⟩ ⟨I,I,I,I,trivial⟩ Ent.refl
  ·have hlt:¬k<l.length:=by have h1:¬(k:Int)<(l.length:Int):=of_decide_eq_false hb;omega
   repeat' (first|refine zn ?_|intro (bk:Nat))
   refine HR.jy I ?_
   refine HR.exit I ?_
   exact hj (k,o) _ _ ⟨hk,hg,fun a hka=>absurd (List.getElem?_eq_some_iff.1 hka).1 hlt⟩ ⟨I,I,I,I,trivial⟩ Ent.refl
 obtain ⟨k,o⟩:=x
 obtain ⟨hk,h1,h2⟩:=hx
 have hk:k≤l.length:=hk
 have hsp:=jPo ha hk h1 h2
 rw[hsp]
 have htk:(l.take k).length=k:=by rw[List.length_take];omega
 refine HR.ctl I ?_
 refine HR.join (ι:=Unit) (fun _=>True) (fun _=>[(0,v),(1,.int .i64 c),(5,o),(6,.int .i64 (k:Int)),(39,.bool (decide (l[k]? =some c)))]) (fun _=>[cI o (l.take k),cI v l]) (fun _ _=>?_) (fun hj=>?_)
 rotate_left
 ·refine HR.region ?_
  repeat' (first|refine zn ?_|refine HL.j4 (Rd.own 1 I) I I I ?_|intro (bk:Nat))
  refine HL.split 32 I (fun hb=>?_) (fun hb=>?_)
  ·have hlt:k<l.length:=by have h1:(k:Int)<(l.length:Int):=of_decide_eq_true hb;omega
   obtain ⟨x,hx⟩:=jH hlt
   repeat' (first|refine zn ?_|refine HL.jw (Rd.own 1 I) Jg k I I I I hlt ?_|refine HL.jY (Rd.own 1 I) I I I I (jV hx) ?_|intro (bk:Nat))
   refine hj () _ _ trivial ⟨rfl,rfl,rfl,rfl,?_,trivial⟩ Ent.refl
   show some (Value.bool (x==c))=some (Value.bool (decide (l[k]? =some c)))
   rw[hx]
   by_cases e:x=c
   ·subst e;simp
   ·simp [e]
  ·have hlt:¬k<l.length:=by have h1:¬(k:Int)<(l.length:Int):=of_decide_eq_false hb;omega
   repeat' (first|refine zn ?_|intro (bk:Nat))
   refine hj () _ _ trivial ⟨rfl,rfl,rfl,rfl,?_,trivial⟩ Ent.refl
   show some (Value.bool false)=some (Value.bool (decide (l[k]? =some c)))
   rw[List.getElem?_eq_none (by omega)];rfl
 refine HR.cond I (fun h3=>?_) (fun h3=>?_)
 ·have h3:l[k]? =some c:=of_decide_eq_true h3
  rw[if_pos h3]
  repeat' (first|refine zh ?_|intro (bk:Nat))
  refine HR.ret Tryz.func145 I [_] (fun _ _=>⟨I,trivial⟩) ?_
  exact fun w' hw=>⟨v,rfl,trivial,hw.pick [1] I rfl⟩
 have h3:¬l[k]? =some c:=of_decide_eq_false h3
 rw[if_neg h3]
 repeat' (first|refine zh ?_|intro (bk:Nat))
 refine HL.jk Jg I I I I I (by decide) (by decide) ?_
 intro va
 refine HL.zD 1 I Jg (Rd.own 0 I) I I I I (jJ I) (by omega) (by omega) ?_
 intro v2
 have hcl:(cellsOf iC l).length=l.length*1:=jC KH _
 repeat' (first|refine zh ?_|refine HL.j4 (Rd.own 2 I) I I I ?_|intro (bk:Nat))
 refine HL.KP (sz:=1) k l.length (Rd.own 2 I) I I I I (.inr ⟨_,_,_,rfl,rfl,rfl⟩) (.inl ⟨rfl,rfl⟩) hk (Nat.le_refl _) ?_
 refine HL.zD 1 I Jg (Rd.sub (sz:=1) (Rd.own 2 I) hcl hk (Nat.le_refl _)) I I I (by rw[List.length_take,List.length_drop,hcl];omega) (fun u hu=>jT jQB _ u (List.mem_of_mem_drop (List.mem_of_mem_take hu))) (by omega) (by omega) ?_
 intro v3
 repeat' (first|refine zh ?_|intro (bk:Nat))
 refine HR.ret Tryz.func145 I [_] (fun _ _=>⟨I,trivial⟩) ?_
 refine fun w' hw=>⟨v3,rfl,trivial,?_⟩
 refine Ent.JM ?_ ?_ w' (hw.pick [1] I I)
 ·rw [List.length_append,List.length_cons,List.length_drop,htk];omega
 ·rw [jM,JH KH,List.take_of_length_le (l:=cellsOf iC (l.drop k)) (by rw[jC KH,List.length_drop];omega),List.append_assoc];rfl
end Go.Proofs.YtgfdoognildoeaaGreat
namespace Go.GX
open Go.RowKit
theorem Jv {v:Value} {e sz n:Nat} {xs:List Value} {w:World} (h:(jK v e sz n xs).p w):Sl w v xs n:=(show Vw w v e sz n xs from h).sl
theorem jS {G:List Chunk} {c:Chunk} {w:World} (h:(jD G).p w) (hc:c∈G):c.p w:=jHg.mem h c hc
theorem Sat.grp {B:Base} {H G:List Chunk} {w:World} (i:Nat) (hw:Sat B H w) (hi:zX H i=some (jD G)):(jD G).p w:=hw.nth hi
end Go.GX
namespace Go.Proofs.YtgfdoognildoeaaGreat
open Go.GX Go.RowKit
attribute [local irreducible] Calls Run jg jh JU HR HL HD jU jK Jc Rd jL jd
open Nd
theorem fn70:IsFn Tryz.prog 70:=⟨⟨_,_,Tryz.func70,rfl,by decide⟩⟩
structure ROk (V:NV) (n:Nd) (V':NV) (Gt:List Chunk) (m:Nd):Prop where
 pa:V'.pa=V.pa
 ps:V'.ps=V.ps
 ta:∀w2,Sl w2 (sv V.ta n.table.length) (cellsOf roC n.table) n.table.length→(jD Gt).p w2→Sl w2 (sv V'.ta m.table.length) (cellsOf roC m.table) m.table.length
 li:∀w2,Sl w2 (sv V.li n.links.length) (cellsOf liC n.links) n.links.length→Sl w2 (sv V'.li m.links.length) (cellsOf liC m.links) m.links.length
abbrev roH (V:NV) (Gt:List Chunk) (m:Nd):List Chunk:=[jD Gt,cSn (sv V.ou m.out.length) m.out,cMa (sv V.bo m.boxes.length) m.boxes,cI (sv V.ch m.children.length) m.children,cPr (sv V.se m.seen.length) m.seen,cDe (sv V.ib m.inbox.length) m.inbox]
theorem jM4 (p:Int→Bool) {l:List Int} {k:Nat} {x:Int} (hx:l[k]? =some x):((l.take (k+1)).filter p).foldl child []=if p x=true then child (((l.take k).filter p).foldl child []) x else ((l.take k).filter p).foldl child []:=by
 rw[kF hx]
 split
 ·rw [List.foldl_append];rfl
 ·rfl
theorem jBA (V:NV) (n:Nd) (w:World) (h:OkN w V n) (hs:SmN n):
  Calls Tryz.prog 70 #[.agg ⟨ndC V n⟩] w fun e w'=>∃x:NV×List Chunk,e= .returned (.agg ⟨ndC x.1 (order n)⟩)∧ROk V n x.1 x.2 (order n)∧Sat (base w) (roH x.1 x.2 (order n)) w':=by
 have l1:=hs.ta
 have l2:=hs.li
 have l3:=hs.ou
 have l4:=hs.ch
 have l5:=hs.bo
 have l6:=hs.se
 have l7:=hs.ib
 obtain ⟨m,hm⟩:∃m,m=order n:=⟨_,rfl⟩
 have e_ad:m.addr=clamp n.addr 0 250:=by rw[hm];rfl
 have e_po:m.poll=if n.poll<1 then 0 else max n.poll 4:=by rw[hm];rfl
 have e_pr:m.parent=if Tp.okN n.parent=false∨n.parent=m.addr then 255 else n.parent:=by rw[hm];rfl
 have e_ta:m.table=if KL n.table m.addr=0 then n.table else [jGk m.addr]:=by rw[hm];rfl
 have e_li:m.links=if jA4 n.links=0 then n.links else []:=by rw[hm];rfl
 have e_ou:m.out=n.out.take (min n.out.length 16):=by rw[hm,← Zx];rfl
 have e_ch:m.children=(n.children.filter fun c=>Tp.okN c&&!(c==m.addr)).foldl child []:=by rw[hm];rfl
 have e_bo:m.boxes=n.boxes.take (min n.boxes.length 16):=by rw[hm,← Zx];rfl
 have e_se:m.seen=n.seen.drop (n.seen.length-32):=by rw[hm];rfl
 have e_ib:m.inbox=n.inbox.take (min n.inbox.length 256):=by rw[hm,← Zx];rfl
 have e_sq:m.seq=if n.seq<0∨n.seq>65535 then 0 else n.seq:=by rw[hm];rfl
 have e_lo:m.lost=clamp n.lost 0 1099511627776:=by rw[hm];rfl
 have e_nw:jDF m.addr=[jGk m.addr]:=by rw[e_ad];unfold jDF lim;rw[jNJ]
 have s_ou:=Sl.pre je h.ou (Nat.min_le_left _ _) e_ou
 have s_bo:=Sl.pre Jw h.bo (Nat.min_le_left _ _) e_bo
 have s_se:=Sl.suf Zf h.se (Nat.sub_le _ _) e_se
 have s_ib:=Sl.pre jAS h.ib (Nat.min_le_left _ _) e_ib
 have k3:m.out.length≤16:=by rw[e_ou,List.length_take];omega
 have k5:m.boxes.length≤16:=by rw[e_bo,List.length_take];omega
 have k6:m.seen.length≤32:=by rw[e_se,List.length_drop];omega
 have k7:m.inbox.length≤256:=by rw[e_ib,List.length_take];omega
 rw[← hm]
 refine jB Tryz.func70 I (Nat.le_of_ble_eq_true I) ?_
 refine HR.sub (σ':=[(0,.agg ⟨ndC V n⟩)]) ⟨I,trivial⟩ ?_
 refine HR.ctl I ?_
 refine HR.region ?_
 refine HL.box I I ?_
 intro b1
 refine HL.alloc I I ?_
 intro b2
 repeat' (first|refine zh ?_|refine HL.jN jSi I I (fun w _=>jDK n.addr 0 250 (by decide) w) ?_|intro (bk:Nat))
 refine HR.ent (H':=[jU b1 [.int .i64 m.addr,.int .i64 n.poll,.int .i64 n.parent,sv V.ta n.table.length,sv V.li n.links.length,sv V.ou n.out.length,sv V.ch n.children.length,sv V.bo n.boxes.length,sv V.se n.seen.length,sv V.pa V.ps.length,sv V.ib n.inbox.length,.int .i64 n.seq,.int .i64 n.lost] 62,rsC b2]) (Ent.trans (Ent.pick [1,0] I I) (Ent.of_eq (by rw[e_ad];rfl))) ?_
 refine HR.join (ι:=Unit) (fun _=>True) (fun _=>[(1,ptr b1),(2,ptr b2)]) (fun _=>[jU b1 [.int .i64 m.addr,.int .i64 m.poll,.int .i64 n.parent,sv V.ta n.table.length,sv V.li n.links.length,sv V.ou n.out.length,sv V.ch n.children.length,sv V.bo n.boxes.length,sv V.se n.seen.length,sv V.pa V.ps.length,sv V.ib n.inbox.length,.int .i64 n.seq,.int .i64 n.lost] 62,rsC b2]) (fun _ _=>?_) (fun hj=>?_)
 rotate_left
 ·refine HR.cond I (fun h=>?_) (fun h=>?_)
  ·have h:n.poll<1:=of_decide_eq_true h
   refine HR.region ?_
   repeat' (first|refine zn ?_|apply zb ?_ ?_|exact zc|(refine zi fun hb=>?_;try simp at hb)|intro (bk:Nat))
   refine hj () _ _ trivial ⟨I,I,trivial⟩ (Ent.of_eq ?_)
   rw[e_po,if_pos h];rfl
  ·have h:¬n.poll<1:=of_decide_eq_false h
   rw[if_neg h]at e_po
   refine HR.ctl I ?_
   refine HR.region ?_
   repeat' (first|refine zn ?_|apply zb ?_ ?_|exact zc|(refine zi fun hb=>?_;try simp at hb)|intro (bk:Nat))
   refine HR.cond I (fun h2=>?_) (fun h2=>?_)
   ·have h2:n.poll<4:=of_decide_eq_true h2
    refine HR.region ?_
    repeat' (first|refine zn ?_|apply zb ?_ ?_|exact zc|(refine zi fun hb=>?_;try simp at hb)|intro (bk:Nat))
    refine hj () _ _ trivial ⟨I,I,trivial⟩ (Ent.of_eq ?_)
    rw[show m.poll=4 from by rw[e_po];omega];rfl
   ·have h2:¬n.poll<4:=of_decide_eq_false h2
    refine HR.skip ?_
    refine hj () _ _ trivial ⟨I,I,trivial⟩ (Ent.of_eq ?_)
    rw[show m.poll=n.poll from by rw[e_po];omega]
 repeat' (first|refine zh ?_|refine HL.jN jRF I I (fun w _=>jAX n.parent w) ?_|apply zb ?_ ?_|exact zc|(refine zi fun hb=>?_;try simp at hb)|intro (bk:Nat))
 refine HR.join (ι:=Unit) (fun _=>True) (fun _=>[(1,ptr b1),(2,ptr b2)]) (fun _=>[jU b1 [.int .i64 m.addr,.int .i64 m.poll,.int .i64 m.parent,sv V.ta n.table.length,sv V.li n.links.length,sv V.ou n.out.length,sv V.ch n.children.length,sv V.bo n.boxes.length,sv V.se n.seen.length,sv V.pa V.ps.length,sv V.ib n.inbox.length,.int .i64 n.seq,.int .i64 n.lost] 62,rsC b2]) (fun _ _=>?_) (fun hj=>?_)
 rotate_left
 ·refine HR.cond I (fun h=>?_) (fun h=>?_)
  ·have h:(!Tp.okN n.parent||(n.parent==m.addr))=true:=h
   have h2:Tp.okN n.parent=false∨n.parent=m.addr:=by simpa using h
   refine HR.region ?_
   repeat' (first|refine zn ?_|apply zb ?_ ?_|exact zc|(refine zi fun hb=>?_;try simp at hb)|intro (bk:Nat))
   refine hj () _ _ trivial ⟨I,I,trivial⟩ (Ent.of_eq ?_)
   rw[e_pr,if_pos h2];rfl
  ·have h:(!Tp.okN n.parent||(n.parent==m.addr))=false:=h
   have h2:¬(Tp.okN n.parent=false∨n.parent=m.addr):=by simpa using h
   refine HR.skip ?_
   refine hj () _ _ trivial ⟨I,I,trivial⟩ (Ent.of_eq ?_)
   rw[e_pr,if_neg h2]
 repeat' (first|refine zh ?_|refine HL.jN jSh I I (fun w hw=>jBT n.table m.addr _ w ((Rd.arg h.ta).at hw) l1) ?_|intro (bk:Nat))
 refine HR.join (ι:=SV×List Chunk) (fun x=>∀w2,Sl w2 (sv V.ta n.table.length) (cellsOf roC n.table) n.table.length→(jD x.2).p w2→Sl w2 (sv x.1 m.table.length) (cellsOf roC m.table) m.table.length) (fun _=>[(1,ptr b1),(2,ptr b2)]) (fun x=>[jU b1 [.int .i64 m.addr,.int .i64 m.poll,.int .i64 m.parent,sv x.1 m.table.length,sv V.li n.links.length,sv V.ou n.out.length,sv V.ch n.children.length,sv V.bo n.boxes.length,sv V.se n.seen.length,sv V.pa V.ps.length,sv V.ib n.inbox.length,.int .i64 n.seq,.int .i64 n.lost] 62,rsC b2,jD x.2]) (fun xt ht=>?_) (fun hj=>?_)
 rotate_left
 ·refine HR.cond I (fun h2=>?_) (fun h2=>?_)
  ·have h2:¬KL n.table m.addr=0:=by simpa using h2
   rw[if_neg h2,← e_nw]at e_ta
   refine HR.region ?_
   repeat' (first|refine zn ?_|refine HL.JN jSg I I (fun w _=>jE8 m.addr w) ?_|apply zb ?_ ?_|exact zc|(refine zi fun hb=>?_;try simp at hb)|intro (bk:Nat))
   intro v2
   refine HL.shape 0 I fun a2 c2 hv=>?_
   subst hv
   repeat' (first|refine zn ?_|apply zb ?_ ?_|exact zc|(refine zi fun hb=>?_;try simp at hb)|intro (bk:Nat))
   refine hj ((a2,c2),[cTa (.slice a2 (jDF m.addr).length c2) (jDF m.addr)]) _ _ (fun w2 _ hp=>?_) ⟨I,I,trivial⟩ ?_
   ·rw [e_ta];exact Jv hp.1
   ·rw [e_ta];exact Ent.trans (Ent.group (G:=[cTa (.slice a2 (jDF m.addr).length c2) (jDF m.addr)])) (Ent.pick [1,2,0] I I)
  ·have h2:KL n.table m.addr=0:=by simpa using h2
   rw[if_pos h2]at e_ta
   refine HR.skip ?_
   refine hj (V.ta,[]) _ _ (fun w2 hw2 _=>?_) ⟨I,I,trivial⟩ ?_
   ·rw [e_ta];exact hw2
   ·rw [e_ta];exact Ent.trans Ent.jKt (Ent.pick [1,2,0] I I)
 obtain ⟨xt,Gt⟩:=xt
 have ht:∀w2,Sl w2 (sv V.ta n.table.length) (cellsOf roC n.table) n.table.length→(jD Gt).p w2→Sl w2 (sv xt m.table.length) (cellsOf roC m.table) m.table.length:=ht
 repeat' (first|refine zh ?_|refine HL.jN fn144 I I (fun w hw=>jFL n.links _ w ((Rd.arg h.li).at hw) l2) ?_|intro (bk:Nat))
 refine HR.join (ι:=SV) (fun x=>∀w2,Sl w2 (sv V.li n.links.length) (cellsOf liC n.links) n.links.length→Sl w2 (sv x m.links.length) (cellsOf liC m.links) m.links.length) (fun _=>[(1,ptr b1),(2,ptr b2)]) (fun x=>[jU b1 [.int .i64 m.addr,.int .i64 m.poll,.int .i64 m.parent,sv xt m.table.length,sv x m.links.length,sv V.ou n.out.length,sv V.ch n.children.length,sv V.bo n.boxes.length,sv V.se n.seen.length,sv V.pa V.ps.length,sv V.ib n.inbox.length,.int .i64 n.seq,.int .i64 n.lost] 62,rsC b2,jD Gt]) (fun xl hli=>?_) (fun hj=>?_)
 rotate_left
 ·refine HR.cond I (fun h2=>?_) (fun h2=>?_)
  ·have h2:¬jA4 n.links=0:=by simpa using h2
   rw[if_neg h2]at e_li
   refine HR.region ?_
   repeat' (first|refine zn ?_|apply zb ?_ ?_|exact zc|(refine zi fun hb=>?_;try simp at hb)|intro (bk:Nat))
   refine hj (none,0) _ _ (fun w2 _=>?_) ⟨I,I,trivial⟩ ?_
   ·rw [e_li];exact Sl.nil w2
   ·rw [e_li];exact Ent.refl
  ·have h2:jA4 n.links=0:=by simpa using h2
   rw[if_pos h2]at e_li
   refine HR.skip ?_
   refine hj V.li _ _ (fun w2 hw2=>?_) ⟨I,I,trivial⟩ ?_
   ·rw [e_li];exact hw2
   ·rw [e_li];exact Ent.refl
 repeat' (first|refine zh ?_|refine HL.Jy Ja I ?_|intro (bk:Nat))
 intro v0
 repeat' (first|refine zh ?_|intro (bk:Nat))
 refine HL.ZB 50 (v':= .int .i64 ((min n.out.length 16:Nat):Int)) I (by rw[← jKD];rfl) ?_
 repeat' (first|refine zh ?_|refine HL.KP (sz:=11) 0 (min n.out.length 16) (Rd.arg h.ou) I I I I (.inl ⟨rfl,rfl⟩) (.inr ⟨_,_,_,rfl,rfl,rfl⟩) (Nat.zero_le _) (Nat.min_le_left _ _) ?_|intro (bk:Nat))
 refine HL.zD 0 I Ja (Rd.arg s_ou) I I I (jC je _) (jT jA7 _) (by omega) (by omega) ?_
 intro v1
 refine HL.ent (H':=cSn v1 m.out::[jU b1 [.int .i64 m.addr,.int .i64 m.poll,.int .i64 m.parent,sv xt m.table.length,sv xl m.links.length,sv V.ou n.out.length,sv V.ch n.children.length,sv V.bo n.boxes.length,sv V.se n.seen.length,sv V.pa V.ps.length,sv V.ib n.inbox.length,.int .i64 n.seq,.int .i64 n.lost] 62,rsC b2,jD Gt]) (Ent.JM (Nat.zero_add _) (List.nil_append _)) ?_
 refine HL.shape 0 I fun a3 c3 hv=>?_
 subst hv
 refine HL.ent (H':=[jU b1 [.int .i64 m.addr,.int .i64 m.poll,.int .i64 m.parent,sv xt m.table.length,sv xl m.links.length,sv V.ou n.out.length,sv V.ch n.children.length,sv V.bo n.boxes.length,sv V.se n.seen.length,sv V.pa V.ps.length,sv V.ib n.inbox.length,.int .i64 n.seq,.int .i64 n.lost] 62,rsC b2,jD Gt,cSn (.slice a3 m.out.length c3) m.out]) (Ent.pick [1,2,3,0] I I) ?_
 repeat' (first|refine zh ?_|refine HL.Jy zV I ?_|intro (bk:Nat))
 intro v0
 repeat' (first|refine zh ?_|intro (bk:Nat))
 refine HL.ZB 60 (v':= .int .i64 ((min n.boxes.length 16:Nat):Int)) I (by rw[← jKD];rfl) ?_
 repeat' (first|refine zh ?_|refine HL.KP (sz:=10) 0 (min n.boxes.length 16) (Rd.arg h.bo) I I I I (.inl ⟨rfl,rfl⟩) (.inr ⟨_,_,_,rfl,rfl,rfl⟩) (Nat.zero_le _) (Nat.min_le_left _ _) ?_|intro (bk:Nat))
 refine HL.zD 0 I zV (Rd.arg s_bo) I I I (jC Jw _) (jT jES _) (by omega) (by omega) ?_
 intro v1
 refine HL.ent (H':=cMa v1 m.boxes::[jU b1 [.int .i64 m.addr,.int .i64 m.poll,.int .i64 m.parent,sv xt m.table.length,sv xl m.links.length,.slice a3 m.out.length c3,sv V.ch n.children.length,sv V.bo n.boxes.length,sv V.se n.seen.length,sv V.pa V.ps.length,sv V.ib n.inbox.length,.int .i64 n.seq,.int .i64 n.lost] 62,rsC b2,jD Gt,cSn (.slice a3 m.out.length c3) m.out]) (Ent.JM (Nat.zero_add _) (List.nil_append _)) ?_
 refine HL.shape 0 I fun a5 c5 hv=>?_
 subst hv
 refine HL.ent (H':=[jU b1 [.int .i64 m.addr,.int .i64 m.poll,.int .i64 m.parent,sv xt m.table.length,sv xl m.links.length,.slice a3 m.out.length c3,sv V.ch n.children.length,sv V.bo n.boxes.length,sv V.se n.seen.length,sv V.pa V.ps.length,sv V.ib n.inbox.length,.int .i64 n.seq,.int .i64 n.lost] 62,rsC b2,jD Gt,cSn (.slice a3 m.out.length c3) m.out,cMa (.slice a5 m.boxes.length c5) m.boxes]) (Ent.pick [1,2,3,4,0] I I) ?_
 repeat' (first|refine zh ?_|intro (bk:Nat))
 refine HR.zY 3 1 ?_
 obtain ⟨g,hg⟩:∃g:Nat→List Int,g=fun k=>((n.children.take k).filter fun c=>Tp.okN c&&!(c==m.addr)).foldl child []:=⟨_,rfl⟩
 have hga:∀k,Asc id (g k):=fun k=>by rw[hg];exact (K7 (l:=(n.children.take k).filter fun c=>Tp.okN c&&!(c==m.addr)) (acc:=[]) List.Pairwise.nil).1
 have hgl:∀k,(g k).length≤1000:=fun k=>Nat.le_trans (jGH (hga k) fun x hx=>by
  rw[hg]at hx
  have hx:=((K7 (l:=(n.children.take k).filter fun c=>Tp.okN c&&!(c==m.addr)) (acc:=[]) List.Pairwise.nil).2 x).1 hx
  rcases hx with hx|hx
  ·have:=(List.mem_filter.1 hx).2
   simp only[Bool.and_eq_true]at this
   exact this.1
  ·cases hx) (by decide)
 refine HR.loop (ι:=Nat×Value) (fun x=>x.1≤n.children.length) (fun x=>[(1,ptr b1),(2,ptr b2),(3,x.2),(4,.int .i64 (x.1:Int))]) (fun x=>[cI x.2 (g x.1),jU b1 [.int .i64 m.addr,.int .i64 m.poll,.int .i64 m.parent,sv xt m.table.length,sv xl m.links.length,.slice a3 m.out.length c3,sv V.ch n.children.length,.slice a5 m.boxes.length c5,sv V.se n.seen.length,sv V.pa V.ps.length,sv V.ib n.inbox.length,.int .i64 n.seq,.int .i64 n.lost] 62,rsC b2,jD Gt,cSn (.slice a3 m.out.length c3) m.out,cMa (.slice a5 m.boxes.length c5) m.boxes]) (fun x=>n.children.length-x.1) (0,.slice none 0 0) (Nat.zero_le _) ⟨I,I,I,I,trivial⟩ (by rw[hg];exact Ent.refl) ?_
 rintro ⟨k,v⟩ hk ih
 have hk:k≤n.children.length:=hk
 repeat' (first|refine zh ?_|intro (bk:Nat))
 refine HR.cond I (fun h2=>?_) (fun h2=>?_)
 ·have hlt:k<n.children.length:=by have:=of_decide_eq_true h2;omega
  obtain ⟨c,hc⟩:=jH hlt
  have hgs:=jM4 (fun c=>Tp.okN c&&!(c==m.addr)) hc
  have hgs:g (k+1)=if (Tp.okN c&&!(c==m.addr))=true then child (g k) c else g k:=by rw[hg];exact hgs
  repeat' (first|refine zh ?_|intro (bk:Nat))
  refine HR.join (ι:=Unit) (fun _=>True) (fun _=>[(1,ptr b1),(2,ptr b2),(3,v),(4,.int .i64 (k:Int)),(86,.bool (Tp.okN c&&!(c==m.addr)))]) (fun _=>[cI v (g k),jU b1 [.int .i64 m.addr,.int .i64 m.poll,.int .i64 m.parent,sv xt m.table.length,sv xl m.links.length,.slice a3 m.out.length c3,sv V.ch n.children.length,.slice a5 m.boxes.length c5,sv V.se n.seen.length,sv V.pa V.ps.length,sv V.ib n.inbox.length,.int .i64 n.seq,.int .i64 n.lost] 62,rsC b2,jD Gt,cSn (.slice a3 m.out.length c3) m.out,cMa (.slice a5 m.boxes.length c5) m.boxes]) (fun _ _=>?_) (fun hj=>?_)
  rotate_left
  ·refine HR.j3 [(0,true),(1,true),(2,true),(3,true),(4,true),(5,false),(6,true),(7,true),(8,true),(9,true),(10,true),(11,true),(12,true),(13,true),(14,true),(15,true)] [1] I I JZ (by kernel_rfl) ?_
   repeat' (first|refine zd ?_|refine HD.jw (Rd.arg h.ch) Jg k I I I I I hlt ?_|refine HD.jY (Rd.arg h.ch) I I I I I (jV hc) ?_)
   refine HD.one I ?_
   refine HL.jN jRF I I (fun w _=>jAX c w) ?_
   refine HL.back [1] I I ?_
   repeat' (first|refine zd ?_|fail)
   refine HD.split 77 I (fun hb=>?_) (fun hb=>?_)
   ·repeat' (first|refine zd ?_|refine HD.jw (Rd.arg h.ch) Jg k I I I I I hlt ?_|refine HD.jY (Rd.arg h.ch) I I I I I (jV hc) ?_)
    refine HD.nil ?_
    refine hj () _ _ trivial ⟨rfl,rfl,rfl,rfl,?_,trivial⟩ Ent.refl
    show some (Value.bool (!(c==m.addr)))=some (Value.bool (Tp.okN c&&!(c==m.addr)))
    rw[show Tp.okN c=true from hb];rfl
   ·repeat' (first|refine zd ?_|fail)
    refine HD.nil ?_
    refine hj () _ _ trivial ⟨rfl,rfl,rfl,rfl,?_,trivial⟩ Ent.refl
    show some (Value.bool false)=some (Value.bool (Tp.okN c&&!(c==m.addr)))
    rw[show Tp.okN c=false from hb];rfl
  refine HR.cond I (fun h3=>?_) (fun h3=>?_)
  ·have h3:(Tp.okN c&&!(c==m.addr))=true:=h3
   rw[if_pos h3]at hgs
   repeat' (first|refine zh ?_|refine HL.jw (Rd.arg h.ch) Jg k I I I I hlt ?_|refine HL.jY (Rd.arg h.ch) I I I I (jV hc) ?_|intro (bk:Nat))
   refine HL.Jo (r:=fun r:Value=>r) (Q:=fun _=>True) (G0:=[cI v (g k)]) (H0:=[jU b1 [.int .i64 m.addr,.int .i64 m.poll,.int .i64 m.parent,sv xt m.table.length,sv xl m.links.length,.slice a3 m.out.length c3,sv V.ch n.children.length,.slice a5 m.boxes.length c5,sv V.se n.seen.length,sv V.pa V.ps.length,sv V.ib n.inbox.length,.int .i64 n.seq,.int .i64 n.lost] 62,rsC b2,jD Gt,cSn (.slice a3 m.out.length c3) m.out,cMa (.slice a5 m.boxes.length c5) m.boxes]) (G:=fun r=>[cI r (child (g k) c)]) fn145 I I I (fun w1 hw1=>jJw (g k) c v _ w1 (hw1.pick [0] I I) (hgl k) (hga k)) ?_
   intro r _
   repeat' (first|refine zh ?_|intro (bk:Nat))
   refine ih (k+1,r) _ _ hlt (by show n.children.length-(k+1)<n.children.length-k;omega) ⟨I,I,I,I,trivial⟩ ?_
   show Ent _ _ [cI r (g (k+1)),jU b1 [.int .i64 m.addr,.int .i64 m.poll,.int .i64 m.parent,sv xt m.table.length,sv xl m.links.length,.slice a3 m.out.length c3,sv V.ch n.children.length,.slice a5 m.boxes.length c5,sv V.se n.seen.length,sv V.pa V.ps.length,sv V.ib n.inbox.length,.int .i64 n.seq,.int .i64 n.lost] 62,rsC b2,jD Gt,cSn (.slice a3 m.out.length c3) m.out,cMa (.slice a5 m.boxes.length c5) m.boxes]
   rw[hgs]
   exact Ent.refl
  ·have h3:(Tp.okN c&&!(c==m.addr))=false:=h3
   rw[if_neg (by rw[h3];decide)]at hgs
   repeat' (first|refine zh ?_|intro (bk:Nat))
   refine ih (k+1,v) _ _ hlt (by show n.children.length-(k+1)<n.children.length-k;omega) ⟨I,I,I,I,trivial⟩ ?_
   show Ent _ _ [cI v (g (k+1)),jU b1 [.int .i64 m.addr,.int .i64 m.poll,.int .i64 m.parent,sv xt m.table.length,sv xl m.links.length,.slice a3 m.out.length c3,sv V.ch n.children.length,.slice a5 m.boxes.length c5,sv V.se n.seen.length,sv V.pa V.ps.length,sv V.ib n.inbox.length,.int .i64 n.seq,.int .i64 n.lost] 62,rsC b2,jD Gt,cSn (.slice a3 m.out.length c3) m.out,cMa (.slice a5 m.boxes.length c5) m.boxes]
   rw[hgs]
   exact Ent.refl
 have hke:k=n.children.length:=by have:=of_decide_eq_false h2;omega
 subst hke
 have hgm:g n.children.length=m.children:=by rw[e_ch,hg];show ((n.children.take n.children.length).filter _).foldl child []=_;rw[List.take_length]
 refine HR.ent (H':=[cI v m.children,jU b1 [.int .i64 m.addr,.int .i64 m.poll,.int .i64 m.parent,sv xt m.table.length,sv xl m.links.length,.slice a3 m.out.length c3,sv V.ch n.children.length,.slice a5 m.boxes.length c5,sv V.se n.seen.length,sv V.pa V.ps.length,sv V.ib n.inbox.length,.int .i64 n.seq,.int .i64 n.lost] 62,rsC b2,jD Gt,cSn (.slice a3 m.out.length c3) m.out,cMa (.slice a5 m.boxes.length c5) m.boxes]) (Ent.of_eq (by rw[← hgm])) ?_
 repeat' (first|refine zh ?_|intro (bk:Nat))
 refine HL.shape 0 I fun a4 c4 hv=>?_
 subst hv
 refine HL.ent (H':=[jU b1 [.int .i64 m.addr,.int .i64 m.poll,.int .i64 m.parent,sv xt m.table.length,sv xl m.links.length,.slice a3 m.out.length c3,sv V.ch n.children.length,.slice a5 m.boxes.length c5,sv V.se n.seen.length,sv V.pa V.ps.length,sv V.ib n.inbox.length,.int .i64 n.seq,.int .i64 n.lost] 62,rsC b2,jD Gt,cSn (.slice a3 m.out.length c3) m.out,cMa (.slice a5 m.boxes.length c5) m.boxes,cI (.slice a4 m.children.length c4) m.children]) (Ent.pick [1,2,3,4,5,0] I I) ?_
 repeat' (first|refine zh ?_|refine HL.Jy jAy I ?_|intro (bk:Nat))
 intro v0
 repeat' (first|refine zh ?_|intro (bk:Nat))
 refine HL.ZB 103 (v':= .int .i64 ((n.seen.length-32:Nat):Int)) I (by rw[← max0]) ?_
 repeat' (first|refine zh ?_|refine HL.KP (sz:=2) (n.seen.length-32) n.seen.length (Rd.arg h.se) I I I I (.inr ⟨_,_,_,rfl,rfl,rfl⟩) (.inl ⟨rfl,rfl⟩) (Nat.sub_le _ _) (Nat.le_refl _) ?_|intro (bk:Nat))
 refine HL.zD 0 I jAy (Rd.arg s_se) I I I (jC Zf _) (jT jLr _) (by omega) (by omega) ?_
 intro v1
 refine HL.ent (H':=cPr v1 m.seen::[jU b1 [.int .i64 m.addr,.int .i64 m.poll,.int .i64 m.parent,sv xt m.table.length,sv xl m.links.length,.slice a3 m.out.length c3,.slice a4 m.children.length c4,.slice a5 m.boxes.length c5,sv V.se n.seen.length,sv V.pa V.ps.length,sv V.ib n.inbox.length,.int .i64 n.seq,.int .i64 n.lost] 62,rsC b2,jD Gt,cSn (.slice a3 m.out.length c3) m.out,cMa (.slice a5 m.boxes.length c5) m.boxes,cI (.slice a4 m.children.length c4) m.children]) (Ent.JM (Nat.zero_add _) (List.nil_append _)) ?_
 refine HL.shape 0 I fun a6 c6 hv=>?_
 subst hv
 refine HL.ent (H':=[jU b1 [.int .i64 m.addr,.int .i64 m.poll,.int .i64 m.parent,sv xt m.table.length,sv xl m.links.length,.slice a3 m.out.length c3,.slice a4 m.children.length c4,.slice a5 m.boxes.length c5,sv V.se n.seen.length,sv V.pa V.ps.length,sv V.ib n.inbox.length,.int .i64 n.seq,.int .i64 n.lost] 62,rsC b2,jD Gt,cSn (.slice a3 m.out.length c3) m.out,cMa (.slice a5 m.boxes.length c5) m.boxes,cI (.slice a4 m.children.length c4) m.children,cPr (.slice a6 m.seen.length c6) m.seen]) (Ent.pick [1,2,3,4,5,6,0] I I) ?_
 repeat' (first|refine zh ?_|refine HL.Jy jAK I ?_|intro (bk:Nat))
 intro v0
 repeat' (first|refine zh ?_|intro (bk:Nat))
 refine HL.ZB 113 (v':= .int .i64 ((min n.inbox.length 256:Nat):Int)) I (by rw[← jKD];rfl) ?_
 repeat' (first|refine zh ?_|refine HL.KP (sz:=2) 0 (min n.inbox.length 256) (Rd.arg h.ib) I I I I (.inl ⟨rfl,rfl⟩) (.inr ⟨_,_,_,rfl,rfl,rfl⟩) (Nat.zero_le _) (Nat.min_le_left _ _) ?_|intro (bk:Nat))
 refine HL.zD 0 I jAK (Rd.arg s_ib) I I I (jC jAS _) (jT jNH _) (by omega) (by omega) ?_
 intro v1
 refine HL.ent (H':=cDe v1 m.inbox::[jU b1 [.int .i64 m.addr,.int .i64 m.poll,.int .i64 m.parent,sv xt m.table.length,sv xl m.links.length,.slice a3 m.out.length c3,.slice a4 m.children.length c4,.slice a5 m.boxes.length c5,.slice a6 m.seen.length c6,sv V.pa V.ps.length,sv V.ib n.inbox.length,.int .i64 n.seq,.int .i64 n.lost] 62,rsC b2,jD Gt,cSn (.slice a3 m.out.length c3) m.out,cMa (.slice a5 m.boxes.length c5) m.boxes,cI (.slice a4 m.children.length c4) m.children,cPr (.slice a6 m.seen.length c6) m.seen]) (Ent.JM (Nat.zero_add _) (List.nil_append _)) ?_
 refine HL.shape 0 I fun a7 c7 hv=>?_
 subst hv
 refine HL.ent (H':=[jU b1 [.int .i64 m.addr,.int .i64 m.poll,.int .i64 m.parent,sv xt m.table.length,sv xl m.links.length,.slice a3 m.out.length c3,.slice a4 m.children.length c4,.slice a5 m.boxes.length c5,.slice a6 m.seen.length c6,sv V.pa V.ps.length,sv V.ib n.inbox.length,.int .i64 n.seq,.int .i64 n.lost] 62,rsC b2,jD Gt,cSn (.slice a3 m.out.length c3) m.out,cMa (.slice a5 m.boxes.length c5) m.boxes,cI (.slice a4 m.children.length c4) m.children,cPr (.slice a6 m.seen.length c6) m.seen,cDe (.slice a7 m.inbox.length c7) m.inbox]) (Ent.pick [1,2,3,4,5,6,7,0] I I) ?_
 repeat' (first|refine zh ?_|apply zb ?_ ?_|exact zc|(refine zi fun hb=>?_;try simp at hb)|intro (bk:Nat))
 refine HR.join (ι:=Unit) (fun _=>True) (fun _=>[(1,ptr b1),(2,ptr b2)]) (fun _=>[jU b1 [.int .i64 m.addr,.int .i64 m.poll,.int .i64 m.parent,sv xt m.table.length,sv xl m.links.length,.slice a3 m.out.length c3,.slice a4 m.children.length c4,.slice a5 m.boxes.length c5,.slice a6 m.seen.length c6,sv V.pa V.ps.length,.slice a7 m.inbox.length c7,.int .i64 m.seq,.int .i64 n.lost] 62,rsC b2,jD Gt,cSn (.slice a3 m.out.length c3) m.out,cMa (.slice a5 m.boxes.length c5) m.boxes,cI (.slice a4 m.children.length c4) m.children,cPr (.slice a6 m.seen.length c6) m.seen,cDe (.slice a7 m.inbox.length c7) m.inbox]) (fun _ _=>?_) (fun hj=>?_)
 rotate_left
 ·refine HR.cond I (fun h2=>?_) (fun h2=>?_)
  ·have h2:(decide (n.seq<0)||decide (n.seq>65535))=true:=h2
   have h3:n.seq<0∨n.seq>65535:=by simpa using h2
   refine HR.region ?_
   repeat' (first|refine zn ?_|apply zb ?_ ?_|exact zc|(refine zi fun hb=>?_;try simp at hb)|intro (bk:Nat))
   refine hj () _ _ trivial ⟨I,I,trivial⟩ (Ent.of_eq ?_)
   rw[e_sq,if_pos h3];rfl
  ·have h2:(decide (n.seq<0)||decide (n.seq>65535))=false:=h2
   have h3:¬(n.seq<0∨n.seq>65535):=by simpa using h2
   refine HR.skip ?_
   refine hj () _ _ trivial ⟨I,I,trivial⟩ (Ent.of_eq ?_)
   rw[e_sq,if_neg h3];rfl
 repeat' (first|refine zh ?_|refine HL.jN jSi I I (fun w _=>jDK n.lost 0 1099511627776 (by decide) w) ?_|intro (bk:Nat))
 refine HR.ret Tryz.func70 I [_] (fun w hw=>⟨⟨_,rfl,jP hw 1 I I I I rfl⟩,trivial⟩) ?_
 refine fun w' hw=>⟨(⟨xt,xl,(a3,c3),(a4,c4),(a5,c5),(a6,c6),V.pa,(a7,c7),V.ps⟩,Gt),?_,⟨rfl,rfl,ht,hli⟩,hw.pick [2,3,4,5,6,7] I rfl⟩
 show _=Ending.returned (.agg ⟨ndC ⟨xt,xl,(a3,c3),(a4,c4),(a5,c5),(a6,c6),V.pa,(a7,c7),V.ps⟩ m⟩)
 rw[show ndC ⟨xt,xl,(a3,c3),(a4,c4),(a5,c5),(a6,c6),V.pa,(a7,c7),V.ps⟩ m=ndC ⟨xt,xl,(a3,c3),(a4,c4),(a5,c5),(a6,c6),V.pa,(a7,c7),V.ps⟩ { m with lost:=clamp n.lost 0 1099511627776 } from by rw[← e_lo]]
 rfl
end Go.Proofs.YtgfdoognildoeaaGreat
namespace Go.Proofs.YtgfdoognildoeaaGreat
open Go.GX Go.RowKit
attribute [local irreducible] Calls Run jg jh JU HR HL HD jU jK Jc Rd jL jd
open Nd
theorem fn37:IsFn Tryz.prog 37:=⟨⟨_,_,Tryz.func37,rfl,by decide⟩⟩
theorem fn60:IsFn Tryz.prog 60:=⟨⟨_,_,Tryz.func60,rfl,by decide⟩⟩
abbrev Imp (V0:NV) (n0:Nd) (V:NV) (G:List Chunk) (n:Nd):Prop:=∀w2,OkN w2 V0 n0→(jD G).p w2→OkN w2 V n
theorem ROk.okn {V V':NV} {n m:Nd} {Gt:List Chunk} (hr:ROk V n V' Gt m) (hp:m.parts=n.parts):Imp V n V' (roH V' Gt m) m:=by
 intro w2 h2 hg
 refine ⟨hr.ta w2 h2.ta (jS hg (List.mem_cons_self ..)),hr.li w2 h2.li,Jv (jS hg (c:=cSn (sv V'.ou m.out.length) m.out) (by simp)),Jv (jS hg (c:=cI (sv V'.ch m.children.length) m.children) (by simp)),Jv (jS hg (c:=cMa (sv V'.bo m.boxes.length) m.boxes) (by simp)),Jv (jS hg (c:=cPr (sv V'.se m.seen.length) m.seen) (by simp)),?_,Jv (jS hg (c:=cDe (sv V'.ib m.inbox.length) m.inbox) (by simp)),?_⟩
 ·rw [hr.pa,hr.ps];exact h2.pa
 ·rw [hr.ps,hp];exact h2.eq
theorem jJp (addr poll:Int) (w:World):
  Calls Tryz.prog 37 #[.int .i64 addr,.int .i64 poll] w fun e w'=>∃x:NV×List Chunk,e= .returned (.agg ⟨ndC x.1 (new addr poll)⟩)∧Imp V0 (n0 addr poll) x.1 x.2 (new addr poll)∧Sat (base w) [jD x.2] w':=by
 refine jB Tryz.func37 I (Nat.le_of_ble_eq_true I) ?_
 refine HR.sub (σ':=[(0,.int .i64 addr),(1,.int .i64 poll)]) ⟨I,I,trivial⟩ ?_
 repeat' (first|refine zh ?_|intro (bk:Nat))
 refine HL.JD (r:=fun x:NV×List Chunk=> .agg ⟨ndC x.1 (new addr poll)⟩) (Q:=fun x=>ROk V0 (n0 addr poll) x.1 x.2 (new addr poll)) (G:=fun x=>roH x.1 x.2 (new addr poll)) fn70 I I (fun w1 _=>jBA V0 (n0 addr poll) w1 (okn0 addr poll w1) (smn0 addr poll)) ?_
 rintro ⟨V2,Gt⟩ hR
 have hR:ROk V0 (n0 addr poll) V2 Gt (new addr poll):=hR
 refine HL.ent (Ent.pick [6,0,1,2,3,4,5] I I) ?_
 repeat' (first|refine zh ?_|intro (bk:Nat))
 refine HR.ret Tryz.func37 I [_] (fun w hw=>⟨⟨_,rfl,jP hw 0 I I I I rfl⟩,trivial⟩) ?_
 refine fun w' hw=>⟨(V2,roH V2 Gt (new addr poll)),rfl,hR.okn rfl,?_⟩
 exact Ent.trans (Ent.pick [1,2,3,4,5,6] I I) (Ent.group (G:=roH V2 Gt (new addr poll)) (H:=[])) w' hw
theorem jGi (V:NV) (n:Nd) (w:World) (h:OkN w V n) (hs:SmN n):
  Calls Tryz.prog 60 #[.agg ⟨ndC V n⟩] w fun e w'=>∃x:(NV×SV)×List Chunk,e= .returned (.tuple ⟨[.agg ⟨ndC x.1.1 (take n).1⟩,sv x.1.2 (take n).2.length]⟩)∧(Imp V n x.1.1 x.2 (take n).1∧∀w2,(jD x.2).p w2→Sl w2 (sv x.1.2 (take n).2.length) (cellsOf deC (take n).2) (take n).2.length)∧Sat (base w) [jD x.2] w':=by
 obtain ⟨m,hm⟩:∃m,m=order n:=⟨_,rfl⟩
 have hmp:m.parts=n.parts:=by rw[hm];rfl
 have hsp:take n=({ m with inbox:=[] },m.inbox):=by rw[hm];rfl
 rw[hsp]
 refine jB Tryz.func60 I (Nat.le_of_ble_eq_true I) ?_
 refine HR.sub (σ':=[(0,.agg ⟨ndC V n⟩)]) ⟨I,trivial⟩ ?_
 refine HR.ctl I ?_
 refine HR.region ?_
 refine HL.box I I ?_
 intro b1
 refine HL.alloc I I ?_
 intro b2
 repeat' (first|refine zh ?_|intro (bk:Nat))
 refine HL.JD (r:=fun x:NV×List Chunk=> .agg ⟨ndC x.1 m⟩) (Q:=fun x=>ROk V n x.1 x.2 m) (G:=fun x=>roH x.1 x.2 m) fn70 I I (fun w1 hw1=>by rw[hm];exact jBA V n w1 (h.ext hw1.jE) hs) ?_
 rintro ⟨V2,Gt⟩ hR
 have hR:ROk V n V2 Gt m:=hR
 refine HL.ent (Ent.pick [6,7,0,1,2,3,4,5] I I) ?_
 repeat' (first|refine zh ?_|intro (bk:Nat))
 refine HR.ret Tryz.func60 I [_,_] (fun w hw=>⟨⟨_,rfl,jP hw 0 I I I I rfl⟩,rfl,trivial⟩) ?_
 refine fun w' hw=>⟨(({ V2 with ib:=(none,0) },V2.ib),roH V2 Gt m),rfl,⟨fun w2 h2 hg=>?_,fun w2 hg=>Jv (jS hg (c:=cDe (sv V2.ib m.inbox.length) m.inbox) (by simp))⟩,?_⟩
 ·have ho:=hR.okn hmp w2 h2 hg
  exact ⟨ho.ta,ho.li,ho.ou,ho.ch,ho.bo,ho.se,ho.pa,Sl.nil w2,ho.eq⟩
 ·exact Ent.trans (Ent.pick [2,3,4,5,6,7] I I) (Ent.group (G:=roH V2 Gt m) (H:=[])) w' hw
end Go.Proofs.YtgfdoognildoeaaGreat
namespace Go.Proofs.YtgfdoognildoeaaGreat
open Go.GX Go.RowKit
attribute [local irreducible] Calls Run jg jh JU HR HL HD jU jK Jc Rd jL jd
open Nd
theorem fn56:IsFn Tryz.prog 56:=⟨⟨_,_,Tryz.func56,rfl,by decide⟩⟩
theorem ROk.set {V V' V'':NV} {n m m':Nd} {Gt:List Chunk} (hR:ROk V n V' Gt m) (h1:V''.pa=V'.pa) (h2:V''.ps=V'.ps) (h3:V''.ta=V'.ta) (h4:V''.li=V'.li) (h5:m'.table=m.table) (h6:m'.links=m.links):ROk V n V'' Gt m':=
 ⟨h1.trans hR.pa,h2.trans hR.ps,by rw[h3,h5];exact hR.ta,by rw[h4,h6];exact hR.li⟩
theorem jEL (w:World):OkN w V0 nd0:=⟨Sl.nil w,Sl.nil w,Sl.nil w,Sl.nil w,Sl.nil w,Sl.nil w,⟨Sl.nil w,fun p hp=>by cases hp⟩,Sl.nil w,rfl⟩
theorem jDq (n:Nd) (d:De):∃i l,deliver n d={ n with inbox:=i,lost:=l }:=by
 by_cases h:n.inbox.length≥256
 ·exact ⟨n.inbox,min (n.lost+1) JY,by unfold deliver lose;rw[if_pos h]⟩
 ·exact ⟨n.inbox++[d],n.lost,by unfold deliver;rw[if_neg h]⟩
theorem jB8 {B:Base} {H:List Chunk} {w:World} (h:Sat B H w):Sat B [jD []] w:=Ent.jKt w (h.pick [] I I)
theorem jLS (V:NV) (n:Nd) (target:Int) (ur:Bool) (text:By) (w:World) (h:OkN w V n) (hs:SmN n) (htx:text.length≤9223372036854775807):
  Calls Tryz.prog 56 #[.agg ⟨ndC V n⟩,.int .i64 target,.bool ur,str text] w fun e w'=>∃x:NV×List Chunk,e= .returned (.tuple ⟨[.agg ⟨ndC x.1 (send n target ur text).1⟩,.int .i64 (send n target ur text).2]⟩)∧Imp V n x.1 x.2 (send n target ur text).1∧Sat (base w) [jD x.2] w':=by
 obtain ⟨m,hm⟩:∃m,m=order n:=⟨_,rfl⟩
 have hmp:m.parts=n.parts:=by rw[hm];rfl
 have ho:Ord m:=by rw[hm];exact Ji n
 have h16:=ho.out
 have h256:=ho.inbox
 obtain ⟨hsq0,hsq1⟩:=ho.seq
 obtain ⟨r,hr⟩:∃r,r=ze text (m.seq%256):=⟨_,rfl⟩
 have hsp:send n target ur text=if Tp.okN target=false then (nd0,2)else if r.2≠0 then (nd0,r.2)else if target=m.addr then (deliver m ⟨m.addr,text⟩,0)else match sends target ur r.1 m with
  |some m=>(m,0)
  |none=>(nd0,13):=by rw[hr,hm];rfl
 rw[hsp]
 refine jB Tryz.func56 I (Nat.le_of_ble_eq_true I) ?_
 refine HR.sub (σ':=[(0,.agg ⟨ndC V n⟩),(1,.int .i64 target),(2,.bool ur),(3,str text)]) ⟨I,I,I,I,trivial⟩ ?_
 refine HR.ctl I ?_
 refine HR.region ?_
 refine HL.box I I ?_
 intro b4
 refine HL.alloc I I ?_
 intro b8
 repeat' (first|refine zh ?_|intro (bk:Nat))
 refine HL.JD (r:=fun x:NV×List Chunk=> .agg ⟨ndC x.1 m⟩) (Q:=fun x=>ROk V n x.1 x.2 m) (G:=fun x=>roH x.1 x.2 m) fn70 I I (fun w1 hw1=>by rw[hm];exact jBA V n w1 (h.ext hw1.jE) hs) ?_
 rintro ⟨V2,Gt⟩ hR
 have hR:ROk V n V2 Gt m:=hR
 refine HL.ent (Ent.pick [7,6,0,1,2,3,4,5] I I) ?_
 repeat' (first|refine zh ?_|refine HL.jN jRF I I (fun w _=>jAX target w) ?_|intro (bk:Nat))
 refine HR.cond I (fun h1=>?_) (fun h1=>?_)
 ·have h1:Tp.okN target=false:=by simpa using h1
  rw[if_pos h1]
  repeat' (first|refine zh ?_|intro (bk:Nat))
  refine HR.ret Tryz.func56 I [_,_] (fun w hw=>⟨⟨_,rfl,jP hw 1 I I I I rfl⟩,rfl,trivial⟩) ?_
  exact fun w' hw=>⟨(V0,[]),rfl,fun w2 _ _=>jEL w2,jB8 hw⟩
 have h1:¬Tp.okN target=false:=by simpa using h1
 rw[if_neg h1]
 repeat' (first|refine zh ?_|intro (bk:Nat))
 refine HL.JD (r:=fun v':Value=> .tuple ⟨[v',.int .i64 r.2]⟩) (Q:=fun _=>True) (G:=fun v'=>[jK v' 9 1 r.1.length (cellsOf sC r.1)]) fn121 I I (fun w1 _=>by rw[hr];exact jFJ text (m.seq%256) w1 htx) ?_
 intro v1 _
 repeat' (first|refine zh ?_|intro (bk:Nat))
 refine HR.cond I (fun h2=>?_) (fun h2=>?_)
 ·have h2:r.2≠0:=by simpa using h2
  rw[if_pos h2]
  repeat' (first|refine zh ?_|intro (bk:Nat))
  refine HR.ret Tryz.func56 I [_,_] (fun w hw=>⟨⟨_,rfl,jP hw 2 I I I I rfl⟩,rfl,trivial⟩) ?_
  exact fun w' hw=>⟨(V0,[]),rfl,fun w2 _ _=>jEL w2,jB8 hw⟩
 have h2:¬r.2≠0:=by simpa using h2
 rw[if_neg h2]
 repeat' (first|refine zh ?_|intro (bk:Nat))
 refine HR.cond I (fun h3=>?_) (fun h3=>?_)
 ·have h3:target=m.addr:=eq_of_beq h3
  rw[if_pos h3]
  obtain ⟨d,hd⟩:∃d,d=deliver m ⟨m.addr,text⟩:=⟨_,rfl⟩
  rw[← hd]
  have hR2:∀y:SV,ROk V n { V2 with ib:=y } Gt d:=fun y=>by
   obtain ⟨i,l,e⟩:=jDq m ⟨m.addr,text⟩
   rw[hd,e];exact hR.set I I I I I I
  have hdp:d.parts=n.parts:=by rw[hd,zu,hmp]
  have hdo:d.out=m.out∧d.boxes=m.boxes∧d.children=m.children∧d.seen=m.seen:=by
   obtain ⟨i,l,e⟩:=jDq m ⟨m.addr,text⟩
   rw[hd,e];exact ⟨rfl,rfl,rfl,rfl⟩
  repeat' (first|refine zh ?_|intro (bk:Nat))
  refine HL.ent (Ent.pick [8,1,2,3,4,5,6,7] I I) ?_
  refine HL.Jo (r:=fun y:SV=> .agg ⟨ndC { V2 with ib:=y } d⟩) (Q:=fun _=>True) (G0:=[cDe (sv V2.ib m.inbox.length) m.inbox]) (H0:=[_,_,_,_,_,_,_]) (G:=fun y=>[cDe (sv y d.inbox.length) d.inbox]) fn122 I I I (fun w1 hw1=>by rw[hd];exact jFC V2 m m.addr text _ w1 (hw1.pick [0] I I) (by omega) ho.lost) ?_
  intro y _
  repeat' (first|refine zh ?_|intro (bk:Nat))
  refine HR.ret Tryz.func56 I [_,_] (fun w hw=>⟨⟨_,rfl,jP hw 2 I I I I rfl⟩,rfl,trivial⟩) ?_
  refine fun w' hw=>⟨({ V2 with ib:=y },roH { V2 with ib:=y } Gt d),rfl,(hR2 y).okn hdp,?_⟩
  refine Ent.trans ?_ (Ent.group (G:=roH { V2 with ib:=y } Gt d) (H:=[])) w' hw
  show Ent _ _ [jD Gt,cSn (sv V2.ou d.out.length) d.out,cMa (sv V2.bo d.boxes.length) d.boxes,cI (sv V2.ch d.children.length) d.children,cPr (sv V2.se d.seen.length) d.seen,cDe (sv y d.inbox.length) d.inbox]
  rw[hdo.1,hdo.2.1,hdo.2.2.1,hdo.2.2.2]
  exact Ent.pick [3,4,5,6,7,0] I I
 have h3:¬target=m.addr:=by simpa using h3
 rw[if_neg h3]
 obtain ⟨l,hl⟩:∃l,l=r.1:=⟨_,rfl⟩
 have hll:l.length≤1000:=by rw[hl,hr];exact jCH _ _
 rw[← hl]
 repeat' (first|refine zh ?_|intro (bk:Nat))
 refine HR.ent (H':=[cSn (sv V2.ou m.out.length) m.out,jU b4 (ndC V2 m) 62,rsC b8,jK v1 9 1 l.length (cellsOf sC l),jD Gt,cMa (sv V2.bo m.boxes.length) m.boxes,cI (sv V2.ch m.children.length) m.children,cPr (sv V2.se m.seen.length) m.seen,cDe (sv V2.ib m.inbox.length) m.inbox]) (Ent.pick [4,1,2,0,3,5,6,7,8] I I) ?_
 refine HR.loop (ι:=Nat×Nd×SV) (fun x=>x.1≤l.length∧Ord x.2.1∧(∃ q s lo,x.2.1={ m with out:=q,seq:=s,lost:=lo })∧sends target ur l m=sends target ur (l.drop x.1) x.2.1) (fun x=>[(1,.int .i64 target),(2,.bool ur),(4,ptr b4),(8,ptr b8),(10,v1),(12,.int .i64 (x.1:Int))]) (fun x=>[cSn (sv x.2.2 x.2.1.out.length) x.2.1.out,jU b4 (ndC { V2 with ou:=x.2.2 } x.2.1) 62,rsC b8,jK v1 9 1 l.length (cellsOf sC l),jD Gt,cMa (sv V2.bo m.boxes.length) m.boxes,cI (sv V2.ch m.children.length) m.children,cPr (sv V2.se m.seen.length) m.seen,cDe (sv V2.ib m.inbox.length) m.inbox]) (fun x=>l.length-x.1) (0,m,V2.ou) ⟨Nat.zero_le _,ho,⟨m.out,m.seq,m.lost,rfl⟩,rfl⟩ ⟨I,I,I,I,I,I,trivial⟩ Ent.refl ?_
 rintro ⟨k,p,y⟩ ⟨hk,hop,hpm,hss⟩ ih
 have hk:k≤l.length:=hk
 have hop:Ord p:=hop
 have hss:sends target ur l m=sends target ur (l.drop k) p:=hss
 obtain ⟨q0,s0,l0,hpm⟩:=hpm
 have hpe:p={ m with out:=q0,seq:=s0,lost:=l0 }:=hpm
 have hps:=hop.seq
 obtain ⟨hps0,hps1⟩:=hps
 have hp16:=hop.out
 repeat' (first|refine zh ?_|refine HL.j4 (Rd.own 3 I) I I I ?_|intro (bk:Nat))
 refine HR.cond I (fun h4=>?_) (fun h4=>?_)
 ·have hlt:k<l.length:=by have:=of_decide_eq_true h4;omega
  obtain ⟨x,hx⟩:=jH hlt
  have hdr:l.drop k=x::l.drop (k+1):=by
   obtain ⟨hlt',e⟩:=List.getElem?_eq_some_iff.1 hx
   rw[← e];exact List.drop_eq_getElem_cons hlt'
  repeat' (first|refine zh ?_|intro (bk:Nat))
  refine HR.j3 [(0,true),(1,true),(2,true),(3,true),(4,true),(5,true),(6,true),(7,true),(8,true),(9,true),(10,true),(11,true),(12,true),(13,false),(14,false)] [1,3] I I JZ (by kernel_rfl) ?_
  repeat' (first|refine zd ?_|refine HD.jw (Rd.own 1 I) Zr k I I I I I hlt ?_|refine HD.jY (Rd.own 1 I) I I I I I (jV hx) ?_)
  refine HD.one I ?_
  refine HL.alloc I I ?_
  intro bf
  refine HL.back [2,4] I I ?_
  refine HD.one I ?_
  refine HL.S 0 I I I I I ?_
  refine HL.back [2,4] I I ?_
  refine HD.nil ?_
  repeat' (first|refine zh ?_|intro (bk:Nat))
  refine HL.JD (r:=fun z:SV=> .tuple ⟨[.agg ⟨ndC { V2 with ou:=z } (queue p (kL p target ur x)).1⟩,.bool (queue p (kL p target ur x)).2]⟩) (Q:=fun _=>True) (G:=fun z=>[cSn (sv z (queue p (kL p target ur x)).1.out.length) (queue p (kL p target ur x)).1.out]) fn103 I I (fun w1 hw1=>jNp { V2 with ou:=y } p (kL p target ur x) w1 ((Rd.own 1 rfl).at hw1) (by omega) hop.lost) ?_
  intro z _
  obtain ⟨Q,hQ⟩:∃Q,Q=queue p (kL p target ur x):=⟨_,rfl⟩
  have hQo:Ord Q.1:=by rw[hQ];exact hop.queue _
  have hQs:Q.1.seq=p.seq:=by rw[hQ];exact jFM _ _
  have hQi:∃q s lo,({ Q.1 with seq:=(p.seq+1)%65536 }:Nd)={ m with out:=q,seq:=s,lost:=lo }:=by
   obtain ⟨q,lo,e⟩:=jBq p (kL p target ur x)
   exact ⟨q,(p.seq+1)%65536,lo,by rw[hQ,e,hpe]⟩
  have hst:sends target ur (x::l.drop (k+1)) p=if Q.2 then sends target ur (l.drop (k+1)) { Q.1 with seq:=(p.seq+1)%65536 } else none:=by rw[hQ];rfl
  rw[hdr,hst]at hss
  rw[← hQ]
  have hq0:=hQo.seq.1
  have hq1:=hQo.seq.2
  repeat' (first|refine zh ?_|intro (bk:Nat))
  refine HR.cond I (fun h5=>?_) (fun h5=>?_)
  ·have h5:Q.2=false:=by simpa using h5
   rw[hss,h5]
   repeat' (first|refine zh ?_|intro (bk:Nat))
   refine HR.ret Tryz.func56 I [_,_] (fun w hw=>⟨⟨_,rfl,jP hw 5 I I I I rfl⟩,rfl,trivial⟩) ?_
   exact fun w' hw=>⟨(V0,[]),rfl,fun w2 _ _=>jEL w2,jB8 hw⟩
  ·have h5:Q.2=true:=by simpa using h5
   rw[h5,if_pos rfl]at hss
   repeat' (first|refine zh ?_|intro (bk:Nat))
   refine ih (k+1,{ Q.1 with seq:=(p.seq+1)%65536 },z) _ _ ⟨hlt,jNW hQo ⟨by omega,by omega⟩,hQi,hss⟩ (by show l.length-(k+1)<l.length-k;omega) ⟨I,I,I,I,I,I,trivial⟩ ?_
   rw[← hQs]
   exact Ent.pick [1,4,5,6,7,8,9,10,11] I I
 have hke:k=l.length:=by have:=of_decide_eq_false h4;omega
 subst hke
 have hss:sends target ur l m=some p:=by rw[hss,List.drop_length];rfl
 rw[hss]
 have hR2:ROk V n { V2 with ou:=y } Gt p:=by rw[hpe];exact hR.set I I I I I I
 have hpp:p.parts=n.parts:=by rw[hpe];exact hmp
 repeat' (first|refine zh ?_|intro (bk:Nat))
 refine HR.ret Tryz.func56 I [_,_] (fun w hw=>⟨⟨_,rfl,jP hw 2 I I I I rfl⟩,rfl,trivial⟩) ?_
 refine fun w' hw=>⟨({ V2 with ou:=y },roH { V2 with ou:=y } Gt p),rfl,hR2.okn hpp,?_⟩
 refine Ent.trans ?_ (Ent.group (G:=roH { V2 with ou:=y } Gt p) (H:=[])) w' hw
 show Ent _ _ [jD Gt,cSn (sv y p.out.length) p.out,cMa (sv V2.bo p.boxes.length) p.boxes,cI (sv V2.ch p.children.length) p.children,cPr (sv V2.se p.seen.length) p.seen,cDe (sv V2.ib p.inbox.length) p.inbox]
 have e1:p.boxes=m.boxes:=by rw[hpe]
 have e2:p.children=m.children:=by rw[hpe]
 have e3:p.seen=m.seen:=by rw[hpe]
 have e4:p.inbox=m.inbox:=by rw[hpe]
 rw[e1,e2,e3,e4]
 exact Ent.pick [4,0,5,6,7,8] I I
end Go.Proofs.YtgfdoognildoeaaGreat
