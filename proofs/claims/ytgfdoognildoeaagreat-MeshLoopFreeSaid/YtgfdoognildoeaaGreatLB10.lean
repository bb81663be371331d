/- A part of the proof: contracts of the program's functions. Conditions: none. -/
import Derived.Carry
import Derived.Deep.MidRow
import Derived.Deep.Quiet
import Derived.Laws.IdiomRangeMap
import Derived.Laws.MakeOwn
import Derived.Laws.StructEq
import Derived.Laws.Tables
import Derived.Lib.AppendStr
import Derived.Lib.AppendZerosOnto
import Derived.Lib.OthersKept
import Derived.Lib.Overlaps
import Derived.Lib.OwnBridge
import Derived.Lib.SlicesCompact
import Derived.MapKept
import Derived.Orders
import Derived.OrdersHeld
import Derived.Scope
import Derived.Sort.Grow
import Derived.StillTail
import Derived.Test.YtgfdoognildoeaaGreatProg
import Derived.Test.YtgfdoognildoeaaGreatShelf
import Derived.WalkKit
import Derived.WalkLawsBesides
import Derived.WalkSpells
import Derived.Test.YtgfdoognildoeaaGreatLB1
import Derived.Test.YtgfdoognildoeaaGreatLB2
import Derived.Test.YtgfdoognildoeaaGreatLB3
import Derived.Test.YtgfdoognildoeaaGreatLB4
import Derived.Test.YtgfdoognildoeaaGreatLB5
import Derived.Test.YtgfdoognildoeaaGreatLB6
import Derived.Test.YtgfdoognildoeaaGreatLB7
import Derived.Test.YtgfdoognildoeaaGreatLB8
import Derived.Test.YtgfdoognildoeaaGreatLB9
set_option linter.unusedVariables false
set_option linter.unusedSectionVars false
set_option linter.unusedSimpArgs false
set_option maxRecDepth 100000
set_option maxHeartbeats 4000000
namespace Go.Proofs.YtgfdoognildoeaaGreat
open Go.GX Go.RowKit
attribute [local irreducible] Calls Run jZ jf JK HR HL HD jT jG JY Rd jK jY
open Nd
theorem fn93:IsFn Tryz.prog 93:=⟨⟨_,_,Tryz.func93,rfl,by decide⟩⟩
theorem fn44:IsFn Tryz.prog 44:=⟨⟨_,_,Tryz.func44,rfl,by decide⟩⟩
theorem fn89:IsFn Tryz.prog 89:=⟨⟨_,_,Tryz.func89,rfl,by decide⟩⟩
theorem jE4 {l:List Li} (h:jCA l=0):l.length≤24:=by
 unfold jCA at h
 split at h
 ·cases h
 ·omega
theorem llen {n:Nd} (h:Ord n):n.links.length≤24:=jE4 h.links
theorem klen {n:Nd} (h:Ord n):n.children.length≤251:=jMb h.kids fun x hx=>(h.kid x hx).1
abbrev tiC (bt:Nat) (to:Int):Chunk:=jT bt [.int .i64 to] 3
theorem jFt (b:Nat) (V:NV) (n:Nd) (now to:Int) (B:Base) (w:World) (hw:Sat B (stH b V n now) w) (ho:Ord n):
  Calls Tryz.prog 93 #[ptr b,.int .i64 to] w fun e w'=>∃x:SV×SV×SV,e= .returned (.tuple ⟨[]⟩)∧True∧Sat ⟨w,Zn (stH b V n now)⟩ (stH b { V with ta:=x.1,li:=x.2.1,ch:=x.2.2 } (giveUp n to) now) w':=by
 have h24:=jMk ho
 have l24:=llen ho
 have k251:=klen ho
 have hsp:giveUp n to=if Tp.okN to=false then lose n else { lose n with table:=jH6 n.table n.addr to,links:=kW n.links to,children:=n.children.filter fun c=>!(c==to),parent:=if n.parent=to then 255 else n.parent }:=rfl
 rw[hsp]
 refine jg (stH b V n now) (hw) Tryz.func93 I (Nat.le_of_ble_eq_true I) ?_
 refine HR.sub (σ':=[(0,ptr b),(1,.int .i64 to)]) ⟨I,I,trivial⟩ ?_
 refine HR.ctl I ?_
 refine HR.region ?_
 refine HL.box I I ?_
 intro bt
 repeat' (first|refine zh ?_|intro (bk:Nat))
 refine HL.ent (H':=jCV b V n now::tiC bt to::ndH V n) (Ent.pick [1,0,2,3,4,5,6,7,8,9,10] I I) ?_
 refine HL.Jh (r:=fun _:Unit=> .tuple ⟨[]⟩) (Q:=fun _=>True) (G0:=[jCV b V n now]) (H0:=tiC bt to::ndH V n) (G:=fun _=>[jCV b V (lose n) now]) jJo I I I (fun w1 hw1=>Z0 b V n now _ w1 (hw1.pick [0] I I) ho.lost) ?_
 intro _ _
 repeat' (first|refine zh ?_|refine HL.jR jRd I I (fun w _=>Z9 to w) ?_|intro (bk:Nat))
 refine HR.cond I (fun h1=>?_) (fun h1=>?_)
 ·have h1:Tp.okN to=false:=by simpa using h1
  rw[if_pos h1]
  repeat' (first|refine zh ?_|intro (bk:Nat))
  refine HR.ret Tryz.func93 I [] (fun _ _=>trivial) ?_
  exact fun w' hw=>⟨(V.ta,V.li,V.ch),rfl,trivial,hw.pick [0,2,3,4,5,6,7,8,9,10] I rfl⟩
 have h1:¬Tp.okN to=false:=by simpa using h1
 rw[if_neg h1]
 repeat' (first|refine zh ?_|intro (bk:Nat))
 refine HR.Jf [(0,true),(1,true),(2,true),(3,true),(4,true),(5,true),(6,true),(7,true),(8,true),(9,true),(10,true),(11,true),(12,false),(13,true),(14,true),(15,true)] 16 [0,1] I I Jc (by kernel_rfl) ?_
 repeat' (first|refine zd ?_|fail)
 refine HD.one I ?_
 refine HL.JQ fn62 I I (fun w1 hw1=>jHE n.table n.addr to _ w1 ((Rd.own 2 rfl).at hw1) (by omega)) ?_
 intro v1
 refine HL.shape 0 I fun a1 c1 hv=>?_
 subst hv
 refine HL.back [1,2] I I ?_
 repeat' (first|refine zd ?_|fail)
 refine HD.last I ?_
 repeat' (first|refine zn ?_|intro (bk:Nat))
 refine HR.ent (Ent.pick [1,2,0,4,5,6,7,8,9,10,11] I I) ?_
 repeat' (first|refine zh ?_|intro (bk:Nat))
 refine HR.Jf [(0,true),(1,true),(2,true),(3,true),(4,true),(5,true),(6,true),(7,false),(8,true),(9,true),(10,true)] 11 [0,1] I I Jc (by kernel_rfl) ?_
 repeat' (first|refine zd ?_|fail)
 refine HD.one I ?_
 refine HL.JQ fn170 I I (fun w1 hw1=>jGZ n.links to _ w1 ((Rd.own 3 rfl).at hw1) (by omega)) ?_
 intro v2
 refine HL.shape 0 I fun a2 c2 hv=>?_
 subst hv
 refine HL.back [1,2] I I ?_
 repeat' (first|refine zd ?_|fail)
 refine HD.last I ?_
 repeat' (first|refine zn ?_|intro (bk:Nat))
 refine HR.ent (Ent.pick [6,2,1,3,0,5,7,8,9,10,11] I I) ?_
 repeat' (first|refine zh ?_|refine HL.mkF (g:=172) (caps:=[_]) I I ?_|intro (bk:Nat))
 refine HL.Jh (r:=fun z:Value=>z) (Q:=fun _=>True) (G0:=[cI (sv V.ch n.children.length) n.children,tiC bt to]) (H0:=[_,_,_,_,_,_,_,_,_]) (G:=fun z=>[jG z 3 1 (n.children.filter fun c=>!(c==to)).length (cellsOf iC (n.children.filter fun c=>!(c==to))),tiC bt to]) fn171 I I I (fun w1 hw1=>jMQ n.children to bt _ _ w1 (hw1.pick [0,1] I I) (by omega)) ?_
 intro z _
 refine HL.shape 0 I fun a3 c3 hv=>?_
 subst hv
 repeat' (first|refine zh ?_|intro (bk:Nat))
 refine HR.ent (Ent.pick [2,1,3,4,5,0,6,7,8,9,10] I I) ?_
 refine HR.JF Jc (by kernel_rfl) ?_
 repeat' (first|refine zq ?_|apply zb ?_ ?_|exact zc|(refine zi fun hb=>?_;try simp at hb))
 refine HR.cond I (fun h2=>?_) (fun h2=>?_)
 ·have h2:n.parent=to:=eq_of_beq h2
  rw[if_pos h2]
  repeat' (first|refine zh ?_|intro (bk:Nat))
  refine HR.fin Tryz.func93 I [] (fun _ _=>trivial) ?_
  exact fun w' hw=>⟨((a1,c1),(a2,c2),(a3,c3)),rfl,trivial,hw.pick [0,2,3,4,5,6,7,8,9,10] I rfl⟩
 ·have h2:(n.parent==to)=false:=h2
  have h2:¬n.parent=to:=by simpa using h2
  rw[if_neg h2]
  repeat' (first|refine zh ?_|intro (bk:Nat))
  refine HR.fin Tryz.func93 I [] (fun _ _=>trivial) ?_
  exact fun w' hw=>⟨((a1,c1),(a2,c2),(a3,c3)),rfl,trivial,hw.pick [0,2,3,4,5,6,7,8,9,10] I rfl⟩
theorem jF2 (bf:Nat) (f:Fr) (x:Sn) (w:World) (hcap:Sl w (.slice (some ⟨bf,0,none⟩) 9 9) (frC f) 9):Calls Tryz.prog 89 #[.agg ⟨snC x⟩,.pointer (some ⟨bf,0,none⟩)] w fun e w'=>e= .returned (.bool (hits f x))∧Below w.heap.size w w':=by
 refine jD Tryz.func89 I (Nat.le_of_ble_eq_true I) ?_
 refine HR.sub (σ':=[(0,.agg ⟨snC x⟩),(1,.pointer (some ⟨bf,0,none⟩))]) ⟨I,I,trivial⟩ ?_
 repeat' (first|refine zh ?_|refine HL.ji (j:=0) (Rd.arg hcap) I I I I I ?_|refine HL.ji (j:=3) (Rd.arg hcap) I I I I I ?_|refine HL.ji (j:=5) (Rd.arg hcap) I I I I I ?_|apply zb ?_ ?_|exact zc|(refine zi fun hb=>?_;try simp at hb)|intro (bk:Nat))
 refine HR.ret Tryz.func89 I [_] (fun _ _=>⟨I,trivial⟩) ?_
 exact fun w' hw=>⟨rfl,hw.jE⟩
theorem jBK (n:Nd) (to:Int):(giveUp n to).parts=n.parts:=by
 by_cases h:Tp.okN to=false
 ·unfold giveUp;rw[if_pos h];rfl
 ·unfold giveUp;rw[if_neg h];rfl
theorem jFo (V:NV) (n:Nd) (f:Fr) (ok:Bool) (w:World) (h:OkN w V n) (hs:SmN n):
  Calls Tryz.prog 44 #[.agg ⟨ndC V n⟩,.agg ⟨frC f⟩,.bool ok] w fun e w'=>∃V':NV,e= .returned (.agg ⟨ndC V' (result n f ok)⟩)∧Pts V' (result n f ok)∧Sat (base w) (ndH V' (result n f ok)) w':=by
 obtain ⟨m,hm⟩:∃m,m=order n:=⟨_,rfl⟩
 have ho:Ord m:=by rw[hm];exact Ja n
 have h16:=ho.out
 have hsp:result n f ok=match m.out.findIdx? (hits f)with
  |none=>m
  |some i=>if (kU m.out i ok).2 then giveUp (if Tp.okN f.dst then { m with out:=(kU m.out i ok).1,links:=ZE m.links f.dst ok } else { m with out:=(kU m.out i ok).1 }) f.dst else (if Tp.okN f.dst then { m with out:=(kU m.out i ok).1,links:=ZE m.links f.dst ok } else { m with out:=(kU m.out i ok).1 }):=by rw[hm];rfl
 obtain ⟨Z,hZ⟩:∃Z,Z=result n f ok:=⟨_,rfl⟩
 rw[← hZ]
 rw[hsp]at hZ
 refine jD Tryz.func44 I (Nat.le_of_ble_eq_true I) ?_
 refine HR.sub (σ':=[(0,.agg ⟨ndC V n⟩),(1,.agg ⟨frC f⟩),(2,.bool ok)]) ⟨I,I,I,trivial⟩ ?_
 refine HR.ctl I ?_
 refine HR.region ?_
 refine HL.box I I ?_
 intro bn
 refine HL.box I I ?_
 intro bf
 repeat' (first|refine zh ?_|intro (bk:Nat))
 refine HL.JC (r:=fun x:Nat×NV=>ptr x.1) (Q:=fun x=>Pts x.2 m) (G:=fun x=>stH x.1 x.2 m (tick 0)) jPS I I (fun w1 hw1=>by rw[hm];exact ZF V n 0 w1 (h.ext hw1.jE) hs) ?_
 rintro ⟨b,V2⟩ hP
 have hP:Pts V2 m:=hP
 refine HL.ent (Ent.pick [10,11,0,1,2,3,4,5,6,7,8,9] I I) ?_
 repeat' (first|refine zh ?_|refine HL.mkF (g:=89) (caps:=[_]) I I ?_|refine HL.jR fn88 I I (fun w1 hw1=>jBJ m.out (hits f) 89 [.pointer (some ⟨bf,0,none⟩)] (sv V2.ou m.out.length) w1 fn89 (fun a ha w2 hb=>jF2 bf f a w2 (((Rd.blk (n:=9) 1 rfl).at hw1).ext hb)) ((Rd.own 5 rfl).at hw1) (by omega)) ?_|intro (bk:Nat))
 rcases Jk (hits f) m.out with ⟨e1,e2,_⟩|⟨i,x,e1,e2,e3,_⟩
 ·rw [e2]at hZ
  have hZ:Z=m:=hZ
  rw[e1,hZ]
  repeat' (first|refine zh ?_|intro (bk:Nat))
  refine HR.ret Tryz.func44 I [_] (fun w hw=>⟨⟨_,rfl,jS hw 0 I I I I rfl⟩,trivial⟩) ?_
  exact fun w' hw=>⟨V2,rfl,hP,hw.pick [3,4,5,6,7,8,9,10,11] I rfl⟩
 rw[e2]at hZ
 rw[e1]
 have hmr:=Zj m.out i ok
 obtain ⟨r,hr⟩:∃r,r=kU m.out i ok:=⟨_,rfl⟩
 rw[← hr]at hmr
 have hm1:=ho.ZL hmr
 have hml:Ord { m with out:=r.1,links:=ZE m.links f.dst ok }:=hm1.kK (Km _ _ _)
 have hl24:=llen ho
 obtain ⟨m2,hm2⟩:∃m2,m2=if Tp.okN f.dst then { m with out:=r.1,links:=ZE m.links f.dst ok } else { m with out:=r.1 }:=⟨_,rfl⟩
 have ho2:Ord m2:=by rw[hm2];split;exact hml;exact hm1
 have hp2:m2.parts=m.parts:=by rw[hm2];split<;>rfl
 have hZ:Z=if r.2=true then giveUp m2 f.dst else m2:=by rw[hZ,hm2,hr]
 rw[hZ]
 repeat' (first|refine zh ?_|intro (bk:Nat))
 refine HL.JC (r:=fun v':Value=> .tuple ⟨[v',.bool r.2]⟩) (Q:=fun _=>True) (G:=fun v'=>[cSn v' r.1]) fn90 I I (fun w1 hw1=>by rw[hr];exact jB4 m.out i ok _ w1 ((Rd.own 5 rfl).at hw1) (by omega)) ?_
 intro v1 _
 refine HL.shape 0 I fun a c hv=>?_
 subst hv
 repeat' (first|refine zh ?_|refine HL.jR jRd I I (fun w _=>Z9 f.dst w) ?_|intro (bk:Nat))
 refine HR.ent (H':=_::_::stH b { V2 with ou:=(a,c) } { m with out:=r.1 } (tick 0)) (Ent.pick [1,2,3,4,5,0,7,8,9,10,11,12] I I) ?_
 refine HR.join (ι:=SV) (fun _=>True) (fun _=>[(6,ptr bk),(4,ptr bf),(7,ptr b),(10,.bool r.2)]) (fun x=>jT bk jPb 62::jT bf (frC f) 75::stH b { V2 with ou:=(a,c),li:=x } m2 (tick 0)) (fun x _=>?_) (fun hj=>?_)
 rotate_left
 ·refine HR.cond I (fun h1=>?_) (fun h1=>?_)
  ·have h1:Tp.okN f.dst=true:=h1
   rw[h1,if_pos rfl]at hm2
   repeat' (first|refine zh ?_|intro (bk:Nat))
   refine HR.Jf [(0,true),(1,true),(2,true),(3,true),(4,true),(5,true),(6,true),(7,true),(8,true),(9,false),(10,true),(11,true),(12,true)] 13 [1,2] I I Jc (by kernel_rfl) ?_
   repeat' (first|refine zd ?_|fail)
   refine HD.one I ?_
   refine HL.JQ fn92 I I (fun w1 hw1=>jE2 m.links f.dst ok _ w1 ((Rd.own 4 rfl).at hw1) (by omega)) ?_
   intro v2
   refine HL.shape 0 I fun a2 c2 hv=>?_
   subst hv
   refine HL.back [2,3] I I ?_
   repeat' (first|refine zd ?_|fail)
   refine HD.last I ?_
   repeat' (first|refine zn ?_|intro (bk:Nat))
   refine hj (a2,c2) _ _ trivial ⟨I,I,I,I,trivial⟩ ?_
   rw[hm2]
   exact Ent.pick [1,2,3,4,0,6,7,8,9,10,11,12] I I
  ·have h1:Tp.okN f.dst=false:=h1
   rw[h1,if_neg (by decide)]at hm2
   refine HR.skip ?_
   refine hj V2.li _ _ trivial ⟨I,I,I,I,trivial⟩ ?_
   rw[hm2]
   exact Ent.refl
 repeat' (first|refine zh ?_|intro (bk:Nat))
 refine HR.cond I (fun h1=>?_) (fun h1=>?_)
 ·have h1:r.2=true:=h1
  rw[if_pos h1]
  repeat' (first|refine zh ?_|intro (bk:Nat))
  refine HL.ent (Ent.pick [2,3,4,5,6,7,8,9,10,11,0] I I) ?_
  refine HL.Jh (r:=fun _:SV×SV×SV=> .tuple ⟨[]⟩) (Q:=fun _=>True) (G0:=stH b { V2 with ou:=(a,c),li:=x } m2 (tick 0)) (H0:=[_]) (G:=fun y=>stH b { V2 with ou:=(a,c),ta:=y.1,li:=y.2.1,ch:=y.2.2 } (giveUp m2 f.dst) (tick 0)) fn93 I I I (fun w1 hw1=>jFt b { V2 with ou:=(a,c),li:=x } m2 (tick 0) f.dst _ w1 (hw1.pick [0,1,2,3,4,5,6,7,8,9] I I) ho2) ?_
  intro y _
  refine HL.ent (Ent.pick [10,0,1,2,3,4,5,6,7,8,9] I I) ?_
  repeat' (first|refine zh ?_|intro (bk:Nat))
  refine HR.ret Tryz.func44 I [_] (fun w hw=>⟨⟨_,rfl,jS hw 0 I I I I rfl⟩,trivial⟩) ?_
  exact fun w' hw=>⟨{ V2 with ou:=(a,c),ta:=y.1,li:=y.2.1,ch:=y.2.2 },rfl,⟨by rw[jBK,hp2];exact hP.eq,hP.sh⟩,hw.pick [2,3,4,5,6,7,8,9,10] I rfl⟩
 ·have h1:r.2=false:=h1
  rw[if_neg (by rw[h1];decide)]
  repeat' (first|refine zh ?_|intro (bk:Nat))
  refine HR.ret Tryz.func44 I [_] (fun w hw=>⟨⟨_,rfl,jS hw 0 I I I I rfl⟩,trivial⟩) ?_
  exact fun w' hw=>⟨{ V2 with ou:=(a,c),li:=x },rfl,⟨by rw[hp2];exact hP.eq,hP.sh⟩,hw.pick [3,4,5,6,7,8,9,10,11] I rfl⟩
end Go.Proofs.YtgfdoognildoeaaGreat
namespace Go.Proofs.YtgfdoognildoeaaGreat
open Go.GX Go.RowKit
attribute [local irreducible] Calls Run jZ jf JK HR HL HD jT jG JY Rd jK jY
open Nd
theorem fn79:IsFn Tryz.prog 79:=⟨⟨_,_,Tryz.func79,rfl,by decide⟩⟩
theorem jPX (n:Nd) (f:Fr) (now:Int):∃q l,box n f now={ n with boxes:=q,lost:=l }:=by
 by_cases h:(jEQ n.boxes f now).2=false∨(jEQ n.boxes f now).1.length=n.boxes.length
 ·exact ⟨(jEQ n.boxes f now).1,min (n.lost+1) JU,by unfold box lose;simp only[if_pos h]⟩
 ·exact ⟨(jEQ n.boxes f now).1,n.lost,by unfold box;simp only[if_neg h]⟩
theorem jCU (n:Nd) (f:Fr) (now:Int):(box n f now).parts=n.parts:=by obtain ⟨q,l,e⟩:=jPX n f now;rw[e]
theorem jCT (now:Int):∀(l:List Fr) (n:Nd),(l.foldl (fun n f=>box n f now) n).parts=n.parts
 |[],_=>rfl
 |f::l,n=>(jCT now l (box n f now)).trans (jCU n f now)
theorem jBR (n:Nd) (now:Int):(asleep n now).parts=n.parts:=by unfold asleep;exact jCT now _ _
theorem jBQ (n:Nd):(J5 n).parts=n.parts:=by
 unfold J5;split
 ·exact (zK _ _).trans I
 ·rfl
theorem jC7 (n:Nd):(poll n).parts=n.parts:=by
 unfold poll;split
 ·exact (zK _ _).trans I
 ·rfl
theorem jDp {L:List PtV} {p:PtV} (h:p∈L):ptH p∈ptG L∧ptD p∈ptG L:=by
 unfold ptG
 exact ⟨List.mem_flatMap.2 ⟨p,h,List.mem_cons_self ..⟩,List.mem_flatMap.2 ⟨p,h,List.mem_cons_of_mem _ (List.mem_cons_self ..)⟩⟩
theorem RdPts.own {B:Base} {H:List Chunk} {w:World} {v:Value} {L:List PtV} (i j:Nat) (hw:Sat B H w) (hi:zH H i=some (cPt v L)) (hj:zH H j=some (jB (ptG L))):RdPts w v L:=
 ⟨(Rd.own i hi).at hw,fun p hp=>⟨(Rd.group j hj (jDp hp).1).at hw,(Rd.group j hj (jDp hp).2).at hw⟩⟩
theorem jKN (V:NV) (n:Nd) (now:Int) (w:World) (h:OkN w V n) (hs:SmN n) (hf:∀s∈n.out,fits .i64 s.wt):
  Calls Tryz.prog 79 #[.agg ⟨ndC V n⟩,.int .i64 now] w fun e w'=>∃V':NV,e= .returned (.agg ⟨ndC V' (Zr n now)⟩)∧Pts V' (Zr n now)∧Sat (base w) (ndH V' (Zr n now)) w':=by
 obtain ⟨m,hm⟩:∃m,m=order n:=⟨_,rfl⟩
 have ho:Ord m:=by rw[hm];exact Ja n
 have h16:=ho.out
 have hb16:=ho.boxes
 have hmf:∀s∈m.out,fits .i64 s.wt:=fun s hs=>hf s (List.mem_of_mem_take (by rw[hm]at hs;exact hs))
 have hmp:m.parts=n.parts:=by rw[hm];rfl
 obtain ⟨T,hT⟩:∃T,T=tick now:=⟨_,rfl⟩
 have ht0:0≤T:=by rw[hT];unfold tick clamp;omega
 obtain ⟨a,ha⟩:∃a,a=asleep { m with out:=Z6 m.out,boxes:=jBi m.boxes T 120,parts:=jCk m.parts T 120 } T:=⟨_,rfl⟩
 obtain ⟨g,hg⟩:∃g,g=if a.poll=0∧T%8=a.addr%8 then J5 a else a:=⟨_,rfl⟩
 have hsp:Zr n now=if g.poll>0∧g.parent≠255∧T%g.poll=0 then poll g else g:=by rw[hg,ha,hT,hm];rfl
 have ho1:Ord { m with out:=Z6 m.out,boxes:=jBi m.boxes T 120,parts:=jCk m.parts T 120 }:=((ho.ZL (jB3 m.out)).zQ (jBh m.boxes T 120)).ZP _
 have hao:Ord a:=by rw[ha];exact (jCY (Good.refl ho1) T).ord
 have hap:a.parts=jCk m.parts T 120:=by rw[ha];exact jBR _ _
 have hgo:Ord g:=by rw[hg];split;exact (jCW (Good.refl hao)).ord;exact hao
 have hgp:g.parts=jCk m.parts T 120:=by rw[hg,← hap];split;exact jBQ _;rfl
 have ha8:=((zT _).1 hao.addr).1
 rw[hsp]
 refine jD Tryz.func79 I (Nat.le_of_ble_eq_true I) ?_
 refine HR.sub (σ':=[(0,.agg ⟨ndC V n⟩),(1,.int .i64 now)]) ⟨I,I,trivial⟩ ?_
 repeat' (first|refine zh ?_|intro (bk:Nat))
 refine HL.JC (r:=fun x:Nat×NV=>ptr x.1) (Q:=fun x=>Pts x.2 m) (G:=fun x=>stH x.1 x.2 m T) jPS I I (fun w1 hw1=>by rw[hm,hT];exact ZF V n now w1 (h.ext hw1.jE) hs) ?_
 rintro ⟨b,V2⟩ hP
 have hP:Pts V2 m:=hP
 have hpl:V2.ps.length≤1000:=by rw[← JH,hP.eq,hmp];exact hs.pa
 have hps:∀p∈V2.ps,jER p.pt:=fun p hp=>hs.sm p.pt (by rw[← hmp,← hP.eq];exact List.mem_map.2 ⟨p,hp,rfl⟩)
 refine HL.ent (Ent.pick [10,0,1,2,3,4,5,6,7,8,9] I I) ?_
 repeat' (first|refine zh ?_|refine HL.JQ fn150 I I (fun w1 hw1=>jLU m.out _ w1 ((Rd.own 4 rfl).at hw1) (by omega) hmf) ?_|intro (bk:Nat))
 intro v1
 refine HL.shape 0 I fun a1 c1 hv=>?_
 subst hv
 repeat' (first|refine zh ?_|intro (bk:Nat))
 refine HR.ent (Ent.pick [1,2,3,4,0,6,7,8,9,10,11] I I) ?_
 refine HR.Jf [(0,true),(1,true),(2,true),(3,true),(4,true),(5,true),(6,true),(7,true),(8,true),(9,true),(10,false),(11,true),(12,true),(13,true)] 14 [1] I I Jc (by kernel_rfl) ?_
 repeat' (first|refine zd ?_|fail)
 refine HD.one I ?_
 refine HL.JQ fn151 I I (fun w1 hw1=>jN5 m.boxes T 120 _ w1 ((Rd.own 6 rfl).at hw1) (by omega)) ?_
 intro v2
 refine HL.shape 0 I fun a2 c2 hv=>?_
 subst hv
 refine HL.back [2] I I ?_
 repeat' (first|refine zd ?_|fail)
 refine HD.last I ?_
 repeat' (first|refine zn ?_|intro (bk:Nat))
 refine HR.ent (Ent.pick [1,2,3,4,5,6,0,8,9,10,11] I I) ?_
 repeat' (first|refine zh ?_|intro (bk:Nat))
 refine HR.Jf [(0,true),(1,true),(2,true),(3,true),(4,true),(5,true),(6,true),(7,true),(8,true),(9,true),(10,false),(11,true),(12,true),(13,true)] 14 [1] I I Jc (by kernel_rfl) ?_
 repeat' (first|refine zd ?_|fail)
 refine HD.one I ?_
 refine HL.JC (r:=fun x:Value×List PtV=>x.1) (Q:=fun x=>jEL x (jCk (pts V2.ps) T 120)) (G:=fun x=>jF7 x) fn152 I I (fun w1 hw1=>jNv V2.ps T 120 _ w1 (RdPts.own 8 9 hw1 I I) hps hpl) ?_
 rintro ⟨v3,ps⟩ ⟨hg1,hg2⟩
 have hq1:pts ps=jCk m.parts T 120:=by rw[← hP.eq];exact hg1
 have hq2:∀p∈ps,jA9 p:=hg2
 refine HL.shape (v:=v3) (e:=173) (sz:=6) (n:=ps.length) (xs:=cellsOf ptC ps) 0 I fun a3 c3 hv=>?_
 subst hv
 refine HL.back [3] I I ?_
 repeat' (first|refine zd ?_|fail)
 refine HD.last I ?_
 repeat' (first|refine zn ?_|intro (bk:Nat))
 obtain ⟨V3,hV3⟩:∃V3:NV,V3=⟨V2.ta,V2.li,(a1,c1),V2.ch,(a2,c2),V2.se,(a3,c3),V2.ib,ps⟩:=⟨_,rfl⟩
 have hps3:V3.ps=ps:=by rw[hV3]
 refine HR.ent (H':=_::stH b ⟨V2.ta,V2.li,(a1,c1),V2.ch,(a2,c2),V2.se,(a3,c3),V2.ib,ps⟩ { m with out:=Z6 m.out,boxes:=jBi m.boxes T 120,parts:=jCk m.parts T 120 } T) (Ent.pick [2,3,4,5,6,7,8,9,0,1,12] I I) ?_
 rw[← hV3]
 repeat' (first|refine zh ?_|intro (bk:Nat))
 refine HL.ent (Ent.pick [1,2,3,4,5,6,7,8,9,10,0] I I) ?_
 refine HL.Jh (r:=fun _:SV×SV=> .tuple ⟨[]⟩) (Q:=fun _=>True) (G0:=stH b V3 { m with out:=Z6 m.out,boxes:=jBi m.boxes T 120,parts:=jCk m.parts T 120 } T) (H0:=[_]) (G:=fun x=>stH b { V3 with ou:=x.1,bo:=x.2 } a T) fn153 I I I (fun w1 hw1=>by rw[ha];exact jFv b V3 _ T _ w1 (hw1.pick [0,1,2,3,4,5,6,7,8,9] I I) ho1) ?_
 rintro ⟨x1,x2⟩ _
 repeat' (first|refine zh ?_|intro (bk:Nat))
 refine HR.JF Jc (by kernel_rfl) ?_
 repeat' (first|refine zq ?_|apply zb ?_ ?_|exact zc|(refine zi fun hb=>?_;try simp at hb))
 refine HR.join (ι:=SV×SV) (fun _=>True) (fun _=>[(4,ptr bk),(5,ptr b)]) (fun y=>stH b { V3 with bo:=x2,ta:=y.1,ou:=y.2 } g T++[jT bk jPb 62]) (fun y _=>?_) (fun hj=>?_)
 rotate_left
 ·refine HR.cond I (fun h1=>?_) (fun h1=>?_)
  ·have h1:((a.poll==0)&&(T%8==a.addr%8))=true:=h1
   have h2:a.poll=0∧T%8=a.addr%8:=by simpa using h1
   rw[if_pos h2]at hg
   refine HR.region ?_
   repeat' (first|refine zn ?_|apply zb ?_ ?_|exact zc|(refine zi fun hb=>?_;try simp at hb)|intro (bk:Nat))
   refine HL.Jh (r:=fun _:SV×SV=> .tuple ⟨[]⟩) (Q:=fun _=>True) (G0:=stH b { V3 with ou:=x1,bo:=x2 } a T) (H0:=[_]) (G:=fun y=>stH b { V3 with bo:=x2,ta:=y.1,ou:=y.2 } g T) fn154 I I I (fun w1 hw1=>by rw[hg];exact jFu b { V3 with ou:=x1,bo:=x2 } a T _ w1 (hw1.pick [0,1,2,3,4,5,6,7,8,9] I I) hao) ?_
   intro y _
   repeat' (first|refine zn ?_|apply zb ?_ ?_|exact zc|(refine zi fun hb=>?_;try simp at hb)|intro (bk:Nat))
   exact hj y _ _ trivial ⟨I,I,trivial⟩ Ent.refl
  ·have h1:((a.poll==0)&&(T%8==a.addr%8))=false:=h1
   have h2:¬(a.poll=0∧T%8=a.addr%8):=by simpa using h1
   rw[if_neg h2]at hg
   refine HR.skip ?_
   refine hj (V3.ta,x1) _ _ trivial ⟨I,I,trivial⟩ ?_
   rw[hg]
   exact Ent.refl
 obtain ⟨y1,y2⟩:=y
 repeat' (first|refine zh ?_|intro (bk:Nat))
 refine HR.JF Jc (by kernel_rfl) ?_
 repeat' (first|refine zq ?_|apply zb ?_ ?_|exact zc|(refine zi fun hb=>?_;try simp at hb))
 refine HR.cond I (fun h1=>?_) (fun h1=>?_)
 ·have h1:((decide (g.poll>0)&&!(g.parent==255))&&(T%g.poll==0))=true:=h1
  have h2:g.poll>0∧g.parent≠255∧T%g.poll=0:=by simpa[and_assoc]using h1
  rw[if_pos h2]
  repeat' (first|refine zh ?_|intro (bk:Nat))
  refine HL.Jh (r:=fun _:SV×SV=> .tuple ⟨[]⟩) (Q:=fun _=>True) (G0:=stH b { V3 with bo:=x2,ta:=y1,ou:=y2 } g T) (H0:=[_]) (G:=fun y=>stH b { V3 with bo:=x2,ta:=y.1,ou:=y.2 } (poll g) T) fn155 I I I (fun w1 hw1=>jKW b { V3 with bo:=x2,ta:=y1,ou:=y2 } g T _ w1 (hw1.pick [0,1,2,3,4,5,6,7,8,9] I I) hgo) ?_
  intro z _
  refine HL.ent (Ent.pick [10,0,1,2,3,4,5,6,7,8,9] I I) ?_
  repeat' (first|refine zh ?_|intro (bk:Nat))
  refine HR.ret Tryz.func79 I [_] (fun w hw=>⟨⟨_,rfl,jS hw 0 I I I I rfl⟩,trivial⟩) ?_
  exact fun w' hw=>⟨{ V3 with bo:=x2,ta:=z.1,ou:=z.2 },rfl,⟨by rw[jC7,hgp,← hq1,hV3],by rw[hV3];exact hq2⟩,hw.pick [2,3,4,5,6,7,8,9,10] I rfl⟩
 ·have h1:((decide (g.poll>0)&&!(g.parent==255))&&(T%g.poll==0))=false:=h1
  have h2:¬(g.poll>0∧g.parent≠255∧T%g.poll=0):=by
   intro e
   have:((decide (g.poll>0)&&!(g.parent==255))&&(T%g.poll==0))=true:=by simpa[and_assoc]using e
   rw[h1]at this;cases this
  rw[if_neg h2]
  refine HR.skip ?_
  refine HR.ent (Ent.pick [10,0,1,2,3,4,5,6,7,8,9] I I) ?_
  repeat' (first|refine zh ?_|intro (bk:Nat))
  refine HR.ret Tryz.func79 I [_] (fun w hw=>⟨⟨_,rfl,jS hw 0 I I I I rfl⟩,trivial⟩) ?_
  exact fun w' hw=>⟨{ V3 with bo:=x2,ta:=y1,ou:=y2 },rfl,⟨by rw[hgp,← hq1,hV3],by rw[hV3];exact hq2⟩,hw.pick [2,3,4,5,6,7,8,9,10] I rfl⟩
end Go.Proofs.YtgfdoognildoeaaGreat
namespace Go.Proofs.YtgfdoognildoeaaGreat
open Go.GX Go.RowKit
attribute [local irreducible] Calls Run jZ jf JK HR HL HD jT jG JY Rd jK jY
open Nd
theorem fn80:IsFn Tryz.prog 80:=⟨⟨_,_,Tryz.func80,rfl,by decide⟩⟩
theorem jJM {q:List Sn} {i:Nat} (h16:q.length≤16) (hi:i<q.length):((kU q i false).2=true∧(kU q i false).1.length+1=q.length)∨((kU q i false).2=false∧(kU q i false).1.length=q.length):=by
 have ht:q.take 16=q:=List.take_of_length_le h16
 unfold kU
 rw[ht,List.getElem?_eq_getElem hi]
 simp only[Bool.false_eq_true,if_false]
 split
 ·exact .inl ⟨rfl,by show (q.eraseIdx i).length+1=_;rw[List.length_eraseIdx_of_lt hi];omega⟩
 ·exact .inr ⟨rfl,by show (q.set i _).length=_;rw[List.length_set]⟩
abbrev zerF:List Value:=[.int .i64 0,.int .i64 0,.int .i64 0,.int .i64 0,.int .i64 0,.int .i64 0,.int .i64 0,.bool false,str []]
abbrev rsC (bk:Nat):Chunk:=jT bk jPb 62
abbrev rfC (bk:Nat):Chunk:=jT bk zerF 75
theorem jHq {T : Int} {K : Nat} {p : Nd} {i : Nat} {x : Sn} (hx : p.out[i]? = some x) : Jo T (K + 1) p i =
      if x.wt > 0 then Jo T K p (i + 1)
      else if x.f.kd ≠ 2 ∨ x.f.dst ≠ 255 then (p, x.f, true)
      else if p.poll = 0 ∧ zm p x.f.ta = true then Jo T K (box { p with out := p.out.eraseIdx i } { x.f with dst := x.f.ta } T) i
      else if (hop p x.f.ta).2 then (p, { x.f with dst := (hop p x.f.ta).1 }, true)
      else if (kU p.out i false).2 then Jo T K (lose { p with out := (kU p.out i false).1 }) i
      else Jo T K { p with out := (kU p.out i false).1 } (i + 1) := by
  rw [Jo, hx]
theorem jKP (V:NV) (n:Nd) (now:Int) (w:World) (h:OkN w V n) (hs:SmN n):
  Calls Tryz.prog 80 #[.agg ⟨ndC V n⟩,.int .i64 now] w fun e w'=>∃V':NV,e= .returned (.tuple ⟨[.agg ⟨ndC V' (talk n now).1⟩,.agg ⟨frC (talk n now).2.1⟩,.bool (talk n now).2.2]⟩)∧Pts V' (talk n now).1∧Sat (base w) (ndH V' (talk n now).1) w':=by
 obtain ⟨m,hm⟩:∃m,m=order n:=⟨_,rfl⟩
 have ho:Ord m:=by rw[hm];exact Ja n
 have h16:=ho.out
 obtain ⟨T,hT⟩:∃T,T=tick now:=⟨_,rfl⟩
 obtain ⟨Z,hZ⟩:∃Z,Z=talk n now:=⟨_,rfl⟩
 have hZ0:Z=Jo T 17 m 0:=by rw[hZ,hT,hm];rfl
 rw[← hZ]
 refine jD Tryz.func80 I (Nat.le_of_ble_eq_true I) ?_
 refine HR.sub (σ':=[(0,.agg ⟨ndC V n⟩),(1,.int .i64 now)]) ⟨I,I,trivial⟩ ?_
 refine HR.ctl I ?_
 refine HR.region ?_
 refine HL.box I I ?_
 intro bn
 refine HL.alloc I I ?_
 intro br
 refine HL.alloc I I ?_
 intro bf
 repeat' (first|refine zh ?_|intro (bk:Nat))
 refine HL.JC (r:=fun x:Nat×NV=>ptr x.1) (Q:=fun x=>Pts x.2 m) (G:=fun x=>stH x.1 x.2 m T) jPS I I (fun w1 hw1=>by rw[hm,hT];exact ZF V n now w1 (h.ext hw1.jE) hs) ?_
 rintro ⟨b,V2⟩ hP
 have hP:Pts V2 m:=hP
 refine HL.ent (H':=rsC br::rfC bf::stH b V2 m T) (Ent.pick [11,10,0,1,2,3,4,5,6,7,8,9] I I) ?_
 repeat' (first|refine zh ?_|intro (bk:Nat))
 refine HR.loop (ι:=Nat×Nat×Nd×SV×SV) (fun x=>Ord x.2.2.1∧x.2.2.1.parts=m.parts∧Z=Jo T x.2.1 x.2.2.1 x.1∧x.1≤x.2.2.1.out.length∧x.2.2.1.out.length<x.1+x.2.1) (fun x=>[(4,ptr br),(5,ptr bf),(7,ptr b),(8,.int .i64 (x.1:Int))]) (fun x=>rsC br::rfC bf::stH b { V2 with ou:=x.2.2.2.1,bo:=x.2.2.2.2 } x.2.2.1 T) (fun x=>x.2.2.1.out.length-x.1) (0,17,m,V2.ou,V2.bo) ⟨ho,rfl,hZ0,Nat.zero_le _,by show m.out.length<0+17;omega⟩ ⟨I,I,I,I,trivial⟩ Ent.refl ?_
 rintro ⟨i,K,p,y1,y2⟩ ⟨hpo,hpp,hZ1,hi,hK⟩ ih
 have hpo:Ord p:=hpo
 have hpp:p.parts=m.parts:=hpp
 have hZ1:Z=Jo T K p i:=hZ1
 have hi:i≤p.out.length:=hi
 have hK:p.out.length<i+K:=hK
 have hp16:=hpo.out
 have hp24:=jMk hpo
 have hpk:=klen hpo
 obtain ⟨K,rfl⟩:∃K',K=K'+1:=⟨K-1,by omega⟩
 repeat' (first|refine zh ?_|intro (bk:Nat))
 refine HR.cond I (fun h1=>?_) (fun h1=>?_)
 rotate_left
 ·have h1:¬(i:Int)<(p.out.length:Int):=of_decide_eq_false h1
  have hie:i=p.out.length:=by omega
  have hZ2:Z=(p,fr0,false):=by
   rw[hZ1,Jo,show p.out[i]? =none from List.getElem?_eq_none (by omega)]
  rw[hZ2]
  repeat' (first|refine zh ?_|intro (bk:Nat))
  refine HR.ret Tryz.func80 I [_,_,_] (fun w hw=>⟨⟨_,rfl,jS hw 0 I I I I rfl⟩,⟨_,rfl,jS hw 1 I I I I rfl⟩,rfl,trivial⟩) ?_
  exact fun w' hw=>⟨{ V2 with ou:=y1,bo:=y2 },rfl,⟨by rw[show (p,fr0,false).1.parts=m.parts from hpp];exact hP.eq,hP.sh⟩,hw.pick [3,4,5,6,7,8,9,10,11] I rfl⟩
 have h1:(i:Int)<(p.out.length:Int):=of_decide_eq_true h1
 have hlt:i<p.out.length:=by omega
 obtain ⟨x,hx⟩:=jJ hlt
 rw[jHq hx]at hZ1
 repeat' (first|refine zh ?_|refine HL.JA (Rd.own 5 I) zf i I I I I hlt ?_|refine HL.JW (Rd.own 5 I) I I I I (by simp) I (jH JE hx) ?_|intro (bk:Nat))
 refine HR.cond I (fun h2=>?_) (fun h2=>?_)
 ·have h2:x.wt>0:=of_decide_eq_true h2
  rw[if_pos h2]at hZ1
  repeat' (first|refine zh ?_|intro (bk:Nat))
  exact ih (i+1,K,p,y1,y2) _ _ ⟨hpo,hpp,hZ1,hlt,by show p.out.length<i+1+K;omega⟩ (by show p.out.length-(i+1)<p.out.length-i;omega) ⟨I,I,I,I,trivial⟩ (Ent.pick [2,3,4,5,6,7,8,9,10,11,12,13] I I)
 have h2:¬x.wt>0:=of_decide_eq_false h2
 rw[if_neg h2]at hZ1
 repeat' (first|refine zh ?_|apply zb ?_ ?_|exact zc|(refine zi fun hb=>?_;try simp at hb)|intro (bk:Nat))
 refine HR.cond I (fun h3=>?_) (fun h3=>?_)
 ·have h3:(!(x.f.kd==2)||!(x.f.dst==255))=true:=h3
  have h4:x.f.kd≠2∨x.f.dst≠255:=by simpa using h3
  rw[if_pos h4]at hZ1
  rw[hZ1]
  repeat' (first|refine zh ?_|intro (bk:Nat))
  refine HR.j4 [(0,true),(1,true),(2,true),(3,true),(4,true),(5,false),(6,false),(7,true)] [0,4] I I Jc (by kernel_rfl) ?_
  repeat' (first|refine zd ?_|fail)
  refine HD.one I ?_
  refine HL.S 2 I I I I I ?_
  refine HL.back [0,4] I I ?_
  refine HD.one I ?_
  refine HL.S 3 I I I I I ?_
  refine HL.back [0,4] I I ?_
  repeat' (first|refine zd ?_|fail)
  refine HD.nil ?_
  repeat' (first|refine zh ?_|intro (bk:Nat))
  refine HR.ret Tryz.func80 I [_,_,_] (fun w hw=>⟨⟨_,rfl,jS hw 2 I I I I rfl⟩,⟨_,rfl,jS hw 3 I I I I rfl⟩,rfl,trivial⟩) ?_
  exact fun w' hw=>⟨{ V2 with ou:=y1,bo:=y2 },rfl,⟨by rw[show (p,x.f,true).1.parts=m.parts from hpp];exact hP.eq,hP.sh⟩,hw.pick [5,6,7,8,9,10,11,12,13] I rfl⟩
 have h3:(!(x.f.kd==2)||!(x.f.dst==255))=false:=h3
 have h4:¬(x.f.kd≠2∨x.f.dst≠255):=by
  intro e
  have:(!(x.f.kd==2)||!(x.f.dst==255))=true:=by simpa using e
  rw[h3]at this;cases this
 rw[if_neg h4]at hZ1
 refine HR.skip ?_
 refine HR.ctl I ?_
 refine HR.join (ι:=Unit) (fun _=>True) (fun _=>[(4,ptr br),(5,ptr bf),(7,ptr b),(8,.int .i64 (i:Int)),(10,ptr bk),(66,.bool ((p.poll==0)&&zm p x.f.ta))]) (fun _=>jT bk (frC x.f) 75::rsC br::rfC bf::stH b { V2 with ou:=y1,bo:=y2 } p T) (fun _ _=>?_) (fun hj=>?_)
 rotate_left
 ·refine HR.region ?_
  repeat' (first|refine zn ?_|intro (bk:Nat))
  refine HL.split 61 I (fun hb=>?_) (fun hb=>?_)
  ·repeat' (first|refine zn ?_|intro (bk:Nat))
   refine HL.ent (Ent.pick [4,5,6,7,8,9,10,11,12,13,0,2,3] I I) ?_
   refine HL.Jh (r:=fun _:Unit=> .bool (zm p x.f.ta)) (Q:=fun _=>True) (G0:=stH b { V2 with ou:=y1,bo:=y2 } p T) (H0:=[_,_,_]) (G:=fun _=>stH b { V2 with ou:=y1,bo:=y2 } p T) fn156 I I I (fun w1 hw1=>jHt b { V2 with ou:=y1,bo:=y2 } p T x.f.ta _ w1 (hw1.pick [0,1,2,3,4,5,6,7,8,9] I I) (by omega) (by omega)) ?_
   intro _ _
   repeat' (first|refine zn ?_|intro (bk:Nat))
   refine hj () _ _ trivial ⟨rfl,rfl,rfl,rfl,rfl,?_,trivial⟩ (Ent.pick [10,11,12,0,1,2,3,4,5,6,7,8,9] I I)
   show some (Value.bool (zm p x.f.ta))=some (Value.bool ((p.poll==0)&&zm p x.f.ta))
   rw[show (p.poll==0)=true from hb];rfl
  ·repeat' (first|refine zn ?_|intro (bk:Nat))
   refine hj () _ _ trivial ⟨rfl,rfl,rfl,rfl,rfl,?_,trivial⟩ (Ent.pick [0,2,3,4,5,6,7,8,9,10,11,12,13] I I)
   show some (Value.bool false)=some (Value.bool ((p.poll==0)&&zm p x.f.ta))
   rw[show (p.poll==0)=false from hb];rfl
 repeat' (first|refine zh ?_|intro (bk:Nat))
 refine HR.cond I (fun h5=>?_) (fun h5=>?_)
 ·have h5:((p.poll==0)&&zm p x.f.ta)=true:=h5
  have h6:p.poll=0∧zm p x.f.ta=true:=by simpa using h5
  rw[if_pos h6]at hZ1
  have hel:(p.out.eraseIdx i).length=p.out.length-1:=List.length_eraseIdx_of_lt hlt
  have ho1:Ord { p with out:=p.out.eraseIdx i }:=hpo.ZL (by omega)
  repeat' (first|refine zh ?_|refine HL.JQ jNs I I (fun w1 hw1=>kr p.out _ w1 ((Rd.own 6 rfl).at hw1) (by omega)) ?_|intro (bk:Nat))
  intro v1
  repeat' (first|refine zh ?_|intro (bk:Nat))
  refine HL.Jh (r:=fun r:Value=>r) (Q:=fun _=>True) (G0:=[cSn v1 p.out]) (H0:=[_,_,_,_,_,_,_,_,_,_,_,_,_]) (G:=fun r=>[cSn r (p.out.eraseIdx i)]) jNr I I I (fun w1 hw1=>jAk p.out i v1 _ w1 (hw1.pick [0] I I) hlt (by omega)) ?_
  intro v2 _
  refine HL.shape 0 I fun a c hv=>?_
  subst hv
  repeat' (first|refine zh ?_|intro (bk:Nat))
  refine HL.ent (Ent.pick [4,5,6,0,8,9,10,11,12,13,2,3] I I) ?_
  refine HL.Jh (r:=fun _:SV=> .tuple ⟨[]⟩) (Q:=fun _=>True) (G0:=stH b { V2 with ou:=(a,c),bo:=y2 } { p with out:=p.out.eraseIdx i } T) (H0:=[_,_]) (G:=fun z=>stH b { V2 with ou:=(a,c),bo:=z } (box { p with out:=p.out.eraseIdx i } { x.f with dst:=x.f.ta } T) T) jRt I I I (fun w1 hw1=>jG1 b { V2 with ou:=(a,c),bo:=y2 } { p with out:=p.out.eraseIdx i } T { x.f with dst:=x.f.ta } _ w1 (hw1.pick [0,1,2,3,4,5,6,7,8,9] I I) ho1) ?_
  intro z _
  have hbo:(box { p with out:=p.out.eraseIdx i } { x.f with dst:=x.f.ta } T).out.length=p.out.length-1:=by
   obtain ⟨q,l,e⟩:=jPX { p with out:=p.out.eraseIdx i } { x.f with dst:=x.f.ta } T
   rw[e];exact hel
  repeat' (first|refine zh ?_|intro (bk:Nat))
  exact ih (i,K,box { p with out:=p.out.eraseIdx i } { x.f with dst:=x.f.ta } T,(a,c),z) _ _ ⟨ho1.box _ _,(jCU _ _ _).trans hpp,hZ1,by rw[show (i,K,box { p with out:=p.out.eraseIdx i } { x.f with dst:=x.f.ta } T,(a,c),z).2.2.1.out.length=_ from hbo];show i≤_;omega,by rw[show (i,K,box { p with out:=p.out.eraseIdx i } { x.f with dst:=x.f.ta } T,(a,c),z).2.2.1.out.length=_ from hbo];show _<i+K;omega⟩ (by show (box { p with out:=p.out.eraseIdx i } { x.f with dst:=x.f.ta } T).out.length-i<p.out.length-i;omega) ⟨I,I,I,I,trivial⟩ (Ent.pick [10,11,0,1,2,3,4,5,6,7,8,9] I I)
 have h5:((p.poll==0)&&zm p x.f.ta)=false:=h5
 have h6:¬(p.poll=0∧zm p x.f.ta=true):=by
  intro e
  have:((p.poll==0)&&zm p x.f.ta)=true:=by simpa using e
  rw[h5]at this;cases this
 rw[if_neg h6]at hZ1
 repeat' (first|refine zh ?_|intro (bk:Nat))
 refine HL.ent (Ent.pick [3,4,5,6,7,8,9,10,11,12,0,1,2] I I) ?_
 refine HL.Jh (r:=fun _:Unit=> .tuple ⟨[.int .i64 (hop p x.f.ta).1,.bool (hop p x.f.ta).2]⟩) (Q:=fun _=>True) (G0:=stH b { V2 with ou:=y1,bo:=y2 } p T) (H0:=[_,_,_]) (G:=fun _=>stH b { V2 with ou:=y1,bo:=y2 } p T) fn159 I I I (fun w1 hw1=>jMt b { V2 with ou:=y1,bo:=y2 } p T x.f _ w1 (hw1.pick [0,1,2,3,4,5,6,7,8,9] I I) (by omega)) ?_
 intro _ _
 refine HL.ent (Ent.pick [10,11,12,0,1,2,3,4,5,6,7,8,9] I I) ?_
 repeat' (first|refine zh ?_|intro (bk:Nat))
 refine HR.cond I (fun h7=>?_) (fun h7=>?_)
 ·have h7:(hop p x.f.ta).2=true:=h7
  rw[if_pos h7]at hZ1
  rw[hZ1]
  repeat' (first|refine zh ?_|intro (bk:Nat))
  refine HR.j4 [(0,true),(1,true),(2,true),(3,true),(4,true),(5,false),(6,false),(7,true)] [0,3] I I Jc (by kernel_rfl) ?_
  repeat' (first|refine zd ?_|fail)
  refine HD.one I ?_
  refine HL.S 1 I I I I I ?_
  refine HL.back [0,3] I I ?_
  refine HD.one I ?_
  refine HL.S 2 I I I I I ?_
  refine HL.back [0,3] I I ?_
  repeat' (first|refine zd ?_|fail)
  refine HD.nil ?_
  repeat' (first|refine zh ?_|intro (bk:Nat))
  refine HR.ret Tryz.func80 I [_,_,_] (fun w hw=>⟨⟨_,rfl,jS hw 1 I I I I rfl⟩,⟨_,rfl,jS hw 2 I I I I rfl⟩,rfl,trivial⟩) ?_
  exact fun w' hw=>⟨{ V2 with ou:=y1,bo:=y2 },rfl,⟨by rw[show (p,({ x.f with dst:=(hop p x.f.ta).1 }:Fr),true).1.parts=m.parts from hpp];exact hP.eq,hP.sh⟩,hw.pick [4,5,6,7,8,9,10,11,12] I rfl⟩
 have h7:¬(hop p x.f.ta).2=true:=by rw[show (hop p x.f.ta).2=false from h7];decide
 rw[if_neg h7]at hZ1
 have hmf:=jJM hp16 hlt
 have hml:=Zj p.out i false
 obtain ⟨r,hr⟩:∃r,r=kU p.out i false:=⟨_,rfl⟩
 rw[← hr]at hZ1 hmf hml
 have hor:Ord { p with out:=r.1 }:=hpo.ZL hml
 repeat' (first|refine zh ?_|intro (bk:Nat))
 refine HL.JC (r:=fun v':Value=> .tuple ⟨[v',.bool r.2]⟩) (Q:=fun _=>True) (G:=fun v'=>[cSn v' r.1]) fn90 I I (fun w1 hw1=>by rw[hr];exact jB4 p.out i false _ w1 ((Rd.own 6 rfl).at hw1) (by omega)) ?_
 intro v1 _
 refine HL.shape 0 I fun a c hv=>?_
 subst hv
 repeat' (first|refine zh ?_|intro (bk:Nat))
 refine HR.ent (Ent.pick [4,2,3,5,6,0,8,9,10,11,12,13] I I) ?_
 refine HR.cond I (fun h8=>?_) (fun h8=>?_)
 ·have h8:r.2=true:=h8
  rw[if_pos h8]at hZ1
  have hlen:r.1.length+1=p.out.length:=by
   rcases hmf with e|e
   ·exact e.2
   ·rw [h8]at e;cases e.1
  repeat' (first|refine zh ?_|intro (bk:Nat))
  refine HL.Jh (r:=fun _:Unit=> .tuple ⟨[]⟩) (Q:=fun _=>True) (G0:=[jCV b { V2 with ou:=(a,c),bo:=y2 } { p with out:=r.1 } T]) (H0:=[_,_,_,_,_,_,_,_,_,_,_]) (G:=fun _=>[jCV b { V2 with ou:=(a,c),bo:=y2 } (lose { p with out:=r.1 }) T]) jJo I I I (fun w1 hw1=>Z0 b { V2 with ou:=(a,c),bo:=y2 } { p with out:=r.1 } T _ w1 (hw1.pick [0] I I) hpo.lost) ?_
  intro _ _
  repeat' (first|refine zh ?_|intro (bk:Nat))
  refine HR.cond I (fun h9=>?_) (fun h9=>?_)
  ·exact absurd (eq_of_beq h9:(r.1.length:Int)=(p.out.length:Int)) (by omega)
  repeat' (first|refine zh ?_|intro (bk:Nat))
  exact ih (i,K,lose { p with out:=r.1 },(a,c),y2) _ _ ⟨hor.lose,hpp,hZ1,by show i≤r.1.length;omega,by show r.1.length<i+K;omega⟩ (by show r.1.length-i<p.out.length-i;omega) ⟨I,I,I,I,trivial⟩ (Ent.pick [1,2,0,3,4,5,6,7,8,9,10,11] I I)
 ·have h8:r.2=false:=h8
  rw[if_neg (by rw[h8];decide)]at hZ1
  have hlen:r.1.length=p.out.length:=by
   rcases hmf with e|e
   ·rw [h8]at e;cases e.1
   ·exact e.2
  repeat' (first|refine zh ?_|intro (bk:Nat))
  refine HR.cond I (fun h9=>?_) (fun h9=>?_)
  ·repeat' (first|refine zh ?_|intro (bk:Nat))
   exact ih (i+1,K,{ p with out:=r.1 },(a,c),y2) _ _ ⟨hor,hpp,hZ1,by show i+1≤r.1.length;omega,by show r.1.length<i+1+K;omega⟩ (by show r.1.length-(i+1)<p.out.length-i;omega) ⟨I,I,I,I,trivial⟩ (Ent.pick [1,2,0,3,4,5,6,7,8,9,10,11] I I)
  ·have h9:((r.1.length:Int)==(p.out.length:Int))=false:=h9
   simp at h9
   omega
end Go.Proofs.YtgfdoognildoeaaGreat
namespace Nd
open Go.GX Tp
theorem jPm {s:By} (h:(jAA s).2=0):(jAA s).1.length≤24∧(∀ r∈(jAA s).1,usable r=true)∧Asc (·.dest) (jAA s).1:=by
 unfold jAA at h ⊢
 by_cases h1:s.length%4≠0
 ·rw [if_pos h1]at h;cases h
 rw[if_neg h1]at h ⊢
 by_cases h2:s.length>96
 ·rw [if_pos h2]at h;cases h
 rw[if_neg h2]at h ⊢
 by_cases h3:jc (jEP (zJ s (s.length / 4))) (s.length / 4)≠0
 ·rw [if_pos h3]at h;exact absurd h h3
 rw[if_neg h3]
 have h3:jc (jEP (zJ s (s.length / 4))) (s.length / 4)=0:=Decidable.not_not.1 h3
 have hl:=Za s (s.length / 4)
 have key:=zo h3
 show (zJ s (s.length / 4)).length≤24∧(∀ r∈zJ s (s.length / 4),usable r=true)∧Asc (·.dest) (zJ s (s.length / 4))
 generalize zJ s (s.length / 4)=l at hl key
 refine ⟨by omega,fun r hr=>?_,jFb fun i a b ha hb=>?_⟩
 ·obtain ⟨i,hi⟩:=List.getElem?_of_mem hr
  have hk:=key i (by have:=(List.getElem?_eq_some_iff.1 hi).1;omega)
  unfold jEP at hk
  rw[hi]at hk
  simp only at hk
  by_cases hu:usable r=false
  ·rw [if_pos hu]at hk;cases hk
  ·exact Bool.not_eq_false _▸hu
 ·have hk:=key (i+1) (by have:=(List.getElem?_eq_some_iff.1 hb).1;omega)
  unfold jEP at hk
  rw[hb]at hk
  simp only[Nat.add_sub_cancel,ha]at hk
  by_cases hu:usable b=false
  ·rw [if_pos hu]at hk;cases hk
  ·rw [if_neg hu]at hk
   by_cases hd:b.dest≤a.dest
   ·rw [if_pos ⟨by omega,by simpa using hd⟩]at hk;cases hk
   ·show a.dest<b.dest;omega
theorem jLo {l:List Ro} (hu:∀r∈l,usable r=true) (ha:Asc (·.dest) l):(l.any fun r=>(r.dest==0)&&decide (r.cost≤200))=(kL l 0).2:=by
 have hfin:∀r∈l,fin r=decide (r.cost≤200):=by
  intro r hr
  have h1:=hu r hr
  unfold usable at h1
  by_cases hc:r.cost≤200
  ·rw [decide_eq_true hc]
   simp only[Bool.and_eq_true,Bool.or_eq_true,beq_iff_eq]at h1
   rcases h1.2 with h|h
   ·exact h.1
   ·omega
  ·unfold fin
   rw[decide_eq_false hc,Bool.and_false]
 unfold kL rat
 cases hf:l.find? (fun x=>x.dest==0)with
 |none=>
  rw[← Bool.not_eq_true,List.any_eq_true]
  ·rintro ⟨r,hr,h2⟩
   have:=List.find?_eq_none.1 hf r hr
   simp only[Bool.and_eq_true]at h2
   exact this h2.1
 |some r=>
  have hr:=List.mem_of_find?_eq_some hf
  have hd:(r.dest==0)=true:=List.find?_some (p:=fun x:Ro=>x.dest==0) hf
  simp only
  rw[hfin r hr]
  by_cases hc:r.cost≤200
  ·rw [decide_eq_true hc,if_pos rfl]
   show _=true
   rw[List.any_eq_true]
   exact ⟨r,hr,by rw[hd,decide_eq_true hc];rfl⟩
  ·rw [decide_eq_false hc,if_neg (by decide)]
   show _=false
   rw[← Bool.not_eq_true,List.any_eq_true]
   rintro ⟨q,hq,h2⟩
   simp only[Bool.and_eq_true,beq_iff_eq,decide_eq_true_eq]at h2
   obtain ⟨i,hi⟩:=List.getElem?_of_mem hr
   obtain ⟨j,hj⟩:=List.getElem?_of_mem hq
   have hd:r.dest=0:=by simpa using hd
   rcases Nat.lt_trichotomy i j with h|h|h
   ·have:r.dest<q.dest:=ha.lt h hi hj
    omega
   ·subst h;rw[hi]at hj;cases hj;exact hc h2.2
   ·have:q.dest<r.dest:=ha.lt h hj hi
    omega
theorem jDY {l:List Int} (h:l.Pairwise fun x y=>x≤y) (hn:l.Nodup):Asc id l:=by
 have:=List.Pairwise.and h hn
 exact this.imp fun {a b} ⟨h1,h2⟩=>by
  have h2:a≠b:=h2
  show a<b
  omega
theorem jFS {l:List Int} {c:Int} (h:Asc id l) (hc:¬c∈l):Tf.srt (l++[c])=child l c:=by
 have hp:(Tf.srt (l++[c])).Perm (l++[c]):=List.mergeSort_perm _ _
 have hn:(l++[c]).Nodup:=by
  rw[List.nodup_append]
  refine ⟨h.nodup,by simp,fun a ha b hb=>?_⟩
  rw[List.mem_singleton]at hb
  rintro rfl
  subst hb
  exact hc ha
 refine jEK (jDY (Tf.jAq _) (hp.nodup_iff.2 hn)) (kE h c).1 fun x=>?_
 rw[hp.mem_iff,(kE h c).2]
 simp[or_comm]
end Nd
namespace Go.Proofs.YtgfdoognildoeaaGreat
open Go.GX Go.RowKit
attribute [local irreducible] Calls Run jZ jf JK HR HL HD jT jG JY Rd jK jY
open Nd
theorem fn163:IsFn Tryz.prog 163:=⟨⟨_,_,Tryz.func163,rfl,by decide⟩⟩
theorem fn220:IsFn Tryz.prog 220:=⟨⟨_,_,Tryz.func220,rfl,by decide⟩⟩
theorem fn164:IsFn Tryz.prog 164:=⟨⟨_,_,Tryz.func164,rfl,by decide⟩⟩
theorem jPA (r:Ro) (w:World):Calls Tryz.prog 220 #[.agg ⟨roC r⟩] w fun e w'=>e= .returned (.bool ((r.dest==0)&&decide (r.cost≤200)))∧Below w.heap.size w w':=by
 refine jD Tryz.func220 I (Nat.le_of_ble_eq_true I) ?_
 refine HR.sub (σ':=[(0,.agg ⟨roC r⟩)]) ⟨I,trivial⟩ ?_
 repeat' (first|refine zh ?_|apply zb ?_ ?_|exact zc|(refine zi fun hb=>?_;try simp at hb)|intro (bk:Nat))
 refine HR.ret Tryz.func220 I [_] (fun _ _=>⟨I,trivial⟩) ?_
 exact fun w' hw=>⟨rfl,hw.jE⟩
theorem jMv (b:Nat) (V:NV) (n:Nd) (now:Int) (f:Fr) (B:Base) (w:World) (hw:Sat B (stH b V n now) w) (ho:Ord n) (hfd:f.da.length≤1000):
  Calls Tryz.prog 163 #[ptr b,.agg ⟨frC f⟩] w fun e w'=>∃x:SV×SV,e= .returned (.tuple ⟨[]⟩)∧True∧Sat ⟨w,Zn (stH b V n now)⟩ (stH b { V with ta:=x.1,li:=x.2 } (JD n f) now) w':=by
 have h24:=jMk ho
 have l24:=llen ho
 obtain ⟨a,ha⟩:∃a:Nd,a={ n with links:=ZE n.links f.fr true }:=⟨_,rfl⟩
 have hal:a.links.length≤24:=by rw[ha];exact jE4 (Km _ _ _)
 have hat:a.table.length≤24:=by rw[ha];exact h24
 obtain ⟨d,hd⟩:∃d,d=jAA f.da:=⟨_,rfl⟩
 obtain ⟨g,hg⟩:∃g:Nd,g={ a with table:=jEM a.table a.addr f.fr (jB9 a.links f.fr) d.1 }:=⟨_,rfl⟩
 have hsp:JD n f=if d.2≠0 then a else if g.poll>0∧g.parent=255∧(kL d.1 0).2=true then { g with parent:=f.fr } else g:=by rw[hg,hd,ha];rfl
 rw[hsp]
 refine jg (stH b V n now) (hw) Tryz.func163 I (Nat.le_of_ble_eq_true I) ?_
 refine HR.sub (σ':=[(0,ptr b),(1,.agg ⟨frC f⟩)]) ⟨I,I,trivial⟩ ?_
 refine HR.ctl I ?_
 refine HR.region ?_
 refine HL.box I I ?_
 intro bf
 repeat' (first|refine zh ?_|intro (bk:Nat))
 refine HR.Jf [(0,true),(1,true),(2,true),(3,true),(4,true),(5,true),(6,true),(7,true),(8,false),(9,true),(10,true),(11,true)] 12 [0,1] I I Jc (by kernel_rfl) ?_
 repeat' (first|refine zd ?_|fail)
 refine HD.one I ?_
 refine HL.JQ fn92 I I (fun w1 hw1=>jE2 n.links f.fr true _ w1 ((Rd.own 3 rfl).at hw1) (by omega)) ?_
 intro v1
 refine HL.shape 0 I fun a1 c1 hv=>?_
 subst hv
 refine HL.back [1,2] I I ?_
 repeat' (first|refine zd ?_|fail)
 refine HD.last I ?_
 repeat' (first|refine zn ?_|intro (bk:Nat))
 refine HR.ent (H':=jT bf (frC f) 75::stH b { V with li:=(a1,c1) } { n with links:=ZE n.links f.fr true } now) (Ent.pick [1,2,3,0,5,6,7,8,9,10,11] I I) ?_
 rw[← ha]
 repeat' (first|refine zh ?_|intro (bk:Nat))
 refine HL.JC (r:=fun v':Value=> .tuple ⟨[v',.int .i64 d.2]⟩) (Q:=fun _=>True) (G:=fun v'=>[cTa v' d.1]) fn216 I I (fun w1 _=>by rw[hd];exact jJv f.da w1 (by omega)) ?_
 intro v2 _
 repeat' (first|refine zh ?_|intro (bk:Nat))
 refine HR.cond I (fun h1=>?_) (fun h1=>?_)
 ·have h1:d.2≠0:=by simpa using h1
  rw[if_pos h1]
  repeat' (first|refine zh ?_|intro (bk:Nat))
  refine HR.ret Tryz.func163 I [] (fun _ _=>trivial) ?_
  exact fun w' hw=>⟨(V.ta,(a1,c1)),rfl,trivial,hw.pick [2,3,4,5,6,7,8,9,10,11] I rfl⟩
 have h1:¬d.2≠0:=by simpa using h1
 rw[if_neg h1]
 have h0:(jAA f.da).2=0:=by rw[← hd];omega
 obtain ⟨g1,g2,g3⟩:=jPm h0
 rw[← hd]at g1 g2 g3
 have hld:=jLo g2 g3
 repeat' (first|refine zh ?_|intro (bk:Nat))
 refine HR.Jf [(0,true),(1,true),(2,true),(3,true),(4,true),(5,true),(6,true),(7,true),(8,true),(9,true),(10,true),(11,true),(12,true),(13,true),(14,true),(15,true),(16,true),(17,true),(18,true),(19,true),(21,true),(20,false),(22,false),(23,true),(24,true),(25,true)] 26 [1,2] I I Jc (by kernel_rfl) ?_
 repeat' (first|refine zd ?_|fail)
 refine HD.one I ?_
 refine HL.jR fn218 I I (fun w1 hw1=>jLp a.links f.fr _ w1 ((Rd.own 4 rfl).at hw1) (by omega)) ?_
 refine HL.back [1,2] I I ?_
 refine HD.one I ?_
 refine HL.JQ jRj I I (fun w1 hw1=>jG4 a.table a.addr f.fr (jB9 a.links f.fr) d.1 _ v2 w1 ((Rd.own 3 rfl).at hw1) ((Rd.own 0 rfl).at hw1) (by omega) (by omega)) ?_
 intro v3
 refine HL.shape 0 I fun a3 c3 hv=>?_
 subst hv
 refine HL.back [2,3] I I ?_
 repeat' (first|refine zd ?_|fail)
 refine HD.last I ?_
 repeat' (first|refine zn ?_|intro (bk:Nat))
 refine HR.ent (H':=cTa v2 d.1::jT bf (frC f) 75::stH b { V with li:=(a1,c1),ta:=(a3,c3) } { a with table:=jEM a.table a.addr f.fr (jB9 a.links f.fr) d.1 } now) (Ent.pick [1,2,3,0,5,6,7,8,9,10,11,12] I I) ?_
 rw[← hg]
 repeat' (first|refine zh ?_|refine HL.jR fn219 I I (fun w1 hw1=>jGj d.1 (fun r=>(r.dest==0)&&decide (r.cost≤200)) 220 [] v2 w1 fn220 (fun r _ w2 _=>jPA r w2) ((Rd.own 0 rfl).at hw1) (by omega)) ?_|intro (bk:Nat))
 rw[hld]
 repeat' (first|refine zh ?_|apply zb ?_ ?_|exact zc|(refine zi fun hb=>?_;try simp at hb)|intro (bk:Nat))
 refine HR.cond I (fun h2=>?_) (fun h2=>?_)
 ·have h2:(decide (g.poll>0)&&(g.parent==255)&&(kL d.1 0).2)=true:=h2
  have h3:g.poll>0∧g.parent=255∧(kL d.1 0).2=true:=by simpa[and_assoc]using h2
  rw[if_pos h3]
  repeat' (first|refine zh ?_|intro (bk:Nat))
  refine HR.fin Tryz.func163 I [] (fun _ _=>trivial) ?_
  exact fun w' hw=>⟨((a3,c3),(a1,c1)),rfl,trivial,hw.pick [2,3,4,5,6,7,8,9,10,11] I rfl⟩
 ·have h2:(decide (g.poll>0)&&(g.parent==255)&&(kL d.1 0).2)=false:=h2
  have h3:¬(g.poll>0∧g.parent=255∧(kL d.1 0).2=true):=by
   intro e
   have:(decide (g.poll>0)&&(g.parent==255)&&(kL d.1 0).2)=true:=by simpa[and_assoc]using e
   rw[h2]at this;cases this
  rw[if_neg h3]
  repeat' (first|refine zh ?_|intro (bk:Nat))
  refine HR.fin Tryz.func163 I [] (fun _ _=>trivial) ?_
  exact fun w' hw=>⟨((a3,c3),(a1,c1)),rfl,trivial,hw.pick [2,3,4,5,6,7,8,9,10,11] I rfl⟩
end Go.Proofs.YtgfdoognildoeaaGreat
namespace Go.Proofs.YtgfdoognildoeaaGreat
open Go.GX Go.RowKit
attribute [local irreducible] Calls Run jZ jf JK HR HL HD jT jG JY Rd jK jY
open Nd
theorem jDM (fr now:Int) (k:Nat) (n:Nd):Nd.drain fr now (k+1) n=if (zu n.boxes fr now 120).2.2 then Nd.drain fr now k (queue { n with boxes:=(zu n.boxes fr now 120).2.1 } { (zu n.boxes fr now 120).1 with fr:=n.addr }).1 else { n with boxes:=(zu n.boxes fr now 120).2.1 }:=rfl
theorem jFp (b:Nat) (V:NV) (n:Nd) (now:Int) (f:Fr) (B:Base) (w:World) (hw:Sat B (stH b V n now) w) (ho:Ord n) (hf:Tp.okN f.fr=true) (hne:f.fr≠n.addr):
  Calls Tryz.prog 164 #[ptr b,.agg ⟨frC f⟩] w fun e w'=>∃x:SV×SV×SV×SV,e= .returned (.tuple ⟨[]⟩)∧True∧Sat ⟨w,Zn (stH b V n now)⟩ (stH b { V with ch:=x.1,ta:=x.2.1,ou:=x.2.2.1,bo:=x.2.2.2 } (polled n f now) now) w':=by
 have h24:=jMk ho
 have hk251:=klen ho
 have hb16:=ho.boxes
 obtain ⟨C,hC⟩:∃C,C=child n.children f.fr:=⟨_,rfl⟩
 obtain ⟨TT,hTT⟩:∃TT,TT=jEM n.table n.addr f.fr 10 [⟨f.fr,f.sq,0,0⟩]:=⟨_,rfl⟩
 have ho2:Ord { n with children:=C,table:=TT }:=by
  rw[hC,hTT]
  obtain ⟨g1,g2⟩:=jAP (fr:=f.fr) (cost:=10) (adv:=[⟨f.fr,f.sq,0,0⟩]) ho.table
  obtain ⟨c1,c2⟩:=kE ho.kids f.fr
  refine { ho with table:=g1,kids:=c1,kid:=fun x hx=>?_ }
  rcases (c2 x).1 hx with rfl|hx
  ·exact ⟨hf,hne⟩
  ·exact ho.kid x hx
 have hsp:polled n f now=Nd.drain f.fr now 17 { n with children:=C,table:=TT }:=by rw[hC,hTT];rfl
 obtain ⟨Z,hZ⟩:∃Z,Z=polled n f now:=⟨_,rfl⟩
 rw[← hZ]
 rw[hsp]at hZ
 refine jg (stH b V n now) (hw) Tryz.func164 I (Nat.le_of_ble_eq_true I) ?_
 refine HR.sub (σ':=[(0,ptr b),(1,.agg ⟨frC f⟩)]) ⟨I,I,trivial⟩ ?_
 refine HR.ctl I ?_
 refine HR.region ?_
 refine HL.box I I ?_
 intro bf
 repeat' (first|refine zh ?_|intro (bk:Nat))
 refine HR.j4 [(0,true),(1,true),(2,true),(3,true),(4,true),(5,true),(6,true),(7,false),(8,true)] [0,1] I I Jc (by kernel_rfl) ?_
 repeat' (first|refine zd ?_|fail)
 refine HD.one I ?_
 refine HL.jR jPT I I (fun w1 hw1=>ZG n.children f.fr _ w1 ((Rd.own 5 rfl).at hw1) (by omega)) ?_
 refine HL.back [0,1] I I ?_
 repeat' (first|refine zd ?_|fail)
 refine HD.nil ?_
 refine HR.join (ι:=SV) (fun _=>True) (fun _=>[(0,ptr b),(3,ptr bf)]) (fun x=>jT bf (frC f) 75::stH b { V with ch:=x } { n with children:=C } now) (fun x _=>?_) (fun hj=>?_)
 rotate_left
 ·refine HR.cond I (fun h1=>?_) (fun h1=>?_)
  ·have h1:(!decide (f.fr∈n.children))=true:=h1
   have h2:¬f.fr∈n.children:=by simpa using h1
   have hcs:=jFS ho.kids h2
   obtain ⟨L,hL⟩:∃L,L=n.children++[f.fr]:=⟨_,rfl⟩
   have hLl:L.length=n.children.length+1:=by rw[hL];simp
   have hLs:Tf.srt L=C:=by rw[hL,hcs,hC]
   have hLp:L.length=C.length:=by rw[← hLs];exact (List.mergeSort_perm _ _).length_eq.symm
   repeat' (first|refine zh ?_|intro (bk:Nat))
   refine HR.Jf [(0,true),(1,true),(2,true),(3,true),(4,true),(5,true),(6,true),(7,true),(8,false),(9,false),(10,true),(11,true),(12,true)] 13 [0,1] I I Jc (by kernel_rfl) ?_
   repeat' (first|refine zd ?_|fail)
   refine HD.one I ?_
   refine HL.jv Jw I I I I I (by decide) (by decide) ?_
   intro va
   refine HL.back [1,2] I I ?_
   refine HD.one I ?_
   refine HL.ZN 6 I Jw (Rd.own 0 I) I I I I (jF I) (by omega) (by omega) ?_
   intro v1
   refine HL.back [1,2] I I ?_
   repeat' (first|refine zd ?_|fail)
   refine HD.last I ?_
   refine HL.shape 6 I fun a1 c1 hv=>?_
   subst hv
   repeat' (first|refine zn ?_|intro (bk:Nat))
   refine HR.ent (H':=[jG (.slice a1 (n.children.length+1) c1) 3 1 (n.children.length+1) (cellsOf iC n.children++iC f.fr),_,_,_,_,_,_,_,_,_,_]) (Ent.pick [6,1,2,3,4,5,7,8,9,10,11] I I) ?_
   rw[← hLl,show cellsOf iC n.children++iC f.fr=cellsOf iC L from by rw[hL,jP];rfl]
   repeat' (first|refine zh ?_|intro (bk:Nat))
   refine HL.Jh (r:=fun _:Unit=> .tuple #[]) (Q:=fun _=>True) (G0:=[cI (.slice a1 L.length c1) L]) (H0:=[_,_,_,_,_,_,_,_,_,_]) (G:=fun _=>[jG (.slice a1 L.length c1) 3 1 L.length (cellsOf iC (Tf.srt L))]) jQT I I I (fun w1 hw1=>jBo _ _ L w1 (hw1.vw (i:=0) I) (by omega)) ?_
   intro _ _
   rw[hLs]
   repeat' (first|refine zn ?_|intro (bk:Nat))
   refine hj (a1,c1) _ _ trivial ⟨I,I,trivial⟩ ?_
   rw[hLp]
   exact Ent.pick [1,2,3,4,5,0,6,7,8,9,10] I I
  ·have h1:(!decide (f.fr∈n.children))=false:=h1
   have h2:f.fr∈n.children:=by simpa using h1
   have hCn:C=n.children:=by rw[hC];unfold child;rw[if_pos h2]
   refine HR.skip ?_
   refine hj V.ch _ _ trivial ⟨I,I,trivial⟩ ?_
   rw[hCn]
   exact Ent.refl
 repeat' (first|refine zh ?_|intro (bk:Nat))
 refine HR.Jf [(0,true),(1,true),(2,true),(3,true),(4,true),(5,true),(6,true),(7,true),(8,true),(9,true),(10,true),(11,true),(12,true),(13,true),(14,true),(15,true),(16,true),(17,true),(18,false),(19,false),(20,true),(21,true),(22,true)] 23 [0,1] I I Jc (by kernel_rfl) ?_
 repeat' (first|refine zd ?_|fail)
 refine HD.one I ?_
 refine HL.jv Je I I I I I (by decide) (by decide) ?_
 intro va
 refine HL.back [1,2] I I ?_
 refine HD.one I ?_
 refine HL.JQ jRj I I (fun w1 hw1=>jG4 n.table n.addr f.fr 10 [⟨f.fr,f.sq,0,0⟩] _ va w1 ((Rd.own 3 rfl).at hw1) ((Rd.own 0 rfl).at hw1) (by omega) (show 1≤1000 by decide)) ?_
 intro v2
 refine HL.shape 0 I fun a2 c2 hv=>?_
 subst hv
 rw[← hTT]
 refine HL.back [2,3] I I ?_
 repeat' (first|refine zd ?_|fail)
 refine HD.last I ?_
 repeat' (first|refine zn ?_|intro (bk:Nat))
 refine HR.ent (H':=jT bf (frC f) 75::stH b { V with ch:=x,ta:=(a2,c2) } { n with children:=C,table:=TT } now) (Ent.pick [2,3,0,5,6,7,8,9,10,11,12] I I) ?_
 repeat' (first|refine zh ?_|intro (bk:Nat))
 refine HR.loop (ι:=Nat×Nd×SV×SV) (fun y=>Ord y.2.1∧Z=Nd.drain f.fr now y.1 y.2.1∧y.2.1.boxes.length<y.1) (fun _=>[(0,ptr b),(3,ptr bf)]) (fun y=>jT bf (frC f) 75::stH b { V with ch:=x,ta:=(a2,c2),ou:=y.2.2.1,bo:=y.2.2.2 } y.2.1 now) (fun y=>y.2.1.boxes.length) (17,{ n with children:=C,table:=TT },V.ou,V.bo) ⟨ho2,hZ,by show n.boxes.length<17;omega⟩ ⟨I,I,trivial⟩ Ent.refl ?_
 rintro ⟨K,p,y1,y2⟩ ⟨hpo,hZ1,hK⟩ ih
 have hpo:Ord p:=hpo
 have hZ1:Z=Nd.drain f.fr now K p:=hZ1
 have hK:p.boxes.length<K:=hK
 have hp16:=hpo.boxes
 obtain ⟨K,rfl⟩:∃K',K=K'+1:=⟨K-1,by omega⟩
 rw[jDM]at hZ1
 have hbl:=jCS p.boxes f.fr now 120
 obtain ⟨r,hr⟩:∃r,r=zu p.boxes f.fr now 120:=⟨_,rfl⟩
 rw[← hr]at hZ1 hbl
 obtain ⟨hbl1,hbl2⟩:=hbl
 have hpb:Ord { p with boxes:=r.2.1 }:=hpo.zQ hbl1
 repeat' (first|refine zh ?_|intro (bk:Nat))
 refine HR.join (ι:=Value×Nat) (fun _=>True) (fun z=>[(0,ptr b),(3,ptr bf),(4,ptr z.2),(5,z.1),(6,.bool r.2.2)]) (fun z=>jT z.2 (frC r.1) 75::cMa z.1 r.2.1::jT bf (frC f) 75::stH b { V with ch:=x,ta:=(a2,c2),ou:=y1,bo:=y2 } p now) (fun z _=>?_) (fun hj=>?_)
 rotate_left
 ·refine HR.kM [0,1] I I Jc ?_
  refine za 0 ?_
  refine za 1 ?_
  refine za 2 ?_
  refine za 3 ?_
  refine za 4 ?_
  refine za 5 ?_
  refine za 6 ?_
  refine za 7 ?_
  refine za 8 ?_
  refine za 9 ?_
  refine za 10 ?_
  refine HA.two 11 16 (by kernel_rfl) I I ?_ ?_
  ·refine HL.JC (r:=fun v':Value=> .tuple ⟨[.agg ⟨frC r.1⟩,v',.bool r.2.2]⟩) (Q:=fun _=>True) (G:=fun v'=>[cMa v' r.2.1]) jRi I I (fun w1 hw1=>by rw[hr];exact jFW p.boxes f.fr now 120 _ w1 ((Rd.own 6 rfl).at hw1) (by omega)) ?_
   intro v3 _
   refine HL.jh [1,2] I I ?_
   refine za 12 ?_
   refine za 13 ?_
   refine za 14 ?_
   refine za 15 ?_
   refine HA.one 16 (by kernel_rfl) I ?_
   refine HL.alloc I I ?_
   intro b4
   refine HL.jh [2,3] I I ?_
   refine HA.one 17 (by kernel_rfl) I ?_
   refine HL.S 0 I I I I I ?_
   refine HL.jh [2,3] I I ?_
   refine za 18 ?_
   refine za 19 ?_
   refine HA.done (by kernel_rfl) ?_
   exact hj (v3,b4) _ _ trivial ⟨I,I,I,I,I,trivial⟩ Ent.refl
  ·refine HL.alloc I I ?_
   intro b4
   refine HL.jh [1,2] I I ?_
   refine HA.one 11 (by kernel_rfl) I ?_
   refine HL.JC (r:=fun v':Value=> .tuple ⟨[.agg ⟨frC r.1⟩,v',.bool r.2.2]⟩) (Q:=fun _=>True) (G:=fun v'=>[cMa v' r.2.1]) jRi I I (fun w1 hw1=>by rw[hr];exact jFW p.boxes f.fr now 120 _ w1 ((Rd.own 7 rfl).at hw1) (by omega)) ?_
   intro v3 _
   refine HL.jh [2,3] I I ?_
   refine za 12 ?_
   refine za 13 ?_
   refine za 14 ?_
   refine za 15 ?_
   refine HA.one 17 (by kernel_rfl) I ?_
   refine HL.S 1 I I I I I ?_
   refine HL.jh [2,3] I I ?_
   refine za 18 ?_
   refine za 19 ?_
   refine HA.done (by kernel_rfl) ?_
   exact hj (v3,b4) _ _ trivial ⟨I,I,I,I,I,trivial⟩ (Ent.pick [1,0,2,3,4,5,6,7,8,9,10,11,12] I I)
 obtain ⟨v3,b4⟩:=z
 repeat' (first|refine zh ?_|intro (bk:Nat))
 refine HL.shape (v:=v3) (e:=166) (sz:=10) (n:=r.2.1.length) (xs:=cellsOf maC r.2.1) 1 I fun a3 c3 hv=>?_
 subst hv
 repeat' (first|refine zh ?_|intro (bk:Nat))
 refine HR.cond I (fun h1=>?_) (fun h1=>?_)
 ·have h1:r.2.2=false:=by simpa using h1
  rw[if_neg (by rw[h1];decide)]at hZ1
  rw[hZ1]
  repeat' (first|refine zh ?_|intro (bk:Nat))
  refine HR.ret Tryz.func164 I [] (fun _ _=>trivial) ?_
  exact fun w' hw=>⟨(x,(a2,c2),y1,(a3,c3)),rfl,trivial,hw.pick [3,4,5,6,7,1,9,10,11,12] I rfl⟩
 have h1:r.2.2=true:=by simpa using h1
 rw[if_pos h1]at hZ1
 repeat' (first|refine zh ?_|intro (bk:Nat))
 refine HL.ent (Ent.pick [3,4,5,6,7,1,9,10,11,12,2] I I) ?_
 refine HL.Jh (r:=fun _:SV=> .bool (queue { p with boxes:=r.2.1 } { r.1 with fr:=p.addr }).2) (Q:=fun _=>True) (G0:=stH b { V with ch:=x,ta:=(a2,c2),ou:=y1,bo:=(a3,c3) } { p with boxes:=r.2.1 } now) (H0:=[_]) (G:=fun z=>stH b { V with ch:=x,ta:=(a2,c2),ou:=z,bo:=(a3,c3) } (queue { p with boxes:=r.2.1 } { r.1 with fr:=p.addr }).1 now) jMF I I I (fun w1 hw1=>Zz b { V with ch:=x,ta:=(a2,c2),ou:=y1,bo:=(a3,c3) } { p with boxes:=r.2.1 } now { r.1 with fr:=p.addr } _ w1 (hw1.pick [0,1,2,3,4,5,6,7,8,9] I I) hpb) ?_
 intro z _
 have hqb:(queue { p with boxes:=r.2.1 } { r.1 with fr:=p.addr }).1.boxes.length=r.2.1.length:=by
  obtain ⟨q,l,e⟩:=jDm { p with boxes:=r.2.1 } { r.1 with fr:=p.addr }
  rw[e]
 repeat' (first|refine zh ?_|intro (bk:Nat))
 exact ih (K,(queue { p with boxes:=r.2.1 } { r.1 with fr:=p.addr }).1,z,(a3,c3)) _ _ ⟨hpb.queue _,hZ1,by show (queue { p with boxes:=r.2.1 } { r.1 with fr:=p.addr }).1.boxes.length<K;have:=hbl2 h1;omega⟩ (by show (queue { p with boxes:=r.2.1 } { r.1 with fr:=p.addr }).1.boxes.length<p.boxes.length;have:=hbl2 h1;omega) ⟨I,I,trivial⟩ (Ent.pick [10,0,1,2,3,4,5,6,7,8,9] I I)
end Go.Proofs.YtgfdoognildoeaaGreat
namespace Go.Proofs.YtgfdoognildoeaaGreat
open Go.GX Go.RowKit
attribute [local irreducible] Calls Run jZ jf JK HR HL HD jT jG JY Rd jK jY
open Nd
theorem fn165:IsFn Tryz.prog 165:=⟨⟨_,_,Tryz.func165,rfl,by decide⟩⟩
theorem jDX (b:Nat) (V:NV) (n:Nd) (now:Int) (f:Fr) (B:Base) (w:World) (hw:Sat B (stH b V n now) w) (ho:Ord n) (hP:Pts V n) (hsm:∀p∈n.parts,jER p) (hpl:n.parts.length≤1000) (hfd:f.da.length≤1000) (hhp:0≤f.hp∧f.hp≤15):
  Calls Tryz.prog 165 #[ptr b,.agg ⟨frC f⟩] w fun e w'=>∃V':NV,e= .returned (.tuple ⟨[]⟩)∧Pts V' (received n f now)∧Sat ⟨w,Zn (stH b V n now)⟩ (stH b V' (received n f now) now) w':=by
 obtain ⟨hhp0,hhp1⟩:=hhp
 have hse:=ho.seen
 have hml:=jA0 n.seen ⟨f.so,f.sq⟩
 obtain ⟨r,hr⟩:∃r,r=Z7 n.seen ⟨f.so,f.sq⟩:=⟨_,rfl⟩
 obtain ⟨a,ha⟩:∃a:Nd,a={ n with seen:=r.1 }:=⟨_,rfl⟩
 obtain ⟨q,hq⟩:∃q,q=jCm a.parts f.so now f.da:=⟨_,rfl⟩
 rw[← hr]at hml
 have hao:Ord a:=by rw[ha];exact { ho with seen:=hml }
 have hap:a.parts=n.parts:=by rw[ha]
 have hPa:Pts V a:=⟨by rw[hap];exact hP.eq,hP.sh⟩
 have hps:V.ps.length≤1000:=by rw[← JH,hP.eq];exact hpl
 have hpm:∀p∈V.ps,jER p.pt:=fun p hp=>hsm p.pt (by rw[← hP.eq];exact List.mem_map.2 ⟨p,hp,rfl⟩)
 have hsp:received n f now=if r.2=false then a else if f.ta=a.addr then (if q.e≠0 then a else if q.ok then deliver { a with parts:=q.l } ⟨f.so,q.t⟩else { a with parts:=q.l })else if a.poll>0∨f.hp=15 then lose a else (queue a { f with fr:=a.addr,dst:=255,hp:=f.hp+1 }).1:=by rw[hq,ha,hr];rfl
 rw[hsp]
 refine jg (stH b V n now) (hw) Tryz.func165 I (Nat.le_of_ble_eq_true I) ?_
 refine HR.sub (σ':=[(0,ptr b),(1,.agg ⟨frC f⟩)]) ⟨I,I,trivial⟩ ?_
 refine HR.ctl I ?_
 refine HR.region ?_
 refine HL.box I I ?_
 intro bf
 repeat' (first|refine zh ?_|intro (bk:Nat))
 refine HR.j4 [(0,true),(1,true),(2,true),(3,true),(4,true),(5,true),(6,true),(7,true),(8,true),(9,true),(10,false),(11,true),(12,true),(13,true),(14,true),(15,true)] [0,1] I I Jc (by kernel_rfl) ?_
 repeat' (first|refine zd ?_|fail)
 refine HD.one I ?_
 refine HL.JC (r:=fun v':Value=> .tuple ⟨[v',.bool r.2]⟩) (Q:=fun _=>True) (G:=fun v'=>[cPr v' r.1]) fn222 I I (fun w1 hw1=>by rw[hr];exact jJS n.seen ⟨f.so,f.sq⟩ _ w1 ((Rd.own 7 rfl).at hw1) (by omega)) ?_
 intro v1 _
 refine HL.shape 0 I fun a1 c1 hv=>?_
 subst hv
 refine HL.back [1,2] I I ?_
 repeat' (first|refine zd ?_|fail)
 refine HD.nil ?_
 repeat' (first|refine zh ?_|intro (bk:Nat))
 refine HR.ent (H':=jT bf (frC f) 75::stH b { V with se:=(a1,c1) } { n with seen:=r.1 } now) (Ent.pick [1,2,3,4,5,6,7,0,9,10,11] I I) ?_
 rw[← ha]
 refine HR.cond I (fun h1=>?_) (fun h1=>?_)
 ·have h1:r.2=false:=by simpa using h1
  rw[if_pos h1]
  repeat' (first|refine zh ?_|intro (bk:Nat))
  refine HR.fin Tryz.func165 I [] (fun _ _=>trivial) ?_
  exact fun w' hw=>⟨{ V with se:=(a1,c1) },rfl,⟨hPa.eq,hPa.sh⟩,hw.pick [1,2,3,4,5,6,7,8,9,10] I rfl⟩
 have h1:¬r.2=false:=by simpa using h1
 rw[if_neg h1]
 repeat' (first|refine zh ?_|intro (bk:Nat))
 refine HR.JF Jc (by kernel_rfl) ?_
 repeat' (first|refine zq ?_|apply zb ?_ ?_|exact zc|(refine zi fun hb=>?_;try simp at hb))
 refine HR.cond I (fun h2=>?_) (fun h2=>?_)
 ·have h2:f.ta=a.addr:=eq_of_beq h2
  rw[if_pos h2]
  repeat' (first|refine zh ?_|intro (bk:Nat))
  refine HR.j4 [(0,true),(1,true),(2,true),(3,true),(4,true),(5,true),(6,true),(7,true),(8,true),(9,true),(10,true),(11,true),(12,true),(13,false),(14,true),(15,true),(16,true),(17,true),(18,true),(19,true),(20,true),(21,true),(22,true)] [0,1] I I Jc (by kernel_rfl) ?_
  repeat' (first|refine zd ?_|fail)
  refine HD.one I ?_
  refine HL.JC (r:=fun y:Value×List PtV=> .tuple ⟨[y.1,str q.t,.bool q.ok,.int .i64 q.e]⟩) (Q:=fun y=>jEL y q.l) (G:=fun y=>jF7 y) fn223 I I (fun w1 hw1=>by rw[hq,← hPa.eq];exact jNw V.ps f.so now f.da _ w1 (RdPts.own 8 9 hw1 I I) hpm hps hfd) ?_
  rintro ⟨v3,ps⟩ ⟨hg1,hg2⟩
  refine HL.shape (v:=v3) (e:=173) (sz:=6) (n:=ps.length) (xs:=cellsOf ptC ps) 0 I fun a3 c3 hv=>?_
  subst hv
  have hq1:pts ps=q.l:=hg1
  have hq2:∀p∈ps,jA9 p:=hg2
  refine HL.back [2,3] I I ?_
  repeat' (first|refine zd ?_|fail)
  refine HD.nil ?_
  repeat' (first|refine zh ?_|intro (bk:Nat))
  refine HR.cond I (fun h3=>?_) (fun h3=>?_)
  ·have h3:q.e≠0:=by simpa using h3
   rw[if_pos h3]
   repeat' (first|refine zh ?_|intro (bk:Nat))
   refine HR.ret Tryz.func165 I [] (fun _ _=>trivial) ?_
   exact fun w' hw=>⟨{ V with se:=(a1,c1) },rfl,⟨hPa.eq,hPa.sh⟩,hw.pick [3,4,5,6,7,8,9,10,11,12] I rfl⟩
  have h3:¬q.e≠0:=by simpa using h3
  rw[if_neg h3]
  repeat' (first|refine zh ?_|intro (bk:Nat))
  obtain ⟨V3,hV3⟩:∃V3:NV,V3=⟨V.ta,V.li,V.ou,V.ch,V.bo,(a1,c1),(a3,c3),V.ib,ps⟩:=⟨_,rfl⟩
  have hao3:Ord { a with parts:=q.l }:=hao.ZP _
  refine HR.ent (H':=jT bf (frC f) 75::stH b ⟨V.ta,V.li,V.ou,V.ch,V.bo,(a1,c1),(a3,c3),V.ib,ps⟩ { a with parts:=q.l } now) (Ent.pick [2,3,4,5,6,7,8,9,0,1,12] I I) ?_
  rw[← hV3]
  have hP3:∀(ib:SV) (z:Nd),z.parts=q.l→Pts { V3 with ib:=ib } z:=fun ib z hz=>⟨by rw[hz,hV3];exact hq1,by rw[hV3];exact hq2⟩
  refine HR.cond I (fun h4=>?_) (fun h4=>?_)
  ·have h4:q.ok=true:=h4
   rw[if_pos h4]
   repeat' (first|refine zh ?_|intro (bk:Nat))
   refine HL.ent (Ent.pick [1,2,3,4,5,6,7,8,9,10] I I) ?_
   refine HL.Jh (r:=fun _:SV=> .tuple ⟨[]⟩) (Q:=fun _=>True) (G0:=stH b V3 { a with parts:=q.l } now) (H0:=[]) (G:=fun x=>stH b { V3 with ib:=x } (deliver { a with parts:=q.l } ⟨f.so,q.t⟩) now) jR0 I I I (fun w1 hw1=>jBB b V3 { a with parts:=q.l } now ⟨f.so,q.t⟩ _ w1 (hw1.pick [0,1,2,3,4,5,6,7,8,9] I I) hao3) ?_
   intro x _
   repeat' (first|refine zh ?_|intro (bk:Nat))
   refine HR.fin Tryz.func165 I [] (fun _ _=>trivial) ?_
   exact fun w' hw=>⟨{ V3 with ib:=x },rfl,hP3 x _ (ZT _ _),hw.pick [0,1,2,3,4,5,6,7,8,9] I rfl⟩
  ·have h4:q.ok=false:=h4
   rw[if_neg (by rw[h4];decide)]
   repeat' (first|refine zh ?_|intro (bk:Nat))
   refine HR.fin Tryz.func165 I [] (fun _ _=>trivial) ?_
   exact fun w' hw=>⟨V3,rfl,hP3 V3.ib _ rfl,hw.pick [1,2,3,4,5,6,7,8,9,10] I rfl⟩
 have h2:¬f.ta=a.addr:=by simpa using h2
 rw[if_neg h2]
 repeat' (first|refine zh ?_|apply zb ?_ ?_|exact zc|(refine zi fun hb=>?_;try simp at hb)|intro (bk:Nat))
 refine HR.cond I (fun h3=>?_) (fun h3=>?_)
 ·have h3:(decide (a.poll>0)||(f.hp==15))=true:=h3
  have h4:a.poll>0∨f.hp=15:=by simpa using h3
  rw[if_pos h4]
  repeat' (first|refine zh ?_|intro (bk:Nat))
  refine HL.ent (Ent.pick [1,2,3,4,5,6,7,8,9,10] I I) ?_
  refine HL.Jh (r:=fun _:Unit=> .tuple ⟨[]⟩) (Q:=fun _=>True) (G0:=[jCV b { V with se:=(a1,c1) } a now]) (H0:=ndH { V with se:=(a1,c1) } a) (G:=fun _=>[jCV b { V with se:=(a1,c1) } (lose a) now]) jJo I I I (fun w1 hw1=>Z0 b { V with se:=(a1,c1) } a now _ w1 (hw1.pick [0] I I) hao.lost) ?_
  intro _ _
  repeat' (first|refine zh ?_|intro (bk:Nat))
  refine HR.fin Tryz.func165 I [] (fun _ _=>trivial) ?_
  exact fun w' hw=>⟨{ V with se:=(a1,c1) },rfl,⟨hPa.eq,hPa.sh⟩,hw.pick [0,1,2,3,4,5,6,7,8,9] I rfl⟩
 ·have h3:(decide (a.poll>0)||(f.hp==15))=false:=h3
  have h4:¬(a.poll>0∨f.hp=15):=by
   intro e
   have:(decide (a.poll>0)||(f.hp==15))=true:=by simpa using e
   rw[h3]at this;cases this
  rw[if_neg h4]
  repeat' (first|refine zh ?_|intro (bk:Nat))
  refine HL.ent (Ent.pick [1,2,3,4,5,6,7,8,9,10] I I) ?_
  refine HL.Jh (r:=fun _:SV=> .bool (queue a { f with fr:=a.addr,dst:=255,hp:=f.hp+1 }).2) (Q:=fun _=>True) (G0:=stH b { V with se:=(a1,c1) } a now) (H0:=[]) (G:=fun x=>stH b { V with se:=(a1,c1),ou:=x } (queue a { f with fr:=a.addr,dst:=255,hp:=f.hp+1 }).1 now) jMF I I I (fun w1 hw1=>Zz b { V with se:=(a1,c1) } a now { f with fr:=a.addr,dst:=255,hp:=f.hp+1 } _ w1 (hw1.pick [0,1,2,3,4,5,6,7,8,9] I I) hao) ?_
  intro x _
  repeat' (first|refine zh ?_|intro (bk:Nat))
  refine HR.fin Tryz.func165 I [] (fun _ _=>trivial) ?_
  exact fun w' hw=>⟨{ V with se:=(a1,c1),ou:=x },rfl,⟨by rw[zK];exact hPa.eq,hPa.sh⟩,hw.pick [0,1,2,3,4,5,6,7,8,9] I rfl⟩
end Go.Proofs.YtgfdoognildoeaaGreat
namespace Go.Proofs.YtgfdoognildoeaaGreat
open Go.GX Go.RowKit
attribute [local irreducible] Calls Run jZ jf JK HR HL HD jT jG JY Rd jK jY
open Nd
theorem fn87:IsFn Tryz.prog 87:=⟨⟨_,_,Tryz.func87,rfl,by decide⟩⟩
theorem KD (n:Nd) (f:Fr):(JD n f).parts=n.parts:=by
 unfold JD
 simp only
 split
 ·rfl
 ·split<;>rfl
theorem jCN (fr now:Int):∀(k:Nat) (n:Nd),(Nd.drain fr now k n).parts=n.parts
 |0,_=>rfl
 |k+1,n=>by
  rw[jDM]
  split
  ·rw [jCN fr now k,zK]
  ·rfl
theorem jBE (n:Nd) (f:Fr) (now:Int):(polled n f now).parts=n.parts:=by
 unfold polled;rw[jCN]
theorem jKY (V:NV) (n:Nd) (now:Int) (f:Fr) (w:World) (h:OkN w V n) (hs:SmN n) (hfl:f.da.length≤9223372036854775807):
  Calls Tryz.prog 87 #[.agg ⟨ndC V n⟩,.int .i64 now,.agg ⟨frC f⟩] w fun e w'=>∃V':NV,e= .returned (.agg ⟨ndC V' (hear n now f)⟩)∧Pts V' (hear n now f)∧Sat (base w) (ndH V' (hear n now f)) w':=by
 obtain ⟨m,hm⟩:∃m,m=order n:=⟨_,rfl⟩
 have ho:Ord m:=by rw[hm];exact Ja n
 have hmp:m.parts=n.parts:=by rw[hm];rfl
 obtain ⟨T,hT⟩:∃T,T=tick now:=⟨_,rfl⟩
 obtain ⟨c,hc⟩:∃c:Bool,c=((!(jCe f==0)||(f.fr==m.addr))||(!(f.dst==m.addr)&&!(f.dst==255))):=⟨_,rfl⟩
 have hcc:c=true↔(jCe f≠0∨f.fr=m.addr∨(f.dst≠m.addr∧f.dst≠255)):=by
  rw[hc];simp[or_assoc]
 have hsp:hear n now f=if jCe f≠0∨f.fr=m.addr∨(f.dst≠m.addr∧f.dst≠255)then m else if f.kd=1 then JD m f else if f.kd=3∧f.dst=m.addr∧m.poll=0 then polled m f T else if f.kd=2∧f.dst=m.addr then received m f T else m:=by rw[hm,hT];rfl
 rw[hsp]
 refine jD Tryz.func87 I (Nat.le_of_ble_eq_true I) ?_
 refine HR.sub (σ':=[(0,.agg ⟨ndC V n⟩),(1,.int .i64 now),(2,.agg ⟨frC f⟩)]) ⟨I,I,I,trivial⟩ ?_
 refine HR.ctl I ?_
 refine HR.region ?_
 refine HL.box I I ?_
 intro bn
 refine HL.box I I ?_
 intro bf
 refine HL.alloc I I ?_
 intro br
 repeat' (first|refine zh ?_|intro (bk:Nat))
 refine HL.JC (r:=fun x:Nat×NV=>ptr x.1) (Q:=fun x=>Pts x.2 m) (G:=fun x=>stH x.1 x.2 m T) jPS I I (fun w1 hw1=>by rw[hm,hT];exact ZF V n now w1 (h.ext hw1.jE) hs) ?_
 rintro ⟨b,V2⟩ hP
 have hP:Pts V2 m:=hP
 refine HL.ent (H':=rsC br::jT bf (frC f) 75::stH b V2 m T) (Ent.pick [10,11,0,1,2,3,4,5,6,7,8,9] I I) ?_
 repeat' (first|refine zh ?_|intro (bk:Nat))
 refine HR.join (ι:=Unit) (fun _=>True) (fun _=>[(5,ptr bf),(6,ptr br),(7,ptr b),(38,.bool c)]) (fun _=>rsC br::jT bf (frC f) 75::stH b V2 m T) (fun _ _=>?_) (fun hj=>?_)
 rotate_left
 ·refine HR.j4 [(0,true),(1,false),(2,true),(3,true),(4,true),(5,true),(6,true),(7,true),(8,true),(9,true),(10,true),(11,true),(12,true),(13,true),(14,true),(15,true),(16,true),(17,true),(18,true),(19,true),(20,true),(21,true),(22,true),(23,true),(24,true),(25,true),(26,true),(27,true)] [1,2] I I Jc (by kernel_rfl) ?_
  repeat' (first|refine zd ?_|fail)
  refine HD.one I ?_
  refine HL.jR fn162 I I (fun w1 _=>jJs f w1 (by omega)) ?_
  refine HL.back [1,2] I I ?_
  repeat' (first|refine zd ?_|fail)
  refine HD.split 14 I (fun hb=>?_) (fun hb=>?_)
  ·have hb:(!(jCe f==0))=true:=hb
   repeat' (first|refine zd ?_|fail)
   refine HD.nil ?_
   refine hj () _ _ trivial ⟨rfl,rfl,rfl,?_,trivial⟩ Ent.refl
   show some (Value.bool true)=some (Value.bool c)
   rw[hc,hb];rfl
  ·have hb:(!(jCe f==0))=false:=hb
   repeat' (first|refine zd ?_|fail)
   refine HD.split 24 I (fun hb2=>?_) (fun hb2=>?_)
   ·have hb2:(f.fr==m.addr)=true:=hb2
    repeat' (first|refine zd ?_|fail)
    refine HD.nil ?_
    refine hj () _ _ trivial ⟨rfl,rfl,rfl,?_,trivial⟩ Ent.refl
    show some (Value.bool true)=some (Value.bool c)
    rw[hc,hb,hb2];rfl
   ·have hb2:(f.fr==m.addr)=false:=hb2
    repeat' (first|refine zd ?_|fail)
    refine HD.split 33 I (fun hb3=>?_) (fun hb3=>?_)
    ·have hb3:(!(f.dst==m.addr))=true:=hb3
     repeat' (first|refine zd ?_|fail)
     refine HD.nil ?_
     refine hj () _ _ trivial ⟨rfl,rfl,rfl,?_,trivial⟩ Ent.refl
     show some (Value.bool (!(f.dst==255)))=some (Value.bool c)
     rw[hc,hb,hb2,hb3];rfl
    ·have hb3:(!(f.dst==m.addr))=false:=hb3
     repeat' (first|refine zd ?_|fail)
     refine HD.nil ?_
     refine hj () _ _ trivial ⟨rfl,rfl,rfl,?_,trivial⟩ Ent.refl
     show some (Value.bool false)=some (Value.bool c)
     rw[hc,hb,hb2,hb3];rfl
 refine HR.cond I (fun h1=>?_) (fun h1=>?_)
 ·rw [if_pos (hcc.1 h1)]
  repeat' (first|refine zh ?_|intro (bk:Nat))
  refine HR.ret Tryz.func87 I [_] (fun w hw=>⟨⟨_,rfl,jS hw 0 I I I I rfl⟩,trivial⟩) ?_
  exact fun w' hw=>⟨V2,rfl,hP,hw.pick [3,4,5,6,7,8,9,10,11] I rfl⟩
 have h2:¬(jCe f≠0∨f.fr=m.addr∨(f.dst≠m.addr∧f.dst≠255)):=fun e=>by rw[hcc.2 e]at h1;cases h1
 rw[if_neg h2]
 have hck:jCe f=0:=Decidable.not_not.1 fun e=>h2 (.inl e)
 have hne:f.fr≠m.addr:=fun e=>h2 (.inr (.inl e))
 obtain ⟨k1,k2,k3,k4,k5,k6,k7⟩:=jED hck
 repeat' (first|refine zh ?_|intro (bk:Nat))
 refine HR.cond I (fun h3=>?_) (fun h3=>?_)
 ·have h3:f.kd=1:=eq_of_beq h3
  rw[if_pos h3]
  repeat' (first|refine zh ?_|intro (bk:Nat))
  refine HL.ent (Ent.pick [2,3,4,5,6,7,8,9,10,11,0] I I) ?_
  refine HL.Jh (r:=fun _:SV×SV=> .tuple ⟨[]⟩) (Q:=fun _=>True) (G0:=stH b V2 m T) (H0:=[_]) (G:=fun x=>stH b { V2 with ta:=x.1,li:=x.2 } (JD m f) T) fn163 I I I (fun w1 hw1=>jMv b V2 m T f _ w1 (hw1.pick [0,1,2,3,4,5,6,7,8,9] I I) ho (by omega)) ?_
  intro x _
  refine HL.ent (Ent.pick [10,0,1,2,3,4,5,6,7,8,9] I I) ?_
  repeat' (first|refine zh ?_|intro (bk:Nat))
  refine HR.ret Tryz.func87 I [_] (fun w hw=>⟨⟨_,rfl,jS hw 0 I I I I rfl⟩,trivial⟩) ?_
  exact fun w' hw=>⟨{ V2 with ta:=x.1,li:=x.2 },rfl,⟨by rw[KD];exact hP.eq,hP.sh⟩,hw.pick [2,3,4,5,6,7,8,9,10] I rfl⟩
 have h3:¬f.kd=1:=by simpa using h3
 rw[if_neg h3]
 repeat' (first|refine zh ?_|intro (bk:Nat))
 refine HR.JF Jc (by kernel_rfl) ?_
 repeat' (first|refine zq ?_|apply zb ?_ ?_|exact zc|(refine zi fun hb=>?_;try simp at hb))
 refine HR.cond I (fun h4=>?_) (fun h4=>?_)
 ·have h4:((f.kd==3)&&(f.dst==m.addr)&&(m.poll==0))=true:=h4
  have h5:f.kd=3∧f.dst=m.addr∧m.poll=0:=by simpa[and_assoc]using h4
  rw[if_pos h5]
  repeat' (first|refine zh ?_|intro (bk:Nat))
  refine HL.ent (Ent.pick [2,3,4,5,6,7,8,9,10,11,0] I I) ?_
  refine HL.Jh (r:=fun _:SV×SV×SV×SV=> .tuple ⟨[]⟩) (Q:=fun _=>True) (G0:=stH b V2 m T) (H0:=[_]) (G:=fun x=>stH b { V2 with ch:=x.1,ta:=x.2.1,ou:=x.2.2.1,bo:=x.2.2.2 } (polled m f T) T) fn164 I I I (fun w1 hw1=>jFp b V2 m T f _ w1 (hw1.pick [0,1,2,3,4,5,6,7,8,9] I I) ho k1 hne) ?_
  intro x _
  refine HL.ent (Ent.pick [10,0,1,2,3,4,5,6,7,8,9] I I) ?_
  repeat' (first|refine zh ?_|intro (bk:Nat))
  refine HR.ret Tryz.func87 I [_] (fun w hw=>⟨⟨_,rfl,jS hw 0 I I I I rfl⟩,trivial⟩) ?_
  exact fun w' hw=>⟨{ V2 with ch:=x.1,ta:=x.2.1,ou:=x.2.2.1,bo:=x.2.2.2 },rfl,⟨by rw[jBE];exact hP.eq,hP.sh⟩,hw.pick [2,3,4,5,6,7,8,9,10] I rfl⟩
 have h4:((f.kd==3)&&(f.dst==m.addr)&&(m.poll==0))=false:=h4
 have h5:¬(f.kd=3∧f.dst=m.addr∧m.poll=0):=by
  intro e
  have:((f.kd==3)&&(f.dst==m.addr)&&(m.poll==0))=true:=by simpa[and_assoc]using e
  rw[h4]at this;cases this
 rw[if_neg h5]
 repeat' (first|refine zh ?_|intro (bk:Nat))
 refine HR.JF Jc (by kernel_rfl) ?_
 repeat' (first|refine zq ?_|apply zb ?_ ?_|exact zc|(refine zi fun hb=>?_;try simp at hb))
 refine HR.cond I (fun h6=>?_) (fun h6=>?_)
 ·have h6:((f.kd==2)&&(f.dst==m.addr))=true:=h6
  have h7:f.kd=2∧f.dst=m.addr:=by simpa using h6
  rw[if_pos h7]
  repeat' (first|refine zh ?_|intro (bk:Nat))
  refine HL.ent (Ent.pick [2,3,4,5,6,7,8,9,10,11,0] I I) ?_
  refine HL.Jh (r:=fun _:NV=> .tuple ⟨[]⟩) (Q:=fun V'=>Pts V' (received m f T)) (G0:=stH b V2 m T) (H0:=[_]) (G:=fun V'=>stH b V' (received m f T) T) fn165 I I I (fun w1 hw1=>jDX b V2 m T f _ w1 (hw1.pick [0,1,2,3,4,5,6,7,8,9] I I) ho hP (by rw[hmp];exact hs.sm) (by rw[hmp];exact hs.pa) (by omega) ⟨k5,k6⟩) ?_
  intro V3 hP3
  refine HL.ent (Ent.pick [10,0,1,2,3,4,5,6,7,8,9] I I) ?_
  repeat' (first|refine zh ?_|intro (bk:Nat))
  refine HR.ret Tryz.func87 I [_] (fun w hw=>⟨⟨_,rfl,jS hw 0 I I I I rfl⟩,trivial⟩) ?_
  exact fun w' hw=>⟨V3,rfl,hP3,hw.pick [2,3,4,5,6,7,8,9,10] I rfl⟩
 have h6:((f.kd==2)&&(f.dst==m.addr))=false:=h6
 have h7:¬(f.kd=2∧f.dst=m.addr):=by
  intro e
  have:((f.kd==2)&&(f.dst==m.addr))=true:=by simpa using e
  rw[h6]at this;cases this
 rw[if_neg h7]
 refine HR.ent (Ent.pick [0,2,3,4,5,6,7,8,9,10,11] I I) ?_
 repeat' (first|refine zh ?_|intro (bk:Nat))
 refine HR.ret Tryz.func87 I [_] (fun w hw=>⟨⟨_,rfl,jS hw 0 I I I I rfl⟩,trivial⟩) ?_
 exact fun w' hw=>⟨V2,rfl,hP,hw.pick [2,3,4,5,6,7,8,9,10] I rfl⟩
end Go.Proofs.YtgfdoognildoeaaGreat
namespace Go.Proofs.YtgfdoognildoeaaGreat
open Go.GX Go.RowKit
attribute [local irreducible] Calls Run jZ jf JK HR HL HD jT jG JY Rd jK jY
open Nd
theorem jRW (a:Int):J6 (iC a)=true:=rfl
end Go.Proofs.YtgfdoognildoeaaGreat
namespace Go.GX
open Go.RowKit
theorem zB {v:Value} {e sz n:Nat} {xs:List Value} {w:World} (h:(jG v e sz n xs).p w):Sl w v xs n:=(show Vw w v e sz n xs from h).sl
theorem jM {G:List Chunk} {c:Chunk} {w:World} (h:(jB G).p w) (hc:c∈G):c.p w:=jGt.mem h c hc
theorem Sat.grp {B:Base} {H G:List Chunk} {w:World} (i:Nat) (hw:Sat B H w) (hi:zH H i=some (jB G)):(jB G).p w:=hw.nth hi
end Go.GX
namespace Go.Proofs.YtgfdoognildoeaaGreat
open Go.GX Go.RowKit
attribute [local irreducible] Calls Run jZ jf JK HR HL HD jT jG JY Rd jK jY
open Nd
theorem jPC {B:Base} {H:List Chunk} {w:World} (h:Sat B H w):Sat B [jB []] w:=Ent.jL8 w (h.pick [] I I)
end Go.Proofs.YtgfdoognildoeaaGreat
namespace Go.Proofs.YtgfdoognildoeaaGreat
open Go.GX Go.RowKit
attribute [local irreducible] Calls Run jZ jf JK HR HL HD jT jG JY Rd jK jY
open Nd
theorem jPz {V:NV} {n:Nd} {w:World} (hg:(jB (ndH V n)).p w) (hp:pts V.ps=n.parts):OkN w V n:=by
 have g1:=jM hg (c:=cTa (sv V.ta n.table.length) n.table) (by simp)
 have g2:=jM hg (c:=cLi (sv V.li n.links.length) n.links) (by simp)
 have g3:=jM hg (c:=cSn (sv V.ou n.out.length) n.out) (by simp)
 have g4:=jM hg (c:=cI (sv V.ch n.children.length) n.children) (by simp)
 have g5:=jM hg (c:=cMa (sv V.bo n.boxes.length) n.boxes) (by simp)
 have g6:=jM hg (c:=cPr (sv V.se n.seen.length) n.seen) (by simp)
 have g7:=jM hg (c:=cPt (sv V.pa V.ps.length) V.ps) (by simp)
 have g8:=jM hg (c:=jB (ptG V.ps)) (by simp)
 have g9:=jM hg (c:=cDe (sv V.ib n.inbox.length) n.inbox) (by simp)
 exact ⟨zB g1,zB g2,zB g3,zB g4,zB g5,zB g6,⟨zB g7,fun p hp=>⟨zB (jM g8 (jDp hp).1),zB (jM g8 (jDp hp).2)⟩⟩,zB g9,hp⟩
abbrev Own (V:NV) (G:List Chunk) (n:Nd):Prop:=∀w2,(jB G).p w2→OkN w2 V n
theorem Pts.own {V:NV} {n:Nd} (h:Pts V n):Own V (ndH V n) n:=fun w2 hg=>jPz hg h.eq
theorem KH {B:Base} {G:List Chunk} {w:World} (h:Sat B G w):Sat B [jB G] w:=by
 have h:Sat B (G++[]) w:=by rw[List.append_nil];exact h
 exact h.group
theorem jHJ (addr poll:Int) (w:World):
  Calls Tryz.prog 36 #[.int .i64 addr,.int .i64 poll] w fun e w'=>∃x:NV×List Chunk,e= .returned (.agg ⟨ndC x.1 (new addr poll)⟩)∧Own x.1 x.2 (new addr poll)∧Sat (base w) [jB x.2] w':=
 (jMs addr poll w).mono fun e w' ⟨V',h1,h2,h3⟩=>⟨(V',ndH V' _),h1,h2.own,KH h3⟩
theorem jK2 (V:NV) (n:Nd) (w:World) (h:OkN w V n) (hs:SmN n):
  Calls Tryz.prog 58 #[.agg ⟨ndC V n⟩] w fun e w'=>∃x:(NV×SV)×List Chunk,e= .returned (.tuple ⟨[.agg ⟨ndC x.1.1 (take n).1⟩,sv x.1.2 (take n).2.length]⟩)∧(Own x.1.1 x.2 (take n).1∧∀w2,(jB x.2).p w2→Sl w2 (sv x.1.2 (take n).2.length) (cellsOf deC (take n).2) (take n).2.length)∧Sat (base w) [jB x.2] w':=
 (jKQ V n w h hs).mono fun e w' ⟨⟨V',y⟩,h1,h2,h3⟩=>⟨((V',y),[jB (ndH V' (take n).1),cDe (sv y (take n).2.length) (take n).2]),h1,
  ⟨fun w2 hg=>h2.own w2 (jM hg (List.mem_cons_self ..)),fun w2 hg=>zB (jM hg (c:=cDe (sv y (take n).2.length) (take n).2) (by simp))⟩,by
   have e1:Ent (base w) (cDe (sv y (take n).2.length) (take n).2::ndH V' (take n).1) (ndH V' (take n).1++[cDe (sv y (take n).2.length) (take n).2]):=Ent.pick [1,2,3,4,5,6,7,8,9,0] I I
   exact KH (Ent.group (G:=ndH V' (take n).1) (H:=[cDe (sv y (take n).2.length) (take n).2]) w' (e1 w' h3))⟩
theorem jK5 (V:NV) (n:Nd) (target:Int) (ur:Bool) (text:By) (w:World) (h:OkN w V n) (hs:SmN n) (htx:text.length≤9223372036854775807):
  Calls Tryz.prog 53 #[.agg ⟨ndC V n⟩,.int .i64 target,.bool ur,str text] w fun e w'=>∃x:NV×List Chunk,e= .returned (.tuple ⟨[.agg ⟨ndC x.1 (send n target ur text).1⟩,.int .i64 (send n target ur text).2]⟩)∧Own x.1 x.2 (send n target ur text).1∧Sat (base w) [jB x.2] w':=
 (jKR V n target ur text w h hs htx).mono fun e w' ⟨V',h1,h2,h3⟩=>⟨(V',ndH V' _),h1,h2.own,KH h3⟩
theorem kP (V:NV) (n:Nd) (f:Fr) (ok:Bool) (w:World) (h:OkN w V n) (hs:SmN n):
  Calls Tryz.prog 44 #[.agg ⟨ndC V n⟩,.agg ⟨frC f⟩,.bool ok] w fun e w'=>∃x:NV×List Chunk,e= .returned (.agg ⟨ndC x.1 (result n f ok)⟩)∧Own x.1 x.2 (result n f ok)∧Sat (base w) [jB x.2] w':=
 (jFo V n f ok w h hs).mono fun e w' ⟨V',h1,h2,h3⟩=>⟨(V',ndH V' _),h1,h2.own,KH h3⟩
theorem jK0 (V:NV) (n:Nd) (now:Int) (w:World) (h:OkN w V n) (hs:SmN n) (hf:∀s∈n.out,fits .i64 s.wt):
  Calls Tryz.prog 79 #[.agg ⟨ndC V n⟩,.int .i64 now] w fun e w'=>∃x:NV×List Chunk,e= .returned (.agg ⟨ndC x.1 (Zr n now)⟩)∧Own x.1 x.2 (Zr n now)∧Sat (base w) [jB x.2] w':=
 (jKN V n now w h hs hf).mono fun e w' ⟨V',h1,h2,h3⟩=>⟨(V',ndH V' _),h1,h2.own,KH h3⟩
theorem jK1 (V:NV) (n:Nd) (now:Int) (w:World) (h:OkN w V n) (hs:SmN n):
  Calls Tryz.prog 80 #[.agg ⟨ndC V n⟩,.int .i64 now] w fun e w'=>∃x:NV×List Chunk,e= .returned (.tuple ⟨[.agg ⟨ndC x.1 (talk n now).1⟩,.agg ⟨frC (talk n now).2.1⟩,.bool (talk n now).2.2]⟩)∧Own x.1 x.2 (talk n now).1∧Sat (base w) [jB x.2] w':=
 (jKP V n now w h hs).mono fun e w' ⟨V',h1,h2,h3⟩=>⟨(V',ndH V' _),h1,h2.own,KH h3⟩
theorem jLF (V:NV) (n:Nd) (now:Int) (f:Fr) (w:World) (h:OkN w V n) (hs:SmN n) (hfl:f.da.length≤9223372036854775807):
  Calls Tryz.prog 87 #[.agg ⟨ndC V n⟩,.int .i64 now,.agg ⟨frC f⟩] w fun e w'=>∃x:NV×List Chunk,e= .returned (.agg ⟨ndC x.1 (hear n now f)⟩)∧Own x.1 x.2 (hear n now f)∧Sat (base w) [jB x.2] w':=
 (jKY V n now f w h hs hfl).mono fun e w' ⟨V',h1,h2,h3⟩=>⟨(V',ndH V' _),h1,h2.own,KH h3⟩
structure PtSm (l:List Pt):Prop where
 len:l.length≤1000
 sm:∀p∈l,jER p
theorem jB2 {n:Nd} (h:Ord n) (hp:PtSm n.parts):SmN n:=
 ⟨Nat.le_trans (jMk h) (by decide),Nat.le_trans (llen h) (by decide),Nat.le_trans h.out (by decide),Nat.le_trans (klen h) (by decide),Nat.le_trans h.boxes (by decide),Nat.le_trans h.seen (by decide),hp.len,Nat.le_trans h.inbox (by decide),hp.sm⟩
theorem jH9 {p:Pt} (h:zD p=true):jER p:=by
 have H:=kR (zk h)
 have h1:=H.hv
 have h2:=H.da
 have h3:=H.ct1
 exact ⟨by omega,by omega,fun s hs=>by have:=jEo h s hs;omega⟩
theorem jBy (l:List Pt):∀p∈zM l,jER p:=fun p hp=>jH9 (ZB p hp)
theorem jGJ (l:List Pt) (now life:Int):PtSm (jCk l now life):=
 ⟨Nat.le_trans (Nat.le_trans (List.length_filter_le _ _) (Kh l)) (by decide),fun p hp=>jBy l p (List.mem_filter.1 hp).1⟩
theorem jEq {l:List Pt} {s id c:Int} {p:Pt} (h:p∈(J7 l s id c).1):p∈l:=by
 unfold J7 at h
 split at h
 ·split at h
  ·exact h
  ·exact List.mem_of_mem_eraseIdx h
 ·exact h
theorem jNA {p:Pt} {i:Nat} {d:By} (h:jER p) (hd:d.length≤1000):jER (jAU p i d):=by
 unfold jAU
 split
 ·exact h
 ·refine ⟨?_,?_,fun s hs=>?_⟩
  ·show (p.hv.set i true).length≤140737488355328
   rw[List.length_set];exact h.1
  ·show (p.da.set i d).length≤8796093022208
   rw[List.length_set];exact h.2.1
  ·rcases List.mem_or_eq_of_mem_set hs with hs|rfl
   ·exact h.2.2 s hs
   ·omega
theorem jGM {l:List Pt} {s now:Int} {x:By} (hx:x.length≤1000) (he:(jCm l s now x).e=0):PtSm (jCm l s now x).l:=by
 unfold jCm at he ⊢
 split
 ·exact ⟨Nat.zero_le _,fun p hp=>by cases hp⟩
 ·rename_i hc
  have hc:jFf x=0:=Decidable.not_not.1 hc
  obtain ⟨c1,c2,c3,c4,c5,c6,c7,c8⟩:=jEr hc
  have ho8:=Kh l
  split
  ·exact ⟨Nat.le_trans (jAW ho8 s (b8 x 0) 1) (by decide),fun p hp=>jBy l p (jEq hp)⟩
  ·rename_i h1
   have hd8:=jAW ho8 s (b8 x 0) (b8 x 2)
   have hm:∀p∈(J7 (zM l) s (b8 x 0) (b8 x 2)).1,jER p:=fun p hp=>jBy l p (jEq hp)
   have hnew:(∀ p∈(jEN (J7 (zM l) s (b8 x 0) (b8 x 2)) s (b8 x 0) (b8 x 2) now).1,jER p)∧(jEN (J7 (zM l) s (b8 x 0) (b8 x 2)) s (b8 x 0) (b8 x 2) now).1.length≤8:=by
    unfold jEN
    split
    ·exact ⟨hm,hd8⟩
    ·have hr:=jBx hd8
     refine ⟨fun p hp=>?_,by rw[List.length_append];simp;omega⟩
     rcases List.mem_append.1 hp with hp|hp
     ·unfold jAB at hp
      split at hp
      ·exact hm p (List.mem_of_mem_eraseIdx hp)
      ·exact hm p hp
     ·rw [List.mem_singleton.1 hp]
      refine ⟨?_,?_,fun s hs=>?_⟩
      ·show (List.replicate (b8 x 2).toNat false).length≤140737488355328
       rw[List.length_replicate];omega
      ·show (List.replicate (b8 x 2).toNat ([]:By)).length≤8796093022208
       rw[List.length_replicate];omega
      ·have hs:s∈List.replicate (b8 x 2).toNat ([]:By):=hs
       rw[(List.mem_replicate.1 hs).2];simp
   generalize jEN (J7 (zM l) s (b8 x 0) (b8 x 2)) s (b8 x 0) (b8 x 2) now=o at hnew ⊢
   obtain ⟨n1,n2⟩:=hnew
   have hz:jER pz:=⟨by decide,by decide,fun s hs=>by cases hs⟩
   have hg:jER (o.1.getD o.2 pz):=by
    rw[List.getD_eq_getElem?_getD]
    cases hq:o.1[o.2]? with
    |none=>exact hz
    |some q=>exact n1 q (List.mem_of_getElem? hq)
   have hdl:(x.drop 3).length≤1000:=by rw[List.length_drop];omega
   unfold jRE
   split
   ·exact ⟨Nat.le_trans (List.length_eraseIdx_le _ _) (by omega),fun p hp=>n1 p (List.mem_of_mem_eraseIdx hp)⟩
   ·refine ⟨by rw[List.length_set];omega,fun p hp=>?_⟩
    rcases List.mem_or_eq_of_mem_set hp with hp|rfl
    ·exact n1 p hp
    ·exact jNA hg hdl
theorem jNS (a p:Int):PtSm (new a p).parts:=⟨Nat.zero_le _,fun p hp=>by cases hp⟩
theorem jBq {target:Int} {ur:Bool}:∀ {l:List By} {n m:Nd},sends target ur l n=some m→m.parts=n.parts
 |[],n,m,e=>by cases e;rfl
 |p::l,n,m,e=>by
  unfold sends at e
  split at e
  ·have:=jBq e
   rw[this];exact zK n _
  ·cases e
theorem jKa {n:Nd} {target:Int} {ur:Bool} {text:By} (h:PtSm n.parts):PtSm (send n target ur text).1.parts:=by
 have h0:PtSm nd0.parts:=⟨by decide,fun p hp=>by cases hp⟩
 unfold send
 simp only
 split
 ·exact h0
 ·split
  ·exact h0
  ·split
   ·rw [ZT];exact h
   ·split
    ·rename_i m hm;rw[jBq hm];exact h
    ·exact h0
theorem ZX (now:Int):∀(k:Nat) (n:Nd) (i:Nat),(Jo now k n i).1.parts=n.parts
 |0,n,i=>rfl
 |k+1,n,i=>by
  unfold Jo
  split
  ·rfl
  ·split
   ·exact ZX now k n _
   ·split
    ·rfl
    ·split
     ·rw [ZX now k];exact jCU _ _ _
     ·split
      ·rfl
      ·split
       ·rw [ZX now k];rfl
       ·rw [ZX now k]
theorem jKK {n:Nd} {now:Int} (h:PtSm n.parts):PtSm (talk n now).1.parts:=by
 unfold talk;rw[ZX];exact h
theorem jF0 {n:Nd} {f:Fr} {ok:Bool} (h:PtSm n.parts):PtSm (result n f ok).parts:=by
 unfold result
 simp only
 split
 ·exact h
 ·split
  ·rw [jBK];split<;>exact h
  ·split<;>exact h
theorem jKH (n:Nd) (now:Int):PtSm (Zr n now).parts:=by
 have e:(Zr n now).parts=jCk (order n).parts (tick now) 120:=by
  have k1:∀(c:Prop) [Decidable c] (a:Nd),(if c then Nd.J5 a else a).parts=a.parts:=by intro c _ a;split;exact jBQ _;rfl
  have k2:∀(c:Prop) [Decidable c] (a:Nd),(if c then Nd.poll a else a).parts=a.parts:=by intro c _ a;split;exact jC7 _;rfl
  unfold Zr
  simp only
  rw[k2,k1,jBR]
 rw[e];exact jGJ _ _ _
theorem jL5 {n:Nd} {now:Int} {f:Fr} (h:PtSm n.parts):PtSm (hear n now f).parts:=by
 unfold hear
 simp only
 split
 ·exact h
 ·rename_i h1
  have hc:jCe f=0:=Decidable.not_not.1 fun e=>h1 (.inl e)
  have hl:=(jED hc).2.2.2.2.2.2
  split
  ·rw [KD];exact h
  ·split
   ·rw [jBE];exact h
   ·split
    ·unfold received
     simp only
     split
     ·exact h
     ·split
      ·split
       ·exact h
       ·rename_i he
        have hp:PtSm (jCm (order n).parts f.so (tick now) f.da).l:=jGM (by omega) (Decidable.not_not.1 he)
        split
        ·rw [ZT];exact hp
        ·exact hp
      ·split
       ·exact h
       ·rw [zK];exact h
    ·exact h
end Go.Proofs.YtgfdoognildoeaaGreat
namespace Go.Proofs.YtgfdoognildoeaaGreat
open Go.GX Go.RowKit
attribute [local irreducible] Calls Run jZ jf JK HR HL HD jT jG JY Rd jK jY
open Nd
theorem fn19:IsFn Tryz.prog 19:=⟨⟨_,_,Tryz.func19,rfl,by decide⟩⟩
theorem jFw (a b:List Int) (va vb:Value) (w:World) (ha:Sl w va (cellsOf iC a) a.length) (hb:Sl w vb (cellsOf iC b) b.length) (hla:a.length≤1000000):
  Calls Tryz.prog 19 #[va,vb] w fun e' w'=>e'= .returned (.bool (decide (a=b)))∧Below w.heap.size w w':=by
 refine jD Tryz.func19 I (Nat.le_of_ble_eq_true I) ?_
 refine HR.sub (σ':=[(0,va),(1,vb)]) ⟨I,I,trivial⟩ ?_
 repeat' (first|refine zh ?_|refine HL.JN (Rd.arg ha) I I I ?_|refine HL.JN (Rd.arg hb) I I I ?_|apply zb ?_ ?_|exact zc|(refine zi fun hb=>?_;try simp at hb)|intro (bk:Nat))
 refine HR.cond I (fun h1=>?_) (fun h1=>?_)
 ·repeat' (first|refine zh ?_|apply zb ?_ ?_|exact zc|(refine zi fun hb=>?_;try simp at hb)|intro (bk:Nat))
  refine HR.ret Tryz.func19 I [_] (fun _ _=>⟨I,trivial⟩) ?_
  have:a≠b:=by rintro rfl;simp at h1
  exact fun w' hw=>⟨by simp[this,jC2],hw.jE⟩
 have hl:a.length=b.length:=by have h1':((a.length:Int) != (b.length:Int))=false:=h1;simp at h1';omega
 repeat' (first|refine zh ?_|apply zb ?_ ?_|exact zc|(refine zi fun hb=>?_;try simp at hb)|intro (bk:Nat))
 refine HR.loop (ι:=Nat) (fun k=>k≤a.length∧a.take k=b.take k) (fun k=>[(0,va),(1,vb),(5,.int .i64 (k:Int))]) (fun _=>[]) (fun k=>a.length-k) 0 ⟨Nat.zero_le _,by simp⟩ ⟨I,I,I,trivial⟩ Ent.refl ?_
 rintro k ⟨hk,hg⟩ ih
 repeat' (first|refine zh ?_|refine HL.JN (Rd.arg ha) I I I ?_|apply zb ?_ ?_|exact zc|(refine zi fun hb=>?_;try simp at hb)|intro (bk:Nat))
 refine HR.cond I (fun h2=>?_) (fun h2=>?_)
 ·have hlt:k<a.length:=by have:=of_decide_eq_true h2;omega
  obtain ⟨x,hx⟩:=jJ hlt
  obtain ⟨y,hy⟩:=jJ (show k<b.length by omega)
  repeat' (first|refine zh ?_|apply zb ?_ ?_|exact zc|(refine zi fun hb=>?_;try simp at hb)|intro (bk:Nat))
  refine HR.JF Jc (by kernel_rfl) ?_
  repeat' (first|refine zq ?_|refine HQ.JA (Rd.arg ha) Jw k I I I I hlt ?_|refine HQ.JA (Rd.arg hb) Jw k I I I I (by omega) ?_|refine HQ.ji (Rd.arg ha) I I I I (jW hx) ?_|refine HQ.ji (Rd.arg hb) I I I I (jW hy) ?_|apply zb ?_ ?_|exact zc|(refine zi fun hb=>?_;try simp at hb))
  refine HR.cond I (fun h3=>?_) (fun h3=>?_)
  ·repeat' (first|refine zh ?_|apply zb ?_ ?_|exact zc|(refine zi fun hb=>?_;try simp at hb)|intro (bk:Nat))
   refine HR.ret Tryz.func19 I [_] (fun _ _=>⟨I,trivial⟩) ?_
   have:a≠b:=by rintro rfl;rw[hx]at hy;cases hy;simp at h3
   exact fun w' hw=>⟨by simp[this,jC2],hw.jE⟩
  ·repeat' (first|refine zh ?_|apply zb ?_ ?_|exact zc|(refine zi fun hb=>?_;try simp at hb)|intro (bk:Nat))
   refine ih (k+1) _ _ ⟨hlt,?_⟩ (by omega) ⟨I,I,I,trivial⟩ Ent.refl
   rw[jN hx,jN hy,hg]
   have hxy:x=y:=by simpa using h3
   rw[hxy]
 ·have hke:k=a.length:=by have:=of_decide_eq_false h2;omega
  subst hke
  repeat' (first|refine zh ?_|apply zb ?_ ?_|exact zc|(refine zi fun hb=>?_;try simp at hb)|intro (bk:Nat))
  refine HR.ret Tryz.func19 I [_] (fun _ _=>⟨I,trivial⟩) ?_
  have:a=b:=by rw[← List.take_length (l:=a),hg,hl,List.take_length]
  exact fun w' hw=>⟨by simp[this,jC2],hw.jE⟩
end Go.Proofs.YtgfdoognildoeaaGreat
namespace Me
open Go.GX Nd Tp
structure Mesh where
 tick:Int
 nodes:List Nd.Nd
def jCn:Mesh:=⟨0,[]⟩
abbrev Air:=Ra.Air
def idx (l:List Nd.Nd) (a:Int):Option Nat:=l.findIdx? fun n=>n.addr==a
def nth (l:List Nd.Nd) (i:Nat):Nd.Nd:=l.getD i nd0
def Js (l:List Int) (i:Nat):Int:=match l[i]? with
 |none=>0
 |some a=>if okN a=false then 2 else if a∈l.take i then 9 else 0
def jBz (polls:List Int) (i:Nat):Int:=polls.getD i 0
def nodeAt (addrs polls:List Int) (i:Nat):Nd.Nd:=new (addrs.getD i 0) (jBz polls i)
def put (l:List Nd.Nd) (n:Nd.Nd):List Nd.Nd:=ins (fun x=>decide (x.addr<n.addr)) l n
def build (addrs polls:List Int):Nat→List Nd.Nd
 |0=>[]
 |k+1=>put (build addrs polls k) (nodeAt addrs polls k)
def Kj (addrs polls:List Int):Mesh×Int:=
 if addrs.length>24 then (jCn,3)
 else if jc (Js addrs) addrs.length≠0 then (jCn,jc (Js addrs) addrs.length)
 else (⟨0,build addrs polls addrs.length⟩,0)
def jHN (t:Int):Int:=max 0 (min t (JU-1))+1
def live (a:Air) (addr:Int):Bool:=!(Ra.check a==0)||!decide (addr∈a.o)
def phase1 (a:Air) (now:Int) (n:Nd.Nd):Nd.Nd:=if live a n.addr then Zr n now else n
def jBS (now:Int) (lv:Bool) (n:Nd.Nd):Nd.Nd×Fr×Bool:=if lv then talk n now else (n,fr0,false)
def ZK (f:Fr) (now:Int) (s:List Nd.Nd×Bool) (to:Int):List Nd.Nd×Bool:=match idx s.1 to with
 |none=>s
 |some k=>if awake (nth s.1 k) now then (s.1.set k (hear (nth s.1 k) now f),s.2||(to==f.dst))else s
def hears (f:Fr) (now:Int) (l:List Nd.Nd) (tos:List Int):List Nd.Nd×Bool:=tos.foldl (ZK f now) (l,false)
def told (a:Air) (now:Int) (l:List Nd.Nd) (i:Nat) (f:Fr):List Nd.Nd:=
 let h:=hears f now l (Ra.recv (Ra.san a) f)
 h.1.set i (result (nth h.1 i) f (Ra.jFe (Ra.san a) f&&(h.2||(f.dst==255))))
def jQ1 (a:Air) (now:Int) (l:List Nd.Nd) (i:Nat):Option (Fr×Bool)→List Nd.Nd
 |some (f,true)=>told a now l i f
 |_=>l
def tells (a:Air) (now:Int) (fs:List (Fr×Bool)):Nat→List Nd.Nd→List Nd.Nd
 |0,l=>l
 |k+1,l=>jQ1 a now (tells a now fs k l) k fs[k]?
def spoken (m:Mesh) (a:Air):List (Nd.Nd×Fr×Bool):=m.nodes.map fun n=>jBS (jHN m.tick) (live a n.addr) (phase1 a (jHN m.tick) n)
def jDy (m:Mesh) (a:Air):Mesh:=
 ⟨jHN m.tick,tells a (jHN m.tick) ((spoken m a).map (·.2)) m.nodes.length ((spoken m a).map (·.1))⟩
def Zt (m:Mesh) (source target:Int) (ur:Bool) (text:By):Mesh×Int:=match idx m.nodes source with
 |none=>(jCn,8)
 |some i=>if (send (nth m.nodes i) target ur text).2≠0 then (jCn,(send (nth m.nodes i) target ur text).2)
  else (⟨m.tick,m.nodes.set i (send (nth m.nodes i) target ur text).1⟩,0)
def Z8 (m:Mesh) (addr:Int):Mesh×List De:=match idx m.nodes addr with
 |none=>(m,[])
 |some i=>(⟨m.tick,m.nodes.set i (take (nth m.nodes i)).1⟩,(take (nth m.nodes i)).2)
def jCp (addr:Int) (l t:List Ro):List Ro:=l.foldl (fun t r=>if r.nx≠addr∧r.nx≠255 then jH6 t addr r.nx else t) t
def again (n:Nd.Nd) (addr:Int):Nd.Nd:={ new addr n.poll with seq:=n.seq,table:=jCp addr n.table n.table }
def Jr (m:Mesh) (addr:Int):Mesh:=match idx m.nodes addr with
 |none=>m
 |some i=>⟨m.tick,m.nodes.set i (again (nth m.nodes i) addr)⟩
def jMf (l:List Nd.Nd) (to:Int):Nat→List Int→Int→List Int×Int
 |0,p,_=>(p,1)
 |k+1,p,now=>match idx l now with
  |none=>(p,1)
  |some i=>if now∈p then (p,2)else if now=to then (p++[now],0)
   else if (kL (nth l i).table to).2 then jMf l to k (p++[now]) (kL (nth l i).table to).1 else (p++[now],1)
def follow (l:List Nd.Nd) (src to:Int):List Int×Int:=jMf l to (l.length+2) [] src
def path (l:List Nd.Nd) (src to:Int):List Int×Bool:=if (follow l src to).2=0 then ((follow l src to).1,true)else ([],false)
def loops (l:List Nd.Nd):Bool:=l.any fun n=>n.table.any fun r=>(follow l n.addr r.dest).2==2
structure Op where
 kind:Int
 n:Int
 m:Int
 ur:Bool
 te:By
 air:Air
def next (m:Mesh) (x:Op):Mesh×List De:=
 if x.kind=0 then (jDy m x.air,[])
 else if x.kind=1 then (if (Zt m x.n x.m x.ur x.te).2=0 then ((Zt m x.n x.m x.ur x.te).1,[])else (m,[]))
 else if x.kind=2 then Z8 m x.n
 else if x.kind=3 then (Jr m x.n,[])
 else (m,[])
def runs (m:Mesh) (l:List Op):Nat→Mesh
 |0=>m
 |k+1=>match l[k]? with
  |some x=>(next (runs m l k) x).1
  |none=>runs m l k
end Me
