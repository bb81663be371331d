/- A part of the proof: contracts of the program's functions. Conditions: none. -/
import Derived.Carry
import Derived.Deep.MidRow
import Derived.Deep.Quiet
import Derived.Laws.IdiomRangeMap
import Derived.Laws.MakeOwn
import Derived.Laws.StructEq
import Derived.Laws.Tables
import Derived.Lib.AppendStr
import Derived.Lib.AppendZerosOnto
import Derived.Lib.OthersKept
import Derived.Lib.Overlaps
import Derived.Lib.OwnBridge
import Derived.Lib.SlicesCompact
import Derived.MapKept
import Derived.Orders
import Derived.OrdersHeld
import Derived.Scope
import Derived.Sort.Grow
import Derived.StillTail
import Derived.Test.YtgfdoognildoeaaGreatProg
import Derived.Test.YtgfdoognildoeaaGreatShelf
import Derived.WalkKit
import Derived.WalkLawsBesides
import Derived.WalkSpells
import Derived.Test.YtgfdoognildoeaaGreatPB1
import Derived.Test.YtgfdoognildoeaaGreatPB2
import Derived.Test.YtgfdoognildoeaaGreatPB3
import Derived.Test.YtgfdoognildoeaaGreatPB4
import Derived.Test.YtgfdoognildoeaaGreatPB5
import Derived.Test.YtgfdoognildoeaaGreatPB6
import Derived.Test.YtgfdoognildoeaaGreatPB7
import Derived.Test.YtgfdoognildoeaaGreatPB8
import Derived.Test.YtgfdoognildoeaaGreatPB9
set_option linter.unusedVariables false
set_option linter.unusedSectionVars false
set_option linter.unusedSimpArgs false
set_option maxRecDepth 100000
set_option maxHeartbeats 4000000
namespace Go.Proofs.YtgfdoognildoeaaGreat
open Go.GX Go.RowKit
attribute [local irreducible] Calls Run RunL RunQ RunD HR HL HD blkC ownC mapC Rd slicesC iterC
open Nd
theorem fn79:IsFn Tryz.prog 79:=⟨⟨_,_,Tryz.func79,rfl,by decide⟩⟩
theorem box_is (n:Nd) (f:Fr) (now:Int):∃q l,box n f now={ n with boxes:=q,lost:=l }:=by
 by_cases h:(bput n.boxes f now).2=false∨(bput n.boxes f now).1.length=n.boxes.length
 ·exact ⟨(bput n.boxes f now).1,min (n.lost+1) maxTick,by unfold box lose;simp only[if_pos h]⟩
 ·exact ⟨(bput n.boxes f now).1,n.lost,by unfold box;simp only[if_neg h]⟩
theorem box_parts (n:Nd) (f:Fr) (now:Int):(box n f now).parts=n.parts:=by obtain ⟨q,l,e⟩:=box_is n f now;rw[e]
theorem boxes_parts (now:Int):∀(l:List Fr) (n:Nd),(l.foldl (fun n f=>box n f now) n).parts=n.parts
 |[],_=>rfl
 |f::l,n=>(boxes_parts now l (box n f now)).trans (box_parts n f now)
theorem asleep_parts (n:Nd) (now:Int):(asleep n now).parts=n.parts:=by unfold asleep;exact boxes_parts now _ _
theorem beacon_parts (n:Nd):(beacon n).parts=n.parts:=by
 unfold beacon;split
 ·exact (queue_parts _ _).trans I
 ·rfl
theorem poll_parts (n:Nd):(poll n).parts=n.parts:=by
 unfold poll;split
 ·exact (queue_parts _ _).trans I
 ·rfl
theorem ptG_mem {L:List PtV} {p:PtV} (h:p∈L):ptH p∈ptG L∧ptD p∈ptG L:=by
 unfold ptG
 exact ⟨List.mem_flatMap.2 ⟨p,h,List.mem_cons_self ..⟩,List.mem_flatMap.2 ⟨p,h,List.mem_cons_of_mem _ (List.mem_cons_self ..)⟩⟩
theorem RdPts.own {B:Base} {H:List Chunk} {w:World} {v:Value} {L:List PtV} (i j:Nat) (hw:Sat B H w) (hi:nthC H i=some (cPt v L)) (hj:nthC H j=some (groupC (ptG L))):RdPts w v L:=
 ⟨(Rd.own i hi).at hw,fun p hp=>⟨(Rd.group j hj (ptG_mem hp).1).at hw,(Rd.group j hj (ptG_mem hp).2).at hw⟩⟩
theorem stick_any (V:NV) (n:Nd) (now:Int) (w:World) (h:OkN w V n) (hs:SmN n) (hf:∀s∈n.out,fits .i64 s.wt):
  Calls Tryz.prog 79 #[.agg ⟨ndC V n⟩,.int .i64 now] w fun e w'=>∃V':NV,e= .returned (.agg ⟨ndC V' (tickN n now)⟩)∧Pts V' (tickN n now)∧Sat (base w) (ndH V' (tickN n now)) w':=by
 obtain ⟨m,hm⟩:∃m,m=order n:=⟨_,rfl⟩
 have ho:Ord m:=by rw[hm];exact order_ord n
 have h16:=ho.out
 have hb16:=ho.boxes
 have hmf:∀s∈m.out,fits .i64 s.wt:=fun s hs=>hf s (List.mem_of_mem_take (by rw[hm]at hs;exact hs))
 have hmp:m.parts=n.parts:=by rw[hm];rfl
 obtain ⟨T,hT⟩:∃T,T=tick now:=⟨_,rfl⟩
 have ht0:0≤T:=by rw[hT];unfold tick clamp;omega
 obtain ⟨a,ha⟩:∃a,a=asleep { m with out:=mtick m.out,boxes:=bexp m.boxes T 120,parts:=pexp m.parts T 120 } T:=⟨_,rfl⟩
 obtain ⟨g,hg⟩:∃g,g=if a.poll=0∧T%8=a.addr%8 then beacon a else a:=⟨_,rfl⟩
 have hsp:tickN n now=if g.poll>0∧g.parent≠255∧T%g.poll=0 then poll g else g:=by rw[hg,ha,hT,hm];rfl
 have ho1:Ord { m with out:=mtick m.out,boxes:=bexp m.boxes T 120,parts:=pexp m.parts T 120 }:=((ho.setOut (mtick_len m.out)).setBoxes (bexp_len m.boxes T 120)).setParts _
 have hao:Ord a:=by rw[ha];exact (asleep_good (Good.refl ho1) T).ord
 have hap:a.parts=pexp m.parts T 120:=by rw[ha];exact asleep_parts _ _
 have hgo:Ord g:=by rw[hg];split;exact (beacon_good (Good.refl hao)).ord;exact hao
 have hgp:g.parts=pexp m.parts T 120:=by rw[hg,← hap];split;exact beacon_parts _;rfl
 have ha8:=((okN_iff _).1 hao.addr).1
 rw[hsp]
 refine calls_hr Tryz.func79 I (Nat.le_of_ble_eq_true I) ?_
 refine HR.sub (σ':=[(0,.agg ⟨ndC V n⟩),(1,.int .i64 now)]) ⟨I,I,trivial⟩ ?_
 repeat' (first|refine zh ?_|intro (bk:Nat))
 refine HL.callX (r:=fun x:Nat×NV=>ptr x.1) (Q:=fun x=>Pts x.2 m) (G:=fun x=>stH x.1 x.2 m T) fn68 I I (fun w1 hw1=>by rw[hm,hT];exact enter_any V n now w1 (h.ext hw1.belowB) hs) ?_
 rintro ⟨b,V2⟩ hP
 have hP:Pts V2 m:=hP
 have hpl:V2.ps.length≤1000:=by rw[← pts_len,hP.eq,hmp];exact hs.pa
 have hps:∀p∈V2.ps,SmPt p.pt:=fun p hp=>hs.sm p.pt (by rw[← hmp,← hP.eq];exact List.mem_map.2 ⟨p,hp,rfl⟩)
 refine HL.ent (Ent.pick [10,0,1,2,3,4,5,6,7,8,9] I I) ?_
 repeat' (first|refine zh ?_|refine HL.callO fn150 I I (fun w1 hw1=>mtick_any m.out _ w1 ((Rd.own 4 rfl).at hw1) (by omega) hmf) ?_|intro (bk:Nat))
 intro v1
 refine HL.shape 0 I fun a1 c1 hv=>?_
 subst hv
 repeat' (first|refine zh ?_|intro (bk:Nat))
 refine HR.ent (Ent.pick [1,2,3,4,0,6,7,8,9,10,11] I I) ?_
 refine HR.regionY [(0,true),(1,true),(2,true),(3,true),(4,true),(5,true),(6,true),(7,true),(8,true),(9,true),(10,false),(11,true),(12,true),(13,true)] 14 [1] I I hmix (by kernel_rfl) ?_
 repeat' (first|refine zd ?_|fail)
 refine HD.one I ?_
 refine HL.callO fn151 I I (fun w1 hw1=>bexp_any m.boxes T 120 _ w1 ((Rd.own 6 rfl).at hw1) (by omega)) ?_
 intro v2
 refine HL.shape 0 I fun a2 c2 hv=>?_
 subst hv
 refine HL.back [2] I I ?_
 repeat' (first|refine zd ?_|fail)
 refine HD.last I ?_
 repeat' (first|refine zn ?_|intro (bk:Nat))
 refine HR.ent (Ent.pick [1,2,3,4,5,6,0,8,9,10,11] I I) ?_
 repeat' (first|refine zh ?_|intro (bk:Nat))
 refine HR.regionY [(0,true),(1,true),(2,true),(3,true),(4,true),(5,true),(6,true),(7,true),(8,true),(9,true),(10,false),(11,true),(12,true),(13,true)] 14 [1] I I hmix (by kernel_rfl) ?_
 repeat' (first|refine zd ?_|fail)
 refine HD.one I ?_
 refine HL.callX (r:=fun x:Value×List PtV=>x.1) (Q:=fun x=>GdPts x (pexp (pts V2.ps) T 120)) (G:=fun x=>ptsC x) fn152 I I (fun w1 hw1=>fexp_any V2.ps T 120 _ w1 (RdPts.own 8 9 hw1 I I) hps hpl) ?_
 rintro ⟨v3,ps⟩ ⟨hg1,hg2⟩
 have hq1:pts ps=pexp m.parts T 120:=by rw[← hP.eq];exact hg1
 have hq2:∀p∈ps,ShPt p:=hg2
 refine HL.shape (v:=v3) (e:=173) (sz:=6) (n:=ps.length) (xs:=cellsOf ptC ps) 0 I fun a3 c3 hv=>?_
 subst hv
 refine HL.back [3] I I ?_
 repeat' (first|refine zd ?_|fail)
 refine HD.last I ?_
 repeat' (first|refine zn ?_|intro (bk:Nat))
 obtain ⟨V3,hV3⟩:∃V3:NV,V3=⟨V2.ta,V2.li,(a1,c1),V2.ch,(a2,c2),V2.se,(a3,c3),V2.ib,ps⟩:=⟨_,rfl⟩
 have hps3:V3.ps=ps:=by rw[hV3]
 refine HR.ent (H':=_::stH b ⟨V2.ta,V2.li,(a1,c1),V2.ch,(a2,c2),V2.se,(a3,c3),V2.ib,ps⟩ { m with out:=mtick m.out,boxes:=bexp m.boxes T 120,parts:=pexp m.parts T 120 } T) (Ent.pick [2,3,4,5,6,7,8,9,0,1,12] I I) ?_
 rw[← hV3]
 repeat' (first|refine zh ?_|intro (bk:Nat))
 refine HL.ent (Ent.pick [1,2,3,4,5,6,7,8,9,10,0] I I) ?_
 refine HL.callW (r:=fun _:SV×SV=> .tuple ⟨[]⟩) (Q:=fun _=>True) (G0:=stH b V3 { m with out:=mtick m.out,boxes:=bexp m.boxes T 120,parts:=pexp m.parts T 120 } T) (H0:=[_]) (G:=fun x=>stH b { V3 with ou:=x.1,bo:=x.2 } a T) fn153 I I I (fun w1 hw1=>by rw[ha];exact sasleep_any b V3 _ T _ w1 (hw1.pick [0,1,2,3,4,5,6,7,8,9] I I) ho1) ?_
 rintro ⟨x1,x2⟩ _
 repeat' (first|refine zh ?_|intro (bk:Nat))
 refine HR.regionQ hmix (by kernel_rfl) ?_
 repeat' (first|refine zq ?_|apply zb ?_ ?_|exact zc|(refine zi fun hb=>?_;try simp at hb))
 refine HR.join (ι:=SV×SV) (fun _=>True) (fun _=>[(4,ptr bk),(5,ptr b)]) (fun y=>stH b { V3 with bo:=x2,ta:=y.1,ou:=y.2 } g T++[blkC bk zerC 62]) (fun y _=>?_) (fun hj=>?_)
 rotate_left
 ·refine HR.cond I (fun h1=>?_) (fun h1=>?_)
  ·have h1:((a.poll==0)&&(T%8==a.addr%8))=true:=h1
   have h2:a.poll=0∧T%8=a.addr%8:=by simpa using h1
   rw[if_pos h2]at hg
   refine HR.region ?_
   repeat' (first|refine zn ?_|apply zb ?_ ?_|exact zc|(refine zi fun hb=>?_;try simp at hb)|intro (bk:Nat))
   refine HL.callW (r:=fun _:SV×SV=> .tuple ⟨[]⟩) (Q:=fun _=>True) (G0:=stH b { V3 with ou:=x1,bo:=x2 } a T) (H0:=[_]) (G:=fun y=>stH b { V3 with bo:=x2,ta:=y.1,ou:=y.2 } g T) fn154 I I I (fun w1 hw1=>by rw[hg];exact sbeacon_any b { V3 with ou:=x1,bo:=x2 } a T _ w1 (hw1.pick [0,1,2,3,4,5,6,7,8,9] I I) hao) ?_
   intro y _
   repeat' (first|refine zn ?_|apply zb ?_ ?_|exact zc|(refine zi fun hb=>?_;try simp at hb)|intro (bk:Nat))
   exact hj y _ _ trivial ⟨I,I,trivial⟩ Ent.refl
  ·have h1:((a.poll==0)&&(T%8==a.addr%8))=false:=h1
   have h2:¬(a.poll=0∧T%8=a.addr%8):=by simpa using h1
   rw[if_neg h2]at hg
   refine HR.skip ?_
   refine hj (V3.ta,x1) _ _ trivial ⟨I,I,trivial⟩ ?_
   rw[hg]
   exact Ent.refl
 obtain ⟨y1,y2⟩:=y
 repeat' (first|refine zh ?_|intro (bk:Nat))
 refine HR.regionQ hmix (by kernel_rfl) ?_
 repeat' (first|refine zq ?_|apply zb ?_ ?_|exact zc|(refine zi fun hb=>?_;try simp at hb))
 refine HR.cond I (fun h1=>?_) (fun h1=>?_)
 ·have h1:((decide (g.poll>0)&&!(g.parent==255))&&(T%g.poll==0))=true:=h1
  have h2:g.poll>0∧g.parent≠255∧T%g.poll=0:=by simpa[and_assoc]using h1
  rw[if_pos h2]
  repeat' (first|refine zh ?_|intro (bk:Nat))
  refine HL.callW (r:=fun _:SV×SV=> .tuple ⟨[]⟩) (Q:=fun _=>True) (G0:=stH b { V3 with bo:=x2,ta:=y1,ou:=y2 } g T) (H0:=[_]) (G:=fun y=>stH b { V3 with bo:=x2,ta:=y.1,ou:=y.2 } (poll g) T) fn155 I I I (fun w1 hw1=>spoll_any b { V3 with bo:=x2,ta:=y1,ou:=y2 } g T _ w1 (hw1.pick [0,1,2,3,4,5,6,7,8,9] I I) hgo) ?_
  intro z _
  refine HL.ent (Ent.pick [10,0,1,2,3,4,5,6,7,8,9] I I) ?_
  repeat' (first|refine zh ?_|intro (bk:Nat))
  refine HR.ret Tryz.func79 I [_] (fun w hw=>⟨⟨_,rfl,loadVarR hw 0 I I I I rfl⟩,trivial⟩) ?_
  exact fun w' hw=>⟨{ V3 with bo:=x2,ta:=z.1,ou:=z.2 },rfl,⟨by rw[poll_parts,hgp,← hq1,hV3],by rw[hV3];exact hq2⟩,hw.pick [2,3,4,5,6,7,8,9,10] I rfl⟩
 ·have h1:((decide (g.poll>0)&&!(g.parent==255))&&(T%g.poll==0))=false:=h1
  have h2:¬(g.poll>0∧g.parent≠255∧T%g.poll=0):=by
   intro e
   have:((decide (g.poll>0)&&!(g.parent==255))&&(T%g.poll==0))=true:=by simpa[and_assoc]using e
   rw[h1]at this;cases this
  rw[if_neg h2]
  refine HR.skip ?_
  refine HR.ent (Ent.pick [10,0,1,2,3,4,5,6,7,8,9] I I) ?_
  repeat' (first|refine zh ?_|intro (bk:Nat))
  refine HR.ret Tryz.func79 I [_] (fun w hw=>⟨⟨_,rfl,loadVarR hw 0 I I I I rfl⟩,trivial⟩) ?_
  exact fun w' hw=>⟨{ V3 with bo:=x2,ta:=y1,ou:=y2 },rfl,⟨by rw[hgp,← hq1,hV3],by rw[hV3];exact hq2⟩,hw.pick [2,3,4,5,6,7,8,9,10] I rfl⟩
end Go.Proofs.YtgfdoognildoeaaGreat
namespace Go.Proofs.YtgfdoognildoeaaGreat
open Go.GX Go.RowKit
attribute [local irreducible] Calls Run RunL RunQ RunD HR HL HD blkC ownC mapC Rd slicesC iterC
open Nd
theorem fn80:IsFn Tryz.prog 80:=⟨⟨_,_,Tryz.func80,rfl,by decide⟩⟩
theorem mres_false {q:List Sn} {i:Nat} (h16:q.length≤16) (hi:i<q.length):((mres q i false).2=true∧(mres q i false).1.length+1=q.length)∨((mres q i false).2=false∧(mres q i false).1.length=q.length):=by
 have ht:q.take 16=q:=List.take_of_length_le h16
 unfold mres
 rw[ht,List.getElem?_eq_getElem hi]
 simp only[Bool.false_eq_true,if_false]
 split
 ·exact .inl ⟨rfl,by show (q.eraseIdx i).length+1=_;rw[List.length_eraseIdx_of_lt hi];omega⟩
 ·exact .inr ⟨rfl,by show (q.set i _).length=_;rw[List.length_set]⟩
abbrev zerF:List Value:=[.int .i64 0,.int .i64 0,.int .i64 0,.int .i64 0,.int .i64 0,.int .i64 0,.int .i64 0,.bool false,str []]
abbrev rsC (bk:Nat):Chunk:=blkC bk zerC 62
abbrev rfC (bk:Nat):Chunk:=blkC bk zerF 75
theorem talks_step {T : Int} {K : Nat} {p : Nd} {i : Nat} {x : Sn} (hx : p.out[i]? = some x) : talks T (K + 1) p i =
      if x.wt > 0 then talks T K p (i + 1)
      else if x.f.kd ≠ 2 ∨ x.f.dst ≠ 255 then (p, x.f, true)
      else if p.poll = 0 ∧ isChild p x.f.ta = true then talks T K (box { p with out := p.out.eraseIdx i } { x.f with dst := x.f.ta } T) i
      else if (hop p x.f.ta).2 then (p, { x.f with dst := (hop p x.f.ta).1 }, true)
      else if (mres p.out i false).2 then talks T K (lose { p with out := (mres p.out i false).1 }) i
      else talks T K { p with out := (mres p.out i false).1 } (i + 1) := by
  rw [talks, hx]
theorem stalk_any (V:NV) (n:Nd) (now:Int) (w:World) (h:OkN w V n) (hs:SmN n):
  Calls Tryz.prog 80 #[.agg ⟨ndC V n⟩,.int .i64 now] w fun e w'=>∃V':NV,e= .returned (.tuple ⟨[.agg ⟨ndC V' (talk n now).1⟩,.agg ⟨frC (talk n now).2.1⟩,.bool (talk n now).2.2]⟩)∧Pts V' (talk n now).1∧Sat (base w) (ndH V' (talk n now).1) w':=by
 obtain ⟨m,hm⟩:∃m,m=order n:=⟨_,rfl⟩
 have ho:Ord m:=by rw[hm];exact order_ord n
 have h16:=ho.out
 obtain ⟨T,hT⟩:∃T,T=tick now:=⟨_,rfl⟩
 obtain ⟨Z,hZ⟩:∃Z,Z=talk n now:=⟨_,rfl⟩
 have hZ0:Z=talks T 17 m 0:=by rw[hZ,hT,hm];rfl
 rw[← hZ]
 refine calls_hr Tryz.func80 I (Nat.le_of_ble_eq_true I) ?_
 refine HR.sub (σ':=[(0,.agg ⟨ndC V n⟩),(1,.int .i64 now)]) ⟨I,I,trivial⟩ ?_
 refine HR.ctl I ?_
 refine HR.region ?_
 refine HL.box I I ?_
 intro bn
 refine HL.alloc I I ?_
 intro br
 refine HL.alloc I I ?_
 intro bf
 repeat' (first|refine zh ?_|intro (bk:Nat))
 refine HL.callX (r:=fun x:Nat×NV=>ptr x.1) (Q:=fun x=>Pts x.2 m) (G:=fun x=>stH x.1 x.2 m T) fn68 I I (fun w1 hw1=>by rw[hm,hT];exact enter_any V n now w1 (h.ext hw1.belowB) hs) ?_
 rintro ⟨b,V2⟩ hP
 have hP:Pts V2 m:=hP
 refine HL.ent (H':=rsC br::rfC bf::stH b V2 m T) (Ent.pick [11,10,0,1,2,3,4,5,6,7,8,9] I I) ?_
 repeat' (first|refine zh ?_|intro (bk:Nat))
 refine HR.loop (ι:=Nat×Nat×Nd×SV×SV) (fun x=>Ord x.2.2.1∧x.2.2.1.parts=m.parts∧Z=talks T x.2.1 x.2.2.1 x.1∧x.1≤x.2.2.1.out.length∧x.2.2.1.out.length<x.1+x.2.1) (fun x=>[(4,ptr br),(5,ptr bf),(7,ptr b),(8,.int .i64 (x.1:Int))]) (fun x=>rsC br::rfC bf::stH b { V2 with ou:=x.2.2.2.1,bo:=x.2.2.2.2 } x.2.2.1 T) (fun x=>x.2.2.1.out.length-x.1) (0,17,m,V2.ou,V2.bo) ⟨ho,rfl,hZ0,Nat.zero_le _,by show m.out.length<0+17;omega⟩ ⟨I,I,I,I,trivial⟩ Ent.refl ?_
 rintro ⟨i,K,p,y1,y2⟩ ⟨hpo,hpp,hZ1,hi,hK⟩ ih
 have hpo:Ord p:=hpo
 have hpp:p.parts=m.parts:=hpp
 have hZ1:Z=talks T K p i:=hZ1
 have hi:i≤p.out.length:=hi
 have hK:p.out.length<i+K:=hK
 have hp16:=hpo.out
 have hp24:=tlen hpo
 have hpk:=klen hpo
 obtain ⟨K,rfl⟩:∃K',K=K'+1:=⟨K-1,by omega⟩
 repeat' (first|refine zh ?_|intro (bk:Nat))
 refine HR.cond I (fun h1=>?_) (fun h1=>?_)
 rotate_left
 ·have h1:¬(i:Int)<(p.out.length:Int):=of_decide_eq_false h1
  have hie:i=p.out.length:=by omega
  have hZ2:Z=(p,fr0,false):=by
   rw[hZ1,talks,show p.out[i]? =none from List.getElem?_eq_none (by omega)]
  rw[hZ2]
  repeat' (first|refine zh ?_|intro (bk:Nat))
  refine HR.ret Tryz.func80 I [_,_,_] (fun w hw=>⟨⟨_,rfl,loadVarR hw 0 I I I I rfl⟩,⟨_,rfl,loadVarR hw 1 I I I I rfl⟩,rfl,trivial⟩) ?_
  exact fun w' hw=>⟨{ V2 with ou:=y1,bo:=y2 },rfl,⟨by rw[show (p,fr0,false).1.parts=m.parts from hpp];exact hP.eq,hP.sh⟩,hw.pick [3,4,5,6,7,8,9,10,11] I rfl⟩
 have h1:(i:Int)<(p.out.length:Int):=of_decide_eq_true h1
 have hlt:i<p.out.length:=by omega
 obtain ⟨x,hx⟩:=getSome hlt
 rw[talks_step hx]at hZ1
 repeat' (first|refine zh ?_|refine HL.idxR (Rd.own 5 I) elemSn i I I I I hlt ?_|refine HL.loadE (Rd.own 5 I) I I I I (by simp) I (cellsOf_get snC_len hx) ?_|intro (bk:Nat))
 refine HR.cond I (fun h2=>?_) (fun h2=>?_)
 ·have h2:x.wt>0:=of_decide_eq_true h2
  rw[if_pos h2]at hZ1
  repeat' (first|refine zh ?_|intro (bk:Nat))
  exact ih (i+1,K,p,y1,y2) _ _ ⟨hpo,hpp,hZ1,hlt,by show p.out.length<i+1+K;omega⟩ (by show p.out.length-(i+1)<p.out.length-i;omega) ⟨I,I,I,I,trivial⟩ (Ent.pick [2,3,4,5,6,7,8,9,10,11,12,13] I I)
 have h2:¬x.wt>0:=of_decide_eq_false h2
 rw[if_neg h2]at hZ1
 repeat' (first|refine zh ?_|apply zb ?_ ?_|exact zc|(refine zi fun hb=>?_;try simp at hb)|intro (bk:Nat))
 refine HR.cond I (fun h3=>?_) (fun h3=>?_)
 ·have h3:(!(x.f.kd==2)||!(x.f.dst==255))=true:=h3
  have h4:x.f.kd≠2∨x.f.dst≠255:=by simpa using h3
  rw[if_pos h4]at hZ1
  rw[hZ1]
  repeat' (first|refine zh ?_|intro (bk:Nat))
  refine HR.regionD [(0,true),(1,true),(2,true),(3,true),(4,true),(5,false),(6,false),(7,true)] [0,4] I I hmix (by kernel_rfl) ?_
  repeat' (first|refine zd ?_|fail)
  refine HD.one I ?_
  refine HL.S 2 I I I I I ?_
  refine HL.back [0,4] I I ?_
  refine HD.one I ?_
  refine HL.S 3 I I I I I ?_
  refine HL.back [0,4] I I ?_
  repeat' (first|refine zd ?_|fail)
  refine HD.nil ?_
  repeat' (first|refine zh ?_|intro (bk:Nat))
  refine HR.ret Tryz.func80 I [_,_,_] (fun w hw=>⟨⟨_,rfl,loadVarR hw 2 I I I I rfl⟩,⟨_,rfl,loadVarR hw 3 I I I I rfl⟩,rfl,trivial⟩) ?_
  exact fun w' hw=>⟨{ V2 with ou:=y1,bo:=y2 },rfl,⟨by rw[show (p,x.f,true).1.parts=m.parts from hpp];exact hP.eq,hP.sh⟩,hw.pick [5,6,7,8,9,10,11,12,13] I rfl⟩
 have h3:(!(x.f.kd==2)||!(x.f.dst==255))=false:=h3
 have h4:¬(x.f.kd≠2∨x.f.dst≠255):=by
  intro e
  have:(!(x.f.kd==2)||!(x.f.dst==255))=true:=by simpa using e
  rw[h3]at this;cases this
 rw[if_neg h4]at hZ1
 refine HR.skip ?_
 refine HR.ctl I ?_
 refine HR.join (ι:=Unit) (fun _=>True) (fun _=>[(4,ptr br),(5,ptr bf),(7,ptr b),(8,.int .i64 (i:Int)),(10,ptr bk),(66,.bool ((p.poll==0)&&isChild p x.f.ta))]) (fun _=>blkC bk (frC x.f) 75::rsC br::rfC bf::stH b { V2 with ou:=y1,bo:=y2 } p T) (fun _ _=>?_) (fun hj=>?_)
 rotate_left
 ·refine HR.region ?_
  repeat' (first|refine zn ?_|intro (bk:Nat))
  refine HL.split 61 I (fun hb=>?_) (fun hb=>?_)
  ·repeat' (first|refine zn ?_|intro (bk:Nat))
   refine HL.ent (Ent.pick [4,5,6,7,8,9,10,11,12,13,0,2,3] I I) ?_
   refine HL.callW (r:=fun _:Unit=> .bool (isChild p x.f.ta)) (Q:=fun _=>True) (G0:=stH b { V2 with ou:=y1,bo:=y2 } p T) (H0:=[_,_,_]) (G:=fun _=>stH b { V2 with ou:=y1,bo:=y2 } p T) fn156 I I I (fun w1 hw1=>schild_any b { V2 with ou:=y1,bo:=y2 } p T x.f.ta _ w1 (hw1.pick [0,1,2,3,4,5,6,7,8,9] I I) (by omega) (by omega)) ?_
   intro _ _
   repeat' (first|refine zn ?_|intro (bk:Nat))
   refine hj () _ _ trivial ⟨rfl,rfl,rfl,rfl,rfl,?_,trivial⟩ (Ent.pick [10,11,12,0,1,2,3,4,5,6,7,8,9] I I)
   show some (Value.bool (isChild p x.f.ta))=some (Value.bool ((p.poll==0)&&isChild p x.f.ta))
   rw[show (p.poll==0)=true from hb];rfl
  ·repeat' (first|refine zn ?_|intro (bk:Nat))
   refine hj () _ _ trivial ⟨rfl,rfl,rfl,rfl,rfl,?_,trivial⟩ (Ent.pick [0,2,3,4,5,6,7,8,9,10,11,12,13] I I)
   show some (Value.bool false)=some (Value.bool ((p.poll==0)&&isChild p x.f.ta))
   rw[show (p.poll==0)=false from hb];rfl
 repeat' (first|refine zh ?_|intro (bk:Nat))
 refine HR.cond I (fun h5=>?_) (fun h5=>?_)
 ·have h5:((p.poll==0)&&isChild p x.f.ta)=true:=h5
  have h6:p.poll=0∧isChild p x.f.ta=true:=by simpa using h5
  rw[if_pos h6]at hZ1
  have hel:(p.out.eraseIdx i).length=p.out.length-1:=List.length_eraseIdx_of_lt hlt
  have ho1:Ord { p with out:=p.out.eraseIdx i }:=hpo.setOut (by omega)
  repeat' (first|refine zh ?_|refine HL.callO fn133 I I (fun w1 hw1=>cloneSn_any p.out _ w1 ((Rd.own 6 rfl).at hw1) (by omega)) ?_|intro (bk:Nat))
  intro v1
  repeat' (first|refine zh ?_|intro (bk:Nat))
  refine HL.callW (r:=fun r:Value=>r) (Q:=fun _=>True) (G0:=[cSn v1 p.out]) (H0:=[_,_,_,_,_,_,_,_,_,_,_,_,_]) (G:=fun r=>[cSn r (p.out.eraseIdx i)]) fn157 I I I (fun w1 hw1=>delSn_any p.out i v1 _ w1 (hw1.pick [0] I I) hlt (by omega)) ?_
  intro v2 _
  refine HL.shape 0 I fun a c hv=>?_
  subst hv
  repeat' (first|refine zh ?_|intro (bk:Nat))
  refine HL.ent (Ent.pick [4,5,6,0,8,9,10,11,12,13,2,3] I I) ?_
  refine HL.callW (r:=fun _:SV=> .tuple ⟨[]⟩) (Q:=fun _=>True) (G0:=stH b { V2 with ou:=(a,c),bo:=y2 } { p with out:=p.out.eraseIdx i } T) (H0:=[_,_]) (G:=fun z=>stH b { V2 with ou:=(a,c),bo:=z } (box { p with out:=p.out.eraseIdx i } { x.f with dst:=x.f.ta } T) T) fn158 I I I (fun w1 hw1=>sbox_any b { V2 with ou:=(a,c),bo:=y2 } { p with out:=p.out.eraseIdx i } T { x.f with dst:=x.f.ta } _ w1 (hw1.pick [0,1,2,3,4,5,6,7,8,9] I I) ho1) ?_
  intro z _
  have hbo:(box { p with out:=p.out.eraseIdx i } { x.f with dst:=x.f.ta } T).out.length=p.out.length-1:=by
   obtain ⟨q,l,e⟩:=box_is { p with out:=p.out.eraseIdx i } { x.f with dst:=x.f.ta } T
   rw[e];exact hel
  repeat' (first|refine zh ?_|intro (bk:Nat))
  exact ih (i,K,box { p with out:=p.out.eraseIdx i } { x.f with dst:=x.f.ta } T,(a,c),z) _ _ ⟨ho1.box _ _,(box_parts _ _ _).trans hpp,hZ1,by rw[show (i,K,box { p with out:=p.out.eraseIdx i } { x.f with dst:=x.f.ta } T,(a,c),z).2.2.1.out.length=_ from hbo];show i≤_;omega,by rw[show (i,K,box { p with out:=p.out.eraseIdx i } { x.f with dst:=x.f.ta } T,(a,c),z).2.2.1.out.length=_ from hbo];show _<i+K;omega⟩ (by show (box { p with out:=p.out.eraseIdx i } { x.f with dst:=x.f.ta } T).out.length-i<p.out.length-i;omega) ⟨I,I,I,I,trivial⟩ (Ent.pick [10,11,0,1,2,3,4,5,6,7,8,9] I I)
 have h5:((p.poll==0)&&isChild p x.f.ta)=false:=h5
 have h6:¬(p.poll=0∧isChild p x.f.ta=true):=by
  intro e
  have:((p.poll==0)&&isChild p x.f.ta)=true:=by simpa using e
  rw[h5]at this;cases this
 rw[if_neg h6]at hZ1
 repeat' (first|refine zh ?_|intro (bk:Nat))
 refine HL.ent (Ent.pick [3,4,5,6,7,8,9,10,11,12,0,1,2] I I) ?_
 refine HL.callW (r:=fun _:Unit=> .tuple ⟨[.int .i64 (hop p x.f.ta).1,.bool (hop p x.f.ta).2]⟩) (Q:=fun _=>True) (G0:=stH b { V2 with ou:=y1,bo:=y2 } p T) (H0:=[_,_,_]) (G:=fun _=>stH b { V2 with ou:=y1,bo:=y2 } p T) fn159 I I I (fun w1 hw1=>shop_any b { V2 with ou:=y1,bo:=y2 } p T x.f _ w1 (hw1.pick [0,1,2,3,4,5,6,7,8,9] I I) (by omega)) ?_
 intro _ _
 refine HL.ent (Ent.pick [10,11,12,0,1,2,3,4,5,6,7,8,9] I I) ?_
 repeat' (first|refine zh ?_|intro (bk:Nat))
 refine HR.cond I (fun h7=>?_) (fun h7=>?_)
 ·have h7:(hop p x.f.ta).2=true:=h7
  rw[if_pos h7]at hZ1
  rw[hZ1]
  repeat' (first|refine zh ?_|intro (bk:Nat))
  refine HR.regionD [(0,true),(1,true),(2,true),(3,true),(4,true),(5,false),(6,false),(7,true)] [0,3] I I hmix (by kernel_rfl) ?_
  repeat' (first|refine zd ?_|fail)
  refine HD.one I ?_
  refine HL.S 1 I I I I I ?_
  refine HL.back [0,3] I I ?_
  refine HD.one I ?_
  refine HL.S 2 I I I I I ?_
  refine HL.back [0,3] I I ?_
  repeat' (first|refine zd ?_|fail)
  refine HD.nil ?_
  repeat' (first|refine zh ?_|intro (bk:Nat))
  refine HR.ret Tryz.func80 I [_,_,_] (fun w hw=>⟨⟨_,rfl,loadVarR hw 1 I I I I rfl⟩,⟨_,rfl,loadVarR hw 2 I I I I rfl⟩,rfl,trivial⟩) ?_
  exact fun w' hw=>⟨{ V2 with ou:=y1,bo:=y2 },rfl,⟨by rw[show (p,({ x.f with dst:=(hop p x.f.ta).1 }:Fr),true).1.parts=m.parts from hpp];exact hP.eq,hP.sh⟩,hw.pick [4,5,6,7,8,9,10,11,12] I rfl⟩
 have h7:¬(hop p x.f.ta).2=true:=by rw[show (hop p x.f.ta).2=false from h7];decide
 rw[if_neg h7]at hZ1
 have hmf:=mres_false hp16 hlt
 have hml:=mres_len p.out i false
 obtain ⟨r,hr⟩:∃r,r=mres p.out i false:=⟨_,rfl⟩
 rw[← hr]at hZ1 hmf hml
 have hor:Ord { p with out:=r.1 }:=hpo.setOut hml
 repeat' (first|refine zh ?_|intro (bk:Nat))
 refine HL.callX (r:=fun v':Value=> .tuple ⟨[v',.bool r.2]⟩) (Q:=fun _=>True) (G:=fun v'=>[cSn v' r.1]) fn90 I I (fun w1 hw1=>by rw[hr];exact mresult_any p.out i false _ w1 ((Rd.own 6 rfl).at hw1) (by omega)) ?_
 intro v1 _
 refine HL.shape 0 I fun a c hv=>?_
 subst hv
 repeat' (first|refine zh ?_|intro (bk:Nat))
 refine HR.ent (Ent.pick [4,2,3,5,6,0,8,9,10,11,12,13] I I) ?_
 refine HR.cond I (fun h8=>?_) (fun h8=>?_)
 ·have h8:r.2=true:=h8
  rw[if_pos h8]at hZ1
  have hlen:r.1.length+1=p.out.length:=by
   rcases hmf with e|e
   ·exact e.2
   ·rw [h8]at e;cases e.1
  repeat' (first|refine zh ?_|intro (bk:Nat))
  refine HL.callW (r:=fun _:Unit=> .tuple ⟨[]⟩) (Q:=fun _=>True) (G0:=[blkS b { V2 with ou:=(a,c),bo:=y2 } { p with out:=r.1 } T]) (H0:=[_,_,_,_,_,_,_,_,_,_,_]) (G:=fun _=>[blkS b { V2 with ou:=(a,c),bo:=y2 } (lose { p with out:=r.1 }) T]) fn160 I I I (fun w1 hw1=>slose_any b { V2 with ou:=(a,c),bo:=y2 } { p with out:=r.1 } T _ w1 (hw1.pick [0] I I) hpo.lost) ?_
  intro _ _
  repeat' (first|refine zh ?_|intro (bk:Nat))
  refine HR.cond I (fun h9=>?_) (fun h9=>?_)
  ·exact absurd (eq_of_beq h9:(r.1.length:Int)=(p.out.length:Int)) (by omega)
  repeat' (first|refine zh ?_|intro (bk:Nat))
  exact ih (i,K,lose { p with out:=r.1 },(a,c),y2) _ _ ⟨hor.lose,hpp,hZ1,by show i≤r.1.length;omega,by show r.1.length<i+K;omega⟩ (by show r.1.length-i<p.out.length-i;omega) ⟨I,I,I,I,trivial⟩ (Ent.pick [1,2,0,3,4,5,6,7,8,9,10,11] I I)
 ·have h8:r.2=false:=h8
  rw[if_neg (by rw[h8];decide)]at hZ1
  have hlen:r.1.length=p.out.length:=by
   rcases hmf with e|e
   ·rw [h8]at e;cases e.1
   ·exact e.2
  repeat' (first|refine zh ?_|intro (bk:Nat))
  refine HR.cond I (fun h9=>?_) (fun h9=>?_)
  ·repeat' (first|refine zh ?_|intro (bk:Nat))
   exact ih (i+1,K,{ p with out:=r.1 },(a,c),y2) _ _ ⟨hor,hpp,hZ1,by show i+1≤r.1.length;omega,by show r.1.length<i+1+K;omega⟩ (by show r.1.length-(i+1)<p.out.length-i;omega) ⟨I,I,I,I,trivial⟩ (Ent.pick [1,2,0,3,4,5,6,7,8,9,10,11] I I)
  ·have h9:((r.1.length:Int)==(p.out.length:Int))=false:=h9
   simp at h9
   omega
end Go.Proofs.YtgfdoognildoeaaGreat
namespace Nd
open Go.GX Tp
theorem rdec_ok {s:By} (h:(rdec s).2=0):(rdec s).1.length≤24∧(∀ r∈(rdec s).1,usable r=true)∧Asc (·.dest) (rdec s).1:=by
 unfold rdec at h ⊢
 by_cases h1:s.length%4≠0
 ·rw [if_pos h1]at h;cases h
 rw[if_neg h1]at h ⊢
 by_cases h2:s.length>96
 ·rw [if_pos h2]at h;cases h
 rw[if_neg h2]at h ⊢
 by_cases h3:firstE (dbad (rdecs s (s.length / 4))) (s.length / 4)≠0
 ·rw [if_pos h3]at h;exact absurd h h3
 rw[if_neg h3]
 have h3:firstE (dbad (rdecs s (s.length / 4))) (s.length / 4)=0:=Decidable.not_not.1 h3
 have hl:=rdecs_len s (s.length / 4)
 have key:=firstE_all h3
 show (rdecs s (s.length / 4)).length≤24∧(∀ r∈rdecs s (s.length / 4),usable r=true)∧Asc (·.dest) (rdecs s (s.length / 4))
 generalize rdecs s (s.length / 4)=l at hl key
 refine ⟨by omega,fun r hr=>?_,asc_of fun i a b ha hb=>?_⟩
 ·obtain ⟨i,hi⟩:=List.getElem?_of_mem hr
  have hk:=key i (by have:=(List.getElem?_eq_some_iff.1 hi).1;omega)
  unfold dbad at hk
  rw[hi]at hk
  simp only at hk
  by_cases hu:usable r=false
  ·rw [if_pos hu]at hk;cases hk
  ·exact Bool.not_eq_false _▸hu
 ·have hk:=key (i+1) (by have:=(List.getElem?_eq_some_iff.1 hb).1;omega)
  unfold dbad at hk
  rw[hb]at hk
  simp only[Nat.add_sub_cancel,ha]at hk
  by_cases hu:usable b=false
  ·rw [if_pos hu]at hk;cases hk
  ·rw [if_neg hu]at hk
   by_cases hd:b.dest≤a.dest
   ·rw [if_pos ⟨by omega,by simpa using hd⟩]at hk;cases hk
   ·show a.dest<b.dest;omega
theorem leads_hop {l:List Ro} (hu:∀r∈l,usable r=true) (ha:Asc (·.dest) l):(l.any fun r=>(r.dest==0)&&decide (r.cost≤200))=(rhop l 0).2:=by
 have hfin:∀r∈l,fin r=decide (r.cost≤200):=by
  intro r hr
  have h1:=hu r hr
  unfold usable at h1
  by_cases hc:r.cost≤200
  ·rw [decide_eq_true hc]
   simp only[Bool.and_eq_true,Bool.or_eq_true,beq_iff_eq]at h1
   rcases h1.2 with h|h
   ·exact h.1
   ·omega
  ·unfold fin
   rw[decide_eq_false hc,Bool.and_false]
 unfold rhop rat
 cases hf:l.find? (fun x=>x.dest==0)with
 |none=>
  rw[← Bool.not_eq_true,List.any_eq_true]
  ·rintro ⟨r,hr,h2⟩
   have:=List.find?_eq_none.1 hf r hr
   simp only[Bool.and_eq_true]at h2
   exact this h2.1
 |some r=>
  have hr:=List.mem_of_find?_eq_some hf
  have hd:(r.dest==0)=true:=List.find?_some (p:=fun x:Ro=>x.dest==0) hf
  simp only
  rw[hfin r hr]
  by_cases hc:r.cost≤200
  ·rw [decide_eq_true hc,if_pos rfl]
   show _=true
   rw[List.any_eq_true]
   exact ⟨r,hr,by rw[hd,decide_eq_true hc];rfl⟩
  ·rw [decide_eq_false hc,if_neg (by decide)]
   show _=false
   rw[← Bool.not_eq_true,List.any_eq_true]
   rintro ⟨q,hq,h2⟩
   simp only[Bool.and_eq_true,beq_iff_eq,decide_eq_true_eq]at h2
   obtain ⟨i,hi⟩:=List.getElem?_of_mem hr
   obtain ⟨j,hj⟩:=List.getElem?_of_mem hq
   have hd:r.dest=0:=by simpa using hd
   rcases Nat.lt_trichotomy i j with h|h|h
   ·have:r.dest<q.dest:=ha.lt h hi hj
    omega
   ·subst h;rw[hi]at hj;cases hj;exact hc h2.2
   ·have:q.dest<r.dest:=ha.lt h hj hi
    omega
theorem sorted_strict {l:List Int} (h:l.Pairwise fun x y=>x≤y) (hn:l.Nodup):Asc id l:=by
 have:=List.Pairwise.and h hn
 exact this.imp fun {a b} ⟨h1,h2⟩=>by
  have h2:a≠b:=h2
  show a<b
  omega
theorem child_sorted {l:List Int} {c:Int} (h:Asc id l) (hc:¬c∈l):Tf.srt (l++[c])=child l c:=by
 have hp:(Tf.srt (l++[c])).Perm (l++[c]):=List.mergeSort_perm _ _
 have hn:(l++[c]).Nodup:=by
  rw[List.nodup_append]
  refine ⟨h.nodup,by simp,fun a ha b hb=>?_⟩
  rw[List.mem_singleton]at hb
  rintro rfl
  subst hb
  exact hc ha
 refine asc_ext (sorted_strict (Tf.srt_sorted _) (hp.nodup_iff.2 hn)) (child_asc h c).1 fun x=>?_
 rw[hp.mem_iff,(child_asc h c).2]
 simp[or_comm]
end Nd
namespace Go.Proofs.YtgfdoognildoeaaGreat
open Go.GX Go.RowKit
attribute [local irreducible] Calls Run RunL RunQ RunD HR HL HD blkC ownC mapC Rd slicesC iterC
open Nd
theorem fn163:IsFn Tryz.prog 163:=⟨⟨_,_,Tryz.func163,rfl,by decide⟩⟩
theorem fn220:IsFn Tryz.prog 220:=⟨⟨_,_,Tryz.func220,rfl,by decide⟩⟩
theorem fn164:IsFn Tryz.prog 164:=⟨⟨_,_,Tryz.func164,rfl,by decide⟩⟩
theorem adv1_any (r:Ro) (w:World):Calls Tryz.prog 220 #[.agg ⟨roC r⟩] w fun e w'=>e= .returned (.bool ((r.dest==0)&&decide (r.cost≤200)))∧Below w.heap.size w w':=by
 refine calls_hr Tryz.func220 I (Nat.le_of_ble_eq_true I) ?_
 refine HR.sub (σ':=[(0,.agg ⟨roC r⟩)]) ⟨I,trivial⟩ ?_
 repeat' (first|refine zh ?_|apply zb ?_ ?_|exact zc|(refine zi fun hb=>?_;try simp at hb)|intro (bk:Nat))
 refine HR.ret Tryz.func220 I [_] (fun _ _=>⟨I,trivial⟩) ?_
 exact fun w' hw=>⟨rfl,hw.belowB⟩
theorem sadv_any (b:Nat) (V:NV) (n:Nd) (now:Int) (f:Fr) (B:Base) (w:World) (hw:Sat B (stH b V n now) w) (ho:Ord n) (hfd:f.da.length≤1000):
  Calls Tryz.prog 163 #[ptr b,.agg ⟨frC f⟩] w fun e w'=>∃x:SV×SV,e= .returned (.tuple ⟨[]⟩)∧True∧Sat ⟨w,feet (stH b V n now)⟩ (stH b { V with ta:=x.1,li:=x.2 } (advertised n f) now) w':=by
 have h24:=tlen ho
 have l24:=llen ho
 obtain ⟨a,ha⟩:∃a:Nd,a={ n with links:=lseen n.links f.fr true }:=⟨_,rfl⟩
 have hal:a.links.length≤24:=by rw[ha];exact lchk_room (lseen_ok _ _ _)
 have hat:a.table.length≤24:=by rw[ha];exact h24
 obtain ⟨d,hd⟩:∃d,d=rdec f.da:=⟨_,rfl⟩
 obtain ⟨g,hg⟩:∃g:Nd,g={ a with table:=rupd a.table a.addr f.fr (lcost a.links f.fr) d.1 }:=⟨_,rfl⟩
 have hsp:advertised n f=if d.2≠0 then a else if g.poll>0∧g.parent=255∧(rhop d.1 0).2=true then { g with parent:=f.fr } else g:=by rw[hg,hd,ha];rfl
 rw[hsp]
 refine calls_hrW (stH b V n now) (hw) Tryz.func163 I (Nat.le_of_ble_eq_true I) ?_
 refine HR.sub (σ':=[(0,ptr b),(1,.agg ⟨frC f⟩)]) ⟨I,I,trivial⟩ ?_
 refine HR.ctl I ?_
 refine HR.region ?_
 refine HL.box I I ?_
 intro bf
 repeat' (first|refine zh ?_|intro (bk:Nat))
 refine HR.regionY [(0,true),(1,true),(2,true),(3,true),(4,true),(5,true),(6,true),(7,true),(8,false),(9,true),(10,true),(11,true)] 12 [0,1] I I hmix (by kernel_rfl) ?_
 repeat' (first|refine zd ?_|fail)
 refine HD.one I ?_
 refine HL.callO fn92 I I (fun w1 hw1=>lseen_any n.links f.fr true _ w1 ((Rd.own 3 rfl).at hw1) (by omega)) ?_
 intro v1
 refine HL.shape 0 I fun a1 c1 hv=>?_
 subst hv
 refine HL.back [1,2] I I ?_
 repeat' (first|refine zd ?_|fail)
 refine HD.last I ?_
 repeat' (first|refine zn ?_|intro (bk:Nat))
 refine HR.ent (H':=blkC bf (frC f) 75::stH b { V with li:=(a1,c1) } { n with links:=lseen n.links f.fr true } now) (Ent.pick [1,2,3,0,5,6,7,8,9,10,11] I I) ?_
 rw[← ha]
 repeat' (first|refine zh ?_|intro (bk:Nat))
 refine HL.callX (r:=fun v':Value=> .tuple ⟨[v',.int .i64 d.2]⟩) (Q:=fun _=>True) (G:=fun v'=>[cTa v' d.1]) fn216 I I (fun w1 _=>by rw[hd];exact decode_any f.da w1 (by omega)) ?_
 intro v2 _
 repeat' (first|refine zh ?_|intro (bk:Nat))
 refine HR.cond I (fun h1=>?_) (fun h1=>?_)
 ·have h1:d.2≠0:=by simpa using h1
  rw[if_pos h1]
  repeat' (first|refine zh ?_|intro (bk:Nat))
  refine HR.ret Tryz.func163 I [] (fun _ _=>trivial) ?_
  exact fun w' hw=>⟨(V.ta,(a1,c1)),rfl,trivial,hw.pick [2,3,4,5,6,7,8,9,10,11] I rfl⟩
 have h1:¬d.2≠0:=by simpa using h1
 rw[if_neg h1]
 have h0:(rdec f.da).2=0:=by rw[← hd];omega
 obtain ⟨g1,g2,g3⟩:=rdec_ok h0
 rw[← hd]at g1 g2 g3
 have hld:=leads_hop g2 g3
 repeat' (first|refine zh ?_|intro (bk:Nat))
 refine HR.regionY [(0,true),(1,true),(2,true),(3,true),(4,true),(5,true),(6,true),(7,true),(8,true),(9,true),(10,true),(11,true),(12,true),(13,true),(14,true),(15,true),(16,true),(17,true),(18,true),(19,true),(21,true),(20,false),(22,false),(23,true),(24,true),(25,true)] 26 [1,2] I I hmix (by kernel_rfl) ?_
 repeat' (first|refine zd ?_|fail)
 refine HD.one I ?_
 refine HL.callB fn218 I I (fun w1 hw1=>lcost_any a.links f.fr _ w1 ((Rd.own 4 rfl).at hw1) (by omega)) ?_
 refine HL.back [1,2] I I ?_
 refine HD.one I ?_
 refine HL.callO fn217 I I (fun w1 hw1=>rupd_any a.table a.addr f.fr (lcost a.links f.fr) d.1 _ v2 w1 ((Rd.own 3 rfl).at hw1) ((Rd.own 0 rfl).at hw1) (by omega) (by omega)) ?_
 intro v3
 refine HL.shape 0 I fun a3 c3 hv=>?_
 subst hv
 refine HL.back [2,3] I I ?_
 repeat' (first|refine zd ?_|fail)
 refine HD.last I ?_
 repeat' (first|refine zn ?_|intro (bk:Nat))
 refine HR.ent (H':=cTa v2 d.1::blkC bf (frC f) 75::stH b { V with li:=(a1,c1),ta:=(a3,c3) } { a with table:=rupd a.table a.addr f.fr (lcost a.links f.fr) d.1 } now) (Ent.pick [1,2,3,0,5,6,7,8,9,10,11,12] I I) ?_
 rw[← hg]
 repeat' (first|refine zh ?_|refine HL.callB fn219 I I (fun w1 hw1=>contFRo_any d.1 (fun r=>(r.dest==0)&&decide (r.cost≤200)) 220 [] v2 w1 fn220 (fun r _ w2 _=>adv1_any r w2) ((Rd.own 0 rfl).at hw1) (by omega)) ?_|intro (bk:Nat))
 rw[hld]
 repeat' (first|refine zh ?_|apply zb ?_ ?_|exact zc|(refine zi fun hb=>?_;try simp at hb)|intro (bk:Nat))
 refine HR.cond I (fun h2=>?_) (fun h2=>?_)
 ·have h2:(decide (g.poll>0)&&(g.parent==255)&&(rhop d.1 0).2)=true:=h2
  have h3:g.poll>0∧g.parent=255∧(rhop d.1 0).2=true:=by simpa[and_assoc]using h2
  rw[if_pos h3]
  repeat' (first|refine zh ?_|intro (bk:Nat))
  refine HR.fin Tryz.func163 I [] (fun _ _=>trivial) ?_
  exact fun w' hw=>⟨((a3,c3),(a1,c1)),rfl,trivial,hw.pick [2,3,4,5,6,7,8,9,10,11] I rfl⟩
 ·have h2:(decide (g.poll>0)&&(g.parent==255)&&(rhop d.1 0).2)=false:=h2
  have h3:¬(g.poll>0∧g.parent=255∧(rhop d.1 0).2=true):=by
   intro e
   have:(decide (g.poll>0)&&(g.parent==255)&&(rhop d.1 0).2)=true:=by simpa[and_assoc]using e
   rw[h2]at this;cases this
  rw[if_neg h3]
  repeat' (first|refine zh ?_|intro (bk:Nat))
  refine HR.fin Tryz.func163 I [] (fun _ _=>trivial) ?_
  exact fun w' hw=>⟨((a3,c3),(a1,c1)),rfl,trivial,hw.pick [2,3,4,5,6,7,8,9,10,11] I rfl⟩
end Go.Proofs.YtgfdoognildoeaaGreat
namespace Go.Proofs.YtgfdoognildoeaaGreat
open Go.GX Go.RowKit
attribute [local irreducible] Calls Run RunL RunQ RunD HR HL HD blkC ownC mapC Rd slicesC iterC
open Nd
theorem drain_step (fr now:Int) (k:Nat) (n:Nd):Nd.drain fr now (k+1) n=if (btake n.boxes fr now 120).2.2 then Nd.drain fr now k (queue { n with boxes:=(btake n.boxes fr now 120).2.1 } { (btake n.boxes fr now 120).1 with fr:=n.addr }).1 else { n with boxes:=(btake n.boxes fr now 120).2.1 }:=rfl
theorem spolled_any (b:Nat) (V:NV) (n:Nd) (now:Int) (f:Fr) (B:Base) (w:World) (hw:Sat B (stH b V n now) w) (ho:Ord n) (hf:Tp.okN f.fr=true) (hne:f.fr≠n.addr):
  Calls Tryz.prog 164 #[ptr b,.agg ⟨frC f⟩] w fun e w'=>∃x:SV×SV×SV×SV,e= .returned (.tuple ⟨[]⟩)∧True∧Sat ⟨w,feet (stH b V n now)⟩ (stH b { V with ch:=x.1,ta:=x.2.1,ou:=x.2.2.1,bo:=x.2.2.2 } (polled n f now) now) w':=by
 have h24:=tlen ho
 have hk251:=klen ho
 have hb16:=ho.boxes
 obtain ⟨C,hC⟩:∃C,C=child n.children f.fr:=⟨_,rfl⟩
 obtain ⟨TT,hTT⟩:∃TT,TT=rupd n.table n.addr f.fr 10 [⟨f.fr,f.sq,0,0⟩]:=⟨_,rfl⟩
 have ho2:Ord { n with children:=C,table:=TT }:=by
  rw[hC,hTT]
  obtain ⟨g1,g2⟩:=rupd_tab (fr:=f.fr) (cost:=10) (adv:=[⟨f.fr,f.sq,0,0⟩]) ho.table
  obtain ⟨c1,c2⟩:=child_asc ho.kids f.fr
  refine { ho with table:=g1,kids:=c1,kid:=fun x hx=>?_ }
  rcases (c2 x).1 hx with rfl|hx
  ·exact ⟨hf,hne⟩
  ·exact ho.kid x hx
 have hsp:polled n f now=Nd.drain f.fr now 17 { n with children:=C,table:=TT }:=by rw[hC,hTT];rfl
 obtain ⟨Z,hZ⟩:∃Z,Z=polled n f now:=⟨_,rfl⟩
 rw[← hZ]
 rw[hsp]at hZ
 refine calls_hrW (stH b V n now) (hw) Tryz.func164 I (Nat.le_of_ble_eq_true I) ?_
 refine HR.sub (σ':=[(0,ptr b),(1,.agg ⟨frC f⟩)]) ⟨I,I,trivial⟩ ?_
 refine HR.ctl I ?_
 refine HR.region ?_
 refine HL.box I I ?_
 intro bf
 repeat' (first|refine zh ?_|intro (bk:Nat))
 refine HR.regionD [(0,true),(1,true),(2,true),(3,true),(4,true),(5,true),(6,true),(7,false),(8,true)] [0,1] I I hmix (by kernel_rfl) ?_
 repeat' (first|refine zd ?_|fail)
 refine HD.one I ?_
 refine HL.callB fn49 I I (fun w1 hw1=>contI_any n.children f.fr _ w1 ((Rd.own 5 rfl).at hw1) (by omega)) ?_
 refine HL.back [0,1] I I ?_
 repeat' (first|refine zd ?_|fail)
 refine HD.nil ?_
 refine HR.join (ι:=SV) (fun _=>True) (fun _=>[(0,ptr b),(3,ptr bf)]) (fun x=>blkC bf (frC f) 75::stH b { V with ch:=x } { n with children:=C } now) (fun x _=>?_) (fun hj=>?_)
 rotate_left
 ·refine HR.cond I (fun h1=>?_) (fun h1=>?_)
  ·have h1:(!decide (f.fr∈n.children))=true:=h1
   have h2:¬f.fr∈n.children:=by simpa using h1
   have hcs:=child_sorted ho.kids h2
   obtain ⟨L,hL⟩:∃L,L=n.children++[f.fr]:=⟨_,rfl⟩
   have hLl:L.length=n.children.length+1:=by rw[hL];simp
   have hLs:Tf.srt L=C:=by rw[hL,hcs,hC]
   have hLp:L.length=C.length:=by rw[← hLs];exact (List.mergeSort_perm _ _).length_eq.symm
   repeat' (first|refine zh ?_|intro (bk:Nat))
   refine HR.regionY [(0,true),(1,true),(2,true),(3,true),(4,true),(5,true),(6,true),(7,true),(8,false),(9,false),(10,true),(11,true),(12,true)] 13 [0,1] I I hmix (by kernel_rfl) ?_
   repeat' (first|refine zd ?_|fail)
   refine HD.one I ?_
   refine HL.bslice elemI I I I I I (by decide) (by decide) ?_
   intro va
   refine HL.back [1,2] I I ?_
   refine HD.one I ?_
   refine HL.appR 6 I elemI (Rd.own 0 I) I I I I (allOne_spec I) (by omega) (by omega) ?_
   intro v1
   refine HL.back [1,2] I I ?_
   repeat' (first|refine zd ?_|fail)
   refine HD.last I ?_
   refine HL.shape 6 I fun a1 c1 hv=>?_
   subst hv
   repeat' (first|refine zn ?_|intro (bk:Nat))
   refine HR.ent (H':=[ownC (.slice a1 (n.children.length+1) c1) 3 1 (n.children.length+1) (cellsOf iC n.children++iC f.fr),_,_,_,_,_,_,_,_,_,_]) (Ent.pick [6,1,2,3,4,5,7,8,9,10,11] I I) ?_
   rw[← hLl,show cellsOf iC n.children++iC f.fr=cellsOf iC L from by rw[hL,cellsOf_app];rfl]
   repeat' (first|refine zh ?_|intro (bk:Nat))
   refine HL.callW (r:=fun _:Unit=> .tuple #[]) (Q:=fun _=>True) (G0:=[cI (.slice a1 L.length c1) L]) (H0:=[_,_,_,_,_,_,_,_,_,_]) (G:=fun _=>[ownC (.slice a1 L.length c1) 3 1 L.length (cellsOf iC (Tf.srt L))]) fn135 I I I (fun w1 hw1=>sortI_any _ _ L w1 (hw1.vw (i:=0) I) (by omega)) ?_
   intro _ _
   rw[hLs]
   repeat' (first|refine zn ?_|intro (bk:Nat))
   refine hj (a1,c1) _ _ trivial ⟨I,I,trivial⟩ ?_
   rw[hLp]
   exact Ent.pick [1,2,3,4,5,0,6,7,8,9,10] I I
  ·have h1:(!decide (f.fr∈n.children))=false:=h1
   have h2:f.fr∈n.children:=by simpa using h1
   have hCn:C=n.children:=by rw[hC];unfold child;rw[if_pos h2]
   refine HR.skip ?_
   refine hj V.ch _ _ trivial ⟨I,I,trivial⟩ ?_
   rw[hCn]
   exact Ent.refl
 repeat' (first|refine zh ?_|intro (bk:Nat))
 refine HR.regionY [(0,true),(1,true),(2,true),(3,true),(4,true),(5,true),(6,true),(7,true),(8,true),(9,true),(10,true),(11,true),(12,true),(13,true),(14,true),(15,true),(16,true),(17,true),(18,false),(19,false),(20,true),(21,true),(22,true)] 23 [0,1] I I hmix (by kernel_rfl) ?_
 repeat' (first|refine zd ?_|fail)
 refine HD.one I ?_
 refine HL.bslice elemRo I I I I I (by decide) (by decide) ?_
 intro va
 refine HL.back [1,2] I I ?_
 refine HD.one I ?_
 refine HL.callO fn217 I I (fun w1 hw1=>rupd_any n.table n.addr f.fr 10 [⟨f.fr,f.sq,0,0⟩] _ va w1 ((Rd.own 3 rfl).at hw1) ((Rd.own 0 rfl).at hw1) (by omega) (show 1≤1000 by decide)) ?_
 intro v2
 refine HL.shape 0 I fun a2 c2 hv=>?_
 subst hv
 rw[← hTT]
 refine HL.back [2,3] I I ?_
 repeat' (first|refine zd ?_|fail)
 refine HD.last I ?_
 repeat' (first|refine zn ?_|intro (bk:Nat))
 refine HR.ent (H':=blkC bf (frC f) 75::stH b { V with ch:=x,ta:=(a2,c2) } { n with children:=C,table:=TT } now) (Ent.pick [2,3,0,5,6,7,8,9,10,11,12] I I) ?_
 repeat' (first|refine zh ?_|intro (bk:Nat))
 refine HR.loop (ι:=Nat×Nd×SV×SV) (fun y=>Ord y.2.1∧Z=Nd.drain f.fr now y.1 y.2.1∧y.2.1.boxes.length<y.1) (fun _=>[(0,ptr b),(3,ptr bf)]) (fun y=>blkC bf (frC f) 75::stH b { V with ch:=x,ta:=(a2,c2),ou:=y.2.2.1,bo:=y.2.2.2 } y.2.1 now) (fun y=>y.2.1.boxes.length) (17,{ n with children:=C,table:=TT },V.ou,V.bo) ⟨ho2,hZ,by show n.boxes.length<17;omega⟩ ⟨I,I,trivial⟩ Ent.refl ?_
 rintro ⟨K,p,y1,y2⟩ ⟨hpo,hZ1,hK⟩ ih
 have hpo:Ord p:=hpo
 have hZ1:Z=Nd.drain f.fr now K p:=hZ1
 have hK:p.boxes.length<K:=hK
 have hp16:=hpo.boxes
 obtain ⟨K,rfl⟩:∃K',K=K'+1:=⟨K-1,by omega⟩
 rw[drain_step]at hZ1
 have hbl:=btake_len p.boxes f.fr now 120
 obtain ⟨r,hr⟩:∃r,r=btake p.boxes f.fr now 120:=⟨_,rfl⟩
 rw[← hr]at hZ1 hbl
 obtain ⟨hbl1,hbl2⟩:=hbl
 have hpb:Ord { p with boxes:=r.2.1 }:=hpo.setBoxes hbl1
 repeat' (first|refine zh ?_|intro (bk:Nat))
 refine HR.join (ι:=Value×Nat) (fun _=>True) (fun z=>[(0,ptr b),(3,ptr bf),(4,ptr z.2),(5,z.1),(6,.bool r.2.2)]) (fun z=>blkC z.2 (frC r.1) 75::cMa z.1 r.2.1::blkC bf (frC f) 75::stH b { V with ch:=x,ta:=(a2,c2),ou:=y1,bo:=y2 } p now) (fun z _=>?_) (fun hj=>?_)
 rotate_left
 ·refine HR.regionA [0,1] I I hmix ?_
  refine za 0 ?_
  refine za 1 ?_
  refine za 2 ?_
  refine za 3 ?_
  refine za 4 ?_
  refine za 5 ?_
  refine za 6 ?_
  refine za 7 ?_
  refine za 8 ?_
  refine za 9 ?_
  refine za 10 ?_
  refine HA.two 11 16 (by kernel_rfl) I I ?_ ?_
  ·refine HL.callX (r:=fun v':Value=> .tuple ⟨[.agg ⟨frC r.1⟩,v',.bool r.2.2]⟩) (Q:=fun _=>True) (G:=fun v'=>[cMa v' r.2.1]) fn221 I I (fun w1 hw1=>by rw[hr];exact btake_any p.boxes f.fr now 120 _ w1 ((Rd.own 6 rfl).at hw1) (by omega)) ?_
   intro v3 _
   refine HL.backA [1,2] I I ?_
   refine za 12 ?_
   refine za 13 ?_
   refine za 14 ?_
   refine za 15 ?_
   refine HA.one 16 (by kernel_rfl) I ?_
   refine HL.alloc I I ?_
   intro b4
   refine HL.backA [2,3] I I ?_
   refine HA.one 17 (by kernel_rfl) I ?_
   refine HL.S 0 I I I I I ?_
   refine HL.backA [2,3] I I ?_
   refine za 18 ?_
   refine za 19 ?_
   refine HA.done (by kernel_rfl) ?_
   exact hj (v3,b4) _ _ trivial ⟨I,I,I,I,I,trivial⟩ Ent.refl
  ·refine HL.alloc I I ?_
   intro b4
   refine HL.backA [1,2] I I ?_
   refine HA.one 11 (by kernel_rfl) I ?_
   refine HL.callX (r:=fun v':Value=> .tuple ⟨[.agg ⟨frC r.1⟩,v',.bool r.2.2]⟩) (Q:=fun _=>True) (G:=fun v'=>[cMa v' r.2.1]) fn221 I I (fun w1 hw1=>by rw[hr];exact btake_any p.boxes f.fr now 120 _ w1 ((Rd.own 7 rfl).at hw1) (by omega)) ?_
   intro v3 _
   refine HL.backA [2,3] I I ?_
   refine za 12 ?_
   refine za 13 ?_
   refine za 14 ?_
   refine za 15 ?_
   refine HA.one 17 (by kernel_rfl) I ?_
   refine HL.S 1 I I I I I ?_
   refine HL.backA [2,3] I I ?_
   refine za 18 ?_
   refine za 19 ?_
   refine HA.done (by kernel_rfl) ?_
   exact hj (v3,b4) _ _ trivial ⟨I,I,I,I,I,trivial⟩ (Ent.pick [1,0,2,3,4,5,6,7,8,9,10,11,12] I I)
 obtain ⟨v3,b4⟩:=z
 repeat' (first|refine zh ?_|intro (bk:Nat))
 refine HL.shape (v:=v3) (e:=166) (sz:=10) (n:=r.2.1.length) (xs:=cellsOf maC r.2.1) 1 I fun a3 c3 hv=>?_
 subst hv
 repeat' (first|refine zh ?_|intro (bk:Nat))
 refine HR.cond I (fun h1=>?_) (fun h1=>?_)
 ·have h1:r.2.2=false:=by simpa using h1
  rw[if_neg (by rw[h1];decide)]at hZ1
  rw[hZ1]
  repeat' (first|refine zh ?_|intro (bk:Nat))
  refine HR.ret Tryz.func164 I [] (fun _ _=>trivial) ?_
  exact fun w' hw=>⟨(x,(a2,c2),y1,(a3,c3)),rfl,trivial,hw.pick [3,4,5,6,7,1,9,10,11,12] I rfl⟩
 have h1:r.2.2=true:=by simpa using h1
 rw[if_pos h1]at hZ1
 repeat' (first|refine zh ?_|intro (bk:Nat))
 refine HL.ent (Ent.pick [3,4,5,6,7,1,9,10,11,12,2] I I) ?_
 refine HL.callW (r:=fun _:SV=> .bool (queue { p with boxes:=r.2.1 } { r.1 with fr:=p.addr }).2) (Q:=fun _=>True) (G0:=stH b { V with ch:=x,ta:=(a2,c2),ou:=y1,bo:=(a3,c3) } { p with boxes:=r.2.1 } now) (H0:=[_]) (G:=fun z=>stH b { V with ch:=x,ta:=(a2,c2),ou:=z,bo:=(a3,c3) } (queue { p with boxes:=r.2.1 } { r.1 with fr:=p.addr }).1 now) fn119 I I I (fun w1 hw1=>squeue_any b { V with ch:=x,ta:=(a2,c2),ou:=y1,bo:=(a3,c3) } { p with boxes:=r.2.1 } now { r.1 with fr:=p.addr } _ w1 (hw1.pick [0,1,2,3,4,5,6,7,8,9] I I) hpb) ?_
 intro z _
 have hqb:(queue { p with boxes:=r.2.1 } { r.1 with fr:=p.addr }).1.boxes.length=r.2.1.length:=by
  obtain ⟨q,l,e⟩:=queue_is { p with boxes:=r.2.1 } { r.1 with fr:=p.addr }
  rw[e]
 repeat' (first|refine zh ?_|intro (bk:Nat))
 exact ih (K,(queue { p with boxes:=r.2.1 } { r.1 with fr:=p.addr }).1,z,(a3,c3)) _ _ ⟨hpb.queue _,hZ1,by show (queue { p with boxes:=r.2.1 } { r.1 with fr:=p.addr }).1.boxes.length<K;have:=hbl2 h1;omega⟩ (by show (queue { p with boxes:=r.2.1 } { r.1 with fr:=p.addr }).1.boxes.length<p.boxes.length;have:=hbl2 h1;omega) ⟨I,I,trivial⟩ (Ent.pick [10,0,1,2,3,4,5,6,7,8,9] I I)
end Go.Proofs.YtgfdoognildoeaaGreat
namespace Go.Proofs.YtgfdoognildoeaaGreat
open Go.GX Go.RowKit
attribute [local irreducible] Calls Run RunL RunQ RunD HR HL HD blkC ownC mapC Rd slicesC iterC
open Nd
theorem fn165:IsFn Tryz.prog 165:=⟨⟨_,_,Tryz.func165,rfl,by decide⟩⟩
theorem sreceived_any (b:Nat) (V:NV) (n:Nd) (now:Int) (f:Fr) (B:Base) (w:World) (hw:Sat B (stH b V n now) w) (ho:Ord n) (hP:Pts V n) (hsm:∀p∈n.parts,SmPt p) (hpl:n.parts.length≤1000) (hfd:f.da.length≤1000) (hhp:0≤f.hp∧f.hp≤15):
  Calls Tryz.prog 165 #[ptr b,.agg ⟨frC f⟩] w fun e w'=>∃V':NV,e= .returned (.tuple ⟨[]⟩)∧Pts V' (received n f now)∧Sat ⟨w,feet (stH b V n now)⟩ (stH b V' (received n f now) now) w':=by
 obtain ⟨hhp0,hhp1⟩:=hhp
 have hse:=ho.seen
 have hml:=mfresh_len n.seen ⟨f.so,f.sq⟩
 obtain ⟨r,hr⟩:∃r,r=mfresh n.seen ⟨f.so,f.sq⟩:=⟨_,rfl⟩
 obtain ⟨a,ha⟩:∃a:Nd,a={ n with seen:=r.1 }:=⟨_,rfl⟩
 obtain ⟨q,hq⟩:∃q,q=padd a.parts f.so now f.da:=⟨_,rfl⟩
 rw[← hr]at hml
 have hao:Ord a:=by rw[ha];exact { ho with seen:=hml }
 have hap:a.parts=n.parts:=by rw[ha]
 have hPa:Pts V a:=⟨by rw[hap];exact hP.eq,hP.sh⟩
 have hps:V.ps.length≤1000:=by rw[← pts_len,hP.eq];exact hpl
 have hpm:∀p∈V.ps,SmPt p.pt:=fun p hp=>hsm p.pt (by rw[← hP.eq];exact List.mem_map.2 ⟨p,hp,rfl⟩)
 have hsp:received n f now=if r.2=false then a else if f.ta=a.addr then (if q.e≠0 then a else if q.ok then deliver { a with parts:=q.l } ⟨f.so,q.t⟩else { a with parts:=q.l })else if a.poll>0∨f.hp=15 then lose a else (queue a { f with fr:=a.addr,dst:=255,hp:=f.hp+1 }).1:=by rw[hq,ha,hr];rfl
 rw[hsp]
 refine calls_hrW (stH b V n now) (hw) Tryz.func165 I (Nat.le_of_ble_eq_true I) ?_
 refine HR.sub (σ':=[(0,ptr b),(1,.agg ⟨frC f⟩)]) ⟨I,I,trivial⟩ ?_
 refine HR.ctl I ?_
 refine HR.region ?_
 refine HL.box I I ?_
 intro bf
 repeat' (first|refine zh ?_|intro (bk:Nat))
 refine HR.regionD [(0,true),(1,true),(2,true),(3,true),(4,true),(5,true),(6,true),(7,true),(8,true),(9,true),(10,false),(11,true),(12,true),(13,true),(14,true),(15,true)] [0,1] I I hmix (by kernel_rfl) ?_
 repeat' (first|refine zd ?_|fail)
 refine HD.one I ?_
 refine HL.callX (r:=fun v':Value=> .tuple ⟨[v',.bool r.2]⟩) (Q:=fun _=>True) (G:=fun v'=>[cPr v' r.1]) fn222 I I (fun w1 hw1=>by rw[hr];exact mfresh_any n.seen ⟨f.so,f.sq⟩ _ w1 ((Rd.own 7 rfl).at hw1) (by omega)) ?_
 intro v1 _
 refine HL.shape 0 I fun a1 c1 hv=>?_
 subst hv
 refine HL.back [1,2] I I ?_
 repeat' (first|refine zd ?_|fail)
 refine HD.nil ?_
 repeat' (first|refine zh ?_|intro (bk:Nat))
 refine HR.ent (H':=blkC bf (frC f) 75::stH b { V with se:=(a1,c1) } { n with seen:=r.1 } now) (Ent.pick [1,2,3,4,5,6,7,0,9,10,11] I I) ?_
 rw[← ha]
 refine HR.cond I (fun h1=>?_) (fun h1=>?_)
 ·have h1:r.2=false:=by simpa using h1
  rw[if_pos h1]
  repeat' (first|refine zh ?_|intro (bk:Nat))
  refine HR.fin Tryz.func165 I [] (fun _ _=>trivial) ?_
  exact fun w' hw=>⟨{ V with se:=(a1,c1) },rfl,⟨hPa.eq,hPa.sh⟩,hw.pick [1,2,3,4,5,6,7,8,9,10] I rfl⟩
 have h1:¬r.2=false:=by simpa using h1
 rw[if_neg h1]
 repeat' (first|refine zh ?_|intro (bk:Nat))
 refine HR.regionQ hmix (by kernel_rfl) ?_
 repeat' (first|refine zq ?_|apply zb ?_ ?_|exact zc|(refine zi fun hb=>?_;try simp at hb))
 refine HR.cond I (fun h2=>?_) (fun h2=>?_)
 ·have h2:f.ta=a.addr:=eq_of_beq h2
  rw[if_pos h2]
  repeat' (first|refine zh ?_|intro (bk:Nat))
  refine HR.regionD [(0,true),(1,true),(2,true),(3,true),(4,true),(5,true),(6,true),(7,true),(8,true),(9,true),(10,true),(11,true),(12,true),(13,false),(14,true),(15,true),(16,true),(17,true),(18,true),(19,true),(20,true),(21,true),(22,true)] [0,1] I I hmix (by kernel_rfl) ?_
  repeat' (first|refine zd ?_|fail)
  refine HD.one I ?_
  refine HL.callX (r:=fun y:Value×List PtV=> .tuple ⟨[y.1,str q.t,.bool q.ok,.int .i64 q.e]⟩) (Q:=fun y=>GdPts y q.l) (G:=fun y=>ptsC y) fn223 I I (fun w1 hw1=>by rw[hq,← hPa.eq];exact fadd_any V.ps f.so now f.da _ w1 (RdPts.own 8 9 hw1 I I) hpm hps hfd) ?_
  rintro ⟨v3,ps⟩ ⟨hg1,hg2⟩
  refine HL.shape (v:=v3) (e:=173) (sz:=6) (n:=ps.length) (xs:=cellsOf ptC ps) 0 I fun a3 c3 hv=>?_
  subst hv
  have hq1:pts ps=q.l:=hg1
  have hq2:∀p∈ps,ShPt p:=hg2
  refine HL.back [2,3] I I ?_
  repeat' (first|refine zd ?_|fail)
  refine HD.nil ?_
  repeat' (first|refine zh ?_|intro (bk:Nat))
  refine HR.cond I (fun h3=>?_) (fun h3=>?_)
  ·have h3:q.e≠0:=by simpa using h3
   rw[if_pos h3]
   repeat' (first|refine zh ?_|intro (bk:Nat))
   refine HR.ret Tryz.func165 I [] (fun _ _=>trivial) ?_
   exact fun w' hw=>⟨{ V with se:=(a1,c1) },rfl,⟨hPa.eq,hPa.sh⟩,hw.pick [3,4,5,6,7,8,9,10,11,12] I rfl⟩
  have h3:¬q.e≠0:=by simpa using h3
  rw[if_neg h3]
  repeat' (first|refine zh ?_|intro (bk:Nat))
  obtain ⟨V3,hV3⟩:∃V3:NV,V3=⟨V.ta,V.li,V.ou,V.ch,V.bo,(a1,c1),(a3,c3),V.ib,ps⟩:=⟨_,rfl⟩
  have hao3:Ord { a with parts:=q.l }:=hao.setParts _
  refine HR.ent (H':=blkC bf (frC f) 75::stH b ⟨V.ta,V.li,V.ou,V.ch,V.bo,(a1,c1),(a3,c3),V.ib,ps⟩ { a with parts:=q.l } now) (Ent.pick [2,3,4,5,6,7,8,9,0,1,12] I I) ?_
  rw[← hV3]
  have hP3:∀(ib:SV) (z:Nd),z.parts=q.l→Pts { V3 with ib:=ib } z:=fun ib z hz=>⟨by rw[hz,hV3];exact hq1,by rw[hV3];exact hq2⟩
  refine HR.cond I (fun h4=>?_) (fun h4=>?_)
  ·have h4:q.ok=true:=h4
   rw[if_pos h4]
   repeat' (first|refine zh ?_|intro (bk:Nat))
   refine HL.ent (Ent.pick [1,2,3,4,5,6,7,8,9,10] I I) ?_
   refine HL.callW (r:=fun _:SV=> .tuple ⟨[]⟩) (Q:=fun _=>True) (G0:=stH b V3 { a with parts:=q.l } now) (H0:=[]) (G:=fun x=>stH b { V3 with ib:=x } (deliver { a with parts:=q.l } ⟨f.so,q.t⟩) now) fn118 I I I (fun w1 hw1=>sdeliver_any b V3 { a with parts:=q.l } now ⟨f.so,q.t⟩ _ w1 (hw1.pick [0,1,2,3,4,5,6,7,8,9] I I) hao3) ?_
   intro x _
   repeat' (first|refine zh ?_|intro (bk:Nat))
   refine HR.fin Tryz.func165 I [] (fun _ _=>trivial) ?_
   exact fun w' hw=>⟨{ V3 with ib:=x },rfl,hP3 x _ (deliver_parts _ _),hw.pick [0,1,2,3,4,5,6,7,8,9] I rfl⟩
  ·have h4:q.ok=false:=h4
   rw[if_neg (by rw[h4];decide)]
   repeat' (first|refine zh ?_|intro (bk:Nat))
   refine HR.fin Tryz.func165 I [] (fun _ _=>trivial) ?_
   exact fun w' hw=>⟨V3,rfl,hP3 V3.ib _ rfl,hw.pick [1,2,3,4,5,6,7,8,9,10] I rfl⟩
 have h2:¬f.ta=a.addr:=by simpa using h2
 rw[if_neg h2]
 repeat' (first|refine zh ?_|apply zb ?_ ?_|exact zc|(refine zi fun hb=>?_;try simp at hb)|intro (bk:Nat))
 refine HR.cond I (fun h3=>?_) (fun h3=>?_)
 ·have h3:(decide (a.poll>0)||(f.hp==15))=true:=h3
  have h4:a.poll>0∨f.hp=15:=by simpa using h3
  rw[if_pos h4]
  repeat' (first|refine zh ?_|intro (bk:Nat))
  refine HL.ent (Ent.pick [1,2,3,4,5,6,7,8,9,10] I I) ?_
  refine HL.callW (r:=fun _:Unit=> .tuple ⟨[]⟩) (Q:=fun _=>True) (G0:=[blkS b { V with se:=(a1,c1) } a now]) (H0:=ndH { V with se:=(a1,c1) } a) (G:=fun _=>[blkS b { V with se:=(a1,c1) } (lose a) now]) fn160 I I I (fun w1 hw1=>slose_any b { V with se:=(a1,c1) } a now _ w1 (hw1.pick [0] I I) hao.lost) ?_
  intro _ _
  repeat' (first|refine zh ?_|intro (bk:Nat))
  refine HR.fin Tryz.func165 I [] (fun _ _=>trivial) ?_
  exact fun w' hw=>⟨{ V with se:=(a1,c1) },rfl,⟨hPa.eq,hPa.sh⟩,hw.pick [0,1,2,3,4,5,6,7,8,9] I rfl⟩
 ·have h3:(decide (a.poll>0)||(f.hp==15))=false:=h3
  have h4:¬(a.poll>0∨f.hp=15):=by
   intro e
   have:(decide (a.poll>0)||(f.hp==15))=true:=by simpa using e
   rw[h3]at this;cases this
  rw[if_neg h4]
  repeat' (first|refine zh ?_|intro (bk:Nat))
  refine HL.ent (Ent.pick [1,2,3,4,5,6,7,8,9,10] I I) ?_
  refine HL.callW (r:=fun _:SV=> .bool (queue a { f with fr:=a.addr,dst:=255,hp:=f.hp+1 }).2) (Q:=fun _=>True) (G0:=stH b { V with se:=(a1,c1) } a now) (H0:=[]) (G:=fun x=>stH b { V with se:=(a1,c1),ou:=x } (queue a { f with fr:=a.addr,dst:=255,hp:=f.hp+1 }).1 now) fn119 I I I (fun w1 hw1=>squeue_any b { V with se:=(a1,c1) } a now { f with fr:=a.addr,dst:=255,hp:=f.hp+1 } _ w1 (hw1.pick [0,1,2,3,4,5,6,7,8,9] I I) hao) ?_
  intro x _
  repeat' (first|refine zh ?_|intro (bk:Nat))
  refine HR.fin Tryz.func165 I [] (fun _ _=>trivial) ?_
  exact fun w' hw=>⟨{ V with se:=(a1,c1),ou:=x },rfl,⟨by rw[queue_parts];exact hPa.eq,hPa.sh⟩,hw.pick [0,1,2,3,4,5,6,7,8,9] I rfl⟩
end Go.Proofs.YtgfdoognildoeaaGreat
namespace Go.Proofs.YtgfdoognildoeaaGreat
open Go.GX Go.RowKit
attribute [local irreducible] Calls Run RunL RunQ RunD HR HL HD blkC ownC mapC Rd slicesC iterC
open Nd
theorem fn87:IsFn Tryz.prog 87:=⟨⟨_,_,Tryz.func87,rfl,by decide⟩⟩
theorem advertised_parts (n:Nd) (f:Fr):(advertised n f).parts=n.parts:=by
 unfold advertised
 simp only
 split
 ·rfl
 ·split<;>rfl
theorem drain_parts (fr now:Int):∀(k:Nat) (n:Nd),(Nd.drain fr now k n).parts=n.parts
 |0,_=>rfl
 |k+1,n=>by
  rw[drain_step]
  split
  ·rw [drain_parts fr now k,queue_parts]
  ·rfl
theorem polled_parts (n:Nd) (f:Fr) (now:Int):(polled n f now).parts=n.parts:=by
 unfold polled;rw[drain_parts]
theorem shear_any (V:NV) (n:Nd) (now:Int) (f:Fr) (w:World) (h:OkN w V n) (hs:SmN n) (hfl:f.da.length≤9223372036854775807):
  Calls Tryz.prog 87 #[.agg ⟨ndC V n⟩,.int .i64 now,.agg ⟨frC f⟩] w fun e w'=>∃V':NV,e= .returned (.agg ⟨ndC V' (hear n now f)⟩)∧Pts V' (hear n now f)∧Sat (base w) (ndH V' (hear n now f)) w':=by
 obtain ⟨m,hm⟩:∃m,m=order n:=⟨_,rfl⟩
 have ho:Ord m:=by rw[hm];exact order_ord n
 have hmp:m.parts=n.parts:=by rw[hm];rfl
 obtain ⟨T,hT⟩:∃T,T=tick now:=⟨_,rfl⟩
 obtain ⟨c,hc⟩:∃c:Bool,c=((!(fchk f==0)||(f.fr==m.addr))||(!(f.dst==m.addr)&&!(f.dst==255))):=⟨_,rfl⟩
 have hcc:c=true↔(fchk f≠0∨f.fr=m.addr∨(f.dst≠m.addr∧f.dst≠255)):=by
  rw[hc];simp[or_assoc]
 have hsp:hear n now f=if fchk f≠0∨f.fr=m.addr∨(f.dst≠m.addr∧f.dst≠255)then m else if f.kd=1 then advertised m f else if f.kd=3∧f.dst=m.addr∧m.poll=0 then polled m f T else if f.kd=2∧f.dst=m.addr then received m f T else m:=by rw[hm,hT];rfl
 rw[hsp]
 refine calls_hr Tryz.func87 I (Nat.le_of_ble_eq_true I) ?_
 refine HR.sub (σ':=[(0,.agg ⟨ndC V n⟩),(1,.int .i64 now),(2,.agg ⟨frC f⟩)]) ⟨I,I,I,trivial⟩ ?_
 refine HR.ctl I ?_
 refine HR.region ?_
 refine HL.box I I ?_
 intro bn
 refine HL.box I I ?_
 intro bf
 refine HL.alloc I I ?_
 intro br
 repeat' (first|refine zh ?_|intro (bk:Nat))
 refine HL.callX (r:=fun x:Nat×NV=>ptr x.1) (Q:=fun x=>Pts x.2 m) (G:=fun x=>stH x.1 x.2 m T) fn68 I I (fun w1 hw1=>by rw[hm,hT];exact enter_any V n now w1 (h.ext hw1.belowB) hs) ?_
 rintro ⟨b,V2⟩ hP
 have hP:Pts V2 m:=hP
 refine HL.ent (H':=rsC br::blkC bf (frC f) 75::stH b V2 m T) (Ent.pick [10,11,0,1,2,3,4,5,6,7,8,9] I I) ?_
 repeat' (first|refine zh ?_|intro (bk:Nat))
 refine HR.join (ι:=Unit) (fun _=>True) (fun _=>[(5,ptr bf),(6,ptr br),(7,ptr b),(38,.bool c)]) (fun _=>rsC br::blkC bf (frC f) 75::stH b V2 m T) (fun _ _=>?_) (fun hj=>?_)
 rotate_left
 ·refine HR.regionD [(0,true),(1,false),(2,true),(3,true),(4,true),(5,true),(6,true),(7,true),(8,true),(9,true),(10,true),(11,true),(12,true),(13,true),(14,true),(15,true),(16,true),(17,true),(18,true),(19,true),(20,true),(21,true),(22,true),(23,true),(24,true),(25,true),(26,true),(27,true)] [1,2] I I hmix (by kernel_rfl) ?_
  repeat' (first|refine zd ?_|fail)
  refine HD.one I ?_
  refine HL.callB fn162 I I (fun w1 _=>fcheck_any f w1 (by omega)) ?_
  refine HL.back [1,2] I I ?_
  repeat' (first|refine zd ?_|fail)
  refine HD.split 14 I (fun hb=>?_) (fun hb=>?_)
  ·have hb:(!(fchk f==0))=true:=hb
   repeat' (first|refine zd ?_|fail)
   refine HD.nil ?_
   refine hj () _ _ trivial ⟨rfl,rfl,rfl,?_,trivial⟩ Ent.refl
   show some (Value.bool true)=some (Value.bool c)
   rw[hc,hb];rfl
  ·have hb:(!(fchk f==0))=false:=hb
   repeat' (first|refine zd ?_|fail)
   refine HD.split 24 I (fun hb2=>?_) (fun hb2=>?_)
   ·have hb2:(f.fr==m.addr)=true:=hb2
    repeat' (first|refine zd ?_|fail)
    refine HD.nil ?_
    refine hj () _ _ trivial ⟨rfl,rfl,rfl,?_,trivial⟩ Ent.refl
    show some (Value.bool true)=some (Value.bool c)
    rw[hc,hb,hb2];rfl
   ·have hb2:(f.fr==m.addr)=false:=hb2
    repeat' (first|refine zd ?_|fail)
    refine HD.split 33 I (fun hb3=>?_) (fun hb3=>?_)
    ·have hb3:(!(f.dst==m.addr))=true:=hb3
     repeat' (first|refine zd ?_|fail)
     refine HD.nil ?_
     refine hj () _ _ trivial ⟨rfl,rfl,rfl,?_,trivial⟩ Ent.refl
     show some (Value.bool (!(f.dst==255)))=some (Value.bool c)
     rw[hc,hb,hb2,hb3];rfl
    ·have hb3:(!(f.dst==m.addr))=false:=hb3
     repeat' (first|refine zd ?_|fail)
     refine HD.nil ?_
     refine hj () _ _ trivial ⟨rfl,rfl,rfl,?_,trivial⟩ Ent.refl
     show some (Value.bool false)=some (Value.bool c)
     rw[hc,hb,hb2,hb3];rfl
 refine HR.cond I (fun h1=>?_) (fun h1=>?_)
 ·rw [if_pos (hcc.1 h1)]
  repeat' (first|refine zh ?_|intro (bk:Nat))
  refine HR.ret Tryz.func87 I [_] (fun w hw=>⟨⟨_,rfl,loadVarR hw 0 I I I I rfl⟩,trivial⟩) ?_
  exact fun w' hw=>⟨V2,rfl,hP,hw.pick [3,4,5,6,7,8,9,10,11] I rfl⟩
 have h2:¬(fchk f≠0∨f.fr=m.addr∨(f.dst≠m.addr∧f.dst≠255)):=fun e=>by rw[hcc.2 e]at h1;cases h1
 rw[if_neg h2]
 have hck:fchk f=0:=Decidable.not_not.1 fun e=>h2 (.inl e)
 have hne:f.fr≠m.addr:=fun e=>h2 (.inr (.inl e))
 obtain ⟨k1,k2,k3,k4,k5,k6,k7⟩:=fchk_fr hck
 repeat' (first|refine zh ?_|intro (bk:Nat))
 refine HR.cond I (fun h3=>?_) (fun h3=>?_)
 ·have h3:f.kd=1:=eq_of_beq h3
  rw[if_pos h3]
  repeat' (first|refine zh ?_|intro (bk:Nat))
  refine HL.ent (Ent.pick [2,3,4,5,6,7,8,9,10,11,0] I I) ?_
  refine HL.callW (r:=fun _:SV×SV=> .tuple ⟨[]⟩) (Q:=fun _=>True) (G0:=stH b V2 m T) (H0:=[_]) (G:=fun x=>stH b { V2 with ta:=x.1,li:=x.2 } (advertised m f) T) fn163 I I I (fun w1 hw1=>sadv_any b V2 m T f _ w1 (hw1.pick [0,1,2,3,4,5,6,7,8,9] I I) ho (by omega)) ?_
  intro x _
  refine HL.ent (Ent.pick [10,0,1,2,3,4,5,6,7,8,9] I I) ?_
  repeat' (first|refine zh ?_|intro (bk:Nat))
  refine HR.ret Tryz.func87 I [_] (fun w hw=>⟨⟨_,rfl,loadVarR hw 0 I I I I rfl⟩,trivial⟩) ?_
  exact fun w' hw=>⟨{ V2 with ta:=x.1,li:=x.2 },rfl,⟨by rw[advertised_parts];exact hP.eq,hP.sh⟩,hw.pick [2,3,4,5,6,7,8,9,10] I rfl⟩
 have h3:¬f.kd=1:=by simpa using h3
 rw[if_neg h3]
 repeat' (first|refine zh ?_|intro (bk:Nat))
 refine HR.regionQ hmix (by kernel_rfl) ?_
 repeat' (first|refine zq ?_|apply zb ?_ ?_|exact zc|(refine zi fun hb=>?_;try simp at hb))
 refine HR.cond I (fun h4=>?_) (fun h4=>?_)
 ·have h4:((f.kd==3)&&(f.dst==m.addr)&&(m.poll==0))=true:=h4
  have h5:f.kd=3∧f.dst=m.addr∧m.poll=0:=by simpa[and_assoc]using h4
  rw[if_pos h5]
  repeat' (first|refine zh ?_|intro (bk:Nat))
  refine HL.ent (Ent.pick [2,3,4,5,6,7,8,9,10,11,0] I I) ?_
  refine HL.callW (r:=fun _:SV×SV×SV×SV=> .tuple ⟨[]⟩) (Q:=fun _=>True) (G0:=stH b V2 m T) (H0:=[_]) (G:=fun x=>stH b { V2 with ch:=x.1,ta:=x.2.1,ou:=x.2.2.1,bo:=x.2.2.2 } (polled m f T) T) fn164 I I I (fun w1 hw1=>spolled_any b V2 m T f _ w1 (hw1.pick [0,1,2,3,4,5,6,7,8,9] I I) ho k1 hne) ?_
  intro x _
  refine HL.ent (Ent.pick [10,0,1,2,3,4,5,6,7,8,9] I I) ?_
  repeat' (first|refine zh ?_|intro (bk:Nat))
  refine HR.ret Tryz.func87 I [_] (fun w hw=>⟨⟨_,rfl,loadVarR hw 0 I I I I rfl⟩,trivial⟩) ?_
  exact fun w' hw=>⟨{ V2 with ch:=x.1,ta:=x.2.1,ou:=x.2.2.1,bo:=x.2.2.2 },rfl,⟨by rw[polled_parts];exact hP.eq,hP.sh⟩,hw.pick [2,3,4,5,6,7,8,9,10] I rfl⟩
 have h4:((f.kd==3)&&(f.dst==m.addr)&&(m.poll==0))=false:=h4
 have h5:¬(f.kd=3∧f.dst=m.addr∧m.poll=0):=by
  intro e
  have:((f.kd==3)&&(f.dst==m.addr)&&(m.poll==0))=true:=by simpa[and_assoc]using e
  rw[h4]at this;cases this
 rw[if_neg h5]
 repeat' (first|refine zh ?_|intro (bk:Nat))
 refine HR.regionQ hmix (by kernel_rfl) ?_
 repeat' (first|refine zq ?_|apply zb ?_ ?_|exact zc|(refine zi fun hb=>?_;try simp at hb))
 refine HR.cond I (fun h6=>?_) (fun h6=>?_)
 ·have h6:((f.kd==2)&&(f.dst==m.addr))=true:=h6
  have h7:f.kd=2∧f.dst=m.addr:=by simpa using h6
  rw[if_pos h7]
  repeat' (first|refine zh ?_|intro (bk:Nat))
  refine HL.ent (Ent.pick [2,3,4,5,6,7,8,9,10,11,0] I I) ?_
  refine HL.callW (r:=fun _:NV=> .tuple ⟨[]⟩) (Q:=fun V'=>Pts V' (received m f T)) (G0:=stH b V2 m T) (H0:=[_]) (G:=fun V'=>stH b V' (received m f T) T) fn165 I I I (fun w1 hw1=>sreceived_any b V2 m T f _ w1 (hw1.pick [0,1,2,3,4,5,6,7,8,9] I I) ho hP (by rw[hmp];exact hs.sm) (by rw[hmp];exact hs.pa) (by omega) ⟨k5,k6⟩) ?_
  intro V3 hP3
  refine HL.ent (Ent.pick [10,0,1,2,3,4,5,6,7,8,9] I I) ?_
  repeat' (first|refine zh ?_|intro (bk:Nat))
  refine HR.ret Tryz.func87 I [_] (fun w hw=>⟨⟨_,rfl,loadVarR hw 0 I I I I rfl⟩,trivial⟩) ?_
  exact fun w' hw=>⟨V3,rfl,hP3,hw.pick [2,3,4,5,6,7,8,9,10] I rfl⟩
 have h6:((f.kd==2)&&(f.dst==m.addr))=false:=h6
 have h7:¬(f.kd=2∧f.dst=m.addr):=by
  intro e
  have:((f.kd==2)&&(f.dst==m.addr))=true:=by simpa using e
  rw[h6]at this;cases this
 rw[if_neg h7]
 refine HR.ent (Ent.pick [0,2,3,4,5,6,7,8,9,10,11] I I) ?_
 repeat' (first|refine zh ?_|intro (bk:Nat))
 refine HR.ret Tryz.func87 I [_] (fun w hw=>⟨⟨_,rfl,loadVarR hw 0 I I I I rfl⟩,trivial⟩) ?_
 exact fun w' hw=>⟨V2,rfl,hP,hw.pick [2,3,4,5,6,7,8,9,10] I rfl⟩
end Go.Proofs.YtgfdoognildoeaaGreat
namespace Go.Proofs.YtgfdoognildoeaaGreat
open Go.GX Go.RowKit
attribute [local irreducible] Calls Run RunL RunQ RunD HR HL HD blkC ownC mapC Rd slicesC iterC
open Nd
theorem iC_one (a:Int):allOne (iC a)=true:=rfl
end Go.Proofs.YtgfdoognildoeaaGreat
namespace Go.GX
open Go.RowKit
theorem ownC_sl {v:Value} {e sz n:Nat} {xs:List Value} {w:World} (h:(ownC v e sz n xs).p w):Sl w v xs n:=(show Vw w v e sz n xs from h).sl
theorem groupC_mem {G:List Chunk} {c:Chunk} {w:World} (h:(groupC G).p w) (hc:c∈G):c.p w:=AllQ.mem h c hc
theorem Sat.grp {B:Base} {H G:List Chunk} {w:World} (i:Nat) (hw:Sat B H w) (hi:nthC H i=some (groupC G)):(groupC G).p w:=hw.nth hi
end Go.GX
namespace Go.Proofs.YtgfdoognildoeaaGreat
open Go.GX Go.RowKit
attribute [local irreducible] Calls Run RunL RunQ RunD HR HL HD blkC ownC mapC Rd slicesC iterC
open Nd
theorem okN_grp {V:NV} {n:Nd} {w:World} (hg:(groupC (ndH V n)).p w) (hp:pts V.ps=n.parts):OkN w V n:=by
 have g1:=groupC_mem hg (c:=cTa (sv V.ta n.table.length) n.table) (by simp)
 have g2:=groupC_mem hg (c:=cLi (sv V.li n.links.length) n.links) (by simp)
 have g3:=groupC_mem hg (c:=cSn (sv V.ou n.out.length) n.out) (by simp)
 have g4:=groupC_mem hg (c:=cI (sv V.ch n.children.length) n.children) (by simp)
 have g5:=groupC_mem hg (c:=cMa (sv V.bo n.boxes.length) n.boxes) (by simp)
 have g6:=groupC_mem hg (c:=cPr (sv V.se n.seen.length) n.seen) (by simp)
 have g7:=groupC_mem hg (c:=cPt (sv V.pa V.ps.length) V.ps) (by simp)
 have g8:=groupC_mem hg (c:=groupC (ptG V.ps)) (by simp)
 have g9:=groupC_mem hg (c:=cDe (sv V.ib n.inbox.length) n.inbox) (by simp)
 exact ⟨ownC_sl g1,ownC_sl g2,ownC_sl g3,ownC_sl g4,ownC_sl g5,ownC_sl g6,⟨ownC_sl g7,fun p hp=>⟨ownC_sl (groupC_mem g8 (ptG_mem hp).1),ownC_sl (groupC_mem g8 (ptG_mem hp).2)⟩⟩,ownC_sl g9,hp⟩
abbrev Own (V:NV) (G:List Chunk) (n:Nd):Prop:=∀w2,(groupC G).p w2→OkN w2 V n
theorem Pts.own {V:NV} {n:Nd} (h:Pts V n):Own V (ndH V n) n:=fun w2 hg=>okN_grp hg h.eq
theorem sat_grp {B:Base} {G:List Chunk} {w:World} (h:Sat B G w):Sat B [groupC G] w:=by
 have h:Sat B (G++[]) w:=by rw[List.append_nil];exact h
 exact h.group
theorem pnew_any (addr poll:Int) (w:World):
  Calls Tryz.prog 36 #[.int .i64 addr,.int .i64 poll] w fun e w'=>∃x:NV×List Chunk,e= .returned (.agg ⟨ndC x.1 (new addr poll)⟩)∧Own x.1 x.2 (new addr poll)∧Sat (base w) [groupC x.2] w':=
 (snew_any addr poll w).mono fun e w' ⟨V',h1,h2,h3⟩=>⟨(V',ndH V' _),h1,h2.own,sat_grp h3⟩
theorem presult_any (V:NV) (n:Nd) (f:Fr) (ok:Bool) (w:World) (h:OkN w V n) (hs:SmN n):
  Calls Tryz.prog 44 #[.agg ⟨ndC V n⟩,.agg ⟨frC f⟩,.bool ok] w fun e w'=>∃x:NV×List Chunk,e= .returned (.agg ⟨ndC x.1 (result n f ok)⟩)∧Own x.1 x.2 (result n f ok)∧Sat (base w) [groupC x.2] w':=
 (sresult_any V n f ok w h hs).mono fun e w' ⟨V',h1,h2,h3⟩=>⟨(V',ndH V' _),h1,h2.own,sat_grp h3⟩
theorem ptick_any (V:NV) (n:Nd) (now:Int) (w:World) (h:OkN w V n) (hs:SmN n) (hf:∀s∈n.out,fits .i64 s.wt):
  Calls Tryz.prog 79 #[.agg ⟨ndC V n⟩,.int .i64 now] w fun e w'=>∃x:NV×List Chunk,e= .returned (.agg ⟨ndC x.1 (tickN n now)⟩)∧Own x.1 x.2 (tickN n now)∧Sat (base w) [groupC x.2] w':=
 (stick_any V n now w h hs hf).mono fun e w' ⟨V',h1,h2,h3⟩=>⟨(V',ndH V' _),h1,h2.own,sat_grp h3⟩
theorem ptalk_any (V:NV) (n:Nd) (now:Int) (w:World) (h:OkN w V n) (hs:SmN n):
  Calls Tryz.prog 80 #[.agg ⟨ndC V n⟩,.int .i64 now] w fun e w'=>∃x:NV×List Chunk,e= .returned (.tuple ⟨[.agg ⟨ndC x.1 (talk n now).1⟩,.agg ⟨frC (talk n now).2.1⟩,.bool (talk n now).2.2]⟩)∧Own x.1 x.2 (talk n now).1∧Sat (base w) [groupC x.2] w':=
 (stalk_any V n now w h hs).mono fun e w' ⟨V',h1,h2,h3⟩=>⟨(V',ndH V' _),h1,h2.own,sat_grp h3⟩
theorem phear_any (V:NV) (n:Nd) (now:Int) (f:Fr) (w:World) (h:OkN w V n) (hs:SmN n) (hfl:f.da.length≤9223372036854775807):
  Calls Tryz.prog 87 #[.agg ⟨ndC V n⟩,.int .i64 now,.agg ⟨frC f⟩] w fun e w'=>∃x:NV×List Chunk,e= .returned (.agg ⟨ndC x.1 (hear n now f)⟩)∧Own x.1 x.2 (hear n now f)∧Sat (base w) [groupC x.2] w':=
 (shear_any V n now f w h hs hfl).mono fun e w' ⟨V',h1,h2,h3⟩=>⟨(V',ndH V' _),h1,h2.own,sat_grp h3⟩
structure PtSm (l:List Pt):Prop where
 len:l.length≤1000
 sm:∀p∈l,SmPt p
theorem ord_sm {n:Nd} (h:Ord n) (hp:PtSm n.parts):SmN n:=
 ⟨Nat.le_trans (tlen h) (by decide),Nat.le_trans (llen h) (by decide),Nat.le_trans h.out (by decide),Nat.le_trans (klen h) (by decide),Nat.le_trans h.boxes (by decide),Nat.le_trans h.seen (by decide),hp.len,Nat.le_trans h.inbox (by decide),hp.sm⟩
theorem pvalid_smp {p:Pt} (h:pvalid p=true):SmPt p:=by
 have H:=phead_is (pvalid_head h)
 have h1:=H.hv
 have h2:=H.da
 have h3:=H.ct1
 exact ⟨by omega,by omega,fun s hs=>by have:=pvalid_sm h s hs;omega⟩
theorem porder_sm (l:List Pt):∀p∈porder l,SmPt p:=fun p hp=>pvalid_smp (porder_valid p hp)
theorem pexp_sm (l:List Pt) (now life:Int):PtSm (pexp l now life):=
 ⟨Nat.le_trans (Nat.le_trans (List.length_filter_le _ _) (porder_len l)) (by decide),fun p hp=>porder_sm l p (List.mem_filter.1 hp).1⟩
theorem pdrop_mem {l:List Pt} {s id c:Int} {p:Pt} (h:p∈(pdrop l s id c).1):p∈l:=by
 unfold pdrop at h
 split at h
 ·split at h
  ·exact h
  ·exact List.mem_of_mem_eraseIdx h
 ·exact h
theorem pmark_sm {p:Pt} {i:Nat} {d:By} (h:SmPt p) (hd:d.length≤1000):SmPt (pmark p i d):=by
 unfold pmark
 split
 ·exact h
 ·refine ⟨?_,?_,fun s hs=>?_⟩
  ·show (p.hv.set i true).length≤140737488355328
   rw[List.length_set];exact h.1
  ·show (p.da.set i d).length≤8796093022208
   rw[List.length_set];exact h.2.1
  ·rcases List.mem_or_eq_of_mem_set hs with hs|rfl
   ·exact h.2.2 s hs
   ·omega
theorem padd_sm {l:List Pt} {s now:Int} {x:By} (hx:x.length≤1000) (he:(padd l s now x).e=0):PtSm (padd l s now x).l:=by
 unfold padd at he ⊢
 split
 ·exact ⟨Nat.zero_le _,fun p hp=>by cases hp⟩
 ·rename_i hc
  have hc:pchk x=0:=Decidable.not_not.1 hc
  obtain ⟨c1,c2,c3,c4,c5,c6,c7,c8⟩:=pchk_spec hc
  have ho8:=porder_len l
  split
  ·exact ⟨Nat.le_trans (pdrop_len ho8 s (b8 x 0) 1) (by decide),fun p hp=>porder_sm l p (pdrop_mem hp)⟩
  ·rename_i h1
   have hd8:=pdrop_len ho8 s (b8 x 0) (b8 x 2)
   have hm:∀p∈(pdrop (porder l) s (b8 x 0) (b8 x 2)).1,SmPt p:=fun p hp=>porder_sm l p (pdrop_mem hp)
   have hnew:(∀ p∈(pnew (pdrop (porder l) s (b8 x 0) (b8 x 2)) s (b8 x 0) (b8 x 2) now).1,SmPt p)∧(pnew (pdrop (porder l) s (b8 x 0) (b8 x 2)) s (b8 x 0) (b8 x 2) now).1.length≤8:=by
    unfold pnew
    split
    ·exact ⟨hm,hd8⟩
    ·have hr:=proom_len hd8
     refine ⟨fun p hp=>?_,by rw[List.length_append];simp;omega⟩
     rcases List.mem_append.1 hp with hp|hp
     ·unfold proom at hp
      split at hp
      ·exact hm p (List.mem_of_mem_eraseIdx hp)
      ·exact hm p hp
     ·rw [List.mem_singleton.1 hp]
      refine ⟨?_,?_,fun s hs=>?_⟩
      ·show (List.replicate (b8 x 2).toNat false).length≤140737488355328
       rw[List.length_replicate];omega
      ·show (List.replicate (b8 x 2).toNat ([]:By)).length≤8796093022208
       rw[List.length_replicate];omega
      ·have hs:s∈List.replicate (b8 x 2).toNat ([]:By):=hs
       rw[(List.mem_replicate.1 hs).2];simp
   generalize pnew (pdrop (porder l) s (b8 x 0) (b8 x 2)) s (b8 x 0) (b8 x 2) now=o at hnew ⊢
   obtain ⟨n1,n2⟩:=hnew
   have hz:SmPt pz:=⟨by decide,by decide,fun s hs=>by cases hs⟩
   have hg:SmPt (o.1.getD o.2 pz):=by
    rw[List.getD_eq_getElem?_getD]
    cases hq:o.1[o.2]? with
    |none=>exact hz
    |some q=>exact n1 q (List.mem_of_getElem? hq)
   have hdl:(x.drop 3).length≤1000:=by rw[List.length_drop];omega
   unfold pput
   split
   ·exact ⟨Nat.le_trans (List.length_eraseIdx_le _ _) (by omega),fun p hp=>n1 p (List.mem_of_mem_eraseIdx hp)⟩
   ·refine ⟨by rw[List.length_set];omega,fun p hp=>?_⟩
    rcases List.mem_or_eq_of_mem_set hp with hp|rfl
    ·exact n1 p hp
    ·exact pmark_sm hg hdl
theorem new_ptsm (a p:Int):PtSm (new a p).parts:=⟨Nat.zero_le _,fun p hp=>by cases hp⟩
theorem talks_parts (now:Int):∀(k:Nat) (n:Nd) (i:Nat),(talks now k n i).1.parts=n.parts
 |0,n,i=>rfl
 |k+1,n,i=>by
  unfold talks
  split
  ·rfl
  ·split
   ·exact talks_parts now k n _
   ·split
    ·rfl
    ·split
     ·rw [talks_parts now k];exact box_parts _ _ _
     ·split
      ·rfl
      ·split
       ·rw [talks_parts now k];rfl
       ·rw [talks_parts now k]
theorem talk_ptsm {n:Nd} {now:Int} (h:PtSm n.parts):PtSm (talk n now).1.parts:=by
 unfold talk;rw[talks_parts];exact h
theorem result_ptsm {n:Nd} {f:Fr} {ok:Bool} (h:PtSm n.parts):PtSm (result n f ok).parts:=by
 unfold result
 simp only
 split
 ·exact h
 ·split
  ·rw [giveUp_parts];split<;>exact h
  ·split<;>exact h
theorem tick_ptsm (n:Nd) (now:Int):PtSm (tickN n now).parts:=by
 have e:(tickN n now).parts=pexp (order n).parts (tick now) 120:=by
  have k1:∀(c:Prop) [Decidable c] (a:Nd),(if c then Nd.beacon a else a).parts=a.parts:=by intro c _ a;split;exact beacon_parts _;rfl
  have k2:∀(c:Prop) [Decidable c] (a:Nd),(if c then Nd.poll a else a).parts=a.parts:=by intro c _ a;split;exact poll_parts _;rfl
  unfold tickN
  simp only
  rw[k2,k1,asleep_parts]
 rw[e];exact pexp_sm _ _ _
theorem hear_ptsm {n:Nd} {now:Int} {f:Fr} (h:PtSm n.parts):PtSm (hear n now f).parts:=by
 unfold hear
 simp only
 split
 ·exact h
 ·rename_i h1
  have hc:fchk f=0:=Decidable.not_not.1 fun e=>h1 (.inl e)
  have hl:=(fchk_fr hc).2.2.2.2.2.2
  split
  ·rw [advertised_parts];exact h
  ·split
   ·rw [polled_parts];exact h
   ·split
    ·unfold received
     simp only
     split
     ·exact h
     ·split
      ·split
       ·exact h
       ·rename_i he
        have hp:PtSm (padd (order n).parts f.so (tick now) f.da).l:=padd_sm (by omega) (Decidable.not_not.1 he)
        split
        ·rw [deliver_parts];exact hp
        ·exact hp
      ·split
       ·exact h
       ·rw [queue_parts];exact h
    ·exact h
end Go.Proofs.YtgfdoognildoeaaGreat
namespace Go.Proofs.YtgfdoognildoeaaGreat
open Go.GX Go.RowKit
attribute [local irreducible] Calls Run RunL RunQ RunD HR HL HD blkC ownC mapC Rd slicesC iterC
open Nd
theorem fn19:IsFn Tryz.prog 19:=⟨⟨_,_,Tryz.func19,rfl,by decide⟩⟩
theorem same07I_any (a b:List Int) (va vb:Value) (w:World) (ha:Sl w va (cellsOf iC a) a.length) (hb:Sl w vb (cellsOf iC b) b.length) (hla:a.length≤1000000):
  Calls Tryz.prog 19 #[va,vb] w fun e' w'=>e'= .returned (.bool (decide (a=b)))∧Below w.heap.size w w':=by
 refine calls_hr Tryz.func19 I (Nat.le_of_ble_eq_true I) ?_
 refine HR.sub (σ':=[(0,va),(1,vb)]) ⟨I,I,trivial⟩ ?_
 repeat' (first|refine zh ?_|refine HL.lenR (Rd.arg ha) I I I ?_|refine HL.lenR (Rd.arg hb) I I I ?_|apply zb ?_ ?_|exact zc|(refine zi fun hb=>?_;try simp at hb)|intro (bk:Nat))
 refine HR.cond I (fun h1=>?_) (fun h1=>?_)
 ·repeat' (first|refine zh ?_|apply zb ?_ ?_|exact zc|(refine zi fun hb=>?_;try simp at hb)|intro (bk:Nat))
  refine HR.ret Tryz.func19 I [_] (fun _ _=>⟨I,trivial⟩) ?_
  have:a≠b:=by rintro rfl;simp at h1
  exact fun w' hw=>⟨by simp[this,resV],hw.belowB⟩
 have hl:a.length=b.length:=by have h1':((a.length:Int) != (b.length:Int))=false:=h1;simp at h1';omega
 repeat' (first|refine zh ?_|apply zb ?_ ?_|exact zc|(refine zi fun hb=>?_;try simp at hb)|intro (bk:Nat))
 refine HR.loop (ι:=Nat) (fun k=>k≤a.length∧a.take k=b.take k) (fun k=>[(0,va),(1,vb),(5,.int .i64 (k:Int))]) (fun _=>[]) (fun k=>a.length-k) 0 ⟨Nat.zero_le _,by simp⟩ ⟨I,I,I,trivial⟩ Ent.refl ?_
 rintro k ⟨hk,hg⟩ ih
 repeat' (first|refine zh ?_|refine HL.lenR (Rd.arg ha) I I I ?_|apply zb ?_ ?_|exact zc|(refine zi fun hb=>?_;try simp at hb)|intro (bk:Nat))
 refine HR.cond I (fun h2=>?_) (fun h2=>?_)
 ·have hlt:k<a.length:=by have:=of_decide_eq_true h2;omega
  obtain ⟨x,hx⟩:=getSome hlt
  obtain ⟨y,hy⟩:=getSome (show k<b.length by omega)
  repeat' (first|refine zh ?_|apply zb ?_ ?_|exact zc|(refine zi fun hb=>?_;try simp at hb)|intro (bk:Nat))
  refine HR.regionQ hmix (by kernel_rfl) ?_
  repeat' (first|refine zq ?_|refine HQ.idxR (Rd.arg ha) elemI k I I I I hlt ?_|refine HQ.idxR (Rd.arg hb) elemI k I I I I (by omega) ?_|refine HQ.loadI (Rd.arg ha) I I I I (cellsOf_get1 hx) ?_|refine HQ.loadI (Rd.arg hb) I I I I (cellsOf_get1 hy) ?_|apply zb ?_ ?_|exact zc|(refine zi fun hb=>?_;try simp at hb))
  refine HR.cond I (fun h3=>?_) (fun h3=>?_)
  ·repeat' (first|refine zh ?_|apply zb ?_ ?_|exact zc|(refine zi fun hb=>?_;try simp at hb)|intro (bk:Nat))
   refine HR.ret Tryz.func19 I [_] (fun _ _=>⟨I,trivial⟩) ?_
   have:a≠b:=by rintro rfl;rw[hx]at hy;cases hy;simp at h3
   exact fun w' hw=>⟨by simp[this,resV],hw.belowB⟩
  ·repeat' (first|refine zh ?_|apply zb ?_ ?_|exact zc|(refine zi fun hb=>?_;try simp at hb)|intro (bk:Nat))
   refine ih (k+1) _ _ ⟨hlt,?_⟩ (by omega) ⟨I,I,I,trivial⟩ Ent.refl
   rw[take_succ_get hx,take_succ_get hy,hg]
   have hxy:x=y:=by simpa using h3
   rw[hxy]
 ·have hke:k=a.length:=by have:=of_decide_eq_false h2;omega
  subst hke
  repeat' (first|refine zh ?_|apply zb ?_ ?_|exact zc|(refine zi fun hb=>?_;try simp at hb)|intro (bk:Nat))
  refine HR.ret Tryz.func19 I [_] (fun _ _=>⟨I,trivial⟩) ?_
  have:a=b:=by rw[← List.take_length (l:=a),hg,hl,List.take_length]
  exact fun w' hw=>⟨by simp[this,resV],hw.belowB⟩
end Go.Proofs.YtgfdoognildoeaaGreat
namespace Me
open Go.GX Nd Tp
structure Mesh where
 tick:Int
 nodes:List Nd.Nd
def mesh0:Mesh:=⟨0,[]⟩
abbrev Air:=Ra.Air
def idx (l:List Nd.Nd) (a:Int):Option Nat:=l.findIdx? fun n=>n.addr==a
def nth (l:List Nd.Nd) (i:Nat):Nd.Nd:=l.getD i nd0
def addrBad (l:List Int) (i:Nat):Int:=match l[i]? with
 |none=>0
 |some a=>if okN a=false then 2 else if a∈l.take i then 9 else 0
def pollOf (polls:List Int) (i:Nat):Int:=polls.getD i 0
def nodeAt (addrs polls:List Int) (i:Nat):Nd.Nd:=new (addrs.getD i 0) (pollOf polls i)
def put (l:List Nd.Nd) (n:Nd.Nd):List Nd.Nd:=ins (fun x=>decide (x.addr<n.addr)) l n
def build (addrs polls:List Int):Nat→List Nd.Nd
 |0=>[]
 |k+1=>put (build addrs polls k) (nodeAt addrs polls k)
def mNew (addrs polls:List Int):Mesh×Int:=
 if addrs.length>24 then (mesh0,3)
 else if firstE (addrBad addrs) addrs.length≠0 then (mesh0,firstE (addrBad addrs) addrs.length)
 else (⟨0,build addrs polls addrs.length⟩,0)
def now1 (t:Int):Int:=max 0 (min t (maxTick-1))+1
def live (a:Air) (addr:Int):Bool:=!(Ra.check a==0)||!decide (addr∈a.o)
def phase1 (a:Air) (now:Int) (n:Nd.Nd):Nd.Nd:=if live a n.addr then tickN n now else n
def talk1 (now:Int) (lv:Bool) (n:Nd.Nd):Nd.Nd×Fr×Bool:=if lv then talk n now else (n,fr0,false)
def hear1 (f:Fr) (now:Int) (s:List Nd.Nd×Bool) (to:Int):List Nd.Nd×Bool:=match idx s.1 to with
 |none=>s
 |some k=>if awake (nth s.1 k) now then (s.1.set k (hear (nth s.1 k) now f),s.2||(to==f.dst))else s
def hears (f:Fr) (now:Int) (l:List Nd.Nd) (tos:List Int):List Nd.Nd×Bool:=tos.foldl (hear1 f now) (l,false)
def told (a:Air) (now:Int) (l:List Nd.Nd) (i:Nat) (f:Fr):List Nd.Nd:=
 let h:=hears f now l (Ra.recv (Ra.san a) f)
 h.1.set i (result (nth h.1 i) f (Ra.acked (Ra.san a) f&&(h.2||(f.dst==255))))
def tell1 (a:Air) (now:Int) (l:List Nd.Nd) (i:Nat):Option (Fr×Bool)→List Nd.Nd
 |some (f,true)=>told a now l i f
 |_=>l
def tells (a:Air) (now:Int) (fs:List (Fr×Bool)):Nat→List Nd.Nd→List Nd.Nd
 |0,l=>l
 |k+1,l=>tell1 a now (tells a now fs k l) k fs[k]?
def spoken (m:Mesh) (a:Air):List (Nd.Nd×Fr×Bool):=m.nodes.map fun n=>talk1 (now1 m.tick) (live a n.addr) (phase1 a (now1 m.tick) n)
def mStep (m:Mesh) (a:Air):Mesh:=
 ⟨now1 m.tick,tells a (now1 m.tick) ((spoken m a).map (·.2)) m.nodes.length ((spoken m a).map (·.1))⟩
def foll (l:List Nd.Nd) (to:Int):Nat→List Int→Int→List Int×Int
 |0,p,_=>(p,1)
 |k+1,p,now=>match idx l now with
  |none=>(p,1)
  |some i=>if now∈p then (p,2)else if now=to then (p++[now],0)
   else if (rhop (nth l i).table to).2 then foll l to k (p++[now]) (rhop (nth l i).table to).1 else (p++[now],1)
def follow (l:List Nd.Nd) (src to:Int):List Int×Int:=foll l to (l.length+2) [] src
def path (l:List Nd.Nd) (src to:Int):List Int×Bool:=if (follow l src to).2=0 then ((follow l src to).1,true)else ([],false)
def loops (l:List Nd.Nd):Bool:=l.any fun n=>n.table.any fun r=>(follow l n.addr r.dest).2==2
def pending (l:List Nd.Nd):Nat:=(l.map fun n=>n.out.length+n.boxes.length).sum
end Me
namespace Me
open Go.GX Nd Tp
theorem qput_mem {α:Type} {dr ur:α→Bool} {q:List α} {x y:α} (h:y∈(qput dr ur q x).1):y∈q∨y=x:=by
 have hi:∀l:List α,(∀ z∈l,z∈q)→y∈ins ur l x→y∈q∨y=x:=by
  intro l hl h
  unfold ins at h
  rcases List.mem_append.1 h with h|h
  ·exact .inl (hl y ((List.takeWhile_sublist _).subset h))
  ·rcases List.mem_cons.1 h with h|h
   ·exact .inr h
   ·exact .inl (hl y ((List.dropWhile_sublist _).subset h))
 unfold qput at h
 split at h
 ·split at h
  ·exact .inl (List.mem_of_mem_take h)
  ·rcases List.mem_append.1 h with h|h
   ·exact .inl (List.mem_of_mem_take h)
   ·exact .inr (List.mem_singleton.1 h)
 ·split at h
  ·split at h
   ·exact .inl (List.mem_of_mem_take h)
   ·exact hi _ (fun z hz=>List.mem_of_mem_take (List.mem_of_mem_eraseIdx hz)) h
  ·exact hi _ (fun z hz=>List.mem_of_mem_take hz) h
theorem bput_mem {q:List Ma} {f:Fr} {now:Int} {s:Ma} (h:s∈(bput q f now).1):s∈q∨s.f=f:=by
 rcases qput_mem h with h|rfl
 ·exact .inl h
 ·exact .inr I
theorem btake_mem {to now life:Int}:∀ {l:List Ma} {s:Fr×List Ma×Bool},(∀ m∈(l.foldl (bstep to now life) s).2.1,m∈l∨m∈s.2.1)∧((l.foldl (bstep to now life) s).2.2=true→s.2.2=true∧(l.foldl (bstep to now life) s).1=s.1∨∃m∈l,m.f=(l.foldl (bstep to now life) s).1)
 |[],s=>⟨fun m hm=> .inr hm,fun h=> .inl ⟨h,rfl⟩⟩
 |a::l,s=>by
  obtain ⟨h1,h2⟩:=btake_mem (to:=to) (now:=now) (life:=life) (l:=l) (s:=bstep to now life s a)
  rw[List.foldl_cons]
  have hb:(bstep to now life s a=s)∨(bstep to now life s a=(a.f,s.2.1,true))∨(bstep to now life s a=(s.1,s.2.1++[a],s.2.2)):=by
   unfold bstep;split
   ·exact .inl I
   ·split
    ·exact .inr (.inl I)
    ·exact .inr (.inr I)
  refine ⟨fun m hm=>?_,fun h=>?_⟩
  ·rcases h1 m hm with h|h
   ·exact .inl (List.mem_cons_of_mem _ h)
   ·rcases hb with e|e|e
    ·rw [e]at h;exact .inr h
    ·rw [e]at h;exact .inr h
    ·rw [e]at h
     rcases List.mem_append.1 h with h|h
     ·exact .inr h
     ·exact .inl (by rw[List.mem_singleton.1 h];exact List.mem_cons_self ..)
  ·rcases h2 h with ⟨g1,g2⟩|⟨m,hm,e⟩
   ·rcases hb with e|e|e
    ·rw [e]at g1 g2 ⊢;exact .inl ⟨g1,g2⟩
    ·rw [e]at g2 ⊢;exact .inr ⟨a,List.mem_cons_self ..,g2.symm⟩
    ·rw [e]at g1 g2 ⊢;exact .inl ⟨g1,g2⟩
   ·exact .inr ⟨m,List.mem_cons_of_mem _ hm,e⟩
theorem btake_box {l:List Ma} {to now life:Int} {m:Ma} (h:m∈(btake l to now life).2.1):m∈l:=by
 unfold btake at h
 rcases (btake_mem).1 m h with h|h
 ·exact List.mem_of_mem_take h
 ·cases h
theorem btake_fr {l:List Ma} {to now life:Int} (h:(btake l to now life).2.2=true):∃m∈l,m.f=(btake l to now life).1:=by
 unfold btake at h ⊢
 rcases (btake_mem).2 h with ⟨h,_⟩|⟨m,hm,e⟩
 ·cases h
 ·exact ⟨m,List.mem_of_mem_take hm,e⟩
def Knows (t:List Ro) (q:Ro):Prop:=∃s∈t,s.dest=q.dest∧(s.sq>q.sq∨(s.sq=q.sq∧s.cost≤q.cost))
def Above (t:List Ro) (q:Ro):Prop:=∃s∈t,s.dest=q.dest∧(s.sq>q.sq∨(s.sq=q.sq∧s.cost<q.cost))
structure Ctx where
 D:Fr→Prop
 K:List Pt→Prop
 M:Int→De→Prop
 hD:∀(f:Fr) (fr dst hp:Int),D f→D { f with fr:=fr,dst:=dst,hp:=hp }
 hK:∀(l:List Pt) (f:Fr) (now:Int),K l→D f→(padd l f.so now f.da).e=0→K (padd l f.so now f.da).l∧((padd l f.so now f.da).ok=true→M f.ta ⟨f.so,(padd l f.so now f.da).t⟩)
 hE:∀(l:List Pt) (now life:Int),K l→K (pexp l now life)
 hN:K []
structure Sound (C:Ctx) (a:Int) (t:List Ro) (f:Fr):Prop where
 bea:f.kd=1→f.fr=a∧∀q∈(rdec f.da).1,Knows t q
 pol:f.kd=3→f.fr=a∧Knows t ⟨a,f.sq,0,0⟩
 dat:f.kd=2→C.D f
section
variable {C : Ctx} {R : Ro → Prop} {n m : Nd.Nd}
theorem new_addr {a poll:Int} (h:okN a=true):(new a poll).addr=a∧(new a poll).out=[]∧(new a poll).boxes=[]∧(new a poll).parts=[]∧(new a poll).inbox=[]∧(new a poll).table=[rown a]:=by
 rw[okN_iff]at h
 have hc:clamp a 0 250=a:=by unfold clamp;omega
 refine ⟨hc,rfl,rfl,rfl,rfl,?_⟩
 show (if rchk [] (clamp a 0 250)=0 then []else [rown (clamp a 0 250)])=_
 rw[hc,if_neg]
 unfold rchk
 rw[if_neg (by decide),if_neg (by rw[(okN_iff a).2 h];decide)]
 simp[firstE]
end
end Me
namespace Me
open Go.GX Nd Tp
structure Inv (C:Ctx) (l:List Nd.Nd):Prop where
 ord:∀x∈l,Ord x
 dis:∀(i j:Nat) (x y:Nd.Nd),l[i]? =some x→l[j]? =some y→x.addr=y.addr→i=j
 rt:∀x∈l,∀r∈x.table,r.dest≠x.addr→fin r=true→∀y∈l,y.addr=r.nx→Above y.table r
 out:∀x∈l,∀s∈x.out,Sound C x.addr x.table s.f
 bx:∀x∈l,∀b∈x.boxes,b.f.kd=2∧C.D b.f
 pt:∀x∈l,C.K x.parts
 ib:∀x∈l,∀d∈x.inbox,C.M x.addr d
theorem nth_is {l:List Nd.Nd} {k:Nat} (hk:k<l.length):l[k]? =some (nth l k):=by
 unfold nth;rw[List.getD_eq_getElem?_getD,List.getElem?_eq_getElem hk];rfl
theorem idx_some {l:List Nd.Nd} {a:Int} {k:Nat} (h:idx l a=some k):l[k]? =some (nth l k)∧(nth l k).addr=a:=by
 obtain ⟨h1,h2,_⟩:=List.findIdx?_eq_some_iff_getElem.1 h
 have:=nth_is h1
 refine ⟨this,?_⟩
 rw[List.getElem?_eq_getElem h1]at this
 rw[← Option.some.inj this]
 simpa using h2
theorem idx_none {l:List Nd.Nd} {a:Int} (h:idx l a=none):∀x∈l,x.addr≠a:=by
 intro x hx e
 have:=List.findIdx?_eq_none_iff.1 h x hx
 simp[e]at this
theorem idx_mem {l:List Nd.Nd} {x:Nd.Nd} (hx:x∈l):∃k,idx l x.addr=some k:=by
 cases h:idx l x.addr with
 |some k=>exact ⟨k,rfl⟩
 |none=>exact absurd I (idx_none h x hx)
theorem asc_one {t:List Ro} (h:Asc (·.dest) t) {r s:Ro} (hr:r∈t) (hs:s∈t) (e:r.dest=s.dest):r=s:=by
 obtain ⟨i,hi⟩:=List.getElem?_of_mem hr
 obtain ⟨j,hj⟩:=List.getElem?_of_mem hs
 rcases Nat.lt_trichotomy i j with hij|rfl|hij
 ·have:=h.lt hij hi hj;omega
 ·rw [hi]at hj;cases hj;rfl
 ·have:=h.lt hij hj hi;omega
theorem rhop_at {t:List Ro} {d:Int} (h:(rhop t d).2=true):∃r∈t,r.dest=d∧fin r=true∧(rhop t d).1=r.nx:=by
 unfold rhop at h ⊢
 split at h
 ·rename_i r hr
  split at h
  ·rename_i hf
   exact ⟨r,List.mem_of_find?_eq_some hr,by simpa using List.find?_some hr,hf,by rw[if_pos hf]⟩
  ·cases h
 ·cases h
theorem foll_ok {C:Ctx} {l:List Nd.Nd} (h:Inv C l) (to:Int):∀(k:Nat) (p:List Int) (now:Int),
  (∀ b∈p,b≠to∧∃y∈l,y.addr=b∧∃r∈y.table,r.dest=to∧∀z∈l,z.addr=now→Above z.table r)→(foll l to k p now).2≠2
 |0,p,now,_=>fun e=>absurd (show (1:Int)=2 from e) (by decide)
 |k+1,p,now,hp=>by
  unfold foll
  split
  ·exact fun e=>absurd (show (1:Int)=2 from e) (by decide)
  ·rename_i i hi
   obtain ⟨h1,h2⟩:=idx_some hi
   have hm:=List.mem_of_getElem? h1
   split
   ·rename_i hin
    exfalso
    obtain ⟨_,y,hy,e,r,hr,hd,ha⟩:=hp now hin
    obtain ⟨s,hs,e1,e2⟩:=ha y hy e
    have:=asc_one (h.ord y hy).table.asc hs hr e1
    subst this
    omega
   ·split
    ·exact fun e=>absurd (show (0:Int)=2 from e) (by decide)
    ·rename_i hto
     split
     ·rename_i hh
      obtain ⟨r,hr,hd,hf,hn⟩:=rhop_at hh
      have hab:∀z∈l,z.addr=(rhop (nth l i).table to).1→Above z.table r:=fun z hz e=>h.rt _ hm r hr (by rw[hd,h2];exact fun e=>hto e.symm) hf z hz (e.trans hn)
      refine foll_ok h to k _ _ fun b hb=>?_
      rcases List.mem_append.1 hb with hb|hb
      ·obtain ⟨g1,y,hy,e,q,hq,hqd,ha⟩:=hp b hb
       refine ⟨g1,y,hy,e,q,hq,hqd,fun z hz ez=>?_⟩
       obtain ⟨s,hs,e1,e2⟩:=ha _ hm h2
       have:=asc_one (h.ord _ hm).table.asc hs hr (by rw[e1,hqd,hd])
       subst this
       obtain ⟨u,hu,u1,u2⟩:=hab z hz ez
       exact ⟨u,hu,by rw[u1,e1],by omega⟩
      ·rw [List.mem_singleton.1 hb]
       exact ⟨hto,_,hm,h2,r,hr,hd,hab⟩
     ·exact fun e=>absurd (show (1:Int)=2 from e) (by decide)
theorem Inv.no_loops {C:Ctx} {l:List Nd.Nd} (h:Inv C l):loops l=false:=by
 unfold loops
 rw[← Bool.not_eq_true,List.any_eq_true]
 rintro ⟨n,hn,h2⟩
 obtain ⟨r,hr,h3⟩:=List.any_eq_true.1 h2
 have:=foll_ok h r.dest (l.length+2) [] n.addr fun b hb=>by cases hb
 exact this (by simpa[follow]using h3)
end Me
namespace Me
open Go.GX Nd Tp
theorem ins_perm {α:Type} (p:α→Bool) (l:List α) (x:α):(ins p l x).Perm (x::l):=by
 unfold ins
 have:=List.perm_middle (a:=x) (l₁:=l.takeWhile p) (l₂:=l.dropWhile p)
 rwa[List.takeWhile_append_dropWhile]at this
theorem build_perm (addrs polls:List Int):∀k,(build addrs polls k).Perm ((List.range k).map (nodeAt addrs polls))
 |0=>List.Perm.refl _
 |k+1=>by
  unfold build put
  refine (ins_perm _ _ _).trans ?_
  rw[List.range_succ,List.map_append]
  exact ((build_perm addrs polls k).cons _).trans (List.perm_append_singleton _ _).symm
theorem addrs_ok {addrs:List Int} (h:firstE (addrBad addrs) addrs.length=0):(∀ a∈addrs,okN a=true)∧addrs.Nodup:=by
 have key:∀(i:Nat) (a:Int),addrs[i]? =some a→okN a=true∧a ∉ addrs.take i:=by
  intro i a hi
  have h1:=firstE_all h i (List.getElem?_eq_some_iff.1 hi).1
  unfold addrBad at h1
  rw[hi]at h1
  simp only at h1
  split at h1
  ·cases h1
  ·rename_i h2
   split at h1
   ·cases h1
   ·rename_i h3
    exact ⟨by cases e:okN a;exact absurd e h2;rfl,h3⟩
 refine ⟨fun a ha=>?_,?_⟩
 ·obtain ⟨i,hi⟩:=List.getElem?_of_mem ha
  exact (key i a hi).1
 ·refine List.pairwise_iff_getElem.2 fun i j hi hj hij e=>?_
  refine (key j addrs[j] (List.getElem?_eq_getElem hj)).2 ?_
  rw[← e]
  exact List.mem_of_getElem? (i:=i) (by rw[List.getElem?_take_of_lt hij,List.getElem?_eq_getElem hi])
theorem dis_of {l:List Nd.Nd} (h:(l.map (·.addr)).Nodup):∀(i j:Nat) (x y:Nd.Nd),l[i]? =some x→l[j]? =some y→x.addr=y.addr→i=j:=by
 intro i j x y hi hj e
 have hi':(l.map (·.addr))[i]? =some x.addr:=by rw[List.getElem?_map,hi];rfl
 have hj':(l.map (·.addr))[j]? =some y.addr:=by rw[List.getElem?_map,hj];rfl
 exact (List.getElem?_inj (List.getElem?_eq_some_iff.1 hi').1 h).1 (by rw[hi',hj',e])
theorem build_inv {C:Ctx} {addrs polls:List Int} (h:firstE (addrBad addrs) addrs.length=0):Inv C (build addrs polls addrs.length)∧(build addrs polls addrs.length).length=addrs.length:=by
 obtain ⟨h1,h2⟩:=addrs_ok h
 have hp:=build_perm addrs polls addrs.length
 have hat:∀k,k<addrs.length→okN (addrs.getD k 0)=true:=fun k hk=>by
  rw[List.getD_eq_getElem?_getD,List.getElem?_eq_getElem hk]
  exact h1 _ (List.getElem_mem hk)
 have hx:∀x∈build addrs polls addrs.length,∃a p,okN a=true∧x=new a p:=fun x hx=>by
  obtain ⟨k,hk,rfl⟩:=List.mem_map.1 (hp.mem_iff.1 hx)
  exact ⟨_,_,hat k (List.mem_range.1 hk),rfl⟩
 have ha:((List.range addrs.length).map (nodeAt addrs polls)).map (·.addr)=addrs:=by
  refine List.ext_getElem? fun k=>?_
  rw[List.map_map,List.getElem?_map]
  by_cases hk:k<addrs.length
  ·rw [List.getElem?_range hk,List.getElem?_eq_getElem hk]
   show some (new (addrs.getD k 0) (pollOf polls k)).addr=some addrs[k]
   rw[(new_addr (hat k hk)).1,List.getD_eq_getElem?_getD,List.getElem?_eq_getElem hk];rfl
  ·rw [List.getElem?_eq_none (by simpa using hk),List.getElem?_eq_none (by simpa using hk)];rfl
 have hd:((build addrs polls addrs.length).map (·.addr)).Nodup:=by
  refine (hp.map (·.addr)).nodup_iff.2 ?_
  rw[ha];exact h2
 refine ⟨⟨fun x hm=>?_,dis_of hd,fun x hm r hr hne=>?_,fun x hm s hs=>?_,fun x hm s hs=>?_,fun x hm=>?_,fun x hm s hs=>?_⟩,by rw[hp.length_eq];simp⟩
 all_goals obtain ⟨a,p,hok,rfl⟩:=hx x hm
 all_goals obtain ⟨e1,e2,e3,e4,e5,e6⟩:=new_addr (poll:=p) hok
 ·exact order_ord _
 ·rw [e6,List.mem_singleton]at hr
  subst hr
  rw[e1]at hne
  exact absurd I hne
 ·rw [e2]at hs;cases hs
 ·rw [e3]at hs;cases hs
 ·rw [e4];exact C.hN
 ·rw [e5]at hs;cases hs
theorem Inv.new {C:Ctx} {addrs polls:List Int} (h:(mNew addrs polls).2=0):Inv C (mNew addrs polls).1.nodes∧(mNew addrs polls).1.tick=0∧(mNew addrs polls).1.nodes.length=addrs.length:=by
 unfold mNew at h ⊢
 split at h
 ·cases h
 ·rename_i h1
  rw[if_neg h1]
  split at h
  ·rename_i h2;exact absurd h h2
  ·rename_i h2
   rw[if_neg h2]
   obtain ⟨g1,g2⟩:=build_inv (C:=C) (polls:=polls) (Decidable.not_not.1 h2)
   exact ⟨g1,rfl,g2⟩
end Me
namespace Go.Proofs.YtgfdoognildoeaaGreat
open Go.GX Go.RowKit
attribute [local irreducible] Calls Run RunL RunQ RunD HR HL HD blkC ownC mapC Rd slicesC iterC
open Nd Me
theorem ptsm0:PtSm []:=⟨Nat.zero_le _,fun p hp=>by cases hp⟩
def ctx0:Ctx where
 D f:=f.da.length≤1000
 K:=PtSm
 M _ _:=True
 hD _ _ _ _ h:=h
 hK _ _ _ _ hd he:=⟨padd_sm hd he,fun _=>trivial⟩
 hE l now life _:=pexp_sm l now life
 hN:=ptsm0
end Go.Proofs.YtgfdoognildoeaaGreat
namespace Go.Proofs.YtgfdoognildoeaaGreat
open Go.GX Go.RowKit
attribute [local irreducible] Calls Run RunL RunQ RunD HR HL HD blkC ownC mapC Rd slicesC iterC
open Nd
abbrev ndE2 (p:NV×Nd):List Value:=ndC p.1 p.2
theorem ndE2_len (p:NV×Nd):(ndE2 p).length=13:=rfl
theorem ndE2_one (p:NV×Nd):allOne (ndE2 p)=true:=rfl
theorem elemNd:Elem Tryz.prog 24 62 13 232:=⟨rfl,⟨_,_,rfl,rfl,rfl,rfl,rfl⟩,by decide⟩
structure OkL (w:World) (v:Value) (xs:List (NV×Nd)):Prop where
 s:Sl w v (cellsOf ndE2 xs) xs.length
 r:∀x∈xs,OkN w x.1 x.2
theorem OkL.ext {w w':World} {v:Value} {xs:List (NV×Nd)} (h:OkL w v xs) (hb:Below w.heap.size w w'):OkL w' v xs:=⟨h.s.ext hb,fun x hx=>(h.r x hx).ext hb⟩
abbrev nds (xs:List (NV×Nd)):List Nd:=xs.map (·.2)
end Go.Proofs.YtgfdoognildoeaaGreat
