/- A part of the proof: contracts of the program's functions. Conditions: none. -/
import Derived.Carry
import Derived.Deep.MidRow
import Derived.Deep.Quiet
import Derived.Laws.IdiomRangeMap
import Derived.Laws.MakeOwn
import Derived.Laws.StructEq
import Derived.Laws.Tables
import Derived.Lib.AppendStr
import Derived.Lib.AppendZerosOnto
import Derived.Lib.OthersKept
import Derived.Lib.Overlaps
import Derived.Lib.OwnBridge
import Derived.Lib.SlicesCompact
import Derived.MapKept
import Derived.Orders
import Derived.OrdersHeld
import Derived.Scope
import Derived.SizedLaws
import Derived.SliceStrings
import Derived.Sort.Grow
import Derived.StillTail
import Derived.Test.YtgfdoognildoeaaGreatProg
import Derived.Test.YtgfdoognildoeaaGreatShelf
import Derived.WalkKit
import Derived.WalkLawsBesides
import Derived.WalkSpells
import Derived.Test.YtgfdoognildoeaaGreatPB1
import Derived.Test.YtgfdoognildoeaaGreatPB2
import Derived.Test.YtgfdoognildoeaaGreatPB3
import Derived.Test.YtgfdoognildoeaaGreatPB4
import Derived.Test.YtgfdoognildoeaaGreatPB5
import Derived.Test.YtgfdoognildoeaaGreatPB6
import Derived.Test.YtgfdoognildoeaaGreatPB7
import Derived.Test.YtgfdoognildoeaaGreatPB8
import Derived.Test.YtgfdoognildoeaaGreatPB9
import Derived.Test.YtgfdoognildoeaaGreatPB10
import Derived.Test.YtgfdoognildoeaaGreatPB11
import Derived.Test.YtgfdoognildoeaaGreatPB12
set_option linter.unusedVariables false
set_option linter.unusedSectionVars false
set_option linter.unusedSimpArgs false
set_option maxRecDepth 100000
set_option maxHeartbeats 4000000
namespace Go.Proofs.YtgfdoognildoeaaGreat
open Go.GX Go.RowKit
attribute [local irreducible] Calls Run RunL RunQ RunD HR HL HD blkC ownC mapC Rd slicesC iterC
open Nd
theorem fn10:IsFn Tryz.prog 10:=⟨⟨_,_,Tryz.func10,rfl,by decide⟩⟩
theorem put_at {l:List Nd} {n:Nd} {j:Nat} (hj:j≤l.length) (h1:∀i x,i<j→l[i]? =some x→x.addr<n.addr) (h2:∀x,l[j]? =some x→¬x.addr<n.addr):Me.put l n=l.take j++n::l.drop j:=by
 obtain ⟨e1,e2⟩:=Nd.tw_at (p:=fun x:Nd=>decide (x.addr<n.addr)) hj (fun i x hi hx=>decide_eq_true (h1 i x hi hx)) (fun x hx=>decide_eq_false (h2 x hx))
 unfold Me.put Nd.ins
 rw[e1,e2]
theorem idx_none_iff {xs:List (NV×Nd)} {a:Int}:(Me.idx (nds xs) a).isSome=decide (idxV (nds xs) a≥0):=by
 unfold idxV
 cases Me.idx (nds xs) a with
 |none=>rfl
 |some i=>simp
theorem addrBad_at {l:List Int} {k:Nat} {a:Int} (h:l[k]? =some a):Me.addrBad l k=if Tp.okN a=false then 2 else if a∈l.take k then 9 else 0:=by unfold Me.addrBad;rw[h]
theorem mNew_err {addrs polls:List Int} {k:Nat} (hl:addrs.length≤24) (h0:firstE (Me.addrBad addrs) k=0) (hk:k<addrs.length) (h1:Me.addrBad addrs k≠0):Me.mNew addrs polls=(Me.mesh0,Me.addrBad addrs k):=by
 have e:=firstE_at h0 h1 hk
 unfold Me.mNew
 rw[if_neg (by omega),if_pos (by rw[e];exact h1),e]
theorem mNew_ok {addrs polls:List Int} (hl:addrs.length≤24) (h0:firstE (Me.addrBad addrs) addrs.length=0):Me.mNew addrs polls=(⟨0,Me.build addrs polls addrs.length⟩,0):=by
 unfold Me.mNew
 rw[if_neg (by omega),if_neg (by rw[h0];decide)]
theorem mNew_many {addrs polls:List Int} (hl:addrs.length>24):Me.mNew addrs polls=(Me.mesh0,3):=by unfold Me.mNew;rw[if_pos hl]
theorem pollOf_some {polls:List Int} {k:Nat} {p:Int} (h:polls[k]? =some p):Me.pollOf polls k=p:=by unfold Me.pollOf;rw[List.getD_eq_getElem?_getD,h];rfl
theorem pollOf_none {polls:List Int} {k:Nat} (h:polls.length≤k):Me.pollOf polls k=0:=by unfold Me.pollOf;rw[List.getD_eq_getElem?_getD,List.getElem?_eq_none h];rfl
theorem okN_no {a:Int}:(decide (a<0)||decide (a>250))=!Tp.okN a:=by
 cases h:Tp.okN a with
 |true=>rw[Nd.okN_iff]at h;simp;omega
 |false=>
  have:¬Tp.okN a=true:=by rw[h];decide
  rw[Nd.okN_iff]at this;simp;omega
abbrev MeMk (x:SV×List (NV×Nd)×List Chunk) (l:List Nd):Prop:=MkL x l∧∀y∈x.2.1,GdN y.2
theorem mk_zero:MeMk ((none,0),[],[]) []:=⟨⟨rfl,fun y hy=>(List.not_mem_nil hy).elim⟩,fun y hy=>(List.not_mem_nil hy).elim⟩
theorem sat_zero {B:Base} {H:List Chunk} {w:World} (h:Sat B H w):Sat B [cNd (sv (none,0) 0) [],groupC []] w:=
 Ent.trans (Ent.gnil (H:=[cNd (sv (none,0) 0) []])) (Ent.pick [1,0] I I) w (Sat.nilC (h.pick [] I I) 62 13)
theorem mnew_any (addrs polls:List Int) (va vp:Value) (w:World) (ha:Sl w va (cellsOf iC addrs) addrs.length) (hp:Sl w vp (cellsOf iC polls) polls.length) (hla:addrs.length≤1000000) (hlp:polls.length≤1000000):
  Calls Tryz.prog 10 #[va,vp] w fun e w'=>∃x:SV×List (NV×Nd)×List Chunk,e= .returned (.tuple ⟨[meV 0 (sv x.1 x.2.1.length),.int .i64 (Me.mNew addrs polls).2]⟩)∧MeMk x (Me.mNew addrs polls).1.nodes∧Sat (base w) [cNd (sv x.1 x.2.1.length) x.2.1,groupC x.2.2] w':=by
 refine calls_hr Tryz.func10 I (Nat.le_of_ble_eq_true I) ?_
 refine HR.sub (σ':=[(0,va),(1,vp)]) ⟨I,I,trivial⟩ ?_
 refine HR.ctl I ?_
 refine HR.region ?_
 refine HL.alloc I I ?_
 intro b4
 repeat' (first|refine zh ?_|refine HL.lenR (Rd.arg ha) I I I ?_|intro (bk:Nat))
 refine HR.cond I (fun h1=>?_) (fun h1=>?_)
 ·have h1:addrs.length>24:=by have:(addrs.length:Int)>24:=of_decide_eq_true h1;omega
  rw[mNew_many h1]
  repeat' (first|refine zh ?_|intro (bk:Nat))
  refine HR.ret Tryz.func10 I [_,_] (fun w hw=>⟨⟨_,rfl,loadVarR hw 0 I I I I rfl⟩,rfl,trivial⟩) ?_
  exact fun w' hw=>⟨((none,0),[],[]),rfl,mk_zero,sat_zero hw⟩
 have h24:addrs.length≤24:=by have:¬(addrs.length:Int)>24:=of_decide_eq_false h1;omega
 refine HR.ctl I ?_
 refine HR.region ?_
 refine HL.alloc I I ?_
 intro b6
 repeat' (first|refine zh ?_|refine HL.lenR (Rd.arg ha) I I I ?_|intro (bk:Nat))
 refine HR.nilC 62 13 ?_
 refine HR.loop (ι:=Nat×SV×List (NV×Nd)×List Chunk) (fun x=>x.1≤addrs.length∧firstE (Me.addrBad addrs) x.1=0∧MeMk x.2 (Me.build addrs polls x.1)) (fun x=>[(0,va),(1,vp),(4,ptr b4),(6,ptr b6),(15,va),(16,.int .i64 (addrs.length:Int)),(17,.int .i64 (x.1:Int))]) (fun x=>[meB b6 0 (sv x.2.1 x.2.2.1.length),blkC b4 meZ 26,cNd (sv x.2.1 x.2.2.1.length) x.2.2.1,groupC x.2.2.2]) (fun x=>addrs.length-x.1) (0,(none,0),[],[]) ⟨Nat.zero_le _,rfl,mk_zero⟩ ⟨I,I,I,I,I,I,I,trivial⟩ (Ent.trans Ent.gnil (Ent.pick [2,3,1,0] I I)) ?_
 rintro ⟨k,y,ys,G⟩ ⟨hk,hE,⟨hN,hO⟩,hG⟩ ih
 have hk:k≤addrs.length:=hk
 have hE:firstE (Me.addrBad addrs) k=0:=hE
 have hN:nds ys=Me.build addrs polls k:=hN
 have hO:∀z∈ys,Own z.1 G z.2:=hO
 have hG:∀z∈ys,GdN z.2:=hG
 have hyl:ys.length=k:=by rw[← nds_len,hN,Me.build_len]
 have cy:(cellsOf ndE2 ys).length=ys.length*13:=cellsOf_len ndE2_len _
 repeat' (first|refine zh ?_|intro (bk:Nat))
 refine HR.cond I (fun h2=>?_) (fun h2=>?_)
 rotate_left
 ·have hke:k=addrs.length:=by have:¬(k:Int)<(addrs.length:Int):=of_decide_eq_false h2;omega
  subst hke
  rw[mNew_ok h24 hE]
  repeat' (first|refine zh ?_|intro (bk:Nat))
  refine HR.ret Tryz.func10 I [_,_] (fun w hw=>⟨⟨_,rfl,loadVarR hw 1 I I I I rfl⟩,rfl,trivial⟩) ?_
  exact fun w' hw=>⟨(y,ys,G),rfl,⟨⟨hN,hO⟩,hG⟩,hw.pick [2,3] I rfl⟩
 have hlt:k<addrs.length:=by have:(k:Int)<(addrs.length:Int):=of_decide_eq_true h2;omega
 obtain ⟨a,hak⟩:=getSome hlt
 have hbad:=addrBad_at hak
 repeat' (first|refine zh ?_|refine HL.idxR (Rd.arg ha) elemI k I I I I hlt ?_|refine HL.loadI (Rd.arg ha) I I I I (cellsOf_get1 hak) ?_|apply zb ?_ ?_|exact zc|(refine zi fun hb=>?_;try simp at hb)|intro (bk:Nat))
 refine HR.cond I (fun h3=>?_) (fun h3=>?_)
 ·have h3:Tp.okN a=false:=by have h3:(decide (a<0)||decide (a>250))=true:=h3;rw[okN_no]at h3;simpa using h3
  rw[if_pos h3]at hbad
  rw[mNew_err h24 hE hlt (by rw[hbad];decide),hbad]
  repeat' (first|refine zh ?_|intro (bk:Nat))
  refine HR.ret Tryz.func10 I [_,_] (fun w hw=>⟨⟨_,rfl,loadVarR hw 1 I I I I rfl⟩,rfl,trivial⟩) ?_
  exact fun w' hw=>⟨((none,0),[],[]),rfl,mk_zero,sat_zero hw⟩
 have hok:Tp.okN a=true:=by have h3:(decide (a<0)||decide (a>250))=false:=h3;rw[okN_no]at h3;simpa using h3
 rw[if_neg (by rw[hok];decide)]at hbad
 have hhas:=Me.build_has (polls:=polls) hE hk a
 rw[← hN,idx_none_iff]at hhas
 repeat' (first|refine zh ?_|refine HL.callB fn34 I I (fun w1 hw1=>mindex_any ys a _ w1 ((Rd.own 2 rfl).at hw1) (by omega)) ?_|intro (bk:Nat))
 refine HR.cond I (fun h4=>?_) (fun h4=>?_)
 ·have h4:decide (idxV (nds ys) a≥0)=true:=h4
  rw[h4]at hhas
  rw[if_pos (of_decide_eq_true hhas.symm)]at hbad
  rw[mNew_err h24 hE hlt (by rw[hbad];decide),hbad]
  repeat' (first|refine zh ?_|intro (bk:Nat))
  refine HR.ret Tryz.func10 I [_,_] (fun w hw=>⟨⟨_,rfl,loadVarR hw 1 I I I I rfl⟩,rfl,trivial⟩) ?_
  exact fun w' hw=>⟨((none,0),[],[]),rfl,mk_zero,sat_zero hw⟩
 have h4:decide (idxV (nds ys) a≥0)=false:=h4
 rw[h4]at hhas
 rw[if_neg (of_decide_eq_false hhas.symm)]at hbad
 have hE1:firstE (Me.addrBad addrs) (k+1)=0:=firstE_step hE hbad
 obtain ⟨P,hP⟩:∃P,P=Me.pollOf polls k:=⟨_,rfl⟩
 have hna:Me.nodeAt addrs polls k=new a P:=by unfold Me.nodeAt;rw[List.getD_eq_getElem?_getD,hak,← hP];rfl
 have hnaa:(new a P).addr=a:=(Me.new_addr hok).1
 repeat' (first|refine zh ?_|refine HL.lenR (Rd.arg hp) I I I ?_|intro (bk:Nat))
 refine HR.join (ι:=Unit) (fun _=>True) (fun _=>[(0,va),(1,vp),(4,ptr b4),(6,ptr b6),(8,.int .i64 a),(9,.int .i64 P),(15,va),(16,.int .i64 (addrs.length:Int)),(17,.int .i64 (k:Int))]) (fun _=>[meB b6 0 (sv y ys.length),blkC b4 meZ 26,cNd (sv y ys.length) ys,groupC G]) ?_ (fun hj=>?_)
 rotate_left
 ·refine HR.cond I (fun h5=>?_) (fun h5=>?_)
  ·have hlt5:k<polls.length:=by have:(k:Int)<(polls.length:Int):=of_decide_eq_true h5;omega
   obtain ⟨p,hpk⟩:=getSome hlt5
   rw[pollOf_some hpk]at hP
   subst hP
   refine HR.region ?_
   repeat' (first|refine zn ?_|refine HL.idxR (Rd.arg hp) elemI k I I I I hlt5 ?_|refine HL.loadI (Rd.arg hp) I I I I (cellsOf_get1 hpk) ?_|intro (bk:Nat))
   exact hj () _ _ trivial ⟨I,I,I,I,I,I,I,I,I,trivial⟩ Ent.refl
  ·have hlt5:polls.length≤k:=by have:¬(k:Int)<(polls.length:Int):=of_decide_eq_false h5;omega
   rw[pollOf_none hlt5]at hP
   subst hP
   refine HR.skip ?_
   exact hj () _ _ trivial ⟨I,I,I,I,I,I,I,I,I,trivial⟩ Ent.refl
 rintro _ _
 refine HR.ctl I ?_
 refine HR.region ?_
 repeat' (first|refine zn ?_|apply zb ?_ ?_|exact zc|(refine zi fun hb=>?_;try simp at hb)|intro (bk:Nat))
 refine HR.seq ?_
 refine HR.join (ι:=Nat) (fun j=>j≤ys.length∧(∀ i x,i<j→ys[i]? =some x→x.2.addr<a)∧∀x,ys[j]? =some x→¬x.2.addr<a) (fun j=>[(0,va),(1,vp),(4,ptr b4),(6,ptr b6),(8,.int .i64 a),(9,.int .i64 P),(10,.int .i64 (j:Int)),(15,va),(16,.int .i64 (addrs.length:Int)),(17,.int .i64 (k:Int))]) (fun _=>[meB b6 0 (sv y ys.length),blkC b4 meZ 26,cNd (sv y ys.length) ys,groupC G]) ?_ (fun hjn=>?_)
 rotate_left
 ·refine HR.ctl I ?_
  refine HR.loop (ι:=Nat) (fun j=>j≤ys.length∧∀i x,i<j→ys[i]? =some x→x.2.addr<a) (fun j=>[(0,va),(1,vp),(4,ptr b4),(6,ptr b6),(8,.int .i64 a),(9,.int .i64 P),(10,.int .i64 (j:Int)),(15,va),(16,.int .i64 (addrs.length:Int)),(17,.int .i64 (k:Int))]) (fun _=>[meB b6 0 (sv y ys.length),blkC b4 meZ 26,cNd (sv y ys.length) ys,groupC G]) (fun j=>ys.length-j) 0 ⟨Nat.zero_le _,fun i x hi=>absurd hi (Nat.not_lt_zero _)⟩ ⟨I,I,I,I,I,I,I,I,I,I,trivial⟩ Ent.refl ?_
  rintro j ⟨hj,hlo⟩ ih2
  have hj:j≤ys.length:=hj
  have hlo:∀i x,i<j→ys[i]? =some x→x.2.addr<a:=hlo
  repeat' (first|refine zh ?_|refine HL.lenR (Rd.own 2 I) I I I ?_|intro (bk:Nat))
  by_cases hjl:j<ys.length
  ·obtain ⟨x,hx⟩:=getSome hjl
   refine HL.setB 48 true I (decide_eq_true (by omega)) ?_
   repeat' (first|refine zh ?_|refine HL.idxR (Rd.own 2 I) elemNd j I I I I hjl ?_|refine HL.fieldN 0 (Rd.own 2 I) (by rw[cy];omega) I I I I I I I ?_|refine HL.loadI (Rd.own 2 I) I I I I (cells_get ndE2_len hx (i:=0) I) ?_|intro (bk:Nat))
   refine HR.cond I (fun h6=>?_) (fun h6=>?_)
   ·have h6:x.2.addr<a:=of_decide_eq_true h6
    repeat' (first|refine zh ?_|intro (bk:Nat))
    refine ih2 (j+1) _ _ ⟨hjl,fun i z hi hz=>?_⟩ (by show ys.length-(j+1)<ys.length-j;omega) ⟨I,I,I,I,I,I,I,I,I,I,trivial⟩ Ent.refl
    by_cases e:i=j
    ·subst e;rw[hx]at hz;cases hz;exact h6
    ·exact hlo i z (by omega) hz
   ·have h6:¬x.2.addr<a:=of_decide_eq_false h6
    refine HR.exit I ?_
    exact hjn j _ _ ⟨hj,hlo,fun z hz=>by rw[hx]at hz;cases hz;exact h6⟩ ⟨I,I,I,I,I,I,I,I,I,I,trivial⟩ Ent.refl
  ·refine HL.setB 48 false I (decide_eq_false (by omega)) ?_
   repeat' (first|refine zn ?_|apply zb ?_ ?_|exact zc|(refine zi fun hb=>?_;try simp at hb)|intro (bk:Nat))
   refine HR.condF I ?_
   refine HR.exit I ?_
   exact hjn j _ _ ⟨hj,hlo,fun z hz=>by rw[List.getElem?_eq_none (by omega)]at hz;cases hz⟩ ⟨I,I,I,I,I,I,I,I,I,I,trivial⟩ Ent.refl
 rintro j ⟨hj,hlo,hhi⟩
 have hj:j≤ys.length:=hj
 have hput:Me.put (nds ys) (new a P)=(nds ys).take j++new a P::(nds ys).drop j:=by
  refine put_at (by rw[nds_len];exact hj) (fun i x hi hx=>?_) (fun x hx=>?_)
  ·rw [hnaa]
   obtain ⟨z,hz⟩:=getSome (show i<ys.length by omega)
   rw[nds_get hz]at hx;cases hx
   exact hlo i z hi hz
  ·rw [hnaa]
   have hjl:j<ys.length:=by have:=(List.getElem?_eq_some_iff.1 hx).1;rwa[nds_len]at this
   obtain ⟨z,hz⟩:=getSome hjl
   rw[nds_get hz]at hx;cases hx
   exact hhi z hz
 repeat' (first|refine zh ?_|intro (bk:Nat))
 refine HR.regionY [(0,true),(1,true),(2,true),(3,true),(4,true),(5,false),(6,false),(7,false),(8,true)] 9 [0] I I hmix (by kernel_rfl) ?_
 repeat' (first|refine zd ?_|fail)
 refine HD.one I ?_
 refine HL.callX (r:=fun x:NV×List Chunk=> .agg ⟨ndC x.1 (new a P)⟩) (Q:=fun x=>Own x.1 x.2 (new a P)) (G:=fun x=>[groupC x.2]) fn36 I I (fun w1 hw1=>pnew_any a P w1) ?_
 rintro ⟨V2,G2⟩ hO2
 have hO2:Own V2 G2 (new a P):=hO2
 refine HL.back [1] I I ?_
 refine HD.one I ?_
 refine HL.bslice elemNd I I I I I (by decide) (by decide) ?_
 intro vx
 refine HL.back [2] I I ?_
 refine HD.one I ?_
 obtain ⟨zs,hzs⟩:∃zs,zs=ys.take j++(V2,new a P)::ys.drop j:=⟨_,rfl⟩
 refine HL.ent (H':=[ownC vx 62 13 1 (ndE2 (V2,new a P)),cNd (sv y ys.length) ys]++[groupC G2,meB b6 0 (sv y ys.length),blkC b4 meZ 26,groupC G]) (Ent.pick [0,4,1,2,3,5] I I) ?_
 refine HL.callW (r:=fun x:Value=>x) (Q:=fun _=>True) (G:=fun r=>[ownC r 62 13 zs.length (cellsOf ndE2 zs)]) fn35 I I I (fun w1 hw1=>by rw[hzs];exact insNd_any ys (V2,new a P) j _ vx _ w1 (hw1.pick [0,1] I I) hj (by omega)) ?_
 intro r _
 refine HL.back [2] I I ?_
 repeat' (first|refine zd ?_|fail)
 refine HD.last I ?_
 refine HL.shape 0 I fun ar cr hv=>?_
 subst hv
 repeat' (first|refine zn ?_|intro (bk:Nat))
 repeat' (first|refine zh ?_|intro (bk:Nat))
 have hmem:∀z∈zs,z∈ys∨z=(V2,new a P):=fun z hz=>by
  rw[hzs]at hz
  rcases List.mem_append.1 hz with hz|hz
  ·exact .inl (List.mem_of_mem_take hz)
  ·rcases List.mem_cons.1 hz with hz|hz
   ·exact .inr hz
   ·exact .inl (List.mem_of_mem_drop hz)
 refine ih (k+1,(ar,cr),zs,[groupC G2,groupC G]) _ _ ⟨hlt,hE1,⟨?_,?_⟩,?_⟩ (by show addrs.length-(k+1)<addrs.length-k;omega) ⟨I,I,I,I,I,I,I,trivial⟩ ?_
 ·show nds zs=Me.put (Me.build addrs polls k) (Me.nodeAt addrs polls k)
  rw[hna,← hN,hput,hzs]
  unfold nds
  rw[List.map_append,List.map_cons,List.map_take,List.map_drop]
 ·intro z hz
  rcases hmem z hz with hz|rfl
  ·exact fun w2 hg2=>hO z hz w2 (groupC_mem hg2 (by simp))
  ·exact fun w2 hg2=>hO2 w2 (groupC_mem hg2 (by simp))
 ·intro z hz
  rcases hmem z hz with hz|rfl
  ·exact hG z hz
  ·exact GdN.new a P
 ·show Ent _ _ [meB b6 0 (sv (ar,cr) zs.length),blkC b4 meZ 26,cNd (sv (ar,cr) zs.length) zs,groupC [groupC G2,groupC G]]
  exact Ent.trans (Ent.pick (H':=[groupC G2,groupC G]++[meB b6 0 (sv (ar,cr) zs.length),blkC b4 meZ 26,cNd (sv (ar,cr) zs.length) zs]) [1,4,2,3,0] I I) (Ent.trans Ent.group (Ent.pick [1,2,3,0] I I))
end Go.Proofs.YtgfdoognildoeaaGreat
namespace Me
open Go.GX Nd Tp
theorem nodup_len:∀ {l m:List Int},l.Nodup→(∀ a∈l,a∈m)→l.length≤m.length
 |[],m,_,_=>Nat.zero_le _
 |a::l,m,hn,hs=>by
  rw[List.nodup_cons]at hn
  have ha:a∈m:=hs a (List.mem_cons_self ..)
  have h1:=nodup_len (l:=l) (m:=m.erase a) hn.2 fun b hb=>by
   have hne:b≠a:=fun e=>hn.1 (e▸hb)
   exact (List.mem_erase_of_ne hne).2 (hs b (List.mem_cons_of_mem _ hb))
  rw[List.length_erase_of_mem ha]at h1
  have:=List.length_pos_of_mem ha
  simp only[List.length_cons]
  omega
theorem idx_in {l:List Nd.Nd} {a:Int} {i:Nat} (h:idx l a=some i):a∈l.map (·.addr):=by
 obtain ⟨h1,h2⟩:=idx_some h
 exact List.mem_map.2 ⟨_,List.mem_of_getElem? h1,h2⟩
structure Fol (l:List Nd.Nd) (src to:Int) (k:Nat) (p:List Int) (now:Int):Prop where
 eq:foll l to k p now=follow l src to
 nod:p.Nodup
 sub:∀a∈p,a∈l.map (·.addr)
 dst:to ∉ p
 len:p.length+k=l.length+2
theorem Fol.start (l:List Nd.Nd) (src to:Int):Fol l src to (l.length+2) [] src:=⟨rfl,List.nodup_nil,fun a h=>(List.not_mem_nil h).elim,List.not_mem_nil,by simp⟩
section
variable {l : List Nd.Nd} {src to now : Int} {k : Nat} {p : List Int}
theorem Fol.le (h:Fol l src to k p now):p.length≤l.length:=by have:=nodup_len h.nod h.sub;simpa using this
theorem Fol.pos (h:Fol l src to k p now):∃j,k=j+1:=⟨k-1,by have:=h.le;have:=h.len;omega⟩
theorem Fol.none (h:Fol l src to k p now) (hi:idx l now=none):follow l src to=(p,1):=by
 obtain ⟨j,rfl⟩:=h.pos
 rw[← h.eq];unfold foll;rw[hi]
theorem Fol.again (h:Fol l src to k p now) {i:Nat} (hi:idx l now=some i) (hp:now∈p):follow l src to=(p,2):=by
 obtain ⟨j,rfl⟩:=h.pos
 rw[← h.eq];unfold foll;rw[hi];simp only;rw[if_pos hp]
theorem Fol.done (h:Fol l src to k p now) {i:Nat} (hi:idx l now=some i) (hp:now ∉ p) (he:now=to):follow l src to=(p++[now],0):=by
 obtain ⟨j,rfl⟩:=h.pos
 rw[← h.eq];unfold foll;rw[hi];simp only;rw[if_neg hp,if_pos he]
theorem Fol.stop (h:Fol l src to k p now) {i:Nat} (hi:idx l now=some i) (hp:now ∉ p) (he:now≠to) (hh:(rhop (nth l i).table to).2=false):follow l src to=(p++[now],1):=by
 obtain ⟨j,rfl⟩:=h.pos
 rw[← h.eq];unfold foll;rw[hi];simp only;rw[if_neg hp,if_neg he,if_neg (by rw[hh];decide)]
theorem Fol.step (h:Fol l src to k p now) {i:Nat} (hi:idx l now=some i) (hp:now ∉ p) (he:now≠to) (hh:(rhop (nth l i).table to).2=true):Fol l src to (k-1) (p++[now]) (rhop (nth l i).table to).1:=by
 have hl:=h.len
 obtain ⟨j,rfl⟩:=h.pos
 refine ⟨?_,?_,fun a ha=>?_,?_,by simp;omega⟩
 ·rw [← h.eq]
  conv=>rhs;unfold foll
  rw[hi];simp only;rw[if_neg hp,if_neg he,if_pos hh];rfl
 ·rw [List.nodup_append]
  exact ⟨h.nod,by simp,fun a ha b hb=>by rw[List.mem_singleton.1 hb];exact fun e=>hp (e▸ha)⟩
 ·rcases List.mem_append.1 ha with ha|ha
  ·exact h.sub a ha
  ·rw [List.mem_singleton.1 ha];exact idx_in hi
 ·rw [List.mem_append,List.mem_singleton]
  rintro (h1|h1)
  ·exact h.dst h1
  ·exact he h1.symm
theorem Fol.back (h:Fol l src to k p now) (hp:now∈p):∃i,idx l now=some i:=by
 obtain ⟨x,hx,e⟩:=List.mem_map.1 (h.sub now hp)
 rw[← e]
 exact idx_mem hx
theorem Fol.two (h:Fol l src to k p now) (hp:now∈p):(follow l src to).2=2:=by
 obtain ⟨i,hi⟩:=h.back hp
 rw[h.again hi hp]
theorem Fol.at_end (h:Fol l src to k p now) (he:now=to):(follow l src to).2≠2:=by
 have hp:now ∉ p:=by rw[he];exact h.dst
 cases hi:idx l now with
 |none=>rw[h.none hi];exact show (1:Int)≠2 by decide
 |some i=>rw[h.done hi hp he];exact show (0:Int)≠2 by decide
end
theorem path_of {l:List Nd.Nd} {src to:Int} {p:List Int} {e:Int} (h:follow l src to=(p,e)):path l src to=if e=0 then (p,true)else ([],false):=by
 unfold path;rw[h]
end Me
namespace Go.Proofs.YtgfdoognildoeaaGreat
open Go.GX Go.RowKit
attribute [local irreducible] Calls Run RunL RunQ RunD HR HL HD blkC ownC mapC Rd slicesC iterC
open Nd
theorem fn17:IsFn Tryz.prog 17:=⟨⟨_,_,Tryz.func17,rfl,by decide⟩⟩
theorem fn52:IsFn Tryz.prog 52:=⟨⟨_,_,Tryz.func52,rfl,by decide⟩⟩
theorem fn20:IsFn Tryz.prog 20:=⟨⟨_,_,Tryz.func20,rfl,by decide⟩⟩
theorem path_bad {l:List Nd} {src to:Int} {p:List Int} {e:Int} (h:Me.follow l src to=(p,e)) (he:e≠0):Me.path l src to=([],false):=by rw[Me.path_of h,if_neg he]
theorem path_ok {l:List Nd} {src to:Int} {p:List Int} (h:Me.follow l src to=(p,0)):Me.path l src to=(p,true):=by rw[Me.path_of h,if_pos rfl]
theorem mpath_any (xs:List (NV×Nd)) (t src to:Int) (v:Value) (w:World) (h:OkL w v xs) (hg:∀x∈xs,SmN x.2) (hl:xs.length≤1000):
  Calls Tryz.prog 17 #[meV t v,.int .i64 src,.int .i64 to] w fun e w'=>∃v',e= .returned (.tuple ⟨[v',.bool (Me.path (nds xs) src to).2]⟩)∧Sat (base w) [ownC v' 3 1 (Me.path (nds xs) src to).1.length (cellsOf iC (Me.path (nds xs) src to).1)] w':=by
 have cx:(cellsOf ndE2 xs).length=xs.length*13:=cellsOf_len ndE2_len _
 refine calls_hr Tryz.func17 I (Nat.le_of_ble_eq_true I) ?_
 refine HR.sub (σ':=[(0,meV t v),(1,.int .i64 src),(2,.int .i64 to)]) ⟨I,I,I,trivial⟩ ?_
 refine HR.ctl I ?_
 refine HR.region ?_
 refine HL.box I I ?_
 intro b3
 repeat' (first|refine zh ?_|intro (bk:Nat))
 refine HR.nilC 3 1 ?_
 refine HR.loop (ι:=Nat×List Int×Int×Value) (fun x=>Me.Fol (nds xs) src to x.1 x.2.1 x.2.2.1) (fun x=>[(2,.int .i64 to),(3,ptr b3),(8,x.2.2.2),(9,.int .i64 x.2.2.1)]) (fun x=>[ownC x.2.2.2 3 1 x.2.1.length (cellsOf iC x.2.1),meB b3 t v]) (fun x=>x.1) ((nds xs).length+2,[],src,.slice none 0 0) (Me.Fol.start _ _ _) ⟨I,I,I,I,trivial⟩ Ent.refl ?_
 rintro ⟨k,p,now,vp⟩ hF ih
 have hF:Me.Fol (nds xs) src to k p now:=hF
 have hpl:p.length≤1000:=by have:=hF.le;rw[nds_len]at this;omega
 obtain ⟨k',hk'⟩:=hF.pos
 repeat' (first|refine zh ?_|intro (bk:Nat))
 rcases idxV_cases xs now with ⟨e1,e2⟩|⟨i,⟨V,n⟩,e1,e2,hx,hxa⟩
 ·rw [path_bad (hF.none e2) (by decide)]
  refine HL.callB (r:= .int .i64 (-1)) fn34 I I (fun w1 hw1=>by rw[← e1];exact mindex_any xs now v w1 (h.s.ext hw1.belowB) (by omega)) ?_
  repeat' (first|refine zh ?_|intro (bk:Nat))
  refine HR.ret Tryz.func17 I [_,_] (fun _ _=>⟨I,I,trivial⟩) ?_
  exact fun w' hw=>⟨.slice none 0 0,rfl,Sat.nilC (hw.pick [] I I) 3 1⟩
 have hil:i<xs.length:=(List.getElem?_eq_some_iff.1 hx).1
 have hxm:=List.mem_of_getElem? hx
 have hok:OkN w V n:=h.r _ hxm
 have hsn:SmN n:=hg _ hxm
 have hnt:Me.nth (nds xs) i=n:=nds_nth hx
 refine HL.callB (r:= .int .i64 (i:Int)) fn34 I I (fun w1 hw1=>by rw[← e1];exact mindex_any xs now v w1 (h.s.ext hw1.belowB) (by omega)) ?_
 repeat' (first|refine zh ?_|refine HL.callB fn49 I I (fun w1 hw1=>contI_any p now vp w1 ((Rd.own 0 rfl).at hw1) (by omega)) ?_|intro (bk:Nat))
 refine HR.cond I (fun h2=>?_) (fun h2=>?_)
 ·have h2:now∈p:=of_decide_eq_true h2
  rw[path_bad (hF.again e2 h2) (by decide)]
  repeat' (first|refine zh ?_|intro (bk:Nat))
  refine HR.ret Tryz.func17 I [_,_] (fun _ _=>⟨I,I,trivial⟩) ?_
  exact fun w' hw=>⟨.slice none 0 0,rfl,Sat.nilC (hw.pick [] I I) 3 1⟩
 have h2:now ∉ p:=of_decide_eq_false h2
 repeat' (first|refine zh ?_|intro (bk:Nat))
 refine HL.bslice elemI I I I I I (by decide) (by decide) ?_
 intro va
 refine HL.appR 1 I elemI (Rd.own 0 I) I I I I (allOne_spec I) (by show (p.length+1)*8≤_;omega) (by show p.length+1≤_;omega) ?_
 intro vc
 refine HL.ent (H':=[ownC vc 3 1 (p++[now]).length (cellsOf iC (p++[now])),meB b3 t v]) (Ent.trans (Ent.pick [1,2] I I) (Ent.own0 (by simp) (by rw[cellsOf_app];rfl))) ?_
 repeat' (first|refine zh ?_|intro (bk:Nat))
 refine HR.cond I (fun h3=>?_) (fun h3=>?_)
 ·have h3:now=to:=eq_of_beq h3
  rw[path_ok (hF.done e2 h2 h3)]
  repeat' (first|refine zh ?_|intro (bk:Nat))
  refine HR.ret Tryz.func17 I [_,_] (fun _ _=>⟨I,I,trivial⟩) ?_
  exact fun w' hw=>⟨vc,rfl,hw.pick [0] I rfl⟩
 have h3:now≠to:=by have h3:(now==to)=false:=h3;simpa using h3
 repeat' (first|refine zh ?_|refine HL.idxR (Rd.arg h.s) elemNd i I I I I hil ?_|refine HL.fieldN 3 (Rd.arg h.s) (by rw[cx];omega) I I I I I I I ?_|refine HL.loadI (Rd.arg h.s) I I I I (cells_get ndE2_len hx (i:=3) I) ?_|refine HL.callB fn50 I I (fun w1 hw1=>rhop_any n.table to _ w1 (hok.ta.ext hw1.belowB) hsn.ta) ?_|intro (bk:Nat))
 refine HR.cond I (fun h4=>?_) (fun h4=>?_)
 ·have h4:(rhop n.table to).2=false:=by have h4:(!(rhop n.table to).2)=true:=h4;simpa using h4
  rw[path_bad (hF.stop e2 h2 h3 (by rw[hnt];exact h4)) (by decide)]
  repeat' (first|refine zh ?_|intro (bk:Nat))
  refine HR.ret Tryz.func17 I [_,_] (fun _ _=>⟨I,I,trivial⟩) ?_
  exact fun w' hw=>⟨.slice none 0 0,rfl,Sat.nilC (hw.pick [] I I) 3 1⟩
 have h4:(rhop n.table to).2=true:=by have h4:(!(rhop n.table to).2)=false:=h4;simpa using h4
 have hstep:=hF.step e2 h2 h3 (by rw[hnt];exact h4)
 rw[hnt]at hstep
 repeat' (first|refine zh ?_|intro (bk:Nat))
 exact ih (k-1,p++[now],(rhop n.table to).1,vc) _ _ hstep (by show k-1<k;omega) ⟨I,I,I,I,trivial⟩ Ent.refl
theorem mreturns_any (xs:List (NV×Nd)) (t src to:Int) (v:Value) (w:World) (h:OkL w v xs) (hg:∀x∈xs,SmN x.2) (hl:xs.length≤1000):
  Calls Tryz.prog 52 #[meV t v,.int .i64 src,.int .i64 to] w fun e w'=>e= .returned (.bool ((Me.follow (nds xs) src to).2==2))∧Below w.heap.size w w':=by
 have cx:(cellsOf ndE2 xs).length=xs.length*13:=cellsOf_len ndE2_len _
 have no2:∀ {p:List Int} {e:Int},Me.follow (nds xs) src to=(p,e)→e≠2→((Me.follow (nds xs) src to).2==2)=false:=fun h1 h2=>by rw[h1];simpa using h2
 refine calls_hr Tryz.func52 I (Nat.le_of_ble_eq_true I) ?_
 refine HR.sub (σ':=[(0,meV t v),(1,.int .i64 src),(2,.int .i64 to)]) ⟨I,I,I,trivial⟩ ?_
 refine HR.ctl I ?_
 refine HR.region ?_
 refine HL.box I I ?_
 intro b3
 repeat' (first|refine zh ?_|intro (bk:Nat))
 refine HR.nilC 3 1 ?_
 refine HR.loop (ι:=Nat×List Int×Int×Value) (fun x=>Me.Fol (nds xs) src to x.1 x.2.1 x.2.2.1) (fun x=>[(2,.int .i64 to),(3,ptr b3),(7,x.2.2.2),(8,.int .i64 x.2.2.1)]) (fun x=>[ownC x.2.2.2 3 1 x.2.1.length (cellsOf iC x.2.1),meB b3 t v]) (fun x=>x.1) ((nds xs).length+2,[],src,.slice none 0 0) (Me.Fol.start _ _ _) ⟨I,I,I,I,trivial⟩ Ent.refl ?_
 rintro ⟨k,p,now,vp⟩ hF ih
 have hF:Me.Fol (nds xs) src to k p now:=hF
 have hpl:p.length≤1000:=by have:=hF.le;rw[nds_len]at this;omega
 obtain ⟨k',hk'⟩:=hF.pos
 repeat' (first|refine zh ?_|intro (bk:Nat))
 refine HR.cond I (fun h3=>?_) (fun h3=>?_)
 rotate_left
 ·have h3:now=to:=by have h3:(now != to)=false:=h3;simpa using h3
  have e:((Me.follow (nds xs) src to).2==2)=false:=by have:=hF.at_end h3;simpa using this
  rw[e]
  repeat' (first|refine zh ?_|intro (bk:Nat))
  refine HR.ret Tryz.func52 I [_] (fun _ _=>⟨I,trivial⟩) ?_
  exact fun w' hw=>⟨rfl,hw.belowB⟩
 have h3:now≠to:=by have h3:(now != to)=true:=h3;simpa using h3
 repeat' (first|refine zh ?_|refine HL.callB fn49 I I (fun w1 hw1=>contI_any p now vp w1 ((Rd.own 0 rfl).at hw1) (by omega)) ?_|intro (bk:Nat))
 refine HR.cond I (fun h2=>?_) (fun h2=>?_)
 ·have h2:now∈p:=of_decide_eq_true h2
  have e:((Me.follow (nds xs) src to).2==2)=true:=by rw[hF.two h2];rfl
  rw[e]
  repeat' (first|refine zh ?_|intro (bk:Nat))
  refine HR.ret Tryz.func52 I [_] (fun _ _=>⟨I,trivial⟩) ?_
  exact fun w' hw=>⟨rfl,hw.belowB⟩
 have h2:now ∉ p:=of_decide_eq_false h2
 repeat' (first|refine zh ?_|intro (bk:Nat))
 refine HL.bslice elemI I I I I I (by decide) (by decide) ?_
 intro va
 refine HL.appR 1 I elemI (Rd.own 0 I) I I I I (allOne_spec I) (by show (p.length+1)*8≤_;omega) (by show p.length+1≤_;omega) ?_
 intro vc
 refine HL.ent (H':=[ownC vc 3 1 (p++[now]).length (cellsOf iC (p++[now])),meB b3 t v]) (Ent.trans (Ent.pick [1,2] I I) (Ent.own0 (by simp) (by rw[cellsOf_app];rfl))) ?_
 repeat' (first|refine zh ?_|intro (bk:Nat))
 rcases idxV_cases xs now with ⟨e1,e2⟩|⟨i,⟨V,n⟩,e1,e2,hx,hxa⟩
 ·rw [no2 (hF.none e2) (by decide)]
  refine HL.callB (r:= .int .i64 (-1)) fn34 I I (fun w1 hw1=>by rw[← e1];exact mindex_any xs now v w1 (h.s.ext hw1.belowB) (by omega)) ?_
  repeat' (first|refine zh ?_|intro (bk:Nat))
  refine HR.ret Tryz.func52 I [_] (fun _ _=>⟨I,trivial⟩) ?_
  exact fun w' hw=>⟨rfl,hw.belowB⟩
 have hil:i<xs.length:=(List.getElem?_eq_some_iff.1 hx).1
 have hxm:=List.mem_of_getElem? hx
 have hok:OkN w V n:=h.r _ hxm
 have hsn:SmN n:=hg _ hxm
 have hnt:Me.nth (nds xs) i=n:=nds_nth hx
 refine HL.callB (r:= .int .i64 (i:Int)) fn34 I I (fun w1 hw1=>by rw[← e1];exact mindex_any xs now v w1 (h.s.ext hw1.belowB) (by omega)) ?_
 repeat' (first|refine zh ?_|refine HL.idxR (Rd.arg h.s) elemNd i I I I I hil ?_|refine HL.fieldN 3 (Rd.arg h.s) (by rw[cx];omega) I I I I I I I ?_|refine HL.loadI (Rd.arg h.s) I I I I (cells_get ndE2_len hx (i:=3) I) ?_|refine HL.callB fn50 I I (fun w1 hw1=>rhop_any n.table to _ w1 (hok.ta.ext hw1.belowB) hsn.ta) ?_|intro (bk:Nat))
 refine HR.cond I (fun h4=>?_) (fun h4=>?_)
 ·have h4:(rhop n.table to).2=false:=by have h4:(!(rhop n.table to).2)=true:=h4;simpa using h4
  rw[no2 (hF.stop e2 h2 h3 (by rw[hnt];exact h4)) (by decide)]
  repeat' (first|refine zh ?_|intro (bk:Nat))
  refine HR.ret Tryz.func52 I [_] (fun _ _=>⟨I,trivial⟩) ?_
  exact fun w' hw=>⟨rfl,hw.belowB⟩
 have h4:(rhop n.table to).2=true:=by have h4:(!(rhop n.table to).2)=false:=h4;simpa using h4
 have hstep:=hF.step e2 h2 h3 (by rw[hnt];exact h4)
 rw[hnt]at hstep
 repeat' (first|refine zh ?_|intro (bk:Nat))
 exact ih (k-1,p++[now],(rhop n.table to).1,vc) _ _ hstep (by show k-1<k;omega) ⟨I,I,I,I,trivial⟩ Ent.refl
theorem any_tk {α:Type} {p:α→Bool} {l:List α} {k:Nat} {x:α} (hx:l[k]? =some x):(l.take (k+1)).any p=((l.take k).any p||p x):=by rw[take_succ_get hx];simp
theorem any_hit {α:Type} {p:α→Bool} {l:List α} {k:Nat} {x:α} (hx:l[k]? =some x) (h:p x=true):l.any p=true:=List.any_eq_true.2 ⟨x,List.mem_of_getElem? hx,h⟩
theorem mloops_any (xs:List (NV×Nd)) (t:Int) (v:Value) (w:World) (h:OkL w v xs) (hg:∀x∈xs,SmN x.2) (hl:xs.length≤1000):
  Calls Tryz.prog 20 #[meV t v] w fun e w'=>e= .returned (.bool (Me.loops (nds xs)))∧Below w.heap.size w w':=by
 refine calls_hr Tryz.func20 I (Nat.le_of_ble_eq_true I) ?_
 refine HR.sub (σ':=[(0,meV t v)]) ⟨I,trivial⟩ ?_
 refine HR.ctl I ?_
 refine HR.region ?_
 refine HL.box I I ?_
 intro b1
 repeat' (first|refine zh ?_|refine HL.lenR (Rd.arg h.s) I I I ?_|intro (bk:Nat))
 obtain ⟨g,hgd⟩:∃g:Nd→Ro→Bool,g=fun n r=>(Me.follow (nds xs) n.addr r.dest).2==2:=⟨_,rfl⟩
 have hlo:Me.loops (nds xs)=(nds xs).any fun n=>n.table.any (g n):=by rw[hgd];rfl
 refine HR.loop (ι:=Nat) (fun k=>k≤xs.length∧((nds xs).take k).any (fun n=>n.table.any (g n))=false) (fun k=>[(1,ptr b1),(8,v),(9,.int .i64 (xs.length:Int)),(10,.int .i64 (k:Int))]) (fun _=>[meB b1 t v]) (fun k=>xs.length-k) 0 ⟨Nat.zero_le _,rfl⟩ ⟨I,I,I,I,trivial⟩ Ent.refl ?_
 rintro k ⟨hk,hno⟩ ih
 have hk:k≤xs.length:=hk
 repeat' (first|refine zh ?_|intro (bk:Nat))
 refine HR.cond I (fun h2=>?_) (fun h2=>?_)
 rotate_left
 ·have hke:k=xs.length:=by have:¬(k:Int)<(xs.length:Int):=of_decide_eq_false h2;omega
  rw[hke,← nds_len,List.take_length]at hno
  rw[hlo,hno]
  repeat' (first|refine zh ?_|intro (bk:Nat))
  refine HR.ret Tryz.func20 I [_] (fun _ _=>⟨I,trivial⟩) ?_
  exact fun w' hw=>⟨rfl,hw.belowB⟩
 have hlt:k<xs.length:=by have:(k:Int)<(xs.length:Int):=of_decide_eq_true h2;omega
 obtain ⟨⟨V,n⟩,hx⟩:=getSome hlt
 have hok:OkN w V n:=h.r _ (List.mem_of_getElem? hx)
 have hsn:SmN n:=hg _ (List.mem_of_getElem? hx)
 have hta:n.table.length≤1000:=hsn.ta
 have hat:=any_tk (p:=fun n:Nd=>n.table.any (g n)) (nds_get hx)
 rw[hno,Bool.false_or]at hat
 repeat' (first|refine zh ?_|refine HL.idxR (Rd.arg h.s) elemNd k I I I I hlt ?_|refine HL.loadE (us:=ndC V n) (Rd.arg h.s) I I I I (by simp) I (cellsOf_get ndE2_len hx) ?_|intro (bk:Nat))
 refine HR.loop (ι:=Nat) (fun j=>j≤n.table.length∧(n.table.take j).any (g n)=false) (fun j=>[(1,ptr b1),(4,ptr bk),(8,v),(9,.int .i64 (xs.length:Int)),(10,.int .i64 (k:Int)),(15,sv V.ta n.table.length),(16,.int .i64 (n.table.length:Int)),(17,.int .i64 (j:Int))]) (fun _=>[blkC bk (ndC V n) 62,meB b1 t v]) (fun j=>n.table.length-j) 0 ⟨Nat.zero_le _,rfl⟩ ⟨I,I,I,I,I,I,I,I,trivial⟩ Ent.refl ?_
 rintro j ⟨hj,hno2⟩ ih2
 have hj:j≤n.table.length:=hj
 repeat' (first|refine zh ?_|intro (bk:Nat))
 refine HR.cond I (fun h3=>?_) (fun h3=>?_)
 rotate_left
 ·have hje:j=n.table.length:=by have:¬(j:Int)<(n.table.length:Int):=of_decide_eq_false h3;omega
  rw[hje,List.take_length]at hno2
  rw[hno2]at hat
  repeat' (first|refine zh ?_|intro (bk:Nat))
  exact ih (k+1) _ _ ⟨hlt,hat⟩ (by show xs.length-(k+1)<xs.length-k;omega) ⟨I,I,I,I,trivial⟩ (Ent.pick [1] I I)
 have hlt3:j<n.table.length:=by have:(j:Int)<(n.table.length:Int):=of_decide_eq_true h3;omega
 obtain ⟨r,hr⟩:=getSome hlt3
 have hat2:=any_tk (p:=g n) hr
 rw[hno2,Bool.false_or]at hat2
 have hgr:g n r=((Me.follow (nds xs) n.addr r.dest).2==2):=by rw[hgd]
 repeat' (first|refine zh ?_|refine HL.idxR (Rd.arg hok.ta) elemRo j I I I I hlt3 ?_|refine HL.loadE (us:=roC r) (Rd.arg hok.ta) I I I I (by simp) I (cellsOf_get roC_len hr) ?_|refine HL.callB fn52 I I (fun w1 hw1=>mreturns_any xs t n.addr r.dest v w1 (h.ext hw1.belowB) hg hl) ?_|intro (bk:Nat))
 refine HR.cond I (fun h4=>?_) (fun h4=>?_)
 ·have h4:g n r=true:=by rw[hgr];exact h4
  rw[hlo,any_hit (nds_get hx) (any_hit hr h4)]
  repeat' (first|refine zh ?_|intro (bk:Nat))
  refine HR.ret Tryz.func20 I [_] (fun _ _=>⟨I,trivial⟩) ?_
  exact fun w' hw=>⟨rfl,hw.belowB⟩
 have h4:g n r=false:=by rw[hgr];exact h4
 rw[h4]at hat2
 repeat' (first|refine zh ?_|intro (bk:Nat))
 exact ih2 (j+1) _ _ ⟨hlt3,hat2⟩ (by show n.table.length-(j+1)<n.table.length-j;omega) ⟨I,I,I,I,I,I,I,I,trivial⟩ (Ent.pick [1,2] I I)
end Go.Proofs.YtgfdoognildoeaaGreat
namespace Go.Proofs.YtgfdoognildoeaaGreat
open Go.GX Go.RowKit
attribute [local irreducible] Calls Run RunL RunQ RunD HR HL HD blkC ownC mapC Rd slicesC iterC
open Nd
theorem fn9:IsFn Tryz.prog 9:=⟨⟨_,_,Tryz.func9,rfl,by decide⟩⟩
theorem okl_of {B:Base} {H:List Chunk} {w:World} {v:Value} {ys:List (NV×Nd)} {G:List Chunk} (i j:Nat) (hw:Sat B H w) (hi:nthC H i=some (cNd v ys)) (hj:nthC H j=some (groupC G)) (hO:∀y∈ys,Own y.1 G y.2):OkL w v ys:=
 ⟨(Rd.own i hi).at hw,fun y hy=>hO y hy w (Sat.grp j hw hj)⟩
theorem put_two (a b:Nd) (h:¬a.addr<b.addr):Me.put (Me.put [] a) b=[b,a]:=by
 have h1:Me.put [] a=[a]:=rfl
 rw[h1,put_at (l:=[a]) (n:=b) (j:=0) (Nat.zero_le _) (fun i x hi=>absurd hi (Nat.not_lt_zero _)) (fun x hx=>by simp at hx;subst hx;exact h)]
 rfl
theorem new3:(new 3 8).addr=3:=(Me.new_addr (a:=3) (by decide)).1
theorem new0:(new 0 0).addr=0:=(Me.new_addr (a:=0) (by decide)).1
theorem at0:Me.nodeAt [3,0] [8] 0=new 3 8:=rfl
theorem at1:Me.nodeAt [3,0] [8] 1=new 0 0:=rfl
theorem build_two:Me.build [3,0] [8] 2=Me.put (Me.put [] (Me.nodeAt [3,0] [8] 0)) (Me.nodeAt [3,0] [8] 1):=by simp only[Me.build]
theorem mNew_two':Me.mNew [3,0] [8]=(⟨0,Me.build [3,0] [8] 2⟩,0):=mNew_ok (by decide) (by decide)
theorem mNew_two:Me.mNew [3,0] [8]=(⟨0,[new 0 0,new 3 8]⟩,0):=by
 rw[mNew_two',build_two,at0,at1,put_two _ _ (by rw[new3,new0];decide)]
theorem path_one {l:List Nd} {a:Int} {i:Nat} (h:Me.idx l a=some i):Me.path l a a=([a],true):=path_ok ((Me.Fol.start l a a).done h List.not_mem_nil I)
theorem idx_two (a b:Nd) (x:Int) (ha:a.addr≠x) (hb:b.addr=x):Me.idx [a,b] x=some 1:=by
 unfold Me.idx
 rw[List.findIdx?_cons,List.findIdx?_cons]
 simp[ha,hb]
theorem mNew_bad2:Me.mNew [1,251] []=(Me.mesh0,2):=by
 have e:Me.addrBad [1,251] 1=2:=by decide
 rw[mNew_err (addrs:=[1,251]) (k:=1) (by decide) (by decide) (by decide) (by decide),e]
theorem two_nds {ys:List (NV×Nd)} {a b:Nd} (h:nds ys=[a,b]):∃V W,ys=[(V,a),(W,b)]:=by
 obtain ⟨p,q,rfl⟩:∃p q,ys=[p,q]:=by
  have hl:ys.length=2:=by rw[← nds_len,h];rfl
  rcases ys with _|⟨p,_|⟨q,_|⟨r,l⟩⟩⟩
  ·simp at hl
  ·simp at hl
  ·exact ⟨p,q,rfl⟩
  ·simp at hl
 have h:[p.2,q.2]=[a,b]:=h
 simp only[List.cons.injEq,and_true]at h
 exact ⟨p.1,q.1,by rw[← h.1,← h.2]⟩
theorem lives_any (w:World):Calls Tryz.prog 9 #[] w fun e w'=>e= .returned (.bool true)∧Below w.heap.size w w':=by
 refine calls_hr Tryz.func9 I (Nat.le_of_ble_eq_true I) ?_
 refine HR.sub (σ':=[]) trivial ?_
 refine HR.ctl I ?_
 refine HR.region ?_
 repeat' (first|refine zh ?_|intro (bk:Nat))
 refine HL.bslice elemI I I I I I (by decide) (by decide) ?_
 intro va
 refine HL.bslice elemI I I I I I (by decide) (by decide) ?_
 intro vb
 refine HL.callX (r:=fun x:SV×List (NV×Nd)×List Chunk=> .tuple ⟨[meV 0 (sv x.1 x.2.1.length),.int .i64 0]⟩) (Q:=fun x=>MeMk x [new 0 0,new 3 8]) (G:=fun x=>[cNd (sv x.1 x.2.1.length) x.2.1,groupC x.2.2]) fn10 I I (fun w1 hw1=>by have:=mnew_any [3,0] [8] va vb w1 ((Rd.own 1 rfl).at hw1) ((Rd.own 0 rfl).at hw1) (by decide) (by decide);rw[mNew_two]at this;exact this) ?_
 rintro ⟨y,ys,G⟩ ⟨⟨hN,hO⟩,hG⟩
 have hN:nds ys=[new 0 0,new 3 8]:=hN
 have hO:∀z∈ys,Own z.1 G z.2:=hO
 have hG:∀z∈ys,GdN z.2:=hG
 have hlp:Me.loops (nds ys)=false:=by
  have:=(Me.Inv.new (C:=ctx0) (addrs:=[3,0]) (polls:=[8]) (by rw[mNew_two])).1.no_loops
  rw[mNew_two]at this
  rw[hN];exact this
 have hpa:Me.path (nds ys) 3 3=([3],true):=by
  rw[hN]
  exact path_one (idx_two _ _ 3 (by rw[new0];decide) new3)
 obtain ⟨A,hA⟩:∃A,A=new 0 0:=⟨_,rfl⟩
 obtain ⟨Bn,hBn⟩:∃A,A=new 3 8:=⟨_,rfl⟩
 have hA0:A.addr=0:=by rw[hA];exact new0
 have hB0:Bn.addr=3:=by rw[hBn];exact new3
 have hB1:Bn.poll=8:=by rw[hBn];rfl
 rw[← hA,← hBn]at hN
 clear hA hBn
 obtain ⟨V,W,hys⟩:=two_nds hN
 subst hys
 have cy:(cellsOf ndE2 [(V,A),(W,Bn)]).length=26:=rfl
 refine HL.ent (H':=[cNd (sv y 2) [(V,A),(W,Bn)],groupC G]) (Ent.pick [0,1] I I) ?_
 repeat' (first|refine zh ?_|intro (bk:Nat))
 refine HL.bslice elemI I I I I I (by decide) (by decide) ?_
 intro vc
 refine HL.callX (r:=fun x:SV×List (NV×Nd)×List Chunk=> .tuple ⟨[meV 0 (sv x.1 x.2.1.length),.int .i64 2]⟩) (Q:=fun x=>MeMk x []) (G:=fun x=>[cNd (sv x.1 x.2.1.length) x.2.1,groupC x.2.2]) fn10 I I (fun w1 hw1=>by have:=mnew_any [1,251] [] vc (.slice none 0 0) w1 ((Rd.own 0 rfl).at hw1) (Sl.nil w1) (by decide) (by decide);rw[mNew_bad2]at this;exact this) ?_
 rintro ⟨y2,ys2,G2⟩ _
 repeat' (first|refine zh ?_|intro (bk:Nat))
 refine HL.callX (r:=fun x:Value=> .tuple ⟨[x,.bool true]⟩) (Q:=fun _=>True) (G:=fun x=>[ownC x 3 1 1 (cellsOf iC [3])]) fn17 I I (fun w1 hw1=>by have:=mpath_any [(V,A),(W,Bn)] 0 3 3 (sv y 2) w1 (okl_of 5 6 hw1 I I hO) (fun z hz=>(hG z hz).sm) (Nat.le_of_ble_eq_true rfl);rw[hpa]at this;exact this.mono fun e w' ⟨x,e1,e2⟩=>⟨x,e1,trivial,e2⟩) ?_
 intro vp _
 repeat' (first|refine zh ?_|intro (bk:Nat))
 repeat' (first|refine zh ?_|refine HL.idxR (Rd.own 6 I) elemNd 0 I I I I (Nat.le_of_ble_eq_true I) ?_|refine HL.fieldN 0 (Rd.own 6 I) (by rw[cy];decide) I I I I I I I ?_|refine HL.loadI (Rd.own 6 I) I I I I (cells_get ndE2_len (l:=[(V,A),(W,Bn)]) (j:=0) I (i:=0) I) ?_|intro (bk:Nat))
 refine HL.setB 43 true I (by rw[hA0];rfl) ?_
 repeat' (first|refine zh ?_|refine HL.idxR (Rd.own 6 I) elemNd 1 I I I I (Nat.le_of_ble_eq_true I) ?_|refine HL.fieldN 0 (Rd.own 6 I) (by rw[cy];decide) I I I I I I I ?_|refine HL.loadI (Rd.own 6 I) I I I I (cells_get ndE2_len (l:=[(V,A),(W,Bn)]) (j:=1) I (i:=0) I) ?_|intro (bk:Nat))
 refine HL.setB 51 true I (by rw[hB0];rfl) ?_
 repeat' (first|refine zh ?_|refine HL.idxR (Rd.own 6 I) elemNd 1 I I I I (Nat.le_of_ble_eq_true I) ?_|refine HL.fieldN 1 (Rd.own 6 I) (by rw[cy];decide) I I I I I I I ?_|refine HL.loadI (Rd.own 6 I) I I I I (cells_get ndE2_len (l:=[(V,A),(W,Bn)]) (j:=1) I (i:=1) I) ?_|intro (bk:Nat))
 refine HL.setB 59 true I (by rw[hB1];rfl) ?_
 repeat' (first|refine zh ?_|intro (bk:Nat))
 refine HL.bslice elemI I I I I I (by decide) (by decide) ?_
 intro v7
 refine HL.callB (r:= .bool true) fn19 I I (fun w1 hw1=>by have:=same07I_any [3] [3] vp v7 w1 ((Rd.own 1 rfl).at hw1) ((Rd.own 0 rfl).at hw1) (by decide);simpa using this) ?_
 repeat' (first|refine zh ?_|intro (bk:Nat))
 refine HL.callB (r:= .bool false) fn20 I I (fun w1 hw1=>by have:=mloops_any [(V,A),(W,Bn)] 0 (sv y 2) w1 (okl_of 7 8 hw1 I I hO) (fun z hz=>(hG z hz).sm) (Nat.le_of_ble_eq_true rfl);rw[hlp]at this;exact this) ?_
 repeat' (first|refine zh ?_|intro (bk:Nat))
 refine HL.callX (r:=fun x:SV×List (NV×Nd)×List Chunk=>meV 1 (sv x.1 x.2.1.length)) (Q:=fun _=>True) (G:=fun x=>[cNd (sv x.1 x.2.1.length) x.2.1,groupC x.2.2]) fn15 I I (fun w1 hw1=>(mstep_any 0 (sv y 2) [(V,A),(W,Bn)] ⟨[],[],[]⟩ (.slice none 0 0) (.slice none 0 0) (.slice none 0 0) w1 (okl_of 7 8 hw1 I I hO) hG (Nat.le_of_ble_eq_true I) (OkA.none w1)).mono fun e w' ⟨x,e1,e2,e3⟩=>⟨x,e1,trivial,e3⟩) ?_
 intro x3 _
 repeat' (first|refine zh ?_|intro (bk:Nat))
 refine HR.ret Tryz.func9 I [_] (fun _ _=>⟨I,trivial⟩) ?_
 exact fun w' hw=>⟨rfl,hw.belowB⟩
end Go.Proofs.YtgfdoognildoeaaGreat
namespace Go.Proofs.YtgfdoognildoeaaGreat
open Go.GX Go.RowKit
attribute [local irreducible] Calls Run RunL RunQ RunD HR HL HD blkC ownC mapC Rd slicesC iterC
open Nd
theorem fn13:IsFn Tryz.prog 13:=⟨⟨_,_,Tryz.func13,rfl,by decide⟩⟩
theorem fn51:IsFn Tryz.prog 51:=⟨⟨_,_,Tryz.func51,rfl,by decide⟩⟩
theorem fn18:IsFn Tryz.prog 18:=⟨⟨_,_,Tryz.func18,rfl,by decide⟩⟩
theorem fn21:IsFn Tryz.prog 21:=⟨⟨_,_,Tryz.func21,rfl,by decide⟩⟩
theorem fn22:IsFn Tryz.prog 22:=⟨⟨_,_,Tryz.func22,rfl,by decide⟩⟩
theorem fn23:IsFn Tryz.prog 23:=⟨⟨_,_,Tryz.func23,rfl,by decide⟩⟩
structure FitG (n:Nd):Prop where
 ta:n.table.length≤30
 li:n.links.length≤30
 ou:n.out.length≤30
 ch:n.children.length≤30
 bo:n.boxes.length≤30
 se:n.seen.length≤60
 pa:n.parts.length≤20
 ib:n.inbox.length≤60
structure FitL (xs:List (NV×Nd)):Prop where
 len:xs.length≤12
 fit:∀x∈xs,FitG x.2
theorem FitG.sm {n:Nd} (h:FitG n) (hp:∀p∈n.parts,SmPt p):SmN n:=
 ⟨Nat.le_trans h.ta (by decide),Nat.le_trans h.li (by decide),Nat.le_trans h.ou (by decide),Nat.le_trans h.ch (by decide),Nat.le_trans h.bo (by decide),Nat.le_trans h.se (by decide),Nat.le_trans h.pa (by decide),Nat.le_trans h.ib (by decide),hp⟩
theorem great_any (xs:List (NV×Nd)) (t:Int) (v:Value) (w:World) (h:OkL w v xs):
  Calls Tryz.prog 13 #[meV t v] w fun e w'=>∃b:Bool,e= .returned (.bool b)∧(b=false→FitL xs)∧Sat (base w) [] w':=by
 refine calls_hr Tryz.func13 I (Nat.le_of_ble_eq_true I) ?_
 refine HR.sub (σ':=[(0,meV t v)]) ⟨I,trivial⟩ ?_
 refine HR.ctl I ?_
 refine HR.region ?_
 refine HL.box I I ?_
 intro b1
 repeat' (first|refine zh ?_|intro (bk:Nat))
 refine HR.loop (ι:=Nat) (fun i=>i≤12∧∀j x,j<i→xs[j]? =some x→FitG x.2) (fun i=>[(1,ptr b1),(3,.int .i64 (i:Int))]) (fun _=>[meB b1 t v]) (fun i=>12-i) 0 ⟨Nat.zero_le _,fun j x hj=>absurd hj (Nat.not_lt_zero _)⟩ ⟨I,I,trivial⟩ Ent.refl ?_
 rintro i ⟨hi,hfit⟩ ih
 have hi:i≤12:=hi
 have hfit:∀j x,j<i→xs[j]? =some x→FitG x.2:=hfit
 repeat' (first|refine zh ?_|refine HL.lenR (Rd.arg h.s) I I I ?_|apply zb ?_ ?_|exact zc|(refine zi fun hb=>?_;try simp at hb)|intro (bk:Nat))
 refine HR.cond I (fun h2=>?_) (fun h2=>?_)
 rotate_left
 ·have h2:(decide ((i:Int)<(xs.length:Int))&&decide ((xs.length:Int)≤12))=false:=h2
  repeat' (first|refine zh ?_|refine HL.lenR (Rd.arg h.s) I I I ?_|intro (bk:Nat))
  refine HR.ret Tryz.func13 I [_] (fun _ _=>⟨I,trivial⟩) ?_
  refine fun w' hw=>⟨_,rfl,fun hb=>?_,hw.pick [] I rfl⟩
  have hb:decide ((xs.length:Int)>12)=false:=hb
  have hb:=of_decide_eq_false hb
  have hil:¬i<xs.length:=fun hl=>by
   rw[decide_eq_true (show (i:Int)<(xs.length:Int) by omega),decide_eq_true (show (xs.length:Int)≤12 by omega)]at h2
   cases h2
  refine ⟨by omega,fun x hx=>?_⟩
  obtain ⟨j,hj⟩:=List.getElem?_of_mem hx
  exact hfit j x (by have:=(List.getElem?_eq_some_iff.1 hj).1;omega) hj
 have h2:(decide ((i:Int)<(xs.length:Int))&&decide ((xs.length:Int)≤12))=true:=h2
 rw[Bool.and_eq_true,decide_eq_true_eq,decide_eq_true_eq]at h2
 have hlt:i<xs.length:=by omega
 have hl12:xs.length≤12:=by omega
 obtain ⟨⟨V,n⟩,hx⟩:=getSome hlt
 have hok:OkN w V n:=h.r _ (List.mem_of_getElem? hx)
 have hps:V.ps.length=n.parts.length:=by rw[← pts_len,hok.eq]
 repeat' (first|refine zh ?_|refine HL.idxR (Rd.arg h.s) elemNd i I I I I hlt ?_|refine HL.loadE (us:=ndC V n) (Rd.arg h.s) I I I I (by simp) I (cellsOf_get ndE2_len hx) ?_|intro (bk:Nat))
 repeat' (first|refine zh ?_|apply zb ?_ ?_|exact zc|(refine zi fun hb=>?_;try simp at hb)|intro (bk:Nat))
 refine HR.cond I (fun h3=>?_) (fun h3=>?_)
 ·repeat' (first|refine zh ?_|intro (bk:Nat))
  refine HR.ret Tryz.func13 I [_] (fun _ _=>⟨I,trivial⟩) ?_
  exact fun w' hw=>⟨_,rfl,fun hb=>Bool.noConfusion hb,hw.pick [] I rfl⟩
 have h3:(decide ((n.table.length:Int)>30)||decide ((n.links.length:Int)>30)||decide ((n.out.length:Int)>30)||decide ((n.children.length:Int)>30)||decide ((n.boxes.length:Int)>30)||decide ((n.seen.length:Int)>60)||decide ((V.ps.length:Int)>20)||decide ((n.inbox.length:Int)>60))=false:=h3
 simp only[Bool.or_eq_false_iff,decide_eq_false_iff_not]at h3
 obtain ⟨⟨⟨⟨⟨⟨⟨g1,g2⟩,g3⟩,g4⟩,g5⟩,g6⟩,g7⟩,g8⟩:=h3
 repeat' (first|refine zh ?_|intro (bk:Nat))
 refine ih (i+1) _ _ ⟨by show i+1≤12;omega,fun j x hj hjx=>?_⟩ (by show 12-(i+1)<12-i;omega) ⟨I,I,trivial⟩ (Ent.pick [1] I I)
 by_cases e:j=i
 ·subst e
  rw[hx]at hjx;cases hjx
  exact ⟨by show n.table.length≤30;omega,by show n.links.length≤30;omega,by show n.out.length≤30;omega,by show n.children.length≤30;omega,by show n.boxes.length≤30;omega,by show n.seen.length≤60;omega,by show n.parts.length≤20;omega,by show n.inbox.length≤60;omega⟩
 ·exact hfit j x (by omega) hjx
theorem rfollow_any (xs:List (NV×Nd)) (t src to:Int) (v:Value) (w:World) (h:OkL w v xs) (hg:∀x∈xs,SmN x.2) (hl:xs.length≤1000):
  Calls Tryz.prog 51 #[meV t v,.int .i64 src,.int .i64 to] w fun e w'=>∃v',e= .returned (.tuple ⟨[v',.int .i64 (Me.follow (nds xs) src to).2]⟩)∧Sat (base w) [ownC v' 3 1 (Me.follow (nds xs) src to).1.length (cellsOf iC (Me.follow (nds xs) src to).1)] w':=by
 have cx:(cellsOf ndE2 xs).length=xs.length*13:=cellsOf_len ndE2_len _
 refine calls_hr Tryz.func51 I (Nat.le_of_ble_eq_true I) ?_
 refine HR.sub (σ':=[(0,meV t v),(1,.int .i64 src),(2,.int .i64 to)]) ⟨I,I,I,trivial⟩ ?_
 refine HR.ctl I ?_
 refine HR.region ?_
 refine HL.box I I ?_
 intro b3
 repeat' (first|refine zh ?_|intro (bk:Nat))
 refine HR.nilC 3 1 ?_
 refine HR.loop (ι:=Nat×List Int×Int×Value) (fun x=>Me.Fol (nds xs) src to x.1 x.2.1 x.2.2.1) (fun x=>[(2,.int .i64 to),(3,ptr b3),(8,x.2.2.2),(9,.int .i64 x.2.2.1)]) (fun x=>[ownC x.2.2.2 3 1 x.2.1.length (cellsOf iC x.2.1),meB b3 t v]) (fun x=>x.1) ((nds xs).length+2,[],src,.slice none 0 0) (Me.Fol.start _ _ _) ⟨I,I,I,I,trivial⟩ Ent.refl ?_
 rintro ⟨k,p,now,vp⟩ hF ih
 have hF:Me.Fol (nds xs) src to k p now:=hF
 have hpl:p.length≤1000:=by have:=hF.le;rw[nds_len]at this;omega
 obtain ⟨k',hk'⟩:=hF.pos
 repeat' (first|refine zh ?_|intro (bk:Nat))
 rcases idxV_cases xs now with ⟨e1,e2⟩|⟨i,⟨V,n⟩,e1,e2,hx,hxa⟩
 ·rw [hF.none e2]
  refine HL.callB (r:= .int .i64 (-1)) fn55 I I (fun w1 hw1=>by rw[← e1];exact rat19_any xs t now v w1 (h.s.ext hw1.belowB) (by omega)) ?_
  repeat' (first|refine zh ?_|intro (bk:Nat))
  refine HR.ret Tryz.func51 I [_,_] (fun _ _=>⟨I,I,trivial⟩) ?_
  exact fun w' hw=>⟨vp,rfl,hw.pick [0] I rfl⟩
 have hil:i<xs.length:=(List.getElem?_eq_some_iff.1 hx).1
 have hxm:=List.mem_of_getElem? hx
 have hok:OkN w V n:=h.r _ hxm
 have hsn:SmN n:=hg _ hxm
 have hnt:Me.nth (nds xs) i=n:=nds_nth hx
 refine HL.callB (r:= .int .i64 (i:Int)) fn55 I I (fun w1 hw1=>by rw[← e1];exact rat19_any xs t now v w1 (h.s.ext hw1.belowB) (by omega)) ?_
 repeat' (first|refine zh ?_|intro (bk:Nat))
 refine HR.loop (ι:=Nat) (fun j=>j≤p.length∧∀m b,m<j→p[m]? =some b→b≠now) (fun j=>[(2,.int .i64 to),(3,ptr b3),(8,vp),(9,.int .i64 now),(10,.int .i64 (i:Int)),(11,.int .i64 (j:Int))]) (fun _=>[ownC vp 3 1 p.length (cellsOf iC p),meB b3 t v]) (fun j=>p.length-j) 0 ⟨Nat.zero_le _,fun m b hm=>absurd hm (Nat.not_lt_zero _)⟩ ⟨I,I,I,I,I,I,trivial⟩ Ent.refl ?_
 rintro j ⟨hj,hno⟩ ih2
 have hj:j≤p.length:=hj
 have hno:∀m b,m<j→p[m]? =some b→b≠now:=hno
 repeat' (first|refine zh ?_|refine HL.lenR (Rd.own 0 I) I I I ?_|intro (bk:Nat))
 refine HR.cond I (fun h5=>?_) (fun h5=>?_)
 ·have hjl:j<p.length:=by have:(j:Int)<(p.length:Int):=of_decide_eq_true h5;omega
  obtain ⟨b,hb⟩:=getSome hjl
  repeat' (first|refine zh ?_|refine HL.idxR (Rd.own 0 I) elemI j I I I I hjl ?_|refine HL.loadI (Rd.own 0 I) I I I I (cellsOf_get1 hb) ?_|intro (bk:Nat))
  refine HR.cond I (fun h6=>?_) (fun h6=>?_)
  ·have h6:b=now:=eq_of_beq h6
   rw[hF.again e2 (by rw[← h6];exact List.mem_of_getElem? hb)]
   repeat' (first|refine zh ?_|intro (bk:Nat))
   refine HR.ret Tryz.func51 I [_,_] (fun _ _=>⟨I,I,trivial⟩) ?_
   exact fun w' hw=>⟨vp,rfl,hw.pick [0] I rfl⟩
  have h6:b≠now:=by have h6:(b==now)=false:=h6;simpa using h6
  repeat' (first|refine zh ?_|intro (bk:Nat))
  refine ih2 (j+1) _ _ ⟨hjl,fun m c hm hc=>?_⟩ (by show p.length-(j+1)<p.length-j;omega) ⟨I,I,I,I,I,I,trivial⟩ Ent.refl
  by_cases e:m=j
  ·subst e;rw[hb]at hc;cases hc;exact h6
  ·exact hno m c (by omega) hc
 have hje:j=p.length:=by have:¬(j:Int)<(p.length:Int):=of_decide_eq_false h5;omega
 have h2:now ∉ p:=fun hm=>by
  obtain ⟨m,hm⟩:=List.getElem?_of_mem hm
  exact hno m now (by have:=(List.getElem?_eq_some_iff.1 hm).1;omega) hm I
 repeat' (first|refine zh ?_|intro (bk:Nat))
 refine HL.bslice elemI I I I I I (by decide) (by decide) ?_
 intro va
 refine HL.appR 1 I elemI (Rd.own 0 I) I I I I (allOne_spec I) (by show (p.length+1)*8≤_;omega) (by show p.length+1≤_;omega) ?_
 intro vc
 refine HL.ent (H':=[ownC vc 3 1 (p++[now]).length (cellsOf iC (p++[now])),meB b3 t v]) (Ent.trans (Ent.pick [1,2] I I) (Ent.own0 (by simp) (by rw[cellsOf_app];rfl))) ?_
 repeat' (first|refine zh ?_|intro (bk:Nat))
 refine HR.cond I (fun h3=>?_) (fun h3=>?_)
 ·have h3:now=to:=eq_of_beq h3
  rw[hF.done e2 h2 h3]
  repeat' (first|refine zh ?_|intro (bk:Nat))
  refine HR.ret Tryz.func51 I [_,_] (fun _ _=>⟨I,I,trivial⟩) ?_
  exact fun w' hw=>⟨vc,rfl,hw.pick [0] I rfl⟩
 have h3:now≠to:=by have h3:(now==to)=false:=h3;simpa using h3
 repeat' (first|refine zh ?_|refine HL.idxR (Rd.arg h.s) elemNd i I I I I hil ?_|refine HL.fieldN 3 (Rd.arg h.s) (by rw[cx];omega) I I I I I I I ?_|refine HL.loadI (Rd.arg h.s) I I I I (cells_get ndE2_len hx (i:=3) I) ?_|refine HL.callB fn116 I I (fun w1 hw1=>r11hop_any n.table to _ w1 (hok.ta.ext hw1.belowB) hsn.ta) ?_|intro (bk:Nat))
 refine HR.cond I (fun h4=>?_) (fun h4=>?_)
 ·have h4:(rhop n.table to).2=false:=by have h4:(!(rhop n.table to).2)=true:=h4;simpa using h4
  rw[hF.stop e2 h2 h3 (by rw[hnt];exact h4)]
  repeat' (first|refine zh ?_|intro (bk:Nat))
  refine HR.ret Tryz.func51 I [_,_] (fun _ _=>⟨I,I,trivial⟩) ?_
  exact fun w' hw=>⟨vc,rfl,hw.pick [0] I rfl⟩
 have h4:(rhop n.table to).2=true:=by have h4:(!(rhop n.table to).2)=false:=h4;simpa using h4
 have hstep:=hF.step e2 h2 h3 (by rw[hnt];exact h4)
 rw[hnt]at hstep
 repeat' (first|refine zh ?_|intro (bk:Nat))
 exact ih (k-1,p++[now],(rhop n.table to).1,vc) _ _ hstep (by show k-1<k;omega) ⟨I,I,I,I,trivial⟩ Ent.refl
theorem rpath_any (xs:List (NV×Nd)) (t src to:Int) (v:Value) (w:World) (h:OkL w v xs) (hg:∀x∈xs,SmN x.2) (hl:xs.length≤1000):
  Calls Tryz.prog 18 #[meV t v,.int .i64 src,.int .i64 to] w fun e w'=>∃v',e= .returned (.tuple ⟨[v',.bool (Me.path (nds xs) src to).2]⟩)∧Sat (base w) [ownC v' 3 1 (Me.path (nds xs) src to).1.length (cellsOf iC (Me.path (nds xs) src to).1)] w':=by
 obtain ⟨F,hF⟩:∃F,F=Me.follow (nds xs) src to:=⟨_,rfl⟩
 have hp:Me.path (nds xs) src to=if F.2=0 then (F.1,true)else ([],false):=by rw[hF];rfl
 refine calls_hr Tryz.func18 I (Nat.le_of_ble_eq_true I) ?_
 refine HR.sub (σ':=[(0,meV t v),(1,.int .i64 src),(2,.int .i64 to)]) ⟨I,I,I,trivial⟩ ?_
 repeat' (first|refine zh ?_|intro (bk:Nat))
 refine HL.callX (r:=fun x:Value=> .tuple ⟨[x,.int .i64 F.2]⟩) (Q:=fun _=>True) (G:=fun x=>[ownC x 3 1 F.1.length (cellsOf iC F.1)]) fn51 I I (fun w1 hw1=>by rw[hF];exact (rfollow_any xs t src to v w1 (h.ext hw1.belowB) hg hl).mono fun e w' ⟨x,e1,e2⟩=>⟨x,e1,trivial,e2⟩) ?_
 intro vp _
 repeat' (first|refine zh ?_|intro (bk:Nat))
 refine HR.cond I (fun h1=>?_) (fun h1=>?_)
 ·have h1:¬F.2=0:=by have h1:(F.2 != 0)=true:=h1;simpa using h1
  rw[hp,if_neg h1]
  repeat' (first|refine zh ?_|intro (bk:Nat))
  refine HR.ret Tryz.func18 I [_,_] (fun _ _=>⟨I,I,trivial⟩) ?_
  exact fun w' hw=>⟨.slice none 0 0,rfl,Sat.nilC (hw.pick [] I I) 3 1⟩
 have h1:F.2=0:=by have h1:(F.2 != 0)=false:=h1;simpa using h1
 rw[hp,if_pos h1]
 repeat' (first|refine zh ?_|intro (bk:Nat))
 refine HR.ret Tryz.func18 I [_,_] (fun _ _=>⟨I,I,trivial⟩) ?_
 exact fun w' hw=>⟨vp,rfl,hw.pick [0] I rfl⟩
theorem rloops_any (xs:List (NV×Nd)) (t:Int) (v:Value) (w:World) (h:OkL w v xs) (hg:∀x∈xs,SmN x.2) (hl:xs.length≤1000):
  Calls Tryz.prog 21 #[meV t v] w fun e w'=>e= .returned (.bool (Me.loops (nds xs)))∧Below w.heap.size w w':=by
 have cx:(cellsOf ndE2 xs).length=xs.length*13:=cellsOf_len ndE2_len _
 refine calls_hr Tryz.func21 I (Nat.le_of_ble_eq_true I) ?_
 refine HR.sub (σ':=[(0,meV t v)]) ⟨I,trivial⟩ ?_
 refine HR.ctl I ?_
 refine HR.region ?_
 refine HL.box I I ?_
 intro b1
 repeat' (first|refine zh ?_|intro (bk:Nat))
 obtain ⟨g,hgd⟩:∃g:Nd→Ro→Bool,g=fun n r=>(Me.follow (nds xs) n.addr r.dest).2==2:=⟨_,rfl⟩
 have hlo:Me.loops (nds xs)=(nds xs).any fun n=>n.table.any (g n):=by rw[hgd];rfl
 refine HR.loop (ι:=Nat) (fun k=>k≤xs.length∧((nds xs).take k).any (fun n=>n.table.any (g n))=false) (fun k=>[(1,ptr b1),(3,.int .i64 (k:Int))]) (fun _=>[meB b1 t v]) (fun k=>xs.length-k) 0 ⟨Nat.zero_le _,rfl⟩ ⟨I,I,trivial⟩ Ent.refl ?_
 rintro k ⟨hk,hno⟩ ih
 have hk:k≤xs.length:=hk
 repeat' (first|refine zh ?_|refine HL.lenR (Rd.arg h.s) I I I ?_|intro (bk:Nat))
 refine HR.cond I (fun h2=>?_) (fun h2=>?_)
 rotate_left
 ·have hke:k=xs.length:=by have:¬(k:Int)<(xs.length:Int):=of_decide_eq_false h2;omega
  rw[hke,← nds_len,List.take_length]at hno
  rw[hlo,hno]
  repeat' (first|refine zh ?_|intro (bk:Nat))
  refine HR.ret Tryz.func21 I [_] (fun _ _=>⟨I,trivial⟩) ?_
  exact fun w' hw=>⟨rfl,hw.belowB⟩
 have hlt:k<xs.length:=by have:(k:Int)<(xs.length:Int):=of_decide_eq_true h2;omega
 obtain ⟨⟨V,n⟩,hx⟩:=getSome hlt
 have hok:OkN w V n:=h.r _ (List.mem_of_getElem? hx)
 have hsn:SmN n:=hg _ (List.mem_of_getElem? hx)
 have hta:n.table.length≤1000:=hsn.ta
 have hat:=any_tk (p:=fun n:Nd=>n.table.any (g n)) (nds_get hx)
 rw[hno,Bool.false_or]at hat
 repeat' (first|refine zh ?_|intro (bk:Nat))
 refine HR.loop (ι:=Nat) (fun j=>j≤n.table.length∧(n.table.take j).any (g n)=false) (fun j=>[(1,ptr b1),(3,.int .i64 (k:Int)),(4,.int .i64 (j:Int))]) (fun _=>[meB b1 t v]) (fun j=>n.table.length-j) 0 ⟨Nat.zero_le _,rfl⟩ ⟨I,I,I,trivial⟩ (Ent.pick [0] I I) ?_
 rintro j ⟨hj,hno2⟩ ih2
 have hj:j≤n.table.length:=hj
 repeat' (first|refine zh ?_|refine HL.idxR (Rd.arg h.s) elemNd k I I I I hlt ?_|refine HL.fieldN 3 (Rd.arg h.s) (by rw[cx];omega) I I I I I I I ?_|refine HL.loadI (Rd.arg h.s) I I I I (cells_get ndE2_len hx (i:=3) I) ?_|intro (bk:Nat))
 refine HR.cond I (fun h3=>?_) (fun h3=>?_)
 rotate_left
 ·have hje:j=n.table.length:=by have:¬(j:Int)<(n.table.length:Int):=of_decide_eq_false h3;omega
  rw[hje,List.take_length]at hno2
  rw[hno2]at hat
  repeat' (first|refine zh ?_|intro (bk:Nat))
  exact ih (k+1) _ _ ⟨hlt,hat⟩ (by show xs.length-(k+1)<xs.length-k;omega) ⟨I,I,trivial⟩ (Ent.pick [0] I I)
 have hlt3:j<n.table.length:=by have:(j:Int)<(n.table.length:Int):=of_decide_eq_true h3;omega
 obtain ⟨r,hr⟩:=getSome hlt3
 have cr:(cellsOf roC n.table).length=n.table.length*4:=cellsOf_len roC_len _
 have hat2:=any_tk (p:=g n) hr
 rw[hno2,Bool.false_or]at hat2
 obtain ⟨F,hF⟩:∃F,F=Me.follow (nds xs) n.addr r.dest:=⟨_,rfl⟩
 have hgr:g n r=(F.2==2):=by rw[hgd,hF]
 repeat' (first|refine zh ?_|intro (bk:Nat))
 refine HR.regionD [(0,true),(1,true),(2,true),(3,true),(4,true),(5,true),(6,true),(7,true),(8,true),(9,true),(10,true),(11,true),(12,true),(13,true),(14,true),(15,true),(16,true),(17,false),(18,true),(19,true),(20,true),(21,true),(22,true)] [0] I I hmix (by kernel_rfl) ?_
 repeat' (first|refine zd ?_|refine HD.idxR (Rd.arg h.s) elemNd k I I I I I hlt ?_|refine HD.fieldN 0 (Rd.arg h.s) (by rw[cx];omega) I I I I I I I I ?_|refine HD.loadI (Rd.arg h.s) I I I I I (cells_get ndE2_len hx (i:=0) I) ?_|refine HD.fieldN 3 (Rd.arg h.s) (by rw[cx];omega) I I I I I I I I ?_|refine HD.loadI (Rd.arg h.s) I I I I I (cells_get ndE2_len hx (i:=3) I) ?_|refine HD.idxR (Rd.arg hok.ta) elemRo j I I I I I hlt3 ?_|refine HD.fieldN 0 (Rd.arg hok.ta) (by rw[cr];omega) I I I I I I I I ?_|refine HD.loadI (Rd.arg hok.ta) I I I I I (cells_get roC_len hr (i:=0) I) ?_)
 refine HD.one I ?_
 refine HL.callX (r:=fun x:Value=> .tuple ⟨[x,.int .i64 F.2]⟩) (Q:=fun _=>True) (G:=fun x=>[ownC x 3 1 F.1.length (cellsOf iC F.1)]) fn51 I I (fun w1 hw1=>by rw[hF];exact (rfollow_any xs t n.addr r.dest v w1 (h.ext hw1.belowB) hg hl).mono fun e w' ⟨x,e1,e2⟩=>⟨x,e1,trivial,e2⟩) ?_
 intro vp _
 refine HL.back [1] I I ?_
 repeat' (first|refine zd ?_|fail)
 refine HD.nil ?_
 repeat' (first|refine zh ?_|intro (bk:Nat))
 refine HR.cond I (fun h4=>?_) (fun h4=>?_)
 ·have h4:g n r=true:=by rw[hgr];exact h4
  rw[hlo,any_hit (nds_get hx) (any_hit hr h4)]
  repeat' (first|refine zh ?_|intro (bk:Nat))
  refine HR.ret Tryz.func21 I [_] (fun _ _=>⟨I,trivial⟩) ?_
  exact fun w' hw=>⟨rfl,hw.belowB⟩
 have h4:g n r=false:=by rw[hgr];exact h4
 rw[h4]at hat2
 repeat' (first|refine zh ?_|intro (bk:Nat))
 exact ih2 (j+1) _ _ ⟨hlt3,hat2⟩ (by show n.table.length-(j+1)<n.table.length-j;omega) ⟨I,I,I,trivial⟩ (Ent.pick [1] I I)
end Go.Proofs.YtgfdoognildoeaaGreat
namespace Go.GX
open Go.RowKit Go.ChangeShapes Go.WideShapes
section
variable {H : Type} {enc : TypeId × Value → H} {P : Program} {w : World}
def Opens (enc:TypeId×Value→H) (P:Program) (w:World) (t:TypeId) {α:Type} (E:α→List Value) (good:α→Prop):Prop:=
 ∀(fuel:Nat) (cs:List Value) (x:DataW H×List MemPlace),DataW.trod enc P w 0 (fun _=>true) true fuel t cs=some x→∃a,cs=E a∧good a
theorem Opens.int {t:TypeId} {k:IntKind} (ht:P.underlying t=some (.int k)):Opens enc P w t (fun n:Int=>[Value.int k n]) (fun n=>(Lit.int k n).wf=true):=by
 intro fuel cs x h
 cases fuel with
 |zero=>cases h
 |succ fuel=>
  unfold DataW.trod at h
  rw[ht]at h
  split at h
  all_goals first
   |cases h;done
   |(rename_i h1;cases h1;done)
   |skip
  rename_i k0 k' n h1
  cases h1
  split at h
  ·rename_i hk;obtain ⟨rfl,hw⟩:=hk;exact ⟨n,rfl,hw⟩
  ·cases h
theorem Opens.str {t:TypeId} (ht:P.underlying t=some .string):Opens enc P w t (fun s:List UInt8=>[str s]) (fun s=>s.length≤9223372036854775807):=by
 intro fuel cs x h
 cases fuel with
 |zero=>cases h
 |succ fuel=>
  unfold DataW.trod at h
  rw[ht]at h
  split at h
  all_goals first
   |cases h;done
   |(rename_i h1;cases h1;done)
   |skip
  rename_i s h1
  split at h
  ·rename_i hs;exact ⟨s.data.toList,rfl,by unfold maxLen at hs;have:s.data.toList.length=s.size:=rfl;omega⟩
  ·cases h
theorem Opens.bool {t:TypeId} (ht:P.underlying t=some .bool):Opens enc P w t (fun b:Bool=>[Value.bool b]) (fun _=>True):=by
 intro fuel cs x h
 cases fuel with
 |zero=>cases h
 |succ fuel=>
  unfold DataW.trod at h
  rw[ht]at h
  split at h
  all_goals first
   |cases h;done
   |(rename_i h1;cases h1;done)
   |skip
  rename_i b h1
  exact ⟨b,rfl,trivial⟩
theorem cells?_get {base n:Nat} {a:Addr} {cs:List Value} (h:w.cells? base a n=some cs):cs.length=n∧∀(j:Nat) u,cs[j]? =some u→w.cell? (a.add j)=some u:=by
 unfold World.cells? at h
 split at h
 ·have key:∀(l:List Nat) (r:List Value),l.mapM (fun i=>w.cell? (a.add i))=some r→r.length=l.length∧∀(j:Nat) u,r[j]? =some u→∃i,l[j]? =some i∧w.cell? (a.add i)=some u:=by
   intro l
   induction l with
   |nil=>intro r h;simp at h;subst h;exact ⟨rfl,fun j u hu=>by simp at hu⟩
   |cons i l ih=>
    intro r h
    simp only[List.mapM_cons,Option.bind_eq_bind,Option.pure_def]at h
    cases hx:w.cell? (a.add i)with
    |none=>rw[hx]at h;cases h
    |some b=>
     rw[hx]at h
     simp only[Option.bind_some]at h
     cases hl:l.mapM (fun i=>w.cell? (a.add i))with
     |none=>rw[hl]at h;cases h
     |some r'=>
      rw[hl]at h
      simp only[Option.bind_some,Option.some.injEq]at h
      subst h
      obtain ⟨h1,h2⟩:=ih r' hl
      refine ⟨by simp[h1],fun j u hu=>?_⟩
      cases j with
      |zero=>simp at hu;subst hu;exact ⟨i,rfl,hx⟩
      |succ j=>simp at hu;simpa using h2 j u hu
  obtain ⟨h1,h2⟩:=key _ _ h
  refine ⟨by simpa using h1,fun j u hu=>?_⟩
  obtain ⟨i,hi,hc⟩:=h2 j u hu
  have hj:j<n:=by
   have:=(List.getElem?_eq_some_iff.1 hi).1;simpa using this
  simp[hj]at hi
  subst hi;exact hc
 ·cases h
theorem parts_eq {cs p:List Value} {o n m:Nat} (h:(cs.drop o).take n=p) (hp:p.length=n) (ho:o+n=m):cs.drop o=p++cs.drop m:=by
 rw[← h,← ho,← List.drop_drop,List.take_append_drop]
end
end Go.GX
namespace Go.GX
open Go.RowKit Go.ChangeShapes Go.WideShapes
section
variable {H : Type} {enc : TypeId × Value → H} {P : Program} {w : World}
def Sized (P:Program) (t:TypeId) (d:DataW H):Prop:=∀n∈d.weights P t,n≤reachBytes
def OpensZ (enc:TypeId×Value→H) (P:Program) (w:World) (t:TypeId) {α:Type} (E:α→List Value) (good:α→Prop):Prop:=
 ∀(fuel:Nat) (cs:List Value) (x:DataW H×List MemPlace),DataW.trod enc P w 0 (fun _=>true) true fuel t cs=some x→Sized P t x.1→∃a,cs=E a∧good a
theorem Opens.z {t:TypeId} {α:Type} {E:α→List Value} {good:α→Prop} (h:Opens enc P w t E good):OpensZ enc P w t E good:=fun f cs x hx _=>h f cs x hx
theorem mapM_get {α β:Type} {f:α→Option β}:∀ {l:List α} {r:List β},l.mapM f=some r→∀(i:Nat) (a:α),l[i]? =some a→∃b,r[i]? =some b∧f a=some b
 |[],r,h,i,a,ha=>by simp at ha
 |x::l,r,h,i,a,ha=>by
  simp only[List.mapM_cons,Option.bind_eq_bind,Option.pure_def]at h
  cases hx:f x with
  |none=>rw[hx]at h;cases h
  |some b=>
   rw[hx]at h
   simp only[Option.bind_some]at h
   cases hl:l.mapM f with
   |none=>rw[hl]at h;cases h
   |some r'=>
    rw[hl]at h
    simp only[Option.bind_some,Option.some.injEq]at h
    subst h
    cases i with
    |zero=>simp at ha;subst ha;exact ⟨b,rfl,hx⟩
    |succ i=>
     simp at ha
     obtain ⟨c,h1,h2⟩:=mapM_get hl i a ha
     exact ⟨c,by simpa using h1,h2⟩
theorem weightsAll_mem {e:TypeId} {n:Nat}:∀ {l:List (DataW H)} {d:DataW H},d∈l→n∈d.weights P e→n∈DataW.weightsAll P e l
 |[],d,h,_=>by cases h
 |x::l,d,h,hn=>by
  unfold DataW.weightsAll
  rcases List.mem_cons.1 h with rfl|h
  ·exact List.mem_append_left _ hn
  ·exact List.mem_append_right _ (weightsAll_mem h hn)
theorem Sized.slice {t e:TypeId} {elems spare:List (DataW H)} (h:Sized P t (.slice elems spare)) (ht:P.underlying t=some (.slice e)):elems.length*P.bytesOf e≤reachBytes∧∀d∈elems,Sized P e d:=by
 unfold Sized at h
 simp only[DataW.weights,ht]at h
 constructor
 ·have h1:=h _ (List.mem_cons_self ..)
  exact Nat.le_trans (Nat.mul_le_mul_right _ (Nat.le_add_right _ _)) h1
 ·exact fun d hd n hn=>h n (List.mem_cons_of_mem _ (List.mem_append_left _ (weightsAll_mem hd hn)))
theorem OpensZ.slice {t e:TypeId} {α:Type} {E:α→List Value} {good:α→Prop} {sz:Nat} (ht:P.underlying t=some (.slice e)) (hc:P.cellsOf e=sz) (hpos:0<sz) (hE:∀a,(E a).length=sz) (he:OpensZ enc P w e E good):
  OpensZ enc P w t (fun p:Value×List α=>[p.1]) (fun p=>Sl w p.1 (cellsOf E p.2) p.2.length∧p.2.length*P.bytesOf e≤reachBytes∧∀a∈p.2,good a):=by
 intro fuel cs x h hz
 cases fuel with
 |zero=>cases h
 |succ fuel=>
  unfold DataW.trod at h
  simp only[ht]at h
  split at h
  all_goals first
   |cases h;done
   |(rename_i h1;cases h1;done)
   |skip
  ·exact ⟨(.slice none 0 0,[]),rfl,Sl.nil w,by simp,fun a ha=>by cases ha⟩
  ·rename_i e0 a len cap h1
   cases h1
   split at h
   ·rename_i hb
    rw[hc]at h
    cases hm:(List.range len).mapM (fun i=>(w.cells? 0 (a.add (i*sz)) sz).bind (DataW.trod enc P w 0 (fun _=>true) true fuel e))with
    |none=>rw[hm]at h;cases h
    |some r=>
     rw[hm]at h
     simp only[Option.bind_some,if_true]at h
     cases hm2:(List.range (cap-len)).mapM (fun j=>(w.cells? 0 (a.add ((len+j)*sz)) sz).bind (DataW.trod enc P w 0 (fun _=>true) true fuel e))with
     |none=>rw[hm2]at h;cases h
     |some r2=>
     rw[hm2]at h
     simp only[Option.map_some,Option.some.injEq]at h
     subst h
     obtain ⟨hz1,hz2⟩:=Sized.slice hz ht
     have hrl:r.length=len:=by
      have:=mapM_get hm
      have key:∀ {α β:Type} {f:α→Option β} {l:List α} {r:List β},l.mapM f=some r→r.length=l.length:=by
       intro α β f l
       induction l with
       |nil=>intro r h;simp at h;subst h;rfl
       |cons x l ih=>
        intro r h
        simp only[List.mapM_cons,Option.bind_eq_bind,Option.pure_def]at h
        cases hx:f x with
        |none=>rw[hx]at h;cases h
        |some b=>
         rw[hx]at h
         simp only[Option.bind_some]at h
         cases hl:l.mapM f with
         |none=>rw[hl]at h;cases h
         |some r'=>
          rw[hl]at h
          simp only[Option.bind_some,Option.some.injEq]at h
          subst h
          simp[ih hl]
      rw[key hm];simp
     rw[List.length_map,hrl]at hz1
     have:∀i,i<len→∃b:α,good b∧∀(j:Nat) u,(E b)[j]? =some u→w.cell? ((a.add (i*sz)).add j)=some u:=by
      intro i hi
      obtain ⟨y,hy1,hy⟩:=mapM_get hm i i (by simp[hi])
      have hzy:Sized P e y.1:=hz2 _ (List.mem_map.2 ⟨y,List.mem_of_getElem? hy1,rfl⟩)
      cases hcs:w.cells? 0 (a.add (i*sz)) sz with
      |none=>rw[hcs]at hy;cases hy
      |some cs=>
       rw[hcs]at hy
       obtain ⟨b,rfl,hg⟩:=he fuel cs y hy hzy
       exact ⟨b,hg,(cells?_get hcs).2⟩
     have hlist:∀n,n≤len→∃l:List α,l.length=n∧(∀ b∈l,good b)∧∀(i:Nat) b,l[i]? =some b→∀(j:Nat) u,(E b)[j]? =some u→w.cell? ((a.add (i*sz)).add j)=some u:=by
      intro n
      induction n with
      |zero=>intro _;exact ⟨[],rfl,(fun b hb=>by cases hb),fun i b hb=>by simp at hb⟩
      |succ n ih=>
       intro hn
       obtain ⟨l,h1,h2,h3⟩:=ih (by omega)
       obtain ⟨b,g1,g2⟩:=this n (by omega)
       refine ⟨l++[b],by simp[h1],fun c hc=>?_,fun i c hc=>?_⟩
       ·rcases List.mem_append.1 hc with hc|hc
        ·exact h2 c hc
        ·simp at hc;subst hc;exact g1
       ·by_cases hi:i<l.length
        ·rw [List.getElem?_append_left hi]at hc;exact h3 i c hc
        ·have:i=n:=by have:=(List.getElem?_eq_some_iff.1 hc).1;simp at this;omega
         subst this
         rw[List.getElem?_append_right (by omega),h1]at hc
         simp at hc;subst hc;exact g2
     obtain ⟨l,h1,h2,h3⟩:=hlist len (Nat.le_refl _)
     refine ⟨(.slice (some a) len cap,l),rfl,⟨?_,some a,cap,by simp[h1],by rw[h1];exact hb.2.1⟩,by rw[h1];exact hz1,h2⟩
     by_cases h0:len=0
     ·subst h0
      have:l=[]:=List.eq_nil_of_length_eq_zero h1
      subst this
      exact .inl ⟨.inr ⟨a,cap,rfl⟩,rfl,rfl⟩
     ·obtain ⟨b,off,spot⟩:=a
      obtain ⟨b0,hb0⟩:=getSome (show 0<l.length by omega)
      obtain ⟨u0,hu0⟩:=getSome (show 0<(E b0).length by rw[hE];exact hpos)
      have hc0:=h3 0 b0 hb0 0 u0 hu0
      have hspot:spot=none:=by simpa[Addr.add]using World.cell?_spot hc0
      subst hspot
      have hadd:∀b off j,(⟨b,off,none⟩:Addr).add j=⟨b,off+j,none⟩:=fun b off j=>by unfold Addr.add;split<;>simp_all
      refine .inr ⟨b,off,cap,by simp[h1],fun j u hu=>?_⟩
      have hjl:j<(cellsOf E l).length:=(List.getElem?_eq_some_iff.1 hu).1
      rw[cellsOf_len hE,h1]at hjl
      have hdiv:j / sz<len:=Nat.div_lt_of_lt_mul (by rw[Nat.mul_comm];exact hjl)
      have hmod:j%sz<sz:=Nat.mod_lt _ hpos
      obtain ⟨c,hc⟩:=getSome (show j / sz<l.length by omega)
      obtain ⟨u',hu'⟩:=getSome (show j%sz<(E c).length by rw[hE];exact hmod)
      have hj:j / sz*sz+j%sz=j:=by rw[Nat.mul_comm];exact Nat.div_add_mod j sz
      have hg:=cellsOf_get hE hc (j%sz) u' hu'
      rw[hj,hu]at hg
      cases hg
      have:=h3 _ c hc _ u hu'
      rw[hadd,hadd,Nat.add_assoc,hj]at this
      exact this
   ·cases h
theorem Sized.of_each {ts:List TypeId} {ds:List (DataW H)} {j:Nat} {t:TypeId} {d:DataW H} (h:(DataW.weightsEach P ts ds).all (·≤reachBytes)=true) (ht:ts[j]? =some t) (hd:ds[j]? =some d):Sized P t d:=fun n hn=>by
 have:=List.all_eq_true.1 h _ (DataW.weights_mem_each ht hd n hn)
 simpa using this
theorem OpensZ.fields {t:TypeId} {fs:Array Field} (ht:P.underlying t=some (.struct fs)) {fuel:Nat} {cs:List Value} {x:DataW H×List MemPlace} (h:DataW.trod enc P w 0 (fun _=>true) true fuel t cs=some x) (hz:Sized P t x.1):
  cs.length=P.cellsOf t∧∀f∈fs.toList,∃fuel' y,DataW.trod enc P w 0 (fun _=>true) true fuel' f.type ((cs.drop f.offset).take (P.cellsOf f.type))=some y∧Sized P f.type y.1:=by
 cases fuel with
 |zero=>cases h
 |succ fuel=>
  unfold DataW.trod at h
  simp only[ht]at h
  split at h
  ·rename_i hl
   refine ⟨hl,fun f hf=>?_⟩
   cases hm:fs.toList.mapM (fun f=>DataW.trod enc P w 0 (fun _=>true) true fuel f.type ((cs.drop f.offset).take (P.cellsOf f.type)))with
   |none=>rw[hm]at h;cases h
   |some r=>
    rw[hm]at h
    simp only[Option.map_some,Option.some.injEq]at h
    subst h
    obtain ⟨i,hi⟩:=List.getElem?_of_mem hf
    obtain ⟨y,hy1,hy⟩:=mapM_get hm i f hi
    refine ⟨fuel,y,hy,fun n hn=>hz n ?_⟩
    simp only[DataW.weights,ht]
    exact DataW.weights_mem_each (j:=i) (by rw[List.getElem?_map,hi];rfl) (by rw[List.getElem?_map,hy1];rfl) n hn
  ·cases h
end
end Go.GX
namespace Go.Proofs.YtgfdoognildoeaaGreat
open Go.GX Go.RowKit
attribute [local irreducible] Calls Run RunL RunQ RunD HR HL HD blkC ownC mapC Rd slicesC iterC
open Nd
open Go.ChangeShapes Go.WideShapes
variable {H : Type} {enc : TypeId × Value → H} {W : World}
theorem sl_shape {w:World} {v:Value} {cs:List Value} {n:Nat} (h:Sl w v cs n):∃x:SV,v=sv x n:=by
 obtain ⟨_,a,c,e,_⟩:=h
 exact ⟨(a,c),e⟩
theorem wfI {n:Int} (h:(Lit.int .i64 n).wf=true):Go.GX.fits .i64 n:=by
 have h:(decide (-9223372036854775808≤n)&&decide (n≤9223372036854775807))=true:=h
 simp only[Bool.and_eq_true,decide_eq_true_eq]at h
 exact h
theorem opZ22:OpensZ enc Tryz.prog W 22 (fun p:Value×List Int=>[p.1]) (fun p=>Sl W p.1 (cellsOf iC p.2) p.2.length∧p.2.length*Tryz.prog.bytesOf 3≤reachBytes∧∀a∈p.2,(Lit.int .i64 a).wf=true):=
 OpensZ.slice (sz:=1) I (by kernel_rfl) (by decide) iC_len (Opens.int rfl).z
theorem opZ81:OpensZ enc Tryz.prog W 81 (fun p:Value×List Bool=>[p.1]) (fun p=>Sl W p.1 (cellsOf bC p.2) p.2.length∧p.2.length*Tryz.prog.bytesOf 4≤reachBytes∧∀a∈p.2,True):=
 OpensZ.slice (sz:=1) I (by kernel_rfl) (by decide) bC_len (Opens.bool rfl).z
theorem opZ152:OpensZ enc Tryz.prog W 152 (fun p:Value×List By=>[p.1]) (fun p=>Sl W p.1 (cellsOf sC p.2) p.2.length∧p.2.length*Tryz.prog.bytesOf 9≤reachBytes∧∀a∈p.2,a.length≤9223372036854775807):=
 OpensZ.slice (sz:=1) I (by kernel_rfl) (by decide) sC_len (Opens.str rfl).z
theorem opZ75:OpensZ enc Tryz.prog W 75 frC (fun f=>f.da.length≤9223372036854775807):=by
 intro fuel cs x h hz
 obtain ⟨hl,hf⟩:=OpensZ.fields (fs:=_) I h hz
 have cT:Tryz.prog.cellsOf 75=9:=by kernel_rfl
 have cf0:Tryz.prog.cellsOf 3=1:=by kernel_rfl
 have cf1:Tryz.prog.cellsOf 4=1:=by kernel_rfl
 have cf2:Tryz.prog.cellsOf 9=1:=by kernel_rfl
 rw[cT]at hl
 obtain ⟨fu0,y0,h0,i0⟩:=hf _ (List.mem_cons_self ..)
 obtain ⟨fu1,y1,h1,i1⟩:=hf _ (List.mem_cons_of_mem _ (List.mem_cons_self ..))
 obtain ⟨fu2,y2,h2,i2⟩:=hf _ (List.mem_cons_of_mem _ (List.mem_cons_of_mem _ (List.mem_cons_self ..)))
 obtain ⟨fu3,y3,h3,i3⟩:=hf _ (List.mem_cons_of_mem _ (List.mem_cons_of_mem _ (List.mem_cons_of_mem _ (List.mem_cons_self ..))))
 obtain ⟨fu4,y4,h4,i4⟩:=hf _ (List.mem_cons_of_mem _ (List.mem_cons_of_mem _ (List.mem_cons_of_mem _ (List.mem_cons_of_mem _ (List.mem_cons_self ..)))))
 obtain ⟨fu5,y5,h5,i5⟩:=hf _ (List.mem_cons_of_mem _ (List.mem_cons_of_mem _ (List.mem_cons_of_mem _ (List.mem_cons_of_mem _ (List.mem_cons_of_mem _ (List.mem_cons_self ..))))))
 obtain ⟨fu6,y6,h6,i6⟩:=hf _ (List.mem_cons_of_mem _ (List.mem_cons_of_mem _ (List.mem_cons_of_mem _ (List.mem_cons_of_mem _ (List.mem_cons_of_mem _ (List.mem_cons_of_mem _ (List.mem_cons_self ..)))))))
 obtain ⟨fu7,y7,h7,i7⟩:=hf _ (List.mem_cons_of_mem _ (List.mem_cons_of_mem _ (List.mem_cons_of_mem _ (List.mem_cons_of_mem _ (List.mem_cons_of_mem _ (List.mem_cons_of_mem _ (List.mem_cons_of_mem _ (List.mem_cons_self ..))))))))
 obtain ⟨fu8,y8,h8,i8⟩:=hf _ (List.mem_cons_of_mem _ (List.mem_cons_of_mem _ (List.mem_cons_of_mem _ (List.mem_cons_of_mem _ (List.mem_cons_of_mem _ (List.mem_cons_of_mem _ (List.mem_cons_of_mem _ (List.mem_cons_of_mem _ (List.mem_cons_self ..)))))))))
 obtain ⟨a0,g0,b0⟩:=(Opens.int (k:= .i64) rfl).z fu0 _ _ h0 i0
 obtain ⟨a1,g1,b1⟩:=(Opens.int (k:= .i64) rfl).z fu1 _ _ h1 i1
 obtain ⟨a2,g2,b2⟩:=(Opens.int (k:= .i64) rfl).z fu2 _ _ h2 i2
 obtain ⟨a3,g3,b3⟩:=(Opens.int (k:= .i64) rfl).z fu3 _ _ h3 i3
 obtain ⟨a4,g4,b4⟩:=(Opens.int (k:= .i64) rfl).z fu4 _ _ h4 i4
 obtain ⟨a5,g5,b5⟩:=(Opens.int (k:= .i64) rfl).z fu5 _ _ h5 i5
 obtain ⟨a6,g6,b6⟩:=(Opens.int (k:= .i64) rfl).z fu6 _ _ h6 i6
 obtain ⟨a7,g7,b7⟩:=(Opens.bool rfl).z fu7 _ _ h7 i7
 obtain ⟨a8,g8,b8⟩:=(Opens.str rfl).z fu8 _ _ h8 i8
 have e0:=parts_eq g0 (m:=1) (by simp[cf0]) (by simp[cf0])
 have e1:=parts_eq g1 (m:=2) (by simp[cf0]) (by simp[cf0])
 have e2:=parts_eq g2 (m:=3) (by simp[cf0]) (by simp[cf0])
 have e3:=parts_eq g3 (m:=4) (by simp[cf0]) (by simp[cf0])
 have e4:=parts_eq g4 (m:=5) (by simp[cf0]) (by simp[cf0])
 have e5:=parts_eq g5 (m:=6) (by simp[cf0]) (by simp[cf0])
 have e6:=parts_eq g6 (m:=7) (by simp[cf0]) (by simp[cf0])
 have e7:=parts_eq g7 (m:=8) (by simp[cf1]) (by simp[cf1])
 have e8:=parts_eq g8 (m:=9) (by simp[cf2]) (by simp[cf2])
 refine ⟨⟨a0,a1,a2,a3,a4,a5,a6,a7,a8⟩,?_,b8⟩
 simp only[List.drop_zero]at e0
 rw[e0,e1,e2,e3,e4,e5,e6,e7,e8,List.drop_eq_nil_of_le (by omega)];rfl
theorem opZ94:OpensZ enc Tryz.prog W 94 roC (fun _=>True):=by
 intro fuel cs x h hz
 obtain ⟨hl,hf⟩:=OpensZ.fields (fs:=_) I h hz
 have cT:Tryz.prog.cellsOf 94=4:=by kernel_rfl
 have cf0:Tryz.prog.cellsOf 3=1:=by kernel_rfl
 rw[cT]at hl
 obtain ⟨fu0,y0,h0,i0⟩:=hf _ (List.mem_cons_self ..)
 obtain ⟨fu1,y1,h1,i1⟩:=hf _ (List.mem_cons_of_mem _ (List.mem_cons_self ..))
 obtain ⟨fu2,y2,h2,i2⟩:=hf _ (List.mem_cons_of_mem _ (List.mem_cons_of_mem _ (List.mem_cons_self ..)))
 obtain ⟨fu3,y3,h3,i3⟩:=hf _ (List.mem_cons_of_mem _ (List.mem_cons_of_mem _ (List.mem_cons_of_mem _ (List.mem_cons_self ..))))
 obtain ⟨a0,g0,b0⟩:=(Opens.int (k:= .i64) rfl).z fu0 _ _ h0 i0
 obtain ⟨a1,g1,b1⟩:=(Opens.int (k:= .i64) rfl).z fu1 _ _ h1 i1
 obtain ⟨a2,g2,b2⟩:=(Opens.int (k:= .i64) rfl).z fu2 _ _ h2 i2
 obtain ⟨a3,g3,b3⟩:=(Opens.int (k:= .i64) rfl).z fu3 _ _ h3 i3
 have e0:=parts_eq g0 (m:=1) (by simp[cf0]) (by simp[cf0])
 have e1:=parts_eq g1 (m:=2) (by simp[cf0]) (by simp[cf0])
 have e2:=parts_eq g2 (m:=3) (by simp[cf0]) (by simp[cf0])
 have e3:=parts_eq g3 (m:=4) (by simp[cf0]) (by simp[cf0])
 refine ⟨⟨a0,a1,a2,a3⟩,?_,trivial⟩
 simp only[List.drop_zero]at e0
 rw[e0,e1,e2,e3,List.drop_eq_nil_of_le (by omega)];rfl
theorem opZ162:OpensZ enc Tryz.prog W 162 liC (fun _=>True):=by
 intro fuel cs x h hz
 obtain ⟨hl,hf⟩:=OpensZ.fields (fs:=_) I h hz
 have cT:Tryz.prog.cellsOf 162=3:=by kernel_rfl
 have cf0:Tryz.prog.cellsOf 3=1:=by kernel_rfl
 rw[cT]at hl
 obtain ⟨fu0,y0,h0,i0⟩:=hf _ (List.mem_cons_self ..)
 obtain ⟨fu1,y1,h1,i1⟩:=hf _ (List.mem_cons_of_mem _ (List.mem_cons_self ..))
 obtain ⟨fu2,y2,h2,i2⟩:=hf _ (List.mem_cons_of_mem _ (List.mem_cons_of_mem _ (List.mem_cons_self ..)))
 obtain ⟨a0,g0,b0⟩:=(Opens.int (k:= .i64) rfl).z fu0 _ _ h0 i0
 obtain ⟨a1,g1,b1⟩:=(Opens.int (k:= .i64) rfl).z fu1 _ _ h1 i1
 obtain ⟨a2,g2,b2⟩:=(Opens.int (k:= .i64) rfl).z fu2 _ _ h2 i2
 have e0:=parts_eq g0 (m:=1) (by simp[cf0]) (by simp[cf0])
 have e1:=parts_eq g1 (m:=2) (by simp[cf0]) (by simp[cf0])
 have e2:=parts_eq g2 (m:=3) (by simp[cf0]) (by simp[cf0])
 refine ⟨⟨a0,a1,a2⟩,?_,trivial⟩
 simp only[List.drop_zero]at e0
 rw[e0,e1,e2,List.drop_eq_nil_of_le (by omega)];rfl
theorem opZ171:OpensZ enc Tryz.prog W 171 prC (fun _=>True):=by
 intro fuel cs x h hz
 obtain ⟨hl,hf⟩:=OpensZ.fields (fs:=_) I h hz
 have cT:Tryz.prog.cellsOf 171=2:=by kernel_rfl
 have cf0:Tryz.prog.cellsOf 3=1:=by kernel_rfl
 rw[cT]at hl
 obtain ⟨fu0,y0,h0,i0⟩:=hf _ (List.mem_cons_self ..)
 obtain ⟨fu1,y1,h1,i1⟩:=hf _ (List.mem_cons_of_mem _ (List.mem_cons_self ..))
 obtain ⟨a0,g0,b0⟩:=(Opens.int (k:= .i64) rfl).z fu0 _ _ h0 i0
 obtain ⟨a1,g1,b1⟩:=(Opens.int (k:= .i64) rfl).z fu1 _ _ h1 i1
 have e0:=parts_eq g0 (m:=1) (by simp[cf0]) (by simp[cf0])
 have e1:=parts_eq g1 (m:=2) (by simp[cf0]) (by simp[cf0])
 refine ⟨⟨a0,a1⟩,?_,trivial⟩
 simp only[List.drop_zero]at e0
 rw[e0,e1,List.drop_eq_nil_of_le (by omega)];rfl
theorem opZ65:OpensZ enc Tryz.prog W 65 deC (fun _=>True):=by
 intro fuel cs x h hz
 obtain ⟨hl,hf⟩:=OpensZ.fields (fs:=_) I h hz
 have cT:Tryz.prog.cellsOf 65=2:=by kernel_rfl
 have cf0:Tryz.prog.cellsOf 3=1:=by kernel_rfl
 have cf1:Tryz.prog.cellsOf 9=1:=by kernel_rfl
 rw[cT]at hl
 obtain ⟨fu0,y0,h0,i0⟩:=hf _ (List.mem_cons_self ..)
 obtain ⟨fu1,y1,h1,i1⟩:=hf _ (List.mem_cons_of_mem _ (List.mem_cons_self ..))
 obtain ⟨a0,g0,b0⟩:=(Opens.int (k:= .i64) rfl).z fu0 _ _ h0 i0
 obtain ⟨a1,g1,b1⟩:=(Opens.str rfl).z fu1 _ _ h1 i1
 have e0:=parts_eq g0 (m:=1) (by simp[cf0]) (by simp[cf0])
 have e1:=parts_eq g1 (m:=2) (by simp[cf1]) (by simp[cf1])
 refine ⟨⟨a0,a1⟩,?_,trivial⟩
 simp only[List.drop_zero]at e0
 rw[e0,e1,List.drop_eq_nil_of_le (by omega)];rfl
theorem opZ131:OpensZ enc Tryz.prog W 131 snC (fun s=>Me.WfS s):=by
 intro fuel cs x h hz
 obtain ⟨hl,hf⟩:=OpensZ.fields (fs:=_) I h hz
 have cT:Tryz.prog.cellsOf 131=11:=by kernel_rfl
 have cf0:Tryz.prog.cellsOf 75=9:=by kernel_rfl
 have cf1:Tryz.prog.cellsOf 3=1:=by kernel_rfl
 rw[cT]at hl
 obtain ⟨fu0,y0,h0,i0⟩:=hf _ (List.mem_cons_self ..)
 obtain ⟨fu1,y1,h1,i1⟩:=hf _ (List.mem_cons_of_mem _ (List.mem_cons_self ..))
 obtain ⟨fu2,y2,h2,i2⟩:=hf _ (List.mem_cons_of_mem _ (List.mem_cons_of_mem _ (List.mem_cons_self ..)))
 obtain ⟨a0,g0,b0⟩:=opZ75 fu0 _ _ h0 i0
 obtain ⟨a1,g1,b1⟩:=(Opens.int (k:= .i64) rfl).z fu1 _ _ h1 i1
 obtain ⟨a2,g2,b2⟩:=(Opens.int (k:= .i64) rfl).z fu2 _ _ h2 i2
 have e0:=parts_eq g0 (m:=9) (by simp[cf0]) (by simp[cf0])
 have e1:=parts_eq g1 (m:=10) (by simp[cf1]) (by simp[cf1])
 have e2:=parts_eq g2 (m:=11) (by simp[cf1]) (by simp[cf1])
 refine ⟨⟨a0,a1,a2⟩,?_,⟨wfI b1,wfI b2,b0⟩⟩
 simp only[List.drop_zero]at e0
 rw[e0,e1,e2,List.drop_eq_nil_of_le (by omega)];rfl
theorem opZ166:OpensZ enc Tryz.prog W 166 maC (fun s=>s.f.da.length≤9223372036854775807):=by
 intro fuel cs x h hz
 obtain ⟨hl,hf⟩:=OpensZ.fields (fs:=_) I h hz
 have cT:Tryz.prog.cellsOf 166=10:=by kernel_rfl
 have cf0:Tryz.prog.cellsOf 75=9:=by kernel_rfl
 have cf1:Tryz.prog.cellsOf 3=1:=by kernel_rfl
 rw[cT]at hl
 obtain ⟨fu0,y0,h0,i0⟩:=hf _ (List.mem_cons_self ..)
 obtain ⟨fu1,y1,h1,i1⟩:=hf _ (List.mem_cons_of_mem _ (List.mem_cons_self ..))
 obtain ⟨a0,g0,b0⟩:=opZ75 fu0 _ _ h0 i0
 obtain ⟨a1,g1,b1⟩:=(Opens.int (k:= .i64) rfl).z fu1 _ _ h1 i1
 have e0:=parts_eq g0 (m:=9) (by simp[cf0]) (by simp[cf0])
 have e1:=parts_eq g1 (m:=10) (by simp[cf1]) (by simp[cf1])
 refine ⟨⟨a0,a1⟩,?_,b0⟩
 simp only[List.drop_zero]at e0
 rw[e0,e1,List.drop_eq_nil_of_le (by omega)];rfl
theorem opZ173:OpensZ enc Tryz.prog W 173 ptC (fun p=>RdPt W p∧SmPt p.pt):=by
 intro fuel cs x h hz
 obtain ⟨hl,hf⟩:=OpensZ.fields (fs:=_) I h hz
 have cT:Tryz.prog.cellsOf 173=6:=by kernel_rfl
 have cf0:Tryz.prog.cellsOf 3=1:=by kernel_rfl
 have cf1:Tryz.prog.cellsOf 81=1:=by kernel_rfl
 have cf2:Tryz.prog.cellsOf 152=1:=by kernel_rfl
 rw[cT]at hl
 obtain ⟨fu0,y0,h0,i0⟩:=hf _ (List.mem_cons_self ..)
 obtain ⟨fu1,y1,h1,i1⟩:=hf _ (List.mem_cons_of_mem _ (List.mem_cons_self ..))
 obtain ⟨fu2,y2,h2,i2⟩:=hf _ (List.mem_cons_of_mem _ (List.mem_cons_of_mem _ (List.mem_cons_self ..)))
 obtain ⟨fu3,y3,h3,i3⟩:=hf _ (List.mem_cons_of_mem _ (List.mem_cons_of_mem _ (List.mem_cons_of_mem _ (List.mem_cons_self ..))))
 obtain ⟨fu4,y4,h4,i4⟩:=hf _ (List.mem_cons_of_mem _ (List.mem_cons_of_mem _ (List.mem_cons_of_mem _ (List.mem_cons_of_mem _ (List.mem_cons_self ..)))))
 obtain ⟨fu5,y5,h5,i5⟩:=hf _ (List.mem_cons_of_mem _ (List.mem_cons_of_mem _ (List.mem_cons_of_mem _ (List.mem_cons_of_mem _ (List.mem_cons_of_mem _ (List.mem_cons_self ..))))))
 obtain ⟨a0,g0,b0⟩:=(Opens.int (k:= .i64) rfl).z fu0 _ _ h0 i0
 obtain ⟨a1,g1,b1⟩:=(Opens.int (k:= .i64) rfl).z fu1 _ _ h1 i1
 obtain ⟨a2,g2,b2⟩:=(Opens.int (k:= .i64) rfl).z fu2 _ _ h2 i2
 obtain ⟨a3,g3,b3⟩:=(Opens.int (k:= .i64) rfl).z fu3 _ _ h3 i3
 obtain ⟨⟨v4,l4⟩,g4,s4,n4,q4⟩:=opZ81 fu4 _ _ h4 i4
 obtain ⟨⟨v5,l5⟩,g5,s5,n5,q5⟩:=opZ152 fu5 _ _ h5 i5
 obtain ⟨z4,hz4⟩:=sl_shape s4
 have hz4:v4=sv z4 l4.length:=hz4
 subst hz4
 obtain ⟨z5,hz5⟩:=sl_shape s5
 have hz5:v5=sv z5 l5.length:=hz5
 subst hz5
 have e0:=parts_eq g0 (m:=1) (by simp[cf0]) (by simp[cf0])
 have e1:=parts_eq g1 (m:=2) (by simp[cf0]) (by simp[cf0])
 have e2:=parts_eq g2 (m:=3) (by simp[cf0]) (by simp[cf0])
 have e3:=parts_eq g3 (m:=4) (by simp[cf0]) (by simp[cf0])
 have e4:=parts_eq g4 (m:=5) (by simp[cf1]) (by simp[cf1])
 have e5:=parts_eq g5 (m:=6) (by simp[cf2]) (by simp[cf2])
 have hb1:Tryz.prog.bytesOf 4=1:=by kernel_rfl
 have hb2:Tryz.prog.bytesOf 9=16:=by kernel_rfl
 rw[hb1]at n4
 rw[hb2]at n5
 have hr:reachBytes=140737488351232:=rfl
 rw[hr]at n4 n5
 have n4:l4.length*1≤140737488351232:=n4
 have n5:l5.length*16≤140737488351232:=n5
 refine ⟨⟨sv z4 l4.length,sv z5 l5.length,⟨a0,a1,a2,a3,l4,l5⟩⟩,?_,⟨⟨s4,s5⟩,by show l4.length≤_;omega,by show l5.length≤_;omega,q5⟩⟩
 simp only[List.drop_zero]at e0
 rw[e0,e1,e2,e3,e4,e5,List.drop_eq_nil_of_le (by omega)];rfl
theorem opZ55:OpensZ enc Tryz.prog W 55 (fun p:Value×List Ro=>[p.1]) (fun p=>Sl W p.1 (cellsOf roC p.2) p.2.length∧p.2.length*Tryz.prog.bytesOf 94≤reachBytes∧∀a∈p.2,True):=
 OpensZ.slice (sz:=4) I (by kernel_rfl) (by decide) roC_len opZ94
theorem opZ56:OpensZ enc Tryz.prog W 56 (fun p:Value×List Li=>[p.1]) (fun p=>Sl W p.1 (cellsOf liC p.2) p.2.length∧p.2.length*Tryz.prog.bytesOf 162≤reachBytes∧∀a∈p.2,True):=
 OpensZ.slice (sz:=3) I (by kernel_rfl) (by decide) liC_len opZ162
theorem opZ57:OpensZ enc Tryz.prog W 57 (fun p:Value×List Sn=>[p.1]) (fun p=>Sl W p.1 (cellsOf snC p.2) p.2.length∧p.2.length*Tryz.prog.bytesOf 131≤reachBytes∧∀a∈p.2,Me.WfS a):=
 OpensZ.slice (sz:=11) I (by kernel_rfl) (by decide) snC_len opZ131
theorem opZ58:OpensZ enc Tryz.prog W 58 (fun p:Value×List Ma=>[p.1]) (fun p=>Sl W p.1 (cellsOf maC p.2) p.2.length∧p.2.length*Tryz.prog.bytesOf 166≤reachBytes∧∀a∈p.2,a.f.da.length≤9223372036854775807):=
 OpensZ.slice (sz:=10) I (by kernel_rfl) (by decide) maC_len opZ166
theorem opZ59:OpensZ enc Tryz.prog W 59 (fun p:Value×List Pr=>[p.1]) (fun p=>Sl W p.1 (cellsOf prC p.2) p.2.length∧p.2.length*Tryz.prog.bytesOf 171≤reachBytes∧∀a∈p.2,True):=
 OpensZ.slice (sz:=2) I (by kernel_rfl) (by decide) prC_len opZ171
theorem opZ46:OpensZ enc Tryz.prog W 46 (fun p:Value×List De=>[p.1]) (fun p=>Sl W p.1 (cellsOf deC p.2) p.2.length∧p.2.length*Tryz.prog.bytesOf 65≤reachBytes∧∀a∈p.2,True):=
 OpensZ.slice (sz:=2) I (by kernel_rfl) (by decide) deC_len opZ65
theorem opZ60:OpensZ enc Tryz.prog W 60 (fun p:Value×List PtV=>[p.1]) (fun p=>Sl W p.1 (cellsOf ptC p.2) p.2.length∧p.2.length*Tryz.prog.bytesOf 173≤reachBytes∧∀a∈p.2,(RdPt W a∧SmPt a.pt)):=
 OpensZ.slice (sz:=6) I (by kernel_rfl) (by decide) ptC_len opZ173
structure NdOkZ (W:World) (a:NV×Nd):Prop where
 ok:OkN W a.1 a.2
 sm:∀p∈a.2.parts,SmPt p
 wf:Me.WfO a.2
theorem opZ62:OpensZ enc Tryz.prog W 62 ndE2 (NdOkZ W):=by
 intro fuel cs x h hz
 obtain ⟨hl,hf⟩:=OpensZ.fields (fs:=_) I h hz
 have cT:Tryz.prog.cellsOf 62=13:=by kernel_rfl
 have cf0:Tryz.prog.cellsOf 3=1:=by kernel_rfl
 have cf1:Tryz.prog.cellsOf 55=1:=by kernel_rfl
 have cf2:Tryz.prog.cellsOf 56=1:=by kernel_rfl
 have cf3:Tryz.prog.cellsOf 57=1:=by kernel_rfl
 have cf4:Tryz.prog.cellsOf 22=1:=by kernel_rfl
 have cf5:Tryz.prog.cellsOf 58=1:=by kernel_rfl
 have cf6:Tryz.prog.cellsOf 59=1:=by kernel_rfl
 have cf7:Tryz.prog.cellsOf 60=1:=by kernel_rfl
 have cf8:Tryz.prog.cellsOf 46=1:=by kernel_rfl
 rw[cT]at hl
 obtain ⟨fu0,y0,h0,i0⟩:=hf _ (List.mem_cons_self ..)
 obtain ⟨fu1,y1,h1,i1⟩:=hf _ (List.mem_cons_of_mem _ (List.mem_cons_self ..))
 obtain ⟨fu2,y2,h2,i2⟩:=hf _ (List.mem_cons_of_mem _ (List.mem_cons_of_mem _ (List.mem_cons_self ..)))
 obtain ⟨fu3,y3,h3,i3⟩:=hf _ (List.mem_cons_of_mem _ (List.mem_cons_of_mem _ (List.mem_cons_of_mem _ (List.mem_cons_self ..))))
 obtain ⟨fu4,y4,h4,i4⟩:=hf _ (List.mem_cons_of_mem _ (List.mem_cons_of_mem _ (List.mem_cons_of_mem _ (List.mem_cons_of_mem _ (List.mem_cons_self ..)))))
 obtain ⟨fu5,y5,h5,i5⟩:=hf _ (List.mem_cons_of_mem _ (List.mem_cons_of_mem _ (List.mem_cons_of_mem _ (List.mem_cons_of_mem _ (List.mem_cons_of_mem _ (List.mem_cons_self ..))))))
 obtain ⟨fu6,y6,h6,i6⟩:=hf _ (List.mem_cons_of_mem _ (List.mem_cons_of_mem _ (List.mem_cons_of_mem _ (List.mem_cons_of_mem _ (List.mem_cons_of_mem _ (List.mem_cons_of_mem _ (List.mem_cons_self ..)))))))
 obtain ⟨fu7,y7,h7,i7⟩:=hf _ (List.mem_cons_of_mem _ (List.mem_cons_of_mem _ (List.mem_cons_of_mem _ (List.mem_cons_of_mem _ (List.mem_cons_of_mem _ (List.mem_cons_of_mem _ (List.mem_cons_of_mem _ (List.mem_cons_self ..))))))))
 obtain ⟨fu8,y8,h8,i8⟩:=hf _ (List.mem_cons_of_mem _ (List.mem_cons_of_mem _ (List.mem_cons_of_mem _ (List.mem_cons_of_mem _ (List.mem_cons_of_mem _ (List.mem_cons_of_mem _ (List.mem_cons_of_mem _ (List.mem_cons_of_mem _ (List.mem_cons_self ..)))))))))
 obtain ⟨fu9,y9,h9,i9⟩:=hf _ (List.mem_cons_of_mem _ (List.mem_cons_of_mem _ (List.mem_cons_of_mem _ (List.mem_cons_of_mem _ (List.mem_cons_of_mem _ (List.mem_cons_of_mem _ (List.mem_cons_of_mem _ (List.mem_cons_of_mem _ (List.mem_cons_of_mem _ (List.mem_cons_self ..))))))))))
 obtain ⟨fu10,y10,h10,i10⟩:=hf _ (List.mem_cons_of_mem _ (List.mem_cons_of_mem _ (List.mem_cons_of_mem _ (List.mem_cons_of_mem _ (List.mem_cons_of_mem _ (List.mem_cons_of_mem _ (List.mem_cons_of_mem _ (List.mem_cons_of_mem _ (List.mem_cons_of_mem _ (List.mem_cons_of_mem _ (List.mem_cons_self ..)))))))))))
 obtain ⟨fu11,y11,h11,i11⟩:=hf _ (List.mem_cons_of_mem _ (List.mem_cons_of_mem _ (List.mem_cons_of_mem _ (List.mem_cons_of_mem _ (List.mem_cons_of_mem _ (List.mem_cons_of_mem _ (List.mem_cons_of_mem _ (List.mem_cons_of_mem _ (List.mem_cons_of_mem _ (List.mem_cons_of_mem _ (List.mem_cons_of_mem _ (List.mem_cons_self ..))))))))))))
 obtain ⟨fu12,y12,h12,i12⟩:=hf _ (List.mem_cons_of_mem _ (List.mem_cons_of_mem _ (List.mem_cons_of_mem _ (List.mem_cons_of_mem _ (List.mem_cons_of_mem _ (List.mem_cons_of_mem _ (List.mem_cons_of_mem _ (List.mem_cons_of_mem _ (List.mem_cons_of_mem _ (List.mem_cons_of_mem _ (List.mem_cons_of_mem _ (List.mem_cons_of_mem _ (List.mem_cons_self ..)))))))))))))
 obtain ⟨a0,g0,b0⟩:=(Opens.int (k:= .i64) rfl).z fu0 _ _ h0 i0
 obtain ⟨a1,g1,b1⟩:=(Opens.int (k:= .i64) rfl).z fu1 _ _ h1 i1
 obtain ⟨a2,g2,b2⟩:=(Opens.int (k:= .i64) rfl).z fu2 _ _ h2 i2
 obtain ⟨⟨v3,l3⟩,g3,s3,n3,q3⟩:=opZ55 fu3 _ _ h3 i3
 obtain ⟨⟨v4,l4⟩,g4,s4,n4,q4⟩:=opZ56 fu4 _ _ h4 i4
 obtain ⟨⟨v5,l5⟩,g5,s5,n5,q5⟩:=opZ57 fu5 _ _ h5 i5
 obtain ⟨⟨v6,l6⟩,g6,s6,n6,q6⟩:=opZ22 fu6 _ _ h6 i6
 obtain ⟨⟨v7,l7⟩,g7,s7,n7,q7⟩:=opZ58 fu7 _ _ h7 i7
 obtain ⟨⟨v8,l8⟩,g8,s8,n8,q8⟩:=opZ59 fu8 _ _ h8 i8
 obtain ⟨⟨v9,l9⟩,g9,s9,n9,q9⟩:=opZ60 fu9 _ _ h9 i9
 obtain ⟨⟨v10,l10⟩,g10,s10,n10,q10⟩:=opZ46 fu10 _ _ h10 i10
 obtain ⟨a11,g11,b11⟩:=(Opens.int (k:= .i64) rfl).z fu11 _ _ h11 i11
 obtain ⟨a12,g12,b12⟩:=(Opens.int (k:= .i64) rfl).z fu12 _ _ h12 i12
 obtain ⟨z3,hz3⟩:=sl_shape s3
 have hz3:v3=sv z3 l3.length:=hz3
 subst hz3
 obtain ⟨z4,hz4⟩:=sl_shape s4
 have hz4:v4=sv z4 l4.length:=hz4
 subst hz4
 obtain ⟨z5,hz5⟩:=sl_shape s5
 have hz5:v5=sv z5 l5.length:=hz5
 subst hz5
 obtain ⟨z6,hz6⟩:=sl_shape s6
 have hz6:v6=sv z6 l6.length:=hz6
 subst hz6
 obtain ⟨z7,hz7⟩:=sl_shape s7
 have hz7:v7=sv z7 l7.length:=hz7
 subst hz7
 obtain ⟨z8,hz8⟩:=sl_shape s8
 have hz8:v8=sv z8 l8.length:=hz8
 subst hz8
 obtain ⟨z9,hz9⟩:=sl_shape s9
 have hz9:v9=sv z9 l9.length:=hz9
 subst hz9
 obtain ⟨z10,hz10⟩:=sl_shape s10
 have hz10:v10=sv z10 l10.length:=hz10
 subst hz10
 have e0:=parts_eq g0 (m:=1) (by simp[cf0]) (by simp[cf0])
 have e1:=parts_eq g1 (m:=2) (by simp[cf0]) (by simp[cf0])
 have e2:=parts_eq g2 (m:=3) (by simp[cf0]) (by simp[cf0])
 have e3:=parts_eq g3 (m:=4) (by simp[cf1]) (by simp[cf1])
 have e4:=parts_eq g4 (m:=5) (by simp[cf2]) (by simp[cf2])
 have e5:=parts_eq g5 (m:=6) (by simp[cf3]) (by simp[cf3])
 have e6:=parts_eq g6 (m:=7) (by simp[cf4]) (by simp[cf4])
 have e7:=parts_eq g7 (m:=8) (by simp[cf5]) (by simp[cf5])
 have e8:=parts_eq g8 (m:=9) (by simp[cf6]) (by simp[cf6])
 have e9:=parts_eq g9 (m:=10) (by simp[cf7]) (by simp[cf7])
 have e10:=parts_eq g10 (m:=11) (by simp[cf8]) (by simp[cf8])
 have e11:=parts_eq g11 (m:=12) (by simp[cf0]) (by simp[cf0])
 have e12:=parts_eq g12 (m:=13) (by simp[cf0]) (by simp[cf0])
 refine ⟨(⟨z3,z4,z5,z6,z7,z8,z9,z10,l9⟩,⟨a0,a1,a2,l3,l4,l5,l6,l7,l8,l9.map (·.pt),l10,a11,a12⟩),?_,⟨⟨s3,s4,s5,s6,s7,s8,⟨s9,fun p hp=>(q9 p hp).1⟩,s10,rfl⟩,fun p hp=>by obtain ⟨p0,hp0,rfl⟩:=List.mem_map.1 hp;exact (q9 p0 hp0).2,⟨q5,q7⟩⟩⟩
 simp only[List.drop_zero]at e0
 rw[e0,e1,e2,e3,e4,e5,e6,e7,e8,e9,e10,e11,e12,List.drop_eq_nil_of_le (by omega)];rfl
theorem opZ24:OpensZ enc Tryz.prog W 24 (fun p:Value×List (NV×Nd)=>[p.1]) (fun p=>Sl W p.1 (cellsOf ndE2 p.2) p.2.length∧p.2.length*Tryz.prog.bytesOf 62≤reachBytes∧∀a∈p.2,NdOkZ W a):=
 OpensZ.slice (sz:=13) I (by kernel_rfl) (by decide) ndE2_len opZ62
abbrev MeA:=Int×Value×List (NV×Nd)
abbrev meE (a:MeA):List Value:=meC a.1 a.2.1
structure MeOkZ (W:World) (a:MeA):Prop where
 ok:OkL W a.2.1 a.2.2
 nd:∀x∈a.2.2,NdOkZ W x
theorem opZ26:OpensZ enc Tryz.prog W 26 meE (MeOkZ W):=by
 intro fuel cs x h hz
 obtain ⟨hl,hf⟩:=OpensZ.fields (fs:=_) I h hz
 have cT:Tryz.prog.cellsOf 26=2:=by kernel_rfl
 have cf0:Tryz.prog.cellsOf 3=1:=by kernel_rfl
 have cf1:Tryz.prog.cellsOf 24=1:=by kernel_rfl
 rw[cT]at hl
 obtain ⟨fu0,y0,h0,i0⟩:=hf _ (List.mem_cons_self ..)
 obtain ⟨fu1,y1,h1,i1⟩:=hf _ (List.mem_cons_of_mem _ (List.mem_cons_self ..))
 obtain ⟨a0,g0,b0⟩:=(Opens.int (k:= .i64) rfl).z fu0 _ _ h0 i0
 obtain ⟨⟨v1,l1⟩,g1,s1,n1,q1⟩:=opZ24 fu1 _ _ h1 i1
 obtain ⟨z1,hz1⟩:=sl_shape s1
 have hz1:v1=sv z1 l1.length:=hz1
 subst hz1
 have e0:=parts_eq g0 (m:=1) (by simp[cf0]) (by simp[cf0])
 have e1:=parts_eq g1 (m:=2) (by simp[cf1]) (by simp[cf1])
 refine ⟨(a0,sv z1 l1.length,l1),?_,⟨⟨s1,fun x hx=>(q1 x hx).ok⟩,q1⟩⟩
 simp only[List.drop_zero]at e0
 rw[e0,e1,List.drop_eq_nil_of_le (by omega)];rfl
end Go.Proofs.YtgfdoognildoeaaGreat
namespace Go.Proofs.YtgfdoognildoeaaGreat
open Go.GX Go.RowKit
attribute [local irreducible] Calls Run RunL RunQ RunD HR HL HD blkC ownC mapC Rd slicesC iterC
open Nd
theorem pend_tk {l:List Nd} {k:Nat} {n:Nd} (h:l[k]? =some n):Me.pending (l.take (k+1))=Me.pending (l.take k)+(n.out.length+n.boxes.length):=by
 unfold Me.pending
 rw[take_succ_get h,List.map_append,List.sum_append];simp
theorem pend_le {xs:List (NV×Nd)} (hg:∀x∈xs,SmN x.2):∀k,Me.pending ((nds xs).take k)≤k*2000
 |0=>Nat.zero_le _
 |k+1=>by
  have ih:=pend_le hg k
  by_cases hk:k<xs.length
  ·obtain ⟨x,hx⟩:=getSome hk
   rw[pend_tk (nds_get hx)]
   have h1:=(hg x (List.mem_of_getElem? hx)).ou
   have h2:=(hg x (List.mem_of_getElem? hx)).bo
   omega
  ·rw [List.take_of_length_le (by rw[nds_len];omega)]
   rw[List.take_of_length_le (by rw[nds_len];omega)]at ih
   omega
theorem mpending_any (xs:List (NV×Nd)) (t:Int) (v:Value) (w:World) (h:OkL w v xs) (hg:∀x∈xs,SmN x.2) (hl:xs.length≤1000):
  Calls Tryz.prog 22 #[meV t v] w fun e w'=>e= .returned (.int .i64 (Me.pending (nds xs):Nat))∧Below w.heap.size w w':=by
 refine calls_hr Tryz.func22 I (Nat.le_of_ble_eq_true I) ?_
 refine HR.sub (σ':=[(0,meV t v)]) ⟨I,trivial⟩ ?_
 refine HR.ctl I ?_
 refine HR.region ?_
 refine HL.box I I ?_
 intro b1
 repeat' (first|refine zh ?_|refine HL.lenR (Rd.arg h.s) I I I ?_|intro (bk:Nat))
 refine HR.loop (ι:=Nat) (fun k=>k≤xs.length) (fun k=>[(3,.int .i64 (Me.pending ((nds xs).take k):Nat)),(7,v),(8,.int .i64 (xs.length:Int)),(9,.int .i64 (k:Int))]) (fun _=>[]) (fun k=>xs.length-k) 0 (Nat.zero_le _) ⟨I,I,I,I,trivial⟩ (Ent.pick [] I I) ?_
 rintro k hk ih
 have hk:k≤xs.length:=hk
 have hle:=pend_le hg k
 repeat' (first|refine zh ?_|intro (bk:Nat))
 refine HR.cond I (fun h2=>?_) (fun h2=>?_)
 rotate_left
 ·have hke:k=xs.length:=by have:¬(k:Int)<(xs.length:Int):=of_decide_eq_false h2;omega
  rw[hke,← nds_len,List.take_length]
  repeat' (first|refine zh ?_|intro (bk:Nat))
  refine HR.ret Tryz.func22 I [_] (fun _ _=>⟨I,trivial⟩) ?_
  exact fun w' hw=>⟨rfl,hw.belowB⟩
 have hlt:k<xs.length:=by have:(k:Int)<(xs.length:Int):=of_decide_eq_true h2;omega
 obtain ⟨⟨V,n⟩,hx⟩:=getSome hlt
 have hsn:SmN n:=hg _ (List.mem_of_getElem? hx)
 have h4:=hsn.ou
 have h5:=hsn.bo
 have hpt:=pend_tk (nds_get hx)
 have hpt:Me.pending ((nds xs).take (k+1))=Me.pending ((nds xs).take k)+(n.out.length+n.boxes.length):=hpt
 repeat' (first|refine zh ?_|refine HL.idxR (Rd.arg h.s) elemNd k I I I I hlt ?_|refine HL.loadE (us:=ndC V n) (Rd.arg h.s) I I I I (by simp) I (cellsOf_get ndE2_len hx) ?_|intro (bk:Nat))
 refine ih (k+1) _ _ hlt (by show xs.length-(k+1)<xs.length-k;omega) ⟨?_,rfl,rfl,rfl,trivial⟩ (Ent.pick [] I I)
 rw[hpt];rfl
theorem rpending_any (xs:List (NV×Nd)) (t:Int) (v:Value) (w:World) (h:OkL w v xs) (hg:∀x∈xs,SmN x.2) (hl:xs.length≤1000):
  Calls Tryz.prog 23 #[meV t v] w fun e w'=>e= .returned (.int .i64 (Me.pending (nds xs):Nat))∧Below w.heap.size w w':=by
 have cx:(cellsOf ndE2 xs).length=xs.length*13:=cellsOf_len ndE2_len _
 refine calls_hr Tryz.func23 I (Nat.le_of_ble_eq_true I) ?_
 refine HR.sub (σ':=[(0,meV t v)]) ⟨I,trivial⟩ ?_
 refine HR.ctl I ?_
 refine HR.region ?_
 refine HL.box I I ?_
 intro b1
 repeat' (first|refine zh ?_|intro (bk:Nat))
 refine HR.loop (ι:=Nat) (fun k=>k≤xs.length) (fun k=>[(1,ptr b1),(3,.int .i64 (Me.pending ((nds xs).take k):Nat)),(4,.int .i64 (k:Int))]) (fun _=>[meB b1 t v]) (fun k=>xs.length-k) 0 (Nat.zero_le _) ⟨I,I,I,trivial⟩ Ent.refl ?_
 rintro k hk ih
 have hk:k≤xs.length:=hk
 have hle:=pend_le hg k
 repeat' (first|refine zh ?_|refine HL.lenR (Rd.arg h.s) I I I ?_|intro (bk:Nat))
 refine HR.cond I (fun h2=>?_) (fun h2=>?_)
 rotate_left
 ·have hke:k=xs.length:=by have:¬(k:Int)<(xs.length:Int):=of_decide_eq_false h2;omega
  rw[hke,← nds_len,List.take_length]
  repeat' (first|refine zh ?_|intro (bk:Nat))
  refine HR.ret Tryz.func23 I [_] (fun _ _=>⟨I,trivial⟩) ?_
  exact fun w' hw=>⟨rfl,hw.belowB⟩
 have hlt:k<xs.length:=by have:(k:Int)<(xs.length:Int):=of_decide_eq_true h2;omega
 obtain ⟨⟨V,n⟩,hx⟩:=getSome hlt
 have hsn:SmN n:=hg _ (List.mem_of_getElem? hx)
 have h4:=hsn.ou
 have h5:=hsn.bo
 have hpt:Me.pending ((nds xs).take (k+1))=Me.pending ((nds xs).take k)+(n.out.length+n.boxes.length):=pend_tk (nds_get hx)
 repeat' (first|refine zh ?_|intro (bk:Nat))
 refine HR.regionQ hmix (by kernel_rfl) ?_
 repeat' (first|refine zq ?_|refine HQ.idxR (Rd.arg h.s) elemNd k I I I I hlt ?_|refine HQ.fieldN 5 (Rd.arg h.s) (by rw[cx];omega) I I I I I I I ?_|refine HQ.loadI (Rd.arg h.s) I I I I (cells_get ndE2_len hx (i:=5) I) ?_|refine HQ.fieldN 7 (Rd.arg h.s) (by rw[cx];omega) I I I I I I I ?_|refine HQ.loadI (Rd.arg h.s) I I I I (cells_get ndE2_len hx (i:=7) I) ?_|apply zb ?_ ?_|exact zc|(refine zi fun hb=>?_;try simp at hb))
 repeat' (first|refine zh ?_|intro (bk:Nat))
 refine ih (k+1) _ _ hlt (by show xs.length-(k+1)<xs.length-k;omega) ⟨rfl,?_,rfl,trivial⟩ Ent.refl
 rw[hpt]
 show some (Value.int .i64 _)=some (Value.int .i64 _)
 congr 2
 dsimp only
 omega
theorem foll_len (l:List Nd) (to:Int):∀(k:Nat) (p:List Int) (now:Int),(Me.foll l to k p now).1.length≤p.length+k
 |0,p,now=>Nat.le_refl _
 |k+1,p,now=>by
  unfold Me.foll
  split
  ·show p.length≤_;omega
  ·split
   ·show p.length≤_;omega
   ·split
    ·show (p++[now]).length≤_;rw[List.length_append,List.length_singleton];omega
    ·split
     ·refine Nat.le_trans (foll_len l to k (p++[now]) _) ?_
      rw[List.length_append,List.length_singleton];omega
     ·show (p++[now]).length≤_;rw[List.length_append,List.length_singleton];omega
theorem meshPaths_any (xs:List (NV×Nd)) (t:Int) (v:Value) (src to:Int) (w:World) (h:OkL w v xs) (hp:∀x∈xs,∀p∈x.2.parts,SmPt p):
  Calls Tryz.prog 5 #[meV t v,.int .i64 src,.int .i64 to] w fun e w'=>e= .returned (.bool true)∧Below w.heap.size w w':=by
 refine calls_hr Tryz.func5 I (Nat.le_of_ble_eq_true I) ?_
 refine HR.sub (σ':=[(0,meV t v),(1,.int .i64 src),(2,.int .i64 to)]) ⟨I,I,I,trivial⟩ ?_
 refine HR.ctl I ?_
 refine HR.region ?_
 refine HL.box I I ?_
 intro b3
 repeat' (first|refine zh ?_|intro (bk:Nat))
 refine HL.callX (r:=fun b:Bool=> .bool b) (Q:=fun b=>b=false→FitL xs) (G:=fun _=>[]) fn13 I I (fun w1 hw1=>great_any xs t v w1 (h.ext hw1.belowB)) ?_
 intro b hb
 cases b with
 |true=>
  repeat' (first|refine zh ?_|refine HL.callB fn9 I I (fun w1 _=>lives_any w1) ?_|intro (bk:Nat))
  refine HR.ret Tryz.func5 I [_] (fun _ _=>⟨I,trivial⟩) ?_
  exact fun w' hw=>⟨rfl,hw.belowB⟩
 |false=>
 have hf:=hb I
 have hl:xs.length≤1000:=Nat.le_trans hf.len (by decide)
 have hg:∀x∈xs,SmN x.2:=fun x hx=>(hf.fit x hx).sm (hp x hx)
 obtain ⟨P,hP⟩:∃P,P=Me.path (nds xs) src to:=⟨_,rfl⟩
 have hPl:P.1.length≤1000000:=by
  rw[hP]
  unfold Me.path
  split
  ·refine Nat.le_trans (show (Me.follow (nds xs) src to).1.length≤0+((nds xs).length+2)from foll_len (nds xs) to ((nds xs).length+2) [] src) ?_
   rw[nds_len]
   omega
  ·exact Nat.zero_le _
 repeat' (first|refine zh ?_|intro (bk:Nat))
 refine HL.callX (r:=fun x:Value=> .tuple ⟨[x,.bool P.2]⟩) (Q:=fun _=>True) (G:=fun x=>[ownC x 3 1 P.1.length (cellsOf iC P.1)]) fn17 I I (fun w1 hw1=>by rw[hP];exact (mpath_any xs t src to v w1 (h.ext hw1.belowB) hg hl).mono fun e w' ⟨x,e1,e2⟩=>⟨x,e1,trivial,e2⟩) ?_
 intro va _
 repeat' (first|refine zh ?_|intro (bk:Nat))
 refine HL.callX (r:=fun x:Value=> .tuple ⟨[x,.bool P.2]⟩) (Q:=fun _=>True) (G:=fun x=>[ownC x 3 1 P.1.length (cellsOf iC P.1)]) fn18 I I (fun w1 hw1=>by rw[hP];exact (rpath_any xs t src to v w1 (h.ext hw1.belowB) hg hl).mono fun e w' ⟨x,e1,e2⟩=>⟨x,e1,trivial,e2⟩) ?_
 intro vb _
 repeat' (first|refine zh ?_|intro (bk:Nat))
 refine HR.regionD [(0,true),(1,true),(2,true),(3,true),(4,true),(5,true),(6,false),(7,true),(8,true),(9,true),(11,true),(10,false),(12,false),(13,true),(14,true),(15,true),(16,true),(18,true),(17,false),(19,false),(20,true),(21,true),(22,true),(23,false),(24,true),(25,true)] [0,1,2] I I hmix (by kernel_rfl) ?_
 refine HD.ev I I I ?_
 refine HD.ev I I I ?_
 refine HD.ev I I I ?_
 refine HD.setB 30 true I (by simp) ?_
 repeat' (first|refine zd ?_|fail)
 refine HD.one I ?_
 refine HL.callB (r:= .bool true) fn19 I I (fun w1 hw1=>by have:=same07I_any P.1 P.1 va vb w1 ((Rd.own 1 rfl).at hw1) ((Rd.own 0 rfl).at hw1) hPl;simpa using this) ?_
 refine HL.back [0,1,2] I I ?_
 repeat' (first|refine zd ?_|fail)
 refine HD.one I ?_
 refine HL.callB fn20 I I (fun w1 hw1=>mloops_any xs t v w1 (h.ext hw1.belowB) hg hl) ?_
 refine HL.back [0,1,2] I I ?_
 repeat' (first|refine zd ?_|fail)
 refine HD.one I ?_
 refine HL.callB fn21 I I (fun w1 hw1=>rloops_any xs t v w1 (h.ext hw1.belowB) hg hl) ?_
 refine HL.back [0,1,2] I I ?_
 refine HD.ev I I I ?_
 refine HD.setB 41 true I (by simp) ?_
 repeat' (first|refine zd ?_|fail)
 refine HD.one I ?_
 refine HL.callB fn22 I I (fun w1 hw1=>mpending_any xs t v w1 (h.ext hw1.belowB) hg hl) ?_
 refine HL.back [0,1,2] I I ?_
 repeat' (first|refine zd ?_|fail)
 refine HD.one I ?_
 refine HL.callB fn23 I I (fun w1 hw1=>rpending_any xs t v w1 (h.ext hw1.belowB) hg hl) ?_
 refine HL.back [0,1,2] I I ?_
 refine HD.ev I I I ?_
 refine HD.setB 48 true I (by simp) ?_
 repeat' (first|refine zd ?_|fail)
 refine HD.one I ?_
 refine HL.callB (r:= .bool true) fn9 I I (fun w1 _=>lives_any w1) ?_
 refine HL.back [0,1,2] I I ?_
 repeat' (first|refine zd ?_|fail)
 refine HD.nil ?_
 repeat' (first|refine zh ?_|intro (bk:Nat))
 refine HR.ret Tryz.func5 I [_] (fun _ _=>⟨I,trivial⟩) ?_
 exact fun w' hw=>⟨rfl,hw.belowB⟩
end Go.Proofs.YtgfdoognildoeaaGreat
