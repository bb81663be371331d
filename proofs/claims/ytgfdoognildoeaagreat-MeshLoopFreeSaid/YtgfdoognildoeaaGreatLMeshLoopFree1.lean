/- A part of the proof: contracts of the program's functions. Conditions: none. -/
import Derived.Carry
import Derived.Deep.MidRow
import Derived.Deep.Quiet
import Derived.Laws.IdiomRangeMap
import Derived.Laws.MakeOwn
import Derived.Laws.StructEq
import Derived.Laws.Tables
import Derived.Lib.AppendStr
import Derived.Lib.AppendZerosOnto
import Derived.Lib.OthersKept
import Derived.Lib.Overlaps
import Derived.Lib.OwnBridge
import Derived.Lib.SlicesCompact
import Derived.MapKept
import Derived.Orders
import Derived.OrdersHeld
import Derived.Scope
import Derived.SizedLaws
import Derived.SliceStrings
import Derived.Sort.Grow
import Derived.StillTail
import Derived.Test.YtgfdoognildoeaaGreatProg
import Derived.Test.YtgfdoognildoeaaGreatShelf
import Derived.WalkKit
import Derived.WalkLawsBesides
import Derived.WalkSpells
import Derived.Test.YtgfdoognildoeaaGreatLB1
import Derived.Test.YtgfdoognildoeaaGreatLB10
import Derived.Test.YtgfdoognildoeaaGreatLB11
import Derived.Test.YtgfdoognildoeaaGreatLB12
import Derived.Test.YtgfdoognildoeaaGreatLB13
import Derived.Test.YtgfdoognildoeaaGreatLB14
import Derived.Test.YtgfdoognildoeaaGreatLB2
import Derived.Test.YtgfdoognildoeaaGreatLB3
import Derived.Test.YtgfdoognildoeaaGreatLB4
import Derived.Test.YtgfdoognildoeaaGreatLB5
import Derived.Test.YtgfdoognildoeaaGreatLB6
import Derived.Test.YtgfdoognildoeaaGreatLB7
import Derived.Test.YtgfdoognildoeaaGreatLB8
import Derived.Test.YtgfdoognildoeaaGreatLB9
set_option linter.unusedVariables false
set_option linter.unusedSectionVars false
set_option linter.unusedSimpArgs false
set_option maxRecDepth 100000
set_option maxHeartbeats 4000000
namespace Me
open Go.GX Nd Tp
theorem jNa {addrs polls:List Int} (h:(Kj addrs polls).2≠0):(Kj addrs polls).1=jCn:=by
 unfold Kj at h ⊢
 split
 ·rfl
 ·rename_i h1
  rw[if_neg h1]at h
  split
  ·rfl
  ·rename_i h2;rw[if_neg h2]at h;exact absurd I h
end Me
namespace Go.Proofs.YtgfdoognildoeaaGreat
open Go.GX Go.RowKit
attribute [local irreducible] Calls Run jZ jf JK HR HL HD jT jG JY Rd jK jY
open Nd
theorem meshLoopFree_any (addrs:List Int) (va:Value) (polls:List Int) (vp:Value) (l:List OpA) (vl:Value) (w:World) (ha:Sl w va (cellsOf iC addrs) addrs.length) (hp:Sl w vp (cellsOf iC polls) polls.length) (hl:Sl w vl (cellsOf opE l) l.length) (hO:∀x∈l,OpOk w x):
  Calls Tryz.prog 7 #[va,vp,vl] w fun e w'=>e= .returned (.bool true)∧Below w.heap.size w w':=by
 have cl:(cellsOf opE l).length=l.length*8:=jC zC _
 refine jD Tryz.func7 I (Nat.le_of_ble_eq_true I) ?_
 refine HR.sub (σ':=[(0,va),(1,vp),(2,vl)]) ⟨I,I,I,trivial⟩ ?_
 repeat' (first|refine zh ?_|intro (bk:Nat))
 refine HL.JC (r:=fun b:Bool=> .bool b) (Q:=fun b=>b=true→SmallL addrs polls l) (G:=fun _=>[]) fn31 I I (fun w1 hw1=>jEd addrs polls l va vp vl w1 (ha.ext hw1.jE) (hp.ext hw1.jE) (hl.ext hw1.jE) (fun x hx=>(hO x hx).ext hw1.jE)) ?_
 intro b hb
 cases b with
 |false=>
  repeat' (first|refine zh ?_|refine HL.jR fn9 I I (fun w1 _=>Zc w1) ?_|intro (bk:Nat))
  refine HR.ret Tryz.func7 I [_] (fun _ _=>⟨I,trivial⟩) ?_
  exact fun w' hw=>⟨rfl,hw.jE⟩
 |true=>
 have hs:SmallL addrs polls l:=hb I
 clear hb
 have ha6:=hs.ad
 have hp6:=hs.po
 have hl80:=hs.le
 obtain ⟨M,hM⟩:∃M,M=Me.Kj addrs polls:=⟨_,rfl⟩
 repeat' (first|refine zh ?_|intro (bk:Nat))
 refine HL.JC (r:=fun x:SV×List (NV×Nd)×List Chunk=> .tuple ⟨[meV 0 (sv x.1 x.2.1.length),.int .i64 M.2]⟩) (Q:=fun x=>jHm x M.1.nodes) (G:=fun x=>[cNd (sv x.1 x.2.1.length) x.2.1,jB x.2.2]) fn10 I I (fun w1 hw1=>by rw[hM];exact jBa addrs polls va vp w1 (ha.ext hw1.jE) (hp.ext hw1.jE) (by omega) (by omega)) ?_
 rintro ⟨y0,ys0,G0⟩ ⟨⟨hN0,hO0⟩,hG0⟩
 have hN0:nds ys0=M.1.nodes:=hN0
 have hO0:∀z∈ys0,Own z.1 G0 z.2:=hO0
 have hG0:∀z∈ys0,GdN z.2:=hG0
 repeat' (first|refine zh ?_|intro (bk:Nat))
 generalize bk=b7
 refine HR.cond I (fun h1=>?_) (fun h1=>?_)
 ·have h1:M.2≠0:=by have h1:(M.2 != 0)=true:=h1;simpa using h1
  have h0:ys0.length=0:=by rw[← JG,hN0,hM,Me.jNa (by rw[← hM];exact h1)];rfl
  repeat' (first|refine zh ?_|refine HL.JN (Rd.own 1 I) I I I ?_|refine HL.jR fn9 I I (fun w1 _=>Zc w1) ?_|apply zb ?_ ?_|exact zc|(refine zi fun hb=>?_;try simp at hb)|intro (bk:Nat))
  refine HR.ret Tryz.func7 I [_] (fun _ _=>⟨I,trivial⟩) ?_
  exact fun w' hw=>⟨by simp[jC2,h0],hw.jE⟩
 have h1:M.2=0:=by have h1:(M.2 != 0)=false:=h1;simpa using h1
 have hM2:(Me.Kj addrs polls).2=0:=by rw[← hM];exact h1
 have hlen0:ys0.length=addrs.length:=by rw[← JG,hN0,hM,(Me.Inv.new (C:=jN0) hM2).2.2]
 repeat' (first|refine zh ?_|refine HL.JN (Rd.own 1 I) I I I ?_|refine HL.JN (Rd.arg ha) I I I ?_|intro (bk:Nat))
 refine HR.cond I (fun h2=>?_) (fun h2=>?_)
 ·have h2:((ys0.length:Int) != (addrs.length:Int))=true:=h2
  rw[hlen0]at h2
  simp at h2
 repeat' (first|refine zh ?_|intro (bk:Nat))
 refine HR.ent (Ent.trans (Ent.pick (H':=[cNd (sv y0 ys0.length) ys0,jB G0]++[meB b7 0 (sv y0 ys0.length)]) [1,2,0] I I) (Ent.trans Ent.group (Ent.pick (H':=[meB b7 0 (sv y0 ys0.length),jB [cNd (sv y0 ys0.length) ys0,jB G0]]) [1,0] I I))) ?_
 obtain ⟨A,hA⟩:∃A:Nat→Me.Mesh,A=Me.runs M.1 (opsOf l):=⟨_,rfl⟩
 have hR:∀i,i≤l.length→Me.Ran jN0 M.1 (A i) i:=fun i hi=>by rw[hA,hM];exact ran0 hM2 (by rw[List.length_map];omega) i (by rw[List.length_map];exact hi)
 have hAs:∀i x,l[i]? =some x→A (i+1)=(Me.next (A i) x.2).1:=fun i x hx=>by rw[hA];exact jAQ (jGN hx)
 have hA0:A 0=M.1:=by rw[hA];rfl
 refine HR.loop (ι:=Nat×SV×List (NV×Nd)×List Chunk) (fun x=>x.1≤l.length∧nds x.2.2.1=(A x.1).nodes∧(∀ w2,(jB x.2.2.2).p w2→OkL w2 (sv x.2.1 x.2.2.1.length) x.2.2.1)∧∀z∈x.2.2.1,GdN z.2) (fun x=>[(0,va),(1,vp),(2,vl),(7,ptr b7),(9,.int .i64 (x.1:Int))]) (fun x=>[meB b7 (A x.1).tick (sv x.2.1 x.2.2.1.length),jB x.2.2.2]) (fun x=>l.length-x.1) (0,y0,ys0,[cNd (sv y0 ys0.length) ys0,jB G0]) ⟨Nat.zero_le _,by rw[hA0];exact hN0,fun w2 hg2=>⟨zB (jM hg2 (c:=cNd (sv y0 ys0.length) ys0) (by simp)),fun z hz=>hO0 z hz w2 (jM hg2 (by simp))⟩,hG0⟩ ⟨I,I,I,I,I,trivial⟩ (Ent.of_eq (by rw[hA0,hM,(Me.Inv.new (C:=jN0) hM2).2.1])) ?_
 rintro ⟨i,y,ys,G⟩ ⟨hi,hN,hS,hG⟩ ih
 have hi:i≤l.length:=hi
 have hN:nds ys=(A i).nodes:=hN
 have hS:∀w2,(jB G).p w2→OkL w2 (sv y ys.length) ys:=hS
 have hG:∀z∈ys,GdN z.2:=hG
 have hRi:=hR i hi
 have hlen:ys.length=addrs.length:=by
  rw[← hlen0,← JG,← JG,hN,hN0,← List.length_map (f:=fun n:Nd=>n.addr),hRi.adr,List.length_map]
 obtain ⟨t,ht⟩:∃t,t=(A i).tick:=⟨_,rfl⟩
 have ht0:0≤t:=by rw[ht];exact hRi.t0
 have ht1:t≤1000:=by have:=hRi.t1;omega
 have hAi:A i=⟨t,nds ys⟩:=by rw[ht,hN]
 refine HR.ent (H':=[meB b7 t (sv y ys.length),jB G]) (Ent.of_eq (by rw[ht])) ?_
 repeat' (first|refine zh ?_|refine HL.JN (Rd.arg hl) I I I ?_|intro (bk:Nat))
 refine HR.cond I (fun h3=>?_) (fun h3=>?_)
 rotate_left
 ·repeat' (first|refine zh ?_|refine HL.jR fn9 I I (fun w1 _=>Zc w1) ?_|intro (bk:Nat))
  refine HR.ret Tryz.func7 I [_] (fun _ _=>⟨I,trivial⟩) ?_
  exact fun w' hw=>⟨rfl,hw.jE⟩
 have h3:i<l.length:=by have:(i:Int)<(l.length:Int):=of_decide_eq_true h3;omega
 obtain ⟨x,hx⟩:=jJ h3
 have hox:=hO x (List.mem_of_getElem? hx)
 have hwx:=hs.ok x (List.mem_of_getElem? hx)
 obtain ⟨X,hX⟩:∃X,X=Me.next ⟨t,nds ys⟩ x.2:=⟨_,rfl⟩
 have hA1:A (i+1)=X.1:=by rw[hAs i x hx,hX,hAi]
 repeat' (first|refine zh ?_|intro (bk:Nat))
 refine HR.join (ι:=Nat×(SV×List (NV×Nd)×List Chunk)×Value) (fun z=>RfL (sv y ys.length) ys z.2.1 X.1.nodes∧∀q∈z.2.1.2.1,GdN q.2) (fun z=>[(0,va),(1,vp),(2,vl),(7,ptr b7),(9,.int .i64 (i:Int)),(10,ptr z.1)]) (fun z=>[meB z.1 X.1.tick (sv z.2.1.1 z.2.1.2.1.length),jB z.2.1.2.2,meB b7 t (sv y ys.length),jB G]) ?_ (fun hj=>?_)
 rotate_left
 ·refine HR.kM [0,1] I I Jc ?_
  refine za 0 ?_
  refine za 1 ?_
  refine za 2 ?_
  refine HA.rd 3 (by kernel_rfl) I I (jFB (Rd.arg hl) jCL i I I I h3) ?_
  refine HA.rd 4 (by kernel_rfl) I I (jAe (us:=opE x) (Rd.arg hl) I I I (by simp) I (jH zC hx)) ?_
  refine HA.two 5 9 (by kernel_rfl) I I ?_ ?_
  ·refine HL.JC (r:=fun x:(SV×List (NV×Nd)×List Chunk)×Value=> .tuple ⟨[meV X.1.tick (sv x.1.1 x.1.2.1.length),x.2]⟩) (Q:=fun x=>RfL (sv y ys.length) ys x.1 X.1.nodes∧∀q∈x.1.2.1,GdN q.2) (G:=fun x=>[jB x.1.2.2]) fn32 I I (fun w1 hw1=>by rw[hX];exact (jBZ t _ ys x w1 (hS w1 (Sat.grp 1 hw1 I)) hG (by omega) (hox.ext hw1.jE) hwx.1).mono fun e w' ⟨x,e1,e2,e3⟩=>⟨x,e1,⟨e2.1,e2.2.1⟩,e3⟩) ?_
   rintro ⟨⟨y2,ys2,G2⟩,vd⟩ hQ
   refine HL.jh [1,2] I I ?_
   refine za 6 ?_
   refine za 7 ?_
   refine za 8 ?_
   refine HA.one 9 (by kernel_rfl) I ?_
   refine HL.alloc I I ?_
   intro b10
   refine HL.jh [2,3] I I ?_
   refine HA.one 10 (by kernel_rfl) I ?_
   repeat' (first|refine zn ?_|intro (bk:Nat))
   refine HL.jh [2,3] I I ?_
   refine za 11 ?_
   refine HA.done (by kernel_rfl) ?_
   exact hj (b10,(y2,ys2,G2),vd) _ _ hQ ⟨I,I,I,I,I,I,trivial⟩ (Ent.pick [0,1,2,3] I I)
  ·refine HL.alloc I I ?_
   intro b10
   refine HL.jh [1,2] I I ?_
   refine HA.one 5 (by kernel_rfl) I ?_
   refine HL.JC (r:=fun x:(SV×List (NV×Nd)×List Chunk)×Value=> .tuple ⟨[meV X.1.tick (sv x.1.1 x.1.2.1.length),x.2]⟩) (Q:=fun x=>RfL (sv y ys.length) ys x.1 X.1.nodes∧∀q∈x.1.2.1,GdN q.2) (G:=fun x=>[jB x.1.2.2]) fn32 I I (fun w1 hw1=>by rw[hX];exact (jBZ t _ ys x w1 (hS w1 (Sat.grp 2 hw1 I)) hG (by omega) (hox.ext hw1.jE) hwx.1).mono fun e w' ⟨x,e1,e2,e3⟩=>⟨x,e1,⟨e2.1,e2.2.1⟩,e3⟩) ?_
   rintro ⟨⟨y2,ys2,G2⟩,vd⟩ hQ
   refine HL.jh [2,3] I I ?_
   refine za 6 ?_
   refine za 7 ?_
   refine za 8 ?_
   refine HA.one 10 (by kernel_rfl) I ?_
   repeat' (first|refine zn ?_|intro (bk:Nat))
   refine HL.jh [2,3] I I ?_
   refine za 11 ?_
   refine HA.done (by kernel_rfl) ?_
   exact hj (b10,(y2,ys2,G2),vd) _ _ hQ ⟨I,I,I,I,I,I,trivial⟩ (Ent.pick [1,0,2,3] I I)
 rintro ⟨b10,⟨y2,ys2,G2⟩,vd⟩ ⟨⟨hN2,hI2⟩,hG2⟩
 have hN2:nds ys2=X.1.nodes:=hN2
 have hI2:ImpL (sv y ys.length) (sv y2 ys2.length) ys ys2 G2:=hI2
 have hG2:∀q∈ys2,GdN q.2:=hG2
 have hR2:=hR (i+1) h3
 have hN2':nds ys2=(A (i+1)).nodes:=by rw[hA1];exact hN2
 have hadr:(nds ys2).map (·.addr)=(nds ys).map (·.addr):=by rw[hN2',hN,hR2.adr,hRi.adr]
 have hlen2:ys2.length=addrs.length:=by rw[← hlen,← JG,← JG,← List.length_map (f:=fun n:Nd=>n.addr),hadr,List.length_map]
 have htick:X.1.tick=if x.2.kind=0 then t+1 else t:=by
  have:=(hRi.step (by omega) x.2 (fit0 _)).2
  rw[hAi]at this;rw[hX];exact this
 have hA2:∀w2,(jB [jB G2,jB G]).p w2→OkL w2 (sv y2 ys2.length) ys2:=fun w2 hg2=>hI2 w2 (hS w2 (jM hg2 (by simp))) (jM hg2 (by simp))
 have hAo:∀w2,(jB [jB G2,jB G]).p w2→OkL w2 (sv y ys.length) ys:=fun w2 hg2=>hS w2 (jM hg2 (by simp))
 have rd2:∀ {H:List Chunk} (k:Nat),zH H k=some (jB [jB G2,jB G])→Rd (base w) H (sv y2 ys2.length) (cellsOf Zg ys2) ys2.length:=fun k hH=>jPn fun w2 hw=>(hA2 w2 (Sat.grp k hw hH)).s
 have rdo:∀ {H:List Chunk} (k:Nat),zH H k=some (jB [jB G2,jB G])→Rd (base w) H (sv y ys.length) (cellsOf Zg ys) ys.length:=fun k hH=>jPn fun w2 hw=>(hAo w2 (Sat.grp k hw hH)).s
 refine HR.ent (Ent.trans (Ent.pick (H':=[jB G2,jB G]++[meB b10 X.1.tick (sv y2 ys2.length),meB b7 t (sv y ys.length)]) [1,3,0,2] I I) (Ent.trans Ent.group (Ent.pick (H':=[meB b10 X.1.tick (sv y2 ys2.length),meB b7 t (sv y ys.length),jB [jB G2,jB G]]) [1,2,0] I I))) ?_
 obtain ⟨T,hT⟩:∃T,T=X.1.tick:=⟨_,rfl⟩
 rw[← hT]at htick ⊢
 repeat' (first|refine zh ?_|refine HL.JN (rd2 2 I) I I I ?_|refine HL.JN (Rd.arg ha) I I I ?_|refine HL.JA (Rd.arg hl) jCL i I I I I h3 ?_|refine HL.jo 0 (Rd.arg hl) (by rw[cl];omega) I I I I I I I ?_|refine HL.ji (Rd.arg hl) I I I I (jQ zC hx (i:=0) I) ?_|apply zb ?_ ?_|exact zc|(refine zi fun hb=>?_;try simp at hb)|intro (bk:Nat))
 refine HR.cond I (fun h4=>?_) (fun h4=>?_)
 ·have h4:((((ys2.length:Int) != (addrs.length:Int))||((x.2.kind==0)&&(T != t+1)))||((x.2.kind != 0)&&(T != t)))=true:=h4
  rw[hlen2,htick]at h4
  by_cases k0:x.2.kind=0<;>simp[k0]at h4
 repeat' (first|refine zh ?_|intro (bk:Nat))
 refine HR.loop (ι:=Nat) (fun k=>k≤ys2.length) (fun k=>[(0,va),(1,vp),(2,vl),(7,ptr b7),(9,.int .i64 (i:Int)),(10,ptr b10),(12,.int .i64 (k:Int))]) (fun _=>[meB b10 T (sv y2 ys2.length),meB b7 t (sv y ys.length),jB [jB G2,jB G]]) (fun k=>ys2.length-k) 0 (Nat.zero_le _) ⟨I,I,I,I,I,I,I,trivial⟩ Ent.refl ?_
 rintro k hk ih2
 have hk:k≤ys2.length:=hk
 repeat' (first|refine zh ?_|refine HL.JN (rd2 2 I) I I I ?_|intro (bk:Nat))
 refine HR.cond I (fun h5=>?_) (fun h5=>?_)
 rotate_left
 ·clear ih2
  repeat' (first|refine zh ?_|refine HL.jR (r:= .bool false) fn20 I I (fun w1 hw1=>by have:=jDC ys2 T (sv y2 ys2.length) w1 (hA2 w1 (Sat.grp 2 hw1 I)) (fun z hz=>(hG2 z hz).sm) (by omega);rw[hN2',hR2.inv.jHP]at this;exact this) ?_|intro (bk:Nat))
  exact ih (i+1,y2,ys2,[jB G2,jB G]) _ _ ⟨h3,hN2',hA2,hG2⟩ (by show l.length-(i+1)<l.length-i;omega) ⟨I,I,I,I,I,trivial⟩ (Ent.trans (Ent.pick [1,2] I I) (Ent.of_eq (by rw[hT,hA1];rfl)))
 have hlt:k<ys2.length:=by have:(k:Int)<(ys2.length:Int):=of_decide_eq_true h5;omega
 obtain ⟨z2,hz2⟩:=jJ hlt
 obtain ⟨z,hz⟩:=jJ (show k<ys.length by omega)
 have hz12:z2.2.addr=z.2.addr:=by
  have e:((nds ys2).map (·.addr))[k]? =((nds ys).map (·.addr))[k]? :=by rw[hadr]
  unfold nds at e
  simp only[List.getElem?_map,hz2,hz]at e
  exact Option.some.inj e
 have c2:(cellsOf Zg ys2).length=ys2.length*13:=jC jm _
 have co:(cellsOf Zg ys).length=ys.length*13:=jC jm _
 repeat' (first|refine zh ?_|intro (bk:Nat))
 refine HR.JF Jc (by kernel_rfl) ?_
 repeat' (first|refine zq ?_|refine HQ.JA (rd2 2 I) Jm k I I I I hlt ?_|refine HQ.jo 0 (rd2 2 I) (by rw[c2];omega) I I I I I I I ?_|refine HQ.ji (rd2 2 I) I I I I (jQ jm hz2 (i:=0) I) ?_|refine HQ.JA (rdo 2 I) Jm k I I I I (show k<ys.length by omega) ?_|refine HQ.jo 0 (rdo 2 I) (by rw[co];omega) I I I I I I I ?_|refine HQ.ji (rdo 2 I) I I I I (jQ jm hz (i:=0) I) ?_|apply zb ?_ ?_|exact zc|(refine zi fun hb=>?_;try simp at hb))
 refine HR.cond I (fun h6=>?_) (fun h6=>?_)
 ·have h6:(z2.2.addr != z.2.addr)=true:=h6
  rw[hz12]at h6
  simp at h6
 repeat' (first|refine zh ?_|intro (bk:Nat))
 exact ih2 (k+1) _ _ hlt (by show ys2.length-(k+1)<ys2.length-k;omega) ⟨I,I,I,I,I,I,I,trivial⟩ Ent.refl
end Go.Proofs.YtgfdoognildoeaaGreat
namespace Go.Proofs.YtgfdoognildoeaaGreat
open Go.GX Go.RowKit
attribute [local irreducible] Calls Run jZ jf JK HR HL HD jT jG JY Rd jK jY
open Nd
theorem meshLoopFree.meshLoopFree_any (l0:List Int) (v0:Value) (l1:List Int) (v1:Value) (l2:List OpA) (v2:Value) (w:World) (s0:Sl w v0 (cellsOf iC l0) l0.length) (_:∀a∈l0,(Lit.int .i64 a).wf=true) (s1:Sl w v1 (cellsOf iC l1) l1.length) (_:∀a∈l1,(Lit.int .i64 a).wf=true) (s2:Sl w v2 (cellsOf opE l2) l2.length) (g2:∀a∈l2,OpOk w a):
  Calls Tryz.prog 7 #[v0,v1,v2] w fun e w'=>e= .returned (.bool true)∧Below w.heap.size w w':=Proofs.YtgfdoognildoeaaGreat.meshLoopFree_any l0 v0 l1 v1 l2 v2 w s0 s1 s2 g2
end Go.Proofs.YtgfdoognildoeaaGreat
