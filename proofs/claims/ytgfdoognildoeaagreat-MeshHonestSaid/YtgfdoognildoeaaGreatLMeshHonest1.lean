/- A part of the proof: contracts of the program's functions. Conditions: none. -/
import Derived.Carry
import Derived.Deep.MidRow
import Derived.Deep.Quiet
import Derived.Laws.IdiomRangeMap
import Derived.Laws.MakeOwn
import Derived.Laws.StructEq
import Derived.Laws.Tables
import Derived.Lib.AppendStr
import Derived.Lib.AppendZerosOnto
import Derived.Lib.OthersKept
import Derived.Lib.Overlaps
import Derived.Lib.OwnBridge
import Derived.Lib.SlicesCompact
import Derived.MapKept
import Derived.Orders
import Derived.OrdersHeld
import Derived.Scope
import Derived.SizedLaws
import Derived.SliceStrings
import Derived.Sort.Grow
import Derived.StillTail
import Derived.Test.YtgfdoognildoeaaGreatProg
import Derived.Test.YtgfdoognildoeaaGreatShelf
import Derived.WalkKit
import Derived.WalkLawsBesides
import Derived.WalkSpells
import Derived.Test.YtgfdoognildoeaaGreatLB1
import Derived.Test.YtgfdoognildoeaaGreatLB10
import Derived.Test.YtgfdoognildoeaaGreatLB11
import Derived.Test.YtgfdoognildoeaaGreatLB12
import Derived.Test.YtgfdoognildoeaaGreatLB13
import Derived.Test.YtgfdoognildoeaaGreatLB14
import Derived.Test.YtgfdoognildoeaaGreatLB2
import Derived.Test.YtgfdoognildoeaaGreatLB3
import Derived.Test.YtgfdoognildoeaaGreatLB4
import Derived.Test.YtgfdoognildoeaaGreatLB5
import Derived.Test.YtgfdoognildoeaaGreatLB6
import Derived.Test.YtgfdoognildoeaaGreatLB7
import Derived.Test.YtgfdoognildoeaaGreatLB8
import Derived.Test.YtgfdoognildoeaaGreatLB9
set_option linter.unusedVariables false
set_option linter.unusedSectionVars false
set_option linter.unusedSimpArgs false
set_option maxRecDepth 100000
set_option maxHeartbeats 4000000
namespace Me
open Go.GX Nd Tp
theorem Inv.mono {C C':Ctx} {l:List Nd.Nd} (h:Inv C l) (hD:∀f,C.D f→C'.D f) (hK:∀p,C.K p→C'.K p) (hM:∀a d,C.M a d→C'.M a d):Inv C' l:=
 ⟨h.ord,h.dis,h.rt,fun x hx s hs=>⟨(h.out x hx s hs).bea,(h.out x hx s hs).pol,fun e=>hD _ ((h.out x hx s hs).dat e)⟩,fun x hx b hb=>⟨(h.bx x hx b hb).1,hD _ (h.bx x hx b hb).2⟩,fun x hx=>hK _ (h.pt x hx),fun x hx d hd=>hM _ _ (h.ib x hx d hd)⟩
theorem Ran.mono {C C':Ctx} {m0 m:Mesh} {k:Nat} (h:Ran C m0 m k) (hD:∀f,C.D f→C'.D f) (hK:∀p,C.K p→C'.K p) (hM:∀a d,C.M a d→C'.M a d):Ran C' m0 m k:=⟨h.inv.mono hD hK hM,h.adr,h.t0,h.t1⟩
end Me
namespace Go.Proofs.YtgfdoognildoeaaGreat
open Go.GX Go.RowKit
attribute [local irreducible] Calls Run jZ jf JK HR HL HD jT jG JY Rd jK jY
open Nd Me
theorem jJD {te:By} {id:Int} {p:By} (h:te.length≤64) (hp:p∈(zF te id).1):∃b:UInt8,p=b::0::1::te:=by
 unfold zF at hp
 rw[if_neg (by omega)]at hp
 split at hp
 ·cases hp
 ·obtain ⟨i,hi,rfl⟩:=List.mem_map.1 hp
  have hc:jAX te.length=1:=by unfold jAX;omega
  rw[hc]at hi
  have h0:i=0:=by simpa using hi
  subst h0
  refine ⟨u8 id,?_⟩
  unfold piece
  rw[hc,show te.drop (64*0)=te from rfl,List.take_of_length_le h]
  rfl
theorem jNM {l:List Pt} {s now:Int} {b:UInt8} {te:By} (he:(jCm l s now (b::0::1::te)).e=0):(jCm l s now (b::0::1::te)).t=te:=by
 unfold jCm at he ⊢
 split at he
 ·rename_i h;exact absurd he h
 ·rename_i h
  rw[if_neg h,if_pos (show b8 (b::0::1::te) 2=1 from rfl)]
  rfl
def ctxH (L:List Me.Op):Ctx where
 D f:=f.da.length≤1000∧∃x∈L,x.kind=1∧x.n=f.so∧x.m=f.ta∧∃b:UInt8,f.da=b::0::1::x.te
 K:=PtSm
 M a d:=∃x∈L,x.kind=1∧x.n=d.so∧x.m=a∧x.te=d.te
 hD _ _ _ _ h:=h
 hK l f now _ hd he:=by
  obtain ⟨hd,x,hx,h1,h2,h3,b,h4⟩:=hd
  refine ⟨jGM hd he,fun _=>⟨x,hx,h1,h2,h3,?_⟩⟩
  rw[h4]at he ⊢
  exact (jNM he).symm
 hE l now life _:=jGJ l now life
 hN:=jRD
theorem fitH {L:List Me.Op} {x:Me.Op} (hx:x∈L) (hl:x.te.length≤64):Fit (ctxH L) x:=fun h=>⟨fun e=>⟨x,hx,h,rfl,e,rfl⟩,fun _ _ _ hp=>⟨jBD hp,x,hx,h,rfl,rfl,jJD hl hp⟩⟩
theorem jMR {L L':List Me.Op} (h:∀x∈L,x∈L') {m0 m:Mesh} {k:Nat} (hr:Ran (ctxH L) m0 m k):Ran (ctxH L') m0 m k:=
 hr.mono (fun f ⟨hd,x,hx,h'⟩=>⟨hd,x,h x hx,h'⟩) (fun _ h=>h) fun a d ⟨x,hx,h'⟩=>⟨x,h x hx,h'⟩
theorem ranH {addrs polls:List Int} {l:List Me.Op} (h:(Kj addrs polls).2=0) (hl:l.length≤1000) (ht:∀x∈l,x.te.length≤64):∀i,i≤l.length→Ran (ctxH (l.take i)) (Kj addrs polls).1 (runs (Kj addrs polls).1 l i) i
 |0,_=>Ran.new h
 |i+1,hi=>by
  obtain ⟨x,hx⟩:=jJ (show i<l.length by omega)
  rw[jAQ hx]
  have hm:∀y∈l.take i,y∈l.take (i+1):=fun y hy=>by
   rw[List.take_add_one];exact List.mem_append_left _ hy
  have hxm:x∈l.take (i+1):=by rw[List.take_add_one,hx];simp
  exact ((jMR hm (ranH h hl ht i (by omega))).step (by omega) x (fitH hxm (ht x (List.mem_of_getElem? hx)))).1
theorem honest {addrs polls:List Int} {l:List Me.Op} (h:(Kj addrs polls).2=0) (hl:l.length≤1000) (ht:∀x∈l,x.te.length≤64) {i:Nat} {x:Me.Op} (hx:l[i]? =some x) {d:De} (hd:d∈(Me.next (runs (Kj addrs polls).1 l i) x).2):
  ∃j y,j<i∧l[j]? =some y∧y.kind=1∧y.n=d.so∧y.m=x.n∧y.te=d.te:=by
 have hr:=ranH h hl ht i (Nat.le_of_lt (List.getElem?_eq_some_iff.1 hx).1)
 have hk:x.kind≠1:=by
  intro e
  unfold Me.next at hd
  rw[if_neg (by omega),if_pos e]at hd
  split at hd<;>cases hd
 obtain ⟨y,hy,h1,h2,h3,h4⟩:=(hr.inv.next x fun e=>absurd e hk).got d hd
 obtain ⟨j,hj⟩:=List.getElem?_of_mem hy
 have hji:j<i:=by have:=(List.getElem?_eq_some_iff.1 hj).1;simp at this;omega
 rw[List.getElem?_take_of_lt hji]at hj
 exact ⟨j,y,hji,hj,h1,h2,h3,h4⟩
end Go.Proofs.YtgfdoognildoeaaGreat
namespace Go.Proofs.YtgfdoognildoeaaGreat
open Go.GX Go.RowKit
attribute [local irreducible] Calls Run jZ jf JK HR HL HD jT jG JY Rd jK jY
open Nd
theorem jLf (m:Me.Mesh) (a:Int):(Me.Z8 m a).1.nodes.length≤m.nodes.length∧(Me.Z8 m a).2.length≤256:=by
 unfold Me.Z8;split
 ·exact ⟨Nat.le_refl _,Nat.zero_le _⟩
 ·exact ⟨by simp,List.length_take_le _ _⟩
end Go.Proofs.YtgfdoognildoeaaGreat
namespace Go.Proofs.YtgfdoognildoeaaGreat
open Go.GX Go.RowKit
attribute [local irreducible] Calls Run jZ jf JK HR HL HD jT jG JY Rd jK jY
open Nd
theorem fn33:IsFn Tryz.prog 33:=⟨⟨_,_,Tryz.func33,rfl,by decide⟩⟩
theorem jMu (l:List OpA) (vl:Value) (i:Nat) (tg:Int) (d:De) (w:World) (hl:Sl w vl (cellsOf opE l) l.length) (hi:i≤l.length) (h80:l.length≤80)
  (hs:∃(j:Nat) (y:OpA),j<i∧l[j]? =some y∧y.2.kind=1∧y.2.n=d.so∧y.2.m=tg∧y.2.te=d.te):
  Calls Tryz.prog 33 #[vl,.int .i64 (i:Int),.int .i64 tg,.agg ⟨deC d⟩] w fun e w'=>e= .returned (.bool true)∧Below w.heap.size w w':=by
 have cl:(cellsOf opE l).length=l.length*8:=jC zC _
 refine jD Tryz.func33 I (Nat.le_of_ble_eq_true I) ?_
 refine HR.sub (σ':=[(0,vl),(1,.int .i64 (i:Int)),(2,.int .i64 tg),(3,.agg ⟨deC d⟩)]) ⟨I,I,I,I,trivial⟩ ?_
 refine HR.ctl I ?_
 refine HR.region ?_
 refine HL.box I I ?_
 intro b7
 repeat' (first|refine zh ?_|intro (bk:Nat))
 refine HR.loop (ι:=Nat) (fun k=>k≤i∧∀(j:Nat) (y:OpA),j<k→l[j]? =some y→¬(y.2.kind=1∧y.2.n=d.so∧y.2.m=tg∧y.2.te=d.te)) (fun k=>[(0,vl),(1,.int .i64 (i:Int)),(2,.int .i64 tg),(7,ptr b7),(9,.int .i64 (k:Int))]) (fun _=>[jT b7 (deC d) 65]) (fun k=>i-k) 0 ⟨Nat.zero_le _,fun j y hj=>absurd hj (Nat.not_lt_zero _)⟩ ⟨I,I,I,I,I,trivial⟩ Ent.refl ?_
 rintro k ⟨hk,hno⟩ ih
 have hk:k≤i:=hk
 have hno:∀(j:Nat) (y:OpA),j<k→l[j]? =some y→¬(y.2.kind=1∧y.2.n=d.so∧y.2.m=tg∧y.2.te=d.te):=hno
 repeat' (first|refine zh ?_|intro (bk:Nat))
 refine HR.cond I (fun h2=>?_) (fun h2=>?_)
 rotate_left
 ·have hke:k=i:=by have:¬(k:Int)<(i:Int):=of_decide_eq_false h2;omega
  obtain ⟨j,y,hj,hy,hm⟩:=hs
  exact absurd hm (hno j y (by omega) hy)
 have hlt:k<i:=by have:(k:Int)<(i:Int):=of_decide_eq_true h2;omega
 obtain ⟨y,hy⟩:=jJ (show k<l.length by omega)
 repeat' (first|refine zh ?_|intro (bk:Nat))
 refine HR.JF Jc (by kernel_rfl) ?_
 repeat' (first|refine zq ?_|refine HQ.JA (Rd.arg hl) jCL k I I I I (show k<l.length by omega) ?_|refine HQ.jo 0 (Rd.arg hl) (by rw[cl];omega) I I I I I I I ?_|refine HQ.jo 1 (Rd.arg hl) (by rw[cl];omega) I I I I I I I ?_|refine HQ.jo 2 (Rd.arg hl) (by rw[cl];omega) I I I I I I I ?_|refine HQ.jo 4 (Rd.arg hl) (by rw[cl];omega) I I I I I I I ?_|refine HQ.ji (Rd.arg hl) I I I I (jQ zC hy (i:=0) I) ?_|refine HQ.ji (Rd.arg hl) I I I I (jQ zC hy (i:=1) I) ?_|refine HQ.ji (Rd.arg hl) I I I I (jQ zC hy (i:=2) I) ?_|refine HQ.ji (Rd.arg hl) I I I I (jQ zC hy (i:=4) I) ?_|apply zb ?_ ?_|exact zc|(refine zi fun hb=>?_;try simp at hb))
 refine HR.cond I (fun h3=>?_) (fun h3=>?_)
 ·repeat' (first|refine zh ?_|intro (bk:Nat))
  refine HR.ret Tryz.func33 I [_] (fun _ _=>⟨I,trivial⟩) ?_
  exact fun w' hw=>⟨rfl,hw.jE⟩
 have h3:(((y.2.kind==1&&y.2.n==d.so)&&y.2.m==tg)&&y.2.te==d.te)=false:=h3
 repeat' (first|refine zh ?_|intro (bk:Nat))
 refine ih (k+1) _ _ ⟨hlt,fun j z hj hz hm=>?_⟩ (by show i-(k+1)<i-k;omega) ⟨I,I,I,I,I,trivial⟩ Ent.refl
 by_cases e:j=k
 ·rw [e,hy]at hz
  cases hz
  rw[hm.1,hm.2.1,hm.2.2.1,hm.2.2.2]at h3
  simp at h3
 ·exact hno j z (by omega) hz hm
theorem jNR (m:Me.Mesh) (o:Me.Op):(Me.next m o).2.length≤256:=by
 by_cases k0:o.kind=0
 ·rw [jPP k0];exact Nat.zero_le _
 by_cases k1:o.kind=1
 ·rw [jPN k1];split<;>exact Nat.zero_le _
 by_cases k2:o.kind=2
 ·rw [jPM k2];exact (jLf _ _).2
 by_cases k3:o.kind=3
 ·rw [jPL k3];exact Nat.zero_le _
 rw[jPK k0 k1 k2 k3];exact Nat.zero_le _
theorem meshHonest_any (addrs:List Int) (va:Value) (polls:List Int) (vp:Value) (l:List OpA) (vl:Value) (w:World) (ha:Sl w va (cellsOf iC addrs) addrs.length) (hp:Sl w vp (cellsOf iC polls) polls.length) (hl:Sl w vl (cellsOf opE l) l.length) (hO:∀x∈l,OpOk w x):
  Calls Tryz.prog 8 #[va,vp,vl] w fun e w'=>e= .returned (.bool true)∧Below w.heap.size w w':=by
 have cl:(cellsOf opE l).length=l.length*8:=jC zC _
 refine jD Tryz.func8 I (Nat.le_of_ble_eq_true I) ?_
 refine HR.sub (σ':=[(0,va),(1,vp),(2,vl)]) ⟨I,I,I,trivial⟩ ?_
 repeat' (first|refine zh ?_|intro (bk:Nat))
 refine HL.JC (r:=fun b:Bool=> .bool b) (Q:=fun b=>b=true→SmallL addrs polls l) (G:=fun _=>[]) fn31 I I (fun w1 hw1=>jEd addrs polls l va vp vl w1 (ha.ext hw1.jE) (hp.ext hw1.jE) (hl.ext hw1.jE) (fun x hx=>(hO x hx).ext hw1.jE)) ?_
 intro b hb
 cases b with
 |false=>
  repeat' (first|refine zh ?_|refine HL.jR fn9 I I (fun w1 _=>Zc w1) ?_|intro (bk:Nat))
  refine HR.ret Tryz.func8 I [_] (fun _ _=>⟨I,trivial⟩) ?_
  exact fun w' hw=>⟨rfl,hw.jE⟩
 |true=>
 have hs:SmallL addrs polls l:=hb I
 clear hb
 have ha6:=hs.ad
 have hp6:=hs.po
 have hl80:=hs.le
 repeat' (first|refine zh ?_|intro (bk:Nat))
 refine HR.loop (ι:=Nat) (fun i=>i≤l.length∧∀(j:Nat) (x:OpA),j<i→l[j]? =some x→x.2.te.length≤64) (fun i=>[(0,va),(1,vp),(2,vl),(7,.int .i64 (i:Int))]) (fun _=>[]) (fun i=>l.length-i) 0 ⟨Nat.zero_le _,fun j x hj=>absurd hj (Nat.not_lt_zero _)⟩ ⟨I,I,I,I,trivial⟩ (Ent.pick [] I I) ?_
 rintro i ⟨hi,hte⟩ ih
 have hi:i≤l.length:=hi
 have hte:∀(j:Nat) (x:OpA),j<i→l[j]? =some x→x.2.te.length≤64:=hte
 repeat' (first|refine zh ?_|refine HL.JN (Rd.arg hl) I I I ?_|intro (bk:Nat))
 refine HR.cond I (fun h2=>?_) (fun h2=>?_)
 ·have hlt:i<l.length:=by have:(i:Int)<(l.length:Int):=of_decide_eq_true h2;omega
  obtain ⟨x,hx⟩:=jJ hlt
  repeat' (first|refine zh ?_|refine HL.JA (Rd.arg hl) jCL i I I I I hlt ?_|refine HL.jo 4 (Rd.arg hl) (by rw[cl];omega) I I I I I I I ?_|refine HL.ji (Rd.arg hl) I I I I (jQ zC hx (i:=4) I) ?_|intro (bk:Nat))
  refine HR.cond I (fun h3=>?_) (fun h3=>?_)
  ·repeat' (first|refine zh ?_|refine HL.jR fn9 I I (fun w1 _=>Zc w1) ?_|intro (bk:Nat))
   refine HR.ret Tryz.func8 I [_] (fun _ _=>⟨I,trivial⟩) ?_
   exact fun w' hw=>⟨rfl,hw.jE⟩
  have h3:x.2.te.length≤64:=by have:¬(x.2.te.length:Int)>64:=of_decide_eq_false h3;omega
  repeat' (first|refine zh ?_|intro (bk:Nat))
  refine ih (i+1) _ _ ⟨hlt,fun j z hj hz=>?_⟩ (by show l.length-(i+1)<l.length-i;omega) ⟨I,I,I,I,trivial⟩ Ent.refl
  by_cases e:j=i
  ·rw [e,hx]at hz;cases hz;exact h3
  ·exact hte j z (by omega) hz
 have hie:i=l.length:=by have:¬(i:Int)<(l.length:Int):=of_decide_eq_false h2;omega
 have hT64:∀x∈opsOf l,x.te.length≤64:=fun x hx=>by
  obtain ⟨z,hz,rfl⟩:=List.mem_map.1 hx
  obtain ⟨j,hj⟩:=List.getElem?_of_mem hz
  exact hte j z (by rw[hie];exact (List.getElem?_eq_some_iff.1 hj).1) hj
 clear ih hi hte
 obtain ⟨M,hM⟩:∃M,M=Me.Kj addrs polls:=⟨_,rfl⟩
 repeat' (first|refine zh ?_|intro (bk:Nat))
 refine HL.JC (r:=fun x:SV×List (NV×Nd)×List Chunk=> .tuple ⟨[meV 0 (sv x.1 x.2.1.length),.int .i64 M.2]⟩) (Q:=fun x=>jHm x M.1.nodes) (G:=fun x=>[cNd (sv x.1 x.2.1.length) x.2.1,jB x.2.2]) fn10 I I (fun w1 hw1=>by rw[hM];exact jBa addrs polls va vp w1 (ha.ext hw1.jE) (hp.ext hw1.jE) (by omega) (by omega)) ?_
 rintro ⟨y0,ys0,G0⟩ ⟨⟨hN0,hO0⟩,hG0⟩
 have hN0:nds ys0=M.1.nodes:=hN0
 have hO0:∀z∈ys0,Own z.1 G0 z.2:=hO0
 have hG0:∀z∈ys0,GdN z.2:=hG0
 repeat' (first|refine zh ?_|intro (bk:Nat))
 generalize bk=b8
 refine HR.cond I (fun h1=>?_) (fun h1=>?_)
 ·repeat' (first|refine zh ?_|refine HL.jR fn9 I I (fun w1 _=>Zc w1) ?_|intro (bk:Nat))
  refine HR.ret Tryz.func8 I [_] (fun _ _=>⟨I,trivial⟩) ?_
  exact fun w' hw=>⟨rfl,hw.jE⟩
 have h1:M.2=0:=by have h1:(M.2 != 0)=false:=h1;simpa using h1
 have hM2:(Me.Kj addrs polls).2=0:=by rw[← hM];exact h1
 have hlen0:ys0.length=addrs.length:=by rw[← JG,hN0,hM,(Me.Inv.new (C:=jN0) hM2).2.2]
 repeat' (first|refine zh ?_|intro (bk:Nat))
 refine HR.ent (Ent.trans (Ent.pick (H':=[cNd (sv y0 ys0.length) ys0,jB G0]++[meB b8 0 (sv y0 ys0.length)]) [1,2,0] I I) (Ent.trans Ent.group (Ent.pick (H':=[meB b8 0 (sv y0 ys0.length),jB [cNd (sv y0 ys0.length) ys0,jB G0]]) [1,0] I I))) ?_
 obtain ⟨A,hA⟩:∃A:Nat→Me.Mesh,A=Me.runs M.1 (opsOf l):=⟨_,rfl⟩
 have hR:∀i,i≤l.length→Me.Ran jN0 M.1 (A i) i:=fun i hi=>by rw[hA,hM];exact ran0 hM2 (by rw[List.length_map];omega) i (by rw[List.length_map];exact hi)
 have hAs:∀i x,l[i]? =some x→A (i+1)=(Me.next (A i) x.2).1:=fun i x hx=>by rw[hA];exact jAQ (jGN hx)
 have hA0:A 0=M.1:=by rw[hA];rfl
 have hHon:∀(i:Nat) (x:OpA) (d:De),l[i]? =some x→d∈(Me.next (A i) x.2).2→∃(j:Nat) (y:OpA),j<i∧l[j]? =some y∧y.2.kind=1∧y.2.n=d.so∧y.2.m=x.2.n∧y.2.te=d.te:=fun i x d hx hd=>by
  rw[hA,hM]at hd
  obtain ⟨j,y,g1,g2,g3⟩:=honest hM2 (by rw[List.length_map];omega) hT64 (jGN hx) hd
  have g2:(l.map (·.2))[j]? =some y:=g2
  rw[List.getElem?_map,Option.map_eq_some_iff]at g2
  obtain ⟨z,hz,rfl⟩:=g2
  exact ⟨j,z,g1,hz,g3⟩
 refine HR.loop (ι:=Nat×SV×List (NV×Nd)×List Chunk) (fun x=>x.1≤l.length∧nds x.2.2.1=(A x.1).nodes∧(∀ w2,(jB x.2.2.2).p w2→OkL w2 (sv x.2.1 x.2.2.1.length) x.2.2.1)∧∀z∈x.2.2.1,GdN z.2) (fun x=>[(0,va),(1,vp),(2,vl),(8,ptr b8),(10,.int .i64 (x.1:Int))]) (fun x=>[meB b8 (A x.1).tick (sv x.2.1 x.2.2.1.length),jB x.2.2.2]) (fun x=>l.length-x.1) (0,y0,ys0,[cNd (sv y0 ys0.length) ys0,jB G0]) ⟨Nat.zero_le _,by rw[hA0];exact hN0,fun w2 hg2=>⟨zB (jM hg2 (c:=cNd (sv y0 ys0.length) ys0) (by simp)),fun z hz=>hO0 z hz w2 (jM hg2 (by simp))⟩,hG0⟩ ⟨I,I,I,I,I,trivial⟩ (Ent.of_eq (by rw[hA0,hM,(Me.Inv.new (C:=jN0) hM2).2.1])) ?_
 rintro ⟨i,y,ys,G⟩ ⟨hi,hN,hS,hG⟩ ih
 have hi:i≤l.length:=hi
 have hN:nds ys=(A i).nodes:=hN
 have hS:∀w2,(jB G).p w2→OkL w2 (sv y ys.length) ys:=hS
 have hG:∀z∈ys,GdN z.2:=hG
 have hRi:=hR i hi
 have hlen:ys.length=addrs.length:=by
  rw[← hlen0,← JG,← JG,hN,hN0,← List.length_map (f:=fun n:Nd=>n.addr),hRi.adr,List.length_map]
 obtain ⟨t,ht⟩:∃t,t=(A i).tick:=⟨_,rfl⟩
 have hAi:A i=⟨t,nds ys⟩:=by rw[ht,hN]
 refine HR.ent (H':=[meB b8 t (sv y ys.length),jB G]) (Ent.of_eq (by rw[ht])) ?_
 repeat' (first|refine zh ?_|refine HL.JN (Rd.arg hl) I I I ?_|intro (bk:Nat))
 refine HR.cond I (fun h3=>?_) (fun h3=>?_)
 rotate_left
 ·repeat' (first|refine zh ?_|refine HL.jR fn9 I I (fun w1 _=>Zc w1) ?_|intro (bk:Nat))
  refine HR.ret Tryz.func8 I [_] (fun _ _=>⟨I,trivial⟩) ?_
  exact fun w' hw=>⟨rfl,hw.jE⟩
 have h3:i<l.length:=by have:(i:Int)<(l.length:Int):=of_decide_eq_true h3;omega
 obtain ⟨x,hx⟩:=jJ h3
 have hox:=hO x (List.mem_of_getElem? hx)
 have hwx:=hs.ok x (List.mem_of_getElem? hx)
 obtain ⟨X,hX⟩:∃X,X=Me.next ⟨t,nds ys⟩ x.2:=⟨_,rfl⟩
 have hA1:A (i+1)=X.1:=by rw[hAs i x hx,hX,hAi]
 repeat' (first|refine zh ?_|intro (bk:Nat))
 refine HR.join (ι:=Nat×(SV×List (NV×Nd)×List Chunk)×Value) (fun z=>RfL (sv y ys.length) ys z.2.1 X.1.nodes∧(∀ q∈z.2.1.2.1,GdN q.2)∧∀w2,(jB z.2.1.2.2).p w2→Sl w2 z.2.2 (cellsOf deC X.2) X.2.length) (fun z=>[(0,va),(1,vp),(2,vl),(8,ptr b8),(10,.int .i64 (i:Int)),(11,ptr z.1),(12,z.2.2)]) (fun z=>[meB z.1 X.1.tick (sv z.2.1.1 z.2.1.2.1.length),jB z.2.1.2.2,meB b8 t (sv y ys.length),jB G]) ?_ (fun hj=>?_)
 rotate_left
 ·refine HR.kM [0,1] I I Jc ?_
  refine za 0 ?_
  refine za 1 ?_
  refine za 2 ?_
  refine HA.rd 3 (by kernel_rfl) I I (jFB (Rd.arg hl) jCL i I I I h3) ?_
  refine HA.rd 4 (by kernel_rfl) I I (jAe (us:=opE x) (Rd.arg hl) I I I (by simp) I (jH zC hx)) ?_
  refine HA.two 5 9 (by kernel_rfl) I I ?_ ?_
  ·refine HL.JC (r:=fun x:(SV×List (NV×Nd)×List Chunk)×Value=> .tuple ⟨[meV X.1.tick (sv x.1.1 x.1.2.1.length),x.2]⟩) (Q:=fun x=>RfL (sv y ys.length) ys x.1 X.1.nodes∧(∀ q∈x.1.2.1,GdN q.2)∧∀w2,(jB x.1.2.2).p w2→Sl w2 x.2 (cellsOf deC X.2) X.2.length) (G:=fun x=>[jB x.1.2.2]) fn32 I I (fun w1 hw1=>by rw[hX];exact jBZ t _ ys x w1 (hS w1 (Sat.grp 1 hw1 I)) hG (by omega) (hox.ext hw1.jE) hwx.1) ?_
   rintro ⟨⟨y2,ys2,G2⟩,vd⟩ hQ
   refine HL.jh [1,2] I I ?_
   refine za 6 ?_
   refine za 7 ?_
   refine za 8 ?_
   refine HA.one 9 (by kernel_rfl) I ?_
   refine HL.alloc I I ?_
   intro b11
   refine HL.jh [2,3] I I ?_
   refine HA.one 10 (by kernel_rfl) I ?_
   repeat' (first|refine zn ?_|intro (bk:Nat))
   refine HL.jh [2,3] I I ?_
   refine za 11 ?_
   refine HA.done (by kernel_rfl) ?_
   exact hj (b11,(y2,ys2,G2),vd) _ _ hQ ⟨I,I,I,I,I,I,I,trivial⟩ (Ent.pick [0,1,2,3] I I)
  ·refine HL.alloc I I ?_
   intro b11
   refine HL.jh [1,2] I I ?_
   refine HA.one 5 (by kernel_rfl) I ?_
   refine HL.JC (r:=fun x:(SV×List (NV×Nd)×List Chunk)×Value=> .tuple ⟨[meV X.1.tick (sv x.1.1 x.1.2.1.length),x.2]⟩) (Q:=fun x=>RfL (sv y ys.length) ys x.1 X.1.nodes∧(∀ q∈x.1.2.1,GdN q.2)∧∀w2,(jB x.1.2.2).p w2→Sl w2 x.2 (cellsOf deC X.2) X.2.length) (G:=fun x=>[jB x.1.2.2]) fn32 I I (fun w1 hw1=>by rw[hX];exact jBZ t _ ys x w1 (hS w1 (Sat.grp 2 hw1 I)) hG (by omega) (hox.ext hw1.jE) hwx.1) ?_
   rintro ⟨⟨y2,ys2,G2⟩,vd⟩ hQ
   refine HL.jh [2,3] I I ?_
   refine za 6 ?_
   refine za 7 ?_
   refine za 8 ?_
   refine HA.one 10 (by kernel_rfl) I ?_
   repeat' (first|refine zn ?_|intro (bk:Nat))
   refine HL.jh [2,3] I I ?_
   refine za 11 ?_
   refine HA.done (by kernel_rfl) ?_
   exact hj (b11,(y2,ys2,G2),vd) _ _ hQ ⟨I,I,I,I,I,I,I,trivial⟩ (Ent.pick [1,0,2,3] I I)
 rintro ⟨b11,⟨y2,ys2,G2⟩,vd⟩ ⟨⟨hN2,hI2⟩,hG2,hD2⟩
 have hN2:nds ys2=X.1.nodes:=hN2
 have hI2:ImpL (sv y ys.length) (sv y2 ys2.length) ys ys2 G2:=hI2
 have hG2:∀q∈ys2,GdN q.2:=hG2
 have hD2:∀w2,(jB G2).p w2→Sl w2 vd (cellsOf deC X.2) X.2.length:=hD2
 have hN2':nds ys2=(A (i+1)).nodes:=by rw[hA1];exact hN2
 have hA2:∀w2,(jB [jB G2,jB G]).p w2→OkL w2 (sv y2 ys2.length) ys2:=fun w2 hg2=>hI2 w2 (hS w2 (jM hg2 (by simp))) (jM hg2 (by simp))
 have rdd:∀ {H:List Chunk} (k:Nat),zH H k=some (jB G2)→Rd (base w) H vd (cellsOf deC X.2) X.2.length:=fun k hH=>jPn fun w2 hw=>hD2 w2 (Sat.grp k hw hH)
 have hX2:∀d∈X.2,∃(j:Nat) (z:OpA),j<i∧l[j]? =some z∧z.2.kind=1∧z.2.n=d.so∧z.2.m=x.2.n∧z.2.te=d.te:=fun d hd=>hHon i x d hx (by rw[hAi,← hX];exact hd)
 have hXl:X.2.length≤256:=by rw[hX];exact jNR _ _
 have cd:(cellsOf deC X.2).length=X.2.length*2:=jC jEE _
 repeat' (first|refine zh ?_|intro (bk:Nat))
 refine HR.loop (ι:=Nat) (fun k=>k≤X.2.length) (fun k=>[(0,va),(1,vp),(2,vl),(8,ptr b8),(10,.int .i64 (i:Int)),(11,ptr b11),(12,vd),(13,.int .i64 (k:Int))]) (fun _=>[meB b11 X.1.tick (sv y2 ys2.length),jB G2,meB b8 t (sv y ys.length),jB G]) (fun k=>X.2.length-k) 0 (Nat.zero_le _) ⟨I,I,I,I,I,I,I,I,trivial⟩ Ent.refl ?_
 rintro k hk ih2
 have hk:k≤X.2.length:=hk
 repeat' (first|refine zh ?_|refine HL.JN (rdd 1 I) I I I ?_|intro (bk:Nat))
 refine HR.cond I (fun h5=>?_) (fun h5=>?_)
 rotate_left
 ·clear ih2
  repeat' (first|refine zh ?_|intro (bk:Nat))
  exact ih (i+1,y2,ys2,[jB G2,jB G]) _ _ ⟨h3,hN2',hA2,hG2⟩ (by show l.length-(i+1)<l.length-i;omega) ⟨I,I,I,I,I,trivial⟩ (Ent.trans (Ent.pick (H':=[jB G2,jB G]++[_]) [1,3,2] I I) (Ent.trans Ent.group (Ent.trans (Ent.pick [1,0] I I) (Ent.of_eq (by rw[hA1];rfl)))))
 have hlt:k<X.2.length:=by have:(k:Int)<(X.2.length:Int):=of_decide_eq_true h5;omega
 obtain ⟨d,hd⟩:=jJ hlt
 have hsd:=hX2 d (List.mem_of_getElem? hd)
 repeat' (first|refine zh ?_|intro (bk:Nat))
 refine HR.j4 [(0,true),(1,true),(2,true),(3,true),(4,true),(5,true),(6,true),(7,true),(8,true),(9,true),(10,true),(11,false),(12,true)] [0,1,2,3] I I Jc (by kernel_rfl) ?_
 repeat' (first|refine zd ?_|fail)
 refine HD.JA (Rd.arg hl) jCL i I I I I I h3 ?_
 refine HD.jo 1 (Rd.arg hl) (by rw[cl];omega) I I I I I I I I ?_
 refine HD.ji (Rd.arg hl) I I I I I (jQ zC hx (i:=1) I) ?_
 repeat' (first|refine zd ?_|fail)
 refine HD.JA (rdd 1 I) jFN k I I I I I hlt ?_
 refine HD.JW (us:=deC d) (rdd 1 I) I I I I I (by simp) I (jH jEE hd) ?_
 refine HD.one I ?_
 refine HL.jR (r:= .bool true) fn33 I I (fun w1 hw1=>jMu l vl i x.2.n d w1 (hl.ext hw1.jE) hi hl80 hsd) ?_
 refine HL.back [0,1,2,3] I I ?_
 repeat' (first|refine zd ?_|fail)
 refine HD.nil ?_
 repeat' (first|refine zh ?_|intro (bk:Nat))
 exact ih2 (k+1) _ _ hlt (by show X.2.length-(k+1)<X.2.length-k;omega) ⟨I,I,I,I,I,I,I,I,trivial⟩ Ent.refl
end Go.Proofs.YtgfdoognildoeaaGreat
namespace Go.Proofs.YtgfdoognildoeaaGreat
open Go.GX Go.RowKit
attribute [local irreducible] Calls Run jZ jf JK HR HL HD jT jG JY Rd jK jY
open Nd
theorem meshHonest.meshHonest_any (l0:List Int) (v0:Value) (l1:List Int) (v1:Value) (l2:List OpA) (v2:Value) (w:World) (s0:Sl w v0 (cellsOf iC l0) l0.length) (_:∀a∈l0,(Lit.int .i64 a).wf=true) (s1:Sl w v1 (cellsOf iC l1) l1.length) (_:∀a∈l1,(Lit.int .i64 a).wf=true) (s2:Sl w v2 (cellsOf opE l2) l2.length) (g2:∀a∈l2,OpOk w a):
  Calls Tryz.prog 8 #[v0,v1,v2] w fun e w'=>e= .returned (.bool true)∧Below w.heap.size w w':=Proofs.YtgfdoognildoeaaGreat.meshHonest_any l0 v0 l1 v1 l2 v2 w s0 s1 s2 g2
end Go.Proofs.YtgfdoognildoeaaGreat
