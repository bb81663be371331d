/- A part of the proof: contracts of the program's functions. Conditions: none. -/
import Derived.Carry
import Derived.Deep.MidRow
import Derived.Deep.Quiet
import Derived.Laws.IdiomRangeMap
import Derived.Laws.MakeOwn
import Derived.Laws.StructEq
import Derived.Laws.Tables
import Derived.Lib.AppendStr
import Derived.Lib.AppendZerosOnto
import Derived.Lib.OthersKept
import Derived.Lib.Overlaps
import Derived.Lib.OwnBridge
import Derived.Lib.SlicesCompact
import Derived.MapKept
import Derived.Orders
import Derived.OrdersHeld
import Derived.Scope
import Derived.Sort.Grow
import Derived.StillTail
import Derived.Test.YtgfdoognildoeaaGreatProg
import Derived.Test.YtgfdoognildoeaaGreatShelf
import Derived.WalkKit
import Derived.WalkLawsBesides
import Derived.WalkSpells
import Derived.Test.YtgfdoognildoeaaGreatLB1
import Derived.Test.YtgfdoognildoeaaGreatLB2
import Derived.Test.YtgfdoognildoeaaGreatLB3
import Derived.Test.YtgfdoognildoeaaGreatLB4
import Derived.Test.YtgfdoognildoeaaGreatLB5
import Derived.Test.YtgfdoognildoeaaGreatLB6
import Derived.Test.YtgfdoognildoeaaGreatLB7
set_option linter.unusedVariables false
set_option linter.unusedSectionVars false
set_option linter.unusedSimpArgs false
set_option maxRecDepth 100000
set_option maxHeartbeats 4000000
namespace Go.Proofs.YtgfdoognildoeaaGreat
open Go.GX Go.RowKit
attribute [local irreducible] Calls Run jZ jf JK HR HL HD jT jG JY Rd jK jY
open Nd
theorem fn277:IsFn Tryz.prog 277:=⟨⟨_,_,Tryz.func277,rfl,by decide⟩⟩
def atI:Option Nat→Int
 |some a=>(a:Int)
 |none=>-1
theorem jNN {l:List Pt} {s now:Int} {x:By} (h:jFf x≠0):jCm l s now x=⟨[],[],false,jFf x⟩:=if_pos h
theorem jLJ {l:List Pt} {s now i0 i1 i2:Int} {x d:By} (h:jFf x=0) (h0:i0=b8 x 0) (h1:i1=b8 x 1) (h2:i2=b8 x 2) (hd:d=x.drop 3):
  jCm l s now x=if i2=1 then ⟨(J7 (zM l) s i0 1).1,d,true,0⟩else jRE (jEN (J7 (zM l) s i0 i2) s i0 i2 now) i1.toNat d:=by
 subst h0;subst h1;subst h2;subst hd
 unfold jCm;rw[if_neg (by simp[h])]
theorem HA.row {P:Program} {N n:Nat} {σ:Store} {B:Base} {H F:List Chunk} {ops:List Oper} {K:Act→World→Prop} {L:Array Bool} {v:Value} {e sz m:Nat} {xs:List Value} (i:Nat) (hi:zH H i=some (jG v e sz m xs)) (hn:0<m)
  (h:∀g off cap,v= .slice (some ⟨g,off,none⟩) m cap→HA P N ops n L σ B H F K):HA P N ops n L σ B H F K:=by
 intro w hw hF a ha
 obtain ⟨g,off,cap,e,_⟩:=Vw.row (Sat.vw hw hi) hn
 exact h g off cap e w hw hF a ha
theorem jMG {i c n:Int} (h:fits i c n=true):n≤64:=by
 unfold Nd.fits at h
 split at h
 ·have:=eq_of_beq h;omega
 ·split at h
  ·exact of_decide_eq_true h
  ·split at h
   ·simp at h;omega
   ·simp at h;omega
theorem jEo {p:Pt} (h:zD p=true):∀s∈p.da,s.length≤64:=by
 have H:=kR (zk h)
 have h1:=H.hv
 have h2:=H.da
 unfold zD at h
 simp only[Bool.and_eq_true]at h
 have hall:=List.all_eq_true.1 h.1.1.2
 intro s hs
 obtain ⟨j,hj⟩:=List.getElem?_of_mem hs
 have hjl:=(List.getElem?_eq_some_iff.1 hj).1
 have:=hall j (List.mem_range.2 (by omega))
 unfold jKA at this
 rw[show p.da.getD j []=s by rw[List.getD_eq_getElem?_getD,hj];rfl]at this
 split at this
 ·have:=jMG this;omega
 ·have:=of_decide_eq_true this
  rw[this];simp
theorem jNJ {l:List Pt} {s id c:Int} (h:∀p∈l,∀s∈p.da,s.length≤64):∀p∈(J7 l s id c).1,∀s∈p.da,s.length≤64:=by
 unfold J7
 split
 ·split
  ·exact h
  ·exact fun p hp=>h p (List.mem_of_mem_eraseIdx hp)
 ·exact h
theorem jPv {o:List Pt×Option Nat} {s id c now:Int} (h:∀p∈o.1,∀s∈p.da,s.length≤64):∀p∈(jEN o s id c now).1,∀s∈p.da,s.length≤64:=by
 unfold jEN
 split
 ·exact h
 ·intro p hp
  rcases List.mem_append.1 hp with hp|hp
  ·refine h p ?_
   unfold jAB at hp
   split at hp
   ·exact List.mem_of_mem_eraseIdx hp
   ·exact hp
  ·rw [List.mem_singleton]at hp
   subst hp
   intro s hs
   have:=List.eq_of_mem_replicate hs
   rw[this];simp
theorem jDK {m:Nat}:∀ {l:List By},(∀ s∈l,s.length≤m)→l.flatten.length≤m*l.length
 |[],_=>by simp
 |s::l,h=>by
  have h1:=h s (List.mem_cons_self ..)
  have h2:=jDK (l:=l) fun x hx=>h x (List.mem_cons_of_mem _ hx)
  rw[List.flatten_cons,List.length_append,List.length_cons,Nat.mul_add];omega
theorem jNw (l:List PtV) (s now:Int) (x:By) (v:Value) (w:World) (hv:RdPts w v l) (hs:∀p∈l,jER p.pt) (hl:l.length≤1000) (hx:x.length≤1000):
  Calls Tryz.prog 223 #[v,.int .i64 s,.int .i64 now,str x] w fun e w'=>∃y:Value×List PtV,e= .returned (.tuple ⟨[y.1,str (jCm (pts l) s now x).t,.bool (jCm (pts l) s now x).ok,.int .i64 (jCm (pts l) s now x).e]⟩)∧jEL y (jCm (pts l) s now x).l∧Sat (base w) (jF7 y) w':=by
 refine jD Tryz.func223 I (Nat.le_of_ble_eq_true I) ?_
 refine HR.sub (σ':=[(0,v),(1,.int .i64 s),(2,.int .i64 now),(3,str x)]) ⟨I,I,I,I,trivial⟩ ?_
 repeat' (first|refine zh ?_|refine HL.jR fn275 I I (fun w _=>jGf x w (by omega)) ?_|intro (bk:Nat))
 refine HR.cond I (fun h=>?_) (fun h=>?_)
 ·have h:jFf x≠0:=by have h:(jFf x != 0)=true:=h;simpa using h
  rw[jNN h]
  repeat' (first|refine zh ?_|intro (bk:Nat))
  refine HR.ZC 173 6 ?_
  refine HR.ent (Ent.trans Ent.jL8 (Ent.pick [1,0] I I)) ?_
  refine HR.ret Tryz.func223 I [_,_,_,_] (fun _ _=>⟨I,I,I,I,trivial⟩) ?_
  exact fun w' hw=>⟨(_,[]),rfl,⟨rfl,fun p hp=>by cases hp⟩,hw⟩
 have h:jFf x=0:=by have h:(jFf x != 0)=false:=h;simpa using h
 obtain ⟨c0,c1,c2,c3,c4,c5,c6,c7⟩:=jEr h
 obtain ⟨i0,h0⟩:∃i0:Int,i0=b8 x 0:=⟨_,rfl⟩
 obtain ⟨i1,h1⟩:∃i1:Int,i1=b8 x 1:=⟨_,rfl⟩
 obtain ⟨i2,h2⟩:∃i2:Int,i2=b8 x 2:=⟨_,rfl⟩
 obtain ⟨d,hd⟩:∃d,d=x.drop 3:=⟨_,rfl⟩
 rw[jLJ h h0 h1 h2 hd]
 have hdl:(d.length:Int)=(x.length:Int)-3:=by rw[hd,List.length_drop];omega
 have hd64:d.length≤64:=by have:=jMG c5;omega
 have g0:0≤i0∧i0≤255:=by omega
 have g1:0≤i1∧i1<i2:=by omega
 have g2:1≤i2∧i2≤16:=by omega
 clear c1 c2 c3 c4 c5 c6 c7
 repeat' (first|refine zh ?_|intro (bk:Nat))
 refine HR.JF Jc (by kernel_rfl) ?_
 have b0:=(x.getD 0 0).toNat_lt
 have b1:=(x.getD 1 0).toNat_lt
 have b2:=(x.getD 2 0).toNat_lt
 repeat' (first|refine zq ?_|fail)
 refine HR.ZU 13 (v':= .int .i64 i0) I (by rw[h0];try rfl) ?_
 refine HR.ZU 14 (v':= .int .i64 i1) I (by rw[h1];try rfl) ?_
 refine HR.ZU 15 (v':= .int .i64 i2) I (by rw[h2];try rfl) ?_
 refine HR.ZU 16 (v':=str d) I (by rw[hd];try rfl) ?_
 repeat' (first|refine zh ?_|intro (bk:Nat))
 refine HL.JC (r:=fun x:Value×List PtV=>x.1) (Q:=fun x=>jEL x (zM (pts l))) (G:=fun x=>jF7 x) jRp I I (fun w1 hw1=>jDJ l v w1 (hv.ext hw1.jE) hs hl) ?_
 rintro ⟨v1,L⟩ ⟨hL,hsh⟩
 have hL:pts L=zM (pts l):=hL
 have hsh:∀p∈L,jA9 p:=hsh
 have hLl:L.length≤8:=by have:=Kh (pts l);rw[← hL,JH]at this;exact this
 have hfr:jCr (pts L):=by rw[hL];exact jEp _
 rw[← hL]
 have hcl:∀T:List PtV,(cellsOf ptC T).length=T.length*6:=jC JR
 repeat' (first|refine zh ?_|intro (bk:Nat))
 refine HL.jR jRh I I (fun w1 hw1=>jFL L s i0 v1 w1 ((Rd.own 0 rfl).at hw1) (by omega) hsh) ?_
 repeat' (first|refine zn ?_|apply zb ?_ ?_|exact zc|(refine zi fun hb=>?_;try simp at hb)|intro (bk:Nat))
 refine HR.ctl I ?_
 refine HR.join (ι:=Unit) (fun _=>True) (fun _=>[(1,.int .i64 s),(2,.int .i64 now),(13,.int .i64 i0),(14,.int .i64 i1),(15,.int .i64 i2),(16,str d),(17,v1),(18,.int .i64 (atI (jAx (pts L) s i0))),(54,.bool (match jAx (pts L) s i0 with|some a=>(((pts L).getD a pz).ct != i2)|none=>false))]) (fun _=>jF7 (v1,L)) (fun _ _=>?_) (fun hj=>?_)
 ·refine HR.join (ι:=Value×List PtV×Option Nat) (fun i=>(pts i.2.1,i.2.2)=J7 (pts L) s i0 i2∧∀p∈i.2.1,jA9 p) (fun i=>[(1,.int .i64 s),(2,.int .i64 now),(13,.int .i64 i0),(14,.int .i64 i1),(15,.int .i64 i2),(16,str d),(17,i.1),(18,.int .i64 (atI i.2.2))]) (fun i=>jF7 (i.1,i.2.1)) (fun i=>?_) (fun hj2=>?_)
  ·obtain ⟨v2,M,at2⟩:=i
   rintro ⟨hM,hshM⟩
   have hM:(pts M,at2)=J7 (pts L) s i0 i2:=hM
   have hshM:∀p∈M,jA9 p:=hshM
   have hMl:M.length≤8:=by have:=jAW (l:=pts L) (by rw[JH];omega) s i0 i2;rw[← hM,JH]at this;exact this
   repeat' (first|refine zh ?_|intro (bk:Nat))
   refine HR.cond I (fun h5=>?_) (fun h5=>?_)
   ·have h5:i2=1:=eq_of_beq h5
    rw[if_pos h5]
    have e:(J7 (pts L) s i0 1).1=pts M:=by rw[← h5,← hM]
    rw[e]
    repeat' (first|refine zh ?_|intro (bk:Nat))
    refine HR.ret Tryz.func223 I [_,_,_,_] (fun _ _=>⟨I,I,I,I,trivial⟩) ?_
    exact fun w' hw=>⟨(v2,M),rfl,⟨rfl,hshM⟩,hw.pick [0,1] I rfl⟩
   have h5:¬i2=1:=by have h5:(i2==1)=false:=h5;simpa using h5
   rw[if_neg h5,← hM]
   have hsp:=jLB (now:=now) (s:=s) hfr (by rw[JH];omega) (id:=i0) (c:=i2) (by omega) (by omega) (by omega) (by omega)
   rw[← hM]at hsp
   have hi2:i2=((i2.toNat:Nat):Int):=by omega
   have smM:∀p∈pts M,∀s∈p.da,s.length≤64:=by
    have:=jNJ (l:=pts L) (s:=s) (id:=i0) (c:=i2) (by rw[hL];exact fun p hp=>jEo (ZB p hp))
    rw[← hM]at this;exact this
   repeat' (first|refine zh ?_|intro (bk:Nat))
   refine HR.join (ι:=Value×List PtV×Nat) (fun i=>(pts i.2.1,i.2.2)=jEN (pts M,at2) s i0 i2 now∧∀p∈i.2.1,jA9 p) (fun i=>[(14,.int .i64 i1),(16,str d),(17,i.1),(18,.int .i64 (i.2.2:Int))]) (fun i=>jF7 (i.1,i.2.1)) (fun i=>?_) (fun hj3=>?_)
   ·obtain ⟨v3,L3,a⟩:=i
    rintro ⟨hP,hsh3⟩
    have hP:(pts L3,a)=jEN (pts M,at2) s i0 i2 now:=hP
    have hsh3:∀p∈L3,jA9 p:=hsh3
    rw[← hP]at hsp ⊢
    obtain ⟨f3,l3,a3,ct3⟩:=hsp
    have sm3:∀p∈pts L3,∀s∈p.da,s.length≤64:=by
     have:=jPv (o:=(pts M,at2)) (s:=s) (id:=i0) (c:=i2) (now:=now) (fun p hp=>smM p hp)
     rw[← hP]at this;exact this
    have l3:L3.length≤8:=by have l3:(pts L3).length≤8:=l3;rw[JH]at l3;exact l3
    have a3:a<L3.length:=by have a3:a<(pts L3).length:=a3;rw[JH]at a3;exact a3
    obtain ⟨p,hp⟩:=jJ a3
    have hpm:=List.mem_of_getElem? hp
    have hgd:(pts L3).getD a pz=p.pt:=by rw[List.getD_eq_getElem?_getD,KL hp];rfl
    have ct3:((pts L3).getD a pz).ct=i2:=ct3
    rw[hgd]at ct3
    have f3:jCr (pts L3):=f3
    obtain ⟨H,hal⟩:=f3 p.pt (List.mem_map_of_mem hpm)
    have h1:=H.hv
    have h2:=H.da
    obtain ⟨sa,sn,sc,ta,tn,tc,ep⟩:=(hsh3 p hpm).lit
    obtain ⟨q,hq⟩:∃q,q=p.pt:=⟨_,rfl⟩
    rw[← hq]at ct3 hal h1 h2 ep hgd
    have hq':q=p.pt:=hq
    have hpx:p=⟨p.vh,p.vd,q⟩:=by rw[hq]
    obtain ⟨vh,hvh⟩:∃vh,vh=p.vh:=⟨_,rfl⟩
    obtain ⟨vd,hvd⟩:∃vd,vd=p.vd:=⟨_,rfl⟩
    rw[← hvh,← hvd]at hpx
    have shp:=hsh3 p hpm
    clear ep
    subst hpx
    have hpe:jRE (pts L3,a) i1.toNat d=if (jAU q i1.toNat d).hv.all id then ⟨(pts L3).eraseIdx a,(jAU q i1.toNat d).da.flatten,true,0⟩else ⟨(pts L3).set a (jAU q i1.toNat d),[],false,0⟩:=by
     unfold jRE;simp only;rw[hgd]
    rw[hpe]
    obtain ⟨j,hj⟩:∃j,j=i1.toNat:=⟨_,rfl⟩
    have hij:i1=((j:Nat):Int):=by omega
    rw[← hj]
    have hjl:j<q.hv.length:=by omega
    have hjd:j<q.da.length:=by omega
    obtain ⟨b,hb⟩:=jJ hjl
    have hbd:q.hv.getD j false=b:=by rw[List.getD_eq_getElem?_getD,hb];rfl
    obtain ⟨R,hR⟩:∃R,R=ptG (L3.eraseIdx a):=⟨_,rfl⟩
    refine HR.ent (H':=[jG v3 173 6 L3.length (cellsOf ptC L3),ptH ⟨vh,vd,q⟩,ptD ⟨vh,vd,q⟩,jB R]) ?_ ?_
    ·refine Ent.trans (Ent.pick [1,0] I I) (Ent.trans (Ent.jJh (G':=[ptH ⟨vh,vd,q⟩,ptD ⟨vh,vd,q⟩]++R) [] ?_) ?_)
     ·rw [List.append_nil,hR]
      exact (jAT hp).trans List.perm_append_comm
     ·refine Ent.trans (Ent.jRb (A:=[]) (c:=ptH ⟨vh,vd,q⟩) (C:=ptD ⟨vh,vd,q⟩::R)) (Ent.trans (Ent.pick [1,0,2] I I) (Ent.trans (Ent.jRb (A:=[]) (c:=ptD ⟨vh,vd,q⟩) (C:=R)) (Ent.pick [3,2,0,1] I I)))
    have hH:∀(Q:Pt) (i:Nat) (H:List Chunk),zH H i=some (ptH ⟨vh,vd,Q⟩)→Rd (base w) H vh (cellsOf bC Q.hv) Q.hv.length:=fun Q i H hi=>Rd.own i hi
    have hD:∀(Q:Pt) (i:Nat) (H:List Chunk),zH H i=some (ptD ⟨vh,vd,Q⟩)→Rd (base w) H vd (cellsOf sC Q.da) Q.da.length:=fun Q i H hi=>Rd.own i hi
    repeat' (first|refine zh ?_|refine HL.JA (Rd.own 0 I) JM a I I I I a3 ?_|refine HL.jo 4 (Rd.own 0 I) (by rw[hcl];omega) I I I I I I I ?_|refine HL.ji (Rd.own 0 I) I I I I (jQ JR hp (i:=4) I) ?_|refine HL.JA (hH q 1 _ I) jA5 j I I I hij hjl ?_|refine HL.ji (hH q 1 _ I) I I I I (jW hb) ?_|intro (bk:Nat))
    obtain ⟨Q,hQ⟩:∃Q,Q=jAU q j d:=⟨_,rfl⟩
    have hQs:Q.so=q.so∧Q.id=q.id∧Q.ct=q.ct∧Q.si=q.si∧Q.hv.length=q.hv.length∧Q.da.length=q.da.length:=by
     rw[hQ];unfold jAU;split
     ·exact ⟨rfl,rfl,rfl,rfl,rfl,rfl⟩
     ·exact ⟨rfl,rfl,rfl,rfl,List.length_set,List.length_set⟩
    obtain ⟨q1,q2,q3,q4,q5,q6⟩:=hQs
    have hQd:∀s∈Q.da,s.length≤64:=by
     rw[hQ];unfold jAU;split
     ·exact sm3 q (by rw[hq'];exact List.mem_map_of_mem hpm)
     ·intro s hs
      rcases List.mem_or_eq_of_mem_set hs with hs|rfl
      ·exact sm3 q (by rw[hq'];exact List.mem_map_of_mem hpm) s hs
      ·exact hd64
    rw[← hQ]
    refine HR.join (ι:=Unit) (fun _=>True) (fun _=>[(17,v3),(18,.int .i64 (a:Int))]) (fun _=>[jG v3 173 6 L3.length (cellsOf ptC L3),ptH ⟨vh,vd,Q⟩,ptD ⟨vh,vd,Q⟩,jB R]) (fun _ _=>?_) (fun hj5=>?_)
    ·repeat' (first|refine zh ?_|refine HL.JA (Rd.own 0 I) JM a I I I I a3 ?_|refine HL.jo 4 (Rd.own 0 I) (by rw[hcl];omega) I I I I I I I ?_|refine HL.ji (Rd.own 0 I) I I I I (jQ JR hp (i:=4) I) ?_|refine HL.JN (hH Q 1 _ I) I I I ?_|intro (bk:Nat))
     refine HR.loop (ι:=Nat) (fun k=>k≤Q.hv.length∧(Q.hv.take k).all id=true) (fun k=>[(17,v3),(18,.int .i64 (a:Int)),(113,vh),(114,.int .i64 (Q.hv.length:Int)),(115,.int .i64 (k:Int))]) (fun _=>[jG v3 173 6 L3.length (cellsOf ptC L3),ptH ⟨vh,vd,Q⟩,ptD ⟨vh,vd,Q⟩,jB R]) (fun k=>Q.hv.length-k) 0 ⟨Nat.zero_le _,by rw[List.take_zero];rfl⟩ ⟨I,I,I,I,I,trivial⟩ Ent.refl ?_
     rintro k ⟨hk,hall⟩ ih
     repeat' (first|refine zh ?_|intro (bk:Nat))
     refine HR.cond I (fun h6=>?_) (fun h6=>?_)
     ·have hlt:k<Q.hv.length:=by have:=of_decide_eq_true h6;omega
      obtain ⟨b6,hb6⟩:=jJ hlt
      repeat' (first|refine zh ?_|refine HL.JA (hH Q 1 _ I) jA5 k I I I I hlt ?_|refine HL.ji (hH Q 1 _ I) I I I I (jW hb6) ?_|intro (bk:Nat))
      refine HR.cond I (fun h7=>?_) (fun h7=>?_)
      ·have h7:b6=false:=by have h7:(!b6)=true:=h7;simpa using h7
       have hna:¬Q.hv.all id=true:=fun hh=>by
        have:=List.all_eq_true.1 hh b6 (List.mem_of_getElem? hb6)
        rw[h7]at this;cases this
       rw[if_neg hna]
       repeat' (first|refine zh ?_|intro (bk:Nat))
       refine HR.ret Tryz.func223 I [_,_,_,_] (fun _ _=>⟨I,I,I,I,trivial⟩) ?_
       refine fun w' hw=>⟨(v3,L3.set a ⟨vh,vd,Q⟩),rfl,⟨by unfold pts;rw[List.map_set],fun y hy=>?_⟩,?_⟩
       ·rcases List.mem_or_eq_of_mem_set hy with hy|rfl
        ·exact hsh3 y hy
        ·exact shp
       ·have hcs:cellsOf ptC (L3.set a ⟨vh,vd,Q⟩)=cellsOf ptC L3:=by
         unfold cellsOf
         rw[List.map_set]
         have e:ptC ⟨vh,vd,Q⟩=ptC ⟨vh,vd,q⟩:=by
          show [Value.int .i64 Q.so,.int .i64 Q.id,.int .i64 Q.ct,.int .i64 Q.si,vh,vd]=[.int .i64 q.so,.int .i64 q.id,.int .i64 q.ct,.int .i64 q.si,vh,vd]
          rw[q1,q2,q3,q4]
         rw[e]
         congr 1
         refine List.ext_getElem? fun m=>?_
         rw[List.getElem?_set]
         split
         ·rename_i e2
          subst e2
          rw[if_pos (by rw[List.length_map];exact a3),List.getElem?_map,hp];rfl
         ·rfl
        have w1:=hw.pick [1,2,3,0] I I
        have w2:=(Ent.group (G:=[ptH ⟨vh,vd,Q⟩,ptD ⟨vh,vd,Q⟩])) w' w1
        have w3:=Ent.jL9 w' w2
        have hset:(L3.set a ⟨vh,vd,Q⟩)[a]? =some ⟨vh,vd,Q⟩:=List.getElem?_set_self a3
        have hpm2:(R++[ptH ⟨vh,vd,Q⟩,ptD ⟨vh,vd,Q⟩]).Perm (ptG (L3.set a ⟨vh,vd,Q⟩)++[]):=by
         rw[List.append_nil]
         have:=jAT hset
         rw[List.eraseIdx_set_eq,← hR]at this
         exact this.symm
        have w4:=(Ent.jJh [] hpm2) w' w3
        have w5:=w4.pick [1,0] I I
        exact Ent.JV (by rw[List.length_set]) hcs.symm w' w5
      ·have h7:b6=true:=by have h7:(!b6)=false:=h7;simpa using h7
       repeat' (first|refine zh ?_|intro (bk:Nat))
       refine ih (k+1) _ _ ⟨hlt,?_⟩ (by omega) ⟨I,I,I,I,I,trivial⟩ Ent.refl
       rw[jN hb6,List.all_append,hall,h7];rfl
     ·have hke:k=Q.hv.length:=by have:=of_decide_eq_false h6;omega
      subst hke
      rw[List.take_length]at hall
      rw[if_pos hall]
      have hfl:Q.da.flatten.length≤64*Q.da.length:=jDK hQd
      repeat' (first|refine zh ?_|refine HL.JA (Rd.own 0 I) JM a I I I I a3 ?_|refine HL.jo 5 (Rd.own 0 I) (by rw[hcl];omega) I I I I I I I ?_|refine HL.ji (Rd.own 0 I) I I I I (jQ JR hp (i:=5) I) ?_|intro (bk:Nat))
      refine HL.jR fn277 I I (fun w1 hw1=>jNf Q.da vd w1 ((hD Q 2 _ rfl).at hw1) (by omega) (by omega) (by omega)) ?_
      repeat' (first|refine zh ?_|intro (bk:Nat))
      refine HL.JQ jQK I I (fun w1 hw1=>KV L3 a v3 w1 ((Rd.own 0 rfl).at hw1) hsh3 a3 (by omega)) ?_
      intro r
      repeat' (first|refine zh ?_|intro (bk:Nat))
      refine HR.ret Tryz.func223 I [_,_,_,_] (fun _ _=>⟨I,I,I,I,trivial⟩) ?_
      refine fun w' hw=>⟨(r,L3.eraseIdx a),rfl,⟨jBg _ _ _,fun y hy=>hsh3 y (List.mem_of_mem_eraseIdx hy)⟩,?_⟩
      have w1:=hw.pick [0,4] I I
      rw[hR]at w1
      exact w1
    ·refine HR.cond I (fun h6=>?_) (fun h6=>?_)
     ·have h6:b=false:=by have h6:(!b)=true:=h6;simpa using h6
      have hQe:Q=⟨q.so,q.id,q.ct,q.si,q.hv.set j true,q.da.set j d⟩:=by rw[hQ];unfold jAU;rw[hbd,h6,if_neg (by decide)]
      refine HR.ctl I ?_
      refine HR.region ?_
      repeat' (first|refine zn ?_|refine HL.JA (Rd.own 0 I) JM a I I I I a3 ?_|refine HL.jo 4 (Rd.own 0 I) (by rw[hcl];omega) I I I I I I I ?_|refine HL.ji (Rd.own 0 I) I I I I (jQ JR hp (i:=4) I) ?_|refine HL.JA (hH q 1 _ I) jA5 j I I I hij hjl ?_|refine HL.KA (v:=vh) (e:=4) (sz:=1) (n:=q.hv.length) (xs:=cellsOf bC q.hv) 1 I I I I I I I (by rw[ZV jHj];omega) ?_|apply zb ?_ ?_|exact zc|(refine zi fun hb=>?_;try simp at hb)|intro (bk:Nat))
      refine HR.region ?_
      repeat' (first|refine zn ?_|refine HL.JA (Rd.own 0 I) JM a I I I I a3 ?_|refine HL.jo 5 (Rd.own 0 I) (by rw[hcl];omega) I I I I I I I ?_|refine HL.ji (Rd.own 0 I) I I I I (jQ JR hp (i:=5) I) ?_|refine HL.JA (hD q 2 _ I) Kz j I I I hij hjd ?_|refine HL.KA (v:=vd) (e:=9) (sz:=1) (n:=q.da.length) (xs:=cellsOf sC q.da) 2 I I I I I I I (by rw[ZV jG2];omega) ?_|apply zb ?_ ?_|exact zc|(refine zi fun hb=>?_;try simp at hb)|intro (bk:Nat))
      refine hj5 () _ _ trivial ⟨I,I,trivial⟩ (Ent.of_eq ?_)
      have e1:=jDS (f:=fun b:Bool=>Value.bool b) q.hv j true
      have e2:=jDS (f:=fun s:By=>str s) q.da j d
      show [jG v3 _ 6 L3.length (cellsOf ptC L3),jG vh 4 1 q.hv.length ((cellsOf bC q.hv).set (j*1) (.bool true)),jG vd 9 1 q.da.length ((cellsOf sC q.da).set (j*1) (str d)),jB R]=[_,jG vh 4 1 Q.hv.length (cellsOf bC Q.hv),jG vd 9 1 Q.da.length (cellsOf sC Q.da),_]
      rw[e1,e2,q5,q6,hQe]
     ·have h6:b=true:=by have h6:(!b)=false:=h6;simpa using h6
      have hQe:Q=q:=by rw[hQ,jNB (by rw[hbd,h6])]
      refine HR.skip ?_
      exact hj5 () _ _ trivial ⟨I,I,trivial⟩ (Ent.of_eq (by rw[hQe]))
   ·cases at2 with
    |some a=>
     refine HR.jr I ?_
     refine HR.skip ?_
     exact hj3 (v2,M,a) _ _ ⟨rfl,hshM⟩ ⟨I,I,I,I,trivial⟩ (Ent.pick [0,1] I I)
    |none=>
     refine HR.jy I ?_
     repeat' (first|refine zh ?_|refine HL.JN (Rd.own 0 I) I I I ?_|intro (bk:Nat))
     refine HR.join (ι:=Value×List PtV) (fun i=>pts i.2=jAB (pts M)∧∀p∈i.2,jA9 p) (fun i=>[(1,.int .i64 s),(2,.int .i64 now),(13,.int .i64 i0),(14,.int .i64 i1),(15,.int .i64 i2),(16,str d),(17,i.1)]) (fun i=>jF7 i) (fun i=>?_) (fun hj6=>?_)
     ·obtain ⟨v4,N⟩:=i
      rintro ⟨hN,hshN⟩
      have hN:pts N=jAB (pts M):=hN
      have hshN:∀p∈N,jA9 p:=hshN
      have hNl:N.length≤7:=by have:=jBx (l:=pts M) (by rw[JH];omega);rw[← hN,JH]at this;exact this
      obtain ⟨pb,hpb⟩:∃pb,pb=Jd s i0 i2 now:=⟨_,rfl⟩
      have hbl:i2.toNat=pb.hv.length:=by rw[hpb];simp[Jd]
      have hsl:i2.toNat=pb.da.length:=by rw[hpb];simp[Jd]
      have hbl0:0<pb.hv.length:=by rw[← hbl];omega
      have hsl0:0<pb.da.length:=by rw[← hsl];omega
      have hbc:((List.replicate i2.toNat (jd (.bool false))).flatten)=cellsOf bC pb.hv:=by rw[hpb];unfold cellsOf Jd;simp only;rw[List.map_replicate];rfl
      have hsc:((List.replicate i2.toNat (jd (str []))).flatten)=cellsOf sC pb.da:=by rw[hpb];unfold cellsOf Jd;simp only;rw[List.map_replicate];rfl
      repeat' (first|refine zh ?_|intro (bk:Nat))
      refine HR.join (ι:=Value×PtV) (fun i=>i.2.pt=pb∧jA9 i.2) (fun i=>[(14,.int .i64 i1),(16,str d),(17,i.1)]) (fun i=>[ptH i.2,ptD i.2,jB (ptG N),jG i.1 173 6 (N.length+1) (cellsOf ptC N++ptC i.2)]) (fun i=>?_) (fun hj4=>?_)
      ·obtain ⟨o3,P⟩:=i
       rintro ⟨hP,hshP⟩
       have hP:P.pt=pb:=hP
       refine HR.ent (H':=jF7 (o3,N++[P])) ?_ ?_
       ·refine Ent.trans (Ent.group (G:=[ptH P,ptD P])) (Ent.trans Ent.jL9 ?_)
        have e:ptG N++[ptH P,ptD P]=ptG (N++[P]):=by rw[kN,jBw]
        rw[e]
        refine Ent.trans (Ent.pick [1,0] I I) (Ent.JV (by simp) ?_)
        rw[jP,J2]
       first|refine HR.ctl I ?_|skip
       refine HR.region ?_
       repeat' (first|refine zn ?_|refine HL.JN (Rd.own 0 I) I I I ?_|apply zb ?_ ?_|exact zc|(refine zi fun hb=>?_;try simp at hb)|intro (bk:Nat))
       refine hj3 (o3,N++[P],N.length) _ _ ⟨?_,fun p hp=>?_⟩ ⟨rfl,rfl,rfl,by show some (Value.int IntKind.i64 _)=some _;congr 2;simp,trivial⟩ Ent.refl
       ·show (pts (N++[P]),N.length)=(jAB (pts M)++[Jd s i0 i2 now],(jAB (pts M)).length)
        rw[← hN,← hpb,← hP,jF6,JH];rfl
       ·rcases List.mem_append.1 hp with hp|hp
        ·exact hshN p hp
        ·rw [List.mem_singleton]at hp;subst hp;exact hshP
      ·refine HR.kM [] I I Jc ?_
       refine za 0 ?_
       refine za 1 ?_
       refine za 2 ?_
       refine za 3 ?_
       refine za 4 ?_
       refine za 6 ?_
       refine za 8 ?_
       refine HA.three 5 7 9 (by kernel_rfl) I I I ?_ ?_ ?_
       ·refine HL.jR jJn I I (fun w _=>Kt now w) ?_
        refine HL.jh [] I I ?_
        refine HA.two 7 9 (by kernel_rfl) I I ?_ ?_
        ·refine HL.kV i2.toNat i2.toNat jA5 I I I I hi2 hi2 (Nat.le_refl _) (show 1*i2.toNat≤_ by omega) (by omega) ?_
         intro vb
         refine HL.ent (Ent.JV hbl hbc) ?_
         refine HL.jh [] I I ?_
         refine HA.one 9 (by kernel_rfl) I ?_
         refine HL.kV i2.toNat i2.toNat Kz I I I I hi2 hi2 (Nat.le_refl _) (show 16*i2.toNat≤_ by omega) (by omega) ?_
         intro vs
         refine HL.ent (Ent.JV hsl hsc) ?_
         refine HL.jh [] I I ?_
         refine HA.row 1 I (v:=vb) (e:=4) (sz:=1) (m:=pb.hv.length) (xs:=cellsOf bC pb.hv) hbl0 fun g1 o1 e1 hvb=>?_
         subst hvb
         refine HA.row 0 I (v:=vs) (e:=9) (sz:=1) (m:=pb.da.length) (xs:=cellsOf sC pb.da) hsl0 fun g2 o2 e2 hvs=>?_
         subst hvs
         refine za 10 ?_
         refine HA.one 11 (by kernel_rfl) I ?_
         refine HL.jv JM I I I I I (by decide) (by decide) ?_
         intro va
         refine HL.jh [] I I ?_
         refine HA.one 12 (by kernel_rfl) I ?_
         refine HL.ZN 3 I JM (Rd.own 0 I) I I I I (jF I) (by show (N.length+1)*80≤_;omega) (by show N.length+1≤_;omega) ?_
         intro o3
         refine HL.jh [] I I ?_
         refine za 13 ?_
         refine HA.done (by kernel_rfl) ?_
         subst hpb
         exact hj4 (o3,⟨.slice (some ⟨g1,o1,none⟩) (Jd s i0 i2 now).hv.length e1,.slice (some ⟨g2,o2,none⟩) (Jd s i0 i2 now).da.length e2,Jd s i0 i2 now⟩) _ _ ⟨rfl,⟨_,_,_,rfl⟩,⟨_,_,_,rfl⟩⟩ ⟨I,I,I,trivial⟩ (Ent.pick [2,1,4,3] I I)
        ·refine HL.kV i2.toNat i2.toNat Kz I I I I hi2 hi2 (Nat.le_refl _) (show 16*i2.toNat≤_ by omega) (by omega) ?_
         intro vs
         refine HL.ent (Ent.JV hsl hsc) ?_
         refine HL.jh [] I I ?_
         refine HA.one 7 (by kernel_rfl) I ?_
         refine HL.kV i2.toNat i2.toNat jA5 I I I I hi2 hi2 (Nat.le_refl _) (show 1*i2.toNat≤_ by omega) (by omega) ?_
         intro vb
         refine HL.ent (Ent.JV hbl hbc) ?_
         refine HL.jh [] I I ?_
         refine HA.row 0 I (v:=vb) (e:=4) (sz:=1) (m:=pb.hv.length) (xs:=cellsOf bC pb.hv) hbl0 fun g1 o1 e1 hvb=>?_
         subst hvb
         refine HA.row 1 I (v:=vs) (e:=9) (sz:=1) (m:=pb.da.length) (xs:=cellsOf sC pb.da) hsl0 fun g2 o2 e2 hvs=>?_
         subst hvs
         refine za 10 ?_
         refine HA.one 11 (by kernel_rfl) I ?_
         refine HL.jv JM I I I I I (by decide) (by decide) ?_
         intro va
         refine HL.jh [] I I ?_
         refine HA.one 12 (by kernel_rfl) I ?_
         refine HL.ZN 3 I JM (Rd.own 0 I) I I I I (jF I) (by show (N.length+1)*80≤_;omega) (by show N.length+1≤_;omega) ?_
         intro o3
         refine HL.jh [] I I ?_
         refine za 13 ?_
         refine HA.done (by kernel_rfl) ?_
         subst hpb
         exact hj4 (o3,⟨.slice (some ⟨g1,o1,none⟩) (Jd s i0 i2 now).hv.length e1,.slice (some ⟨g2,o2,none⟩) (Jd s i0 i2 now).da.length e2,Jd s i0 i2 now⟩) _ _ ⟨rfl,⟨_,_,_,rfl⟩,⟨_,_,_,rfl⟩⟩ ⟨I,I,I,trivial⟩ (Ent.pick [1,2,4,3] I I)
       ·refine HL.kV i2.toNat i2.toNat jA5 I I I I hi2 hi2 (Nat.le_refl _) (show 1*i2.toNat≤_ by omega) (by omega) ?_
        intro vb
        refine HL.ent (Ent.JV hbl hbc) ?_
        refine HL.jh [] I I ?_
        refine HA.two 5 9 (by kernel_rfl) I I ?_ ?_
        ·refine HL.jR jJn I I (fun w _=>Kt now w) ?_
         refine HL.jh [] I I ?_
         refine HA.one 9 (by kernel_rfl) I ?_
         refine HL.kV i2.toNat i2.toNat Kz I I I I hi2 hi2 (Nat.le_refl _) (show 16*i2.toNat≤_ by omega) (by omega) ?_
         intro vs
         refine HL.ent (Ent.JV hsl hsc) ?_
         refine HL.jh [] I I ?_
         refine HA.row 1 I (v:=vb) (e:=4) (sz:=1) (m:=pb.hv.length) (xs:=cellsOf bC pb.hv) hbl0 fun g1 o1 e1 hvb=>?_
         subst hvb
         refine HA.row 0 I (v:=vs) (e:=9) (sz:=1) (m:=pb.da.length) (xs:=cellsOf sC pb.da) hsl0 fun g2 o2 e2 hvs=>?_
         subst hvs
         refine za 10 ?_
         refine HA.one 11 (by kernel_rfl) I ?_
         refine HL.jv JM I I I I I (by decide) (by decide) ?_
         intro va
         refine HL.jh [] I I ?_
         refine HA.one 12 (by kernel_rfl) I ?_
         refine HL.ZN 3 I JM (Rd.own 0 I) I I I I (jF I) (by show (N.length+1)*80≤_;omega) (by show N.length+1≤_;omega) ?_
         intro o3
         refine HL.jh [] I I ?_
         refine za 13 ?_
         refine HA.done (by kernel_rfl) ?_
         subst hpb
         exact hj4 (o3,⟨.slice (some ⟨g1,o1,none⟩) (Jd s i0 i2 now).hv.length e1,.slice (some ⟨g2,o2,none⟩) (Jd s i0 i2 now).da.length e2,Jd s i0 i2 now⟩) _ _ ⟨rfl,⟨_,_,_,rfl⟩,⟨_,_,_,rfl⟩⟩ ⟨I,I,I,trivial⟩ (Ent.pick [2,1,4,3] I I)
        ·refine HL.kV i2.toNat i2.toNat Kz I I I I hi2 hi2 (Nat.le_refl _) (show 16*i2.toNat≤_ by omega) (by omega) ?_
         intro vs
         refine HL.ent (Ent.JV hsl hsc) ?_
         refine HL.jh [] I I ?_
         refine HA.one 5 (by kernel_rfl) I ?_
         refine HL.jR jJn I I (fun w _=>Kt now w) ?_
         refine HL.jh [] I I ?_
         refine HA.row 1 I (v:=vb) (e:=4) (sz:=1) (m:=pb.hv.length) (xs:=cellsOf bC pb.hv) hbl0 fun g1 o1 e1 hvb=>?_
         subst hvb
         refine HA.row 0 I (v:=vs) (e:=9) (sz:=1) (m:=pb.da.length) (xs:=cellsOf sC pb.da) hsl0 fun g2 o2 e2 hvs=>?_
         subst hvs
         refine za 10 ?_
         refine HA.one 11 (by kernel_rfl) I ?_
         refine HL.jv JM I I I I I (by decide) (by decide) ?_
         intro va
         refine HL.jh [] I I ?_
         refine HA.one 12 (by kernel_rfl) I ?_
         refine HL.ZN 3 I JM (Rd.own 0 I) I I I I (jF I) (by show (N.length+1)*80≤_;omega) (by show N.length+1≤_;omega) ?_
         intro o3
         refine HL.jh [] I I ?_
         refine za 13 ?_
         refine HA.done (by kernel_rfl) ?_
         subst hpb
         exact hj4 (o3,⟨.slice (some ⟨g1,o1,none⟩) (Jd s i0 i2 now).hv.length e1,.slice (some ⟨g2,o2,none⟩) (Jd s i0 i2 now).da.length e2,Jd s i0 i2 now⟩) _ _ ⟨rfl,⟨_,_,_,rfl⟩,⟨_,_,_,rfl⟩⟩ ⟨I,I,I,trivial⟩ (Ent.pick [2,1,4,3] I I)
       ·refine HL.kV i2.toNat i2.toNat Kz I I I I hi2 hi2 (Nat.le_refl _) (show 16*i2.toNat≤_ by omega) (by omega) ?_
        intro vs
        refine HL.ent (Ent.JV hsl hsc) ?_
        refine HL.jh [] I I ?_
        refine HA.two 5 7 (by kernel_rfl) I I ?_ ?_
        ·refine HL.jR jJn I I (fun w _=>Kt now w) ?_
         refine HL.jh [] I I ?_
         refine HA.one 7 (by kernel_rfl) I ?_
         refine HL.kV i2.toNat i2.toNat jA5 I I I I hi2 hi2 (Nat.le_refl _) (show 1*i2.toNat≤_ by omega) (by omega) ?_
         intro vb
         refine HL.ent (Ent.JV hbl hbc) ?_
         refine HL.jh [] I I ?_
         refine HA.row 0 I (v:=vb) (e:=4) (sz:=1) (m:=pb.hv.length) (xs:=cellsOf bC pb.hv) hbl0 fun g1 o1 e1 hvb=>?_
         subst hvb
         refine HA.row 1 I (v:=vs) (e:=9) (sz:=1) (m:=pb.da.length) (xs:=cellsOf sC pb.da) hsl0 fun g2 o2 e2 hvs=>?_
         subst hvs
         refine za 10 ?_
         refine HA.one 11 (by kernel_rfl) I ?_
         refine HL.jv JM I I I I I (by decide) (by decide) ?_
         intro va
         refine HL.jh [] I I ?_
         refine HA.one 12 (by kernel_rfl) I ?_
         refine HL.ZN 3 I JM (Rd.own 0 I) I I I I (jF I) (by show (N.length+1)*80≤_;omega) (by show N.length+1≤_;omega) ?_
         intro o3
         refine HL.jh [] I I ?_
         refine za 13 ?_
         refine HA.done (by kernel_rfl) ?_
         subst hpb
         exact hj4 (o3,⟨.slice (some ⟨g1,o1,none⟩) (Jd s i0 i2 now).hv.length e1,.slice (some ⟨g2,o2,none⟩) (Jd s i0 i2 now).da.length e2,Jd s i0 i2 now⟩) _ _ ⟨rfl,⟨_,_,_,rfl⟩,⟨_,_,_,rfl⟩⟩ ⟨I,I,I,trivial⟩ (Ent.pick [1,2,4,3] I I)
        ·refine HL.kV i2.toNat i2.toNat jA5 I I I I hi2 hi2 (Nat.le_refl _) (show 1*i2.toNat≤_ by omega) (by omega) ?_
         intro vb
         refine HL.ent (Ent.JV hbl hbc) ?_
         refine HL.jh [] I I ?_
         refine HA.one 5 (by kernel_rfl) I ?_
         refine HL.jR jJn I I (fun w _=>Kt now w) ?_
         refine HL.jh [] I I ?_
         refine HA.row 0 I (v:=vb) (e:=4) (sz:=1) (m:=pb.hv.length) (xs:=cellsOf bC pb.hv) hbl0 fun g1 o1 e1 hvb=>?_
         subst hvb
         refine HA.row 1 I (v:=vs) (e:=9) (sz:=1) (m:=pb.da.length) (xs:=cellsOf sC pb.da) hsl0 fun g2 o2 e2 hvs=>?_
         subst hvs
         refine za 10 ?_
         refine HA.one 11 (by kernel_rfl) I ?_
         refine HL.jv JM I I I I I (by decide) (by decide) ?_
         intro va
         refine HL.jh [] I I ?_
         refine HA.one 12 (by kernel_rfl) I ?_
         refine HL.ZN 3 I JM (Rd.own 0 I) I I I I (jF I) (by show (N.length+1)*80≤_;omega) (by show N.length+1≤_;omega) ?_
         intro o3
         refine HL.jh [] I I ?_
         refine za 13 ?_
         refine HA.done (by kernel_rfl) ?_
         subst hpb
         exact hj4 (o3,⟨.slice (some ⟨g1,o1,none⟩) (Jd s i0 i2 now).hv.length e1,.slice (some ⟨g2,o2,none⟩) (Jd s i0 i2 now).da.length e2,Jd s i0 i2 now⟩) _ _ ⟨rfl,⟨_,_,_,rfl⟩,⟨_,_,_,rfl⟩⟩ ⟨I,I,I,trivial⟩ (Ent.pick [1,2,4,3] I I)
     ·refine HR.cond I (fun h6=>?_) (fun h6=>?_)
      ·have h6:M.length=8:=by have h6:((M.length:Int)==8)=true:=h6;simp at h6;omega
       obtain ⟨m0,hm0⟩:=jJ (show 0<M.length by omega)
       refine HR.region ?_
       repeat' (first|refine zn ?_|apply zb ?_ ?_|exact zc|(refine zi fun hb=>?_;try simp at hb)|intro (bk:Nat))
       refine HL.JQ jQK I I (fun w1 hw1=>KV M 0 v2 w1 ((Rd.own 0 rfl).at hw1) hshM (by omega) (by omega)) ?_
       intro r
       repeat' (first|refine zn ?_|apply zb ?_ ?_|exact zc|(refine zi fun hb=>?_;try simp at hb)|intro (bk:Nat))
       refine hj6 (r,M.eraseIdx 0) _ _ ⟨?_,fun y hy=>hshM y (List.mem_of_mem_eraseIdx hy)⟩ ⟨I,I,I,I,I,I,I,trivial⟩ (Ent.trans (Ent.pick [2,0] I I) (Ent.trans (Ent.jJh _ (jAT hm0)) (Ent.pick [1,0] I I)))
       show pts (M.eraseIdx 0)=jAB (pts M)
       unfold jAB
       rw[if_pos (by rw[JH];exact h6)]
       exact jBg _ _ _
      ·have h6:¬M.length=8:=by intro e;have h6:((M.length:Int)==8)=false:=h6;rw[e]at h6;cases h6
       refine HR.skip ?_
       refine hj6 (v2,M) _ _ ⟨?_,hshM⟩ ⟨I,I,I,I,I,I,I,trivial⟩ (Ent.pick [0,1] I I)
       show pts M=jAB (pts M)
       unfold jAB
       rw[if_neg (by rw[JH];exact h6)]
  ·rcases Jk (pis s i0) (pts L)with ⟨_,e2,_⟩|⟨a,q,_,e2,hq,_,_⟩
   ·have e2:jAx (pts L) s i0=none:=e2
    rw[e2]
    refine HR.jr I ?_
    refine HR.skip ?_
    exact hj2 (v1,L,none) _ _ ⟨by unfold J7;rw[e2],hsh⟩ ⟨I,I,I,I,I,I,I,I,trivial⟩ Ent.refl
   ·have e2:jAx (pts L) s i0=some a:=e2
    have hal:a<L.length:=by have:=(List.getElem?_eq_some_iff.1 hq).1;rw[JH]at this;exact this
    have hgq:(pts L).getD a pz=q:=by rw[List.getD_eq_getElem?_getD,hq];rfl
    rw[e2]
    obtain ⟨m0,hm0⟩:=jJ hal
    refine HR.cond I (fun h6=>?_) (fun h6=>?_)
    ·have h6:¬((pts L).getD a pz).ct=i2:=by have h6:(((pts L).getD a pz).ct != i2)=true:=h6;simpa using h6
     refine HR.ctl I ?_
     refine HR.region ?_
     repeat' (first|refine zn ?_|apply zb ?_ ?_|exact zc|(refine zi fun hb=>?_;try simp at hb)|intro (bk:Nat))
     refine HL.JQ jQK I I (fun w1 hw1=>KV L a v1 w1 ((Rd.own 0 rfl).at hw1) hsh hal (by omega)) ?_
     intro r
     repeat' (first|refine zn ?_|apply zb ?_ ?_|exact zc|(refine zi fun hb=>?_;try simp at hb)|intro (bk:Nat))
     refine HR.region ?_
     repeat' (first|refine zn ?_|apply zb ?_ ?_|exact zc|(refine zi fun hb=>?_;try simp at hb)|intro (bk:Nat))
     refine hj2 (r,L.eraseIdx a,none) _ _ ⟨?_,fun y hy=>hsh y (List.mem_of_mem_eraseIdx hy)⟩ ⟨I,I,I,I,I,I,I,I,trivial⟩ (Ent.trans (Ent.pick [2,0] I I) (Ent.trans (Ent.jJh _ (jAT hm0)) (Ent.pick [1,0] I I)))
     show (pts (L.eraseIdx a),(none:Option Nat))=J7 (pts L) s i0 i2
     unfold J7
     rw[e2]
     simp only
     rw[if_neg h6]
     exact congrArg (·,none) (jBg _ _ _)
    ·have h6:((pts L).getD a pz).ct=i2:=by have h6:(((pts L).getD a pz).ct != i2)=false:=h6;simpa using h6
     refine HR.skip ?_
     refine hj2 (v1,L,some a) _ _ ⟨?_,hsh⟩ ⟨I,I,I,I,I,I,I,I,trivial⟩ Ent.refl
     show (pts L,some a)=J7 (pts L) s i0 i2
     unfold J7
     rw[e2]
     simp only
     rw[if_pos h6]
 ·have hpf:pfi (pts L) s i0=atI (jAx (pts L) s i0):=by
   unfold pfi jAx fidx atI
   cases List.findIdx? (pis s i0) (pts L)<;>rfl
  rw[hpf]
  rcases Jk (pis s i0) (pts L)with ⟨_,e2,_⟩|⟨a,q,_,e2,hq,_,_⟩
  ·have e2:jAx (pts L) s i0=none:=e2
   rw[e2]at hj ⊢
   refine HR.region ?_
   repeat' (first|refine zn ?_|intro (bk:Nat))
   exact hj () _ _ trivial ⟨I,I,I,I,I,I,I,I,I,trivial⟩ Ent.refl
  ·have e2:jAx (pts L) s i0=some a:=e2
   have hal:a<L.length:=by have:=(List.getElem?_eq_some_iff.1 hq).1;rw[JH]at this;exact this
   have hgq:(pts L).getD a pz=q:=by rw[List.getD_eq_getElem?_getD,hq];rfl
   obtain ⟨p,hp⟩:=jJ hal
   have hpq:p.pt=q:=by rw[KL hp]at hq;cases hq;rfl
   rw[e2]at hj ⊢
   simp only[hgq,← hpq]at hj
   refine HR.region ?_
   repeat' (first|refine zn ?_|refine HL.JA (Rd.own 0 I) JM a I I I I hal ?_|refine HL.jo 2 (Rd.own 0 I) (show a*6<(cellsOf ptC L).length by rw[hcl];omega) I I I I I I I ?_|refine HL.ji (Rd.own 0 I) I I I I (jQ JR hp (i:=2) I) ?_|intro (bk:Nat))
   exact hj () _ _ trivial ⟨I,I,I,I,I,I,I,I,I,trivial⟩ Ent.refl
end Go.Proofs.YtgfdoognildoeaaGreat
namespace Go.GX
open Go.RowKit
def jK6 (md:Region.Mode) (ops:Array Oper) (i:Nat):List Nat:=match ops[i]? with
 |some o=>(o.after.toList.filter fun e=>Region.binds md e).map (·.on)
 |none=>[]
def jFd:List Nat→List Nat→List Nat
 |l,[]=>l
 |l,x::xs=>match kT x l with
  |true=>jFd l xs
  |false=>jFd (x::l) xs
def jHe (md:Region.Mode) (ops:Array Oper):Nat→List Nat→List Nat
 |0,l=>l
 |n+1,l=>jHe md ops n (jFd l (l.flatMap (jK6 md ops)))
def jGw (md:Region.Mode) (ops:Array Oper) (z:Nat):Bool:=(List.range ops.size).all fun i=>Nat.beq i z||kT i (jHe md ops 12 (jK6 md ops z))
def Closed (md:Region.Mode) (ops:Array Oper) (listed:Array Bool):Prop:=∀(j:Nat) (oj:Oper),ops[j]? =some oj→listed.getD j true=true→∀e∈oj.after,Region.binds md e=true→listed.getD e.on false=true
section
variable {P : Program} {md : Region.Mode} {ops : Array Oper} {Q : Exit → Act → World → Prop} {S : World → Prop} {z : Nat} {listed : Array Bool}
theorem jA8 {x:Nat}:∀ {xs l:List Nat},x∈jFd l xs→x∈l∨x∈xs
 |[],l,h=> .inl h
 |y::xs,l,h=>by
  unfold jFd at h
  split at h
  ·exact (jA8 h).imp id (List.mem_cons_of_mem _)
  ·rcases jA8 h with h|h
   ·rcases List.mem_cons.1 h with rfl|h
    ·exact .inr (List.mem_cons_self ..)
    ·exact .inl h
   ·exact .inr (List.mem_cons_of_mem _ h)
theorem jAu {i j:Nat} (h:j∈jK6 md ops i):∃o,ops[i]? =some o∧∃e∈o.after,Region.binds md e=true∧e.on=j:=by
 unfold jK6 at h
 split at h
 ·rename_i o ho
  obtain ⟨e,he,rfl⟩:=List.mem_map.1 h
  rw[List.mem_filter]at he
  exact ⟨o,ho,e,by simpa using he.1,he.2,rfl⟩
 ·cases h
theorem jAf {j:Nat} (h:listed.getD j false=true):listed.getD j true=true:=by
 simp only[Array.getD_eq_getD_getElem?]at*
 cases h2:listed[j]? with
 |none=>rfl
 |some b=>rw[h2]at h;exact h
theorem ko (hc:Closed md ops listed):∀(n:Nat) (l:List Nat),(∀ x∈l,listed.getD x false=true)→∀x∈jHe md ops n l,listed.getD x false=true
 |0,l,h,x,hx=>h x hx
 |n+1,l,h,x,hx=>by
  refine ko hc n _ (fun y hy=>?_) x hx
  rcases jA8 hy with hy|hy
  ·exact h y hy
  ·obtain ⟨i,hi,hy⟩:=List.mem_flatMap.1 hy
   obtain ⟨o,ho,e,he,hb,rfl⟩:=jAu hy
   exact hc i o ho (jAf (h i hi)) e he hb
theorem jFi (hz:jGw md ops z=true) (hc:Closed md ops listed) (hr:z∈Region.ready md ops listed) {i:Nat} (hi:i<ops.size) (hne:i≠z):listed.getD i false=true:=by
 have h1:=List.all_eq_true.1 hz i (List.mem_range.2 hi)
 have h2:Nat.beq i z=false:=by
  rw[← Bool.not_eq_true];intro hb;exact hne (Nat.eq_of_beq_eq_true hb)
 rw[h2,Bool.false_or]at h1
 obtain ⟨_,oz,hoz,hall⟩:=mem_ready.1 hr
 refine ko hc 12 _ (fun y hy=>?_) i (KP h1)
 obtain ⟨o,ho,e,he,hb,rfl⟩:=jAu hy
 rw[hoz]at ho;cases ho
 exact hall e he hb
theorem Closed.set (hc:Closed md ops listed) {j:Nat} (hr:j∈Region.ready md ops listed):Closed md ops (listed.setIfInBounds j true):=by
 obtain ⟨_,oj,hoj,hall⟩:=mem_ready.1 hr
 intro k ok hk hl e he hb
 by_cases hkj:j=k
 ·subst hkj
  rw[hoj]at hk;cases hk
  exact getD_set_true (hall e he hb)
 ·rw [getD_set_ne true hkj]at hl
  exact getD_set_true (hc k ok hk hl e he hb)
theorem Closed.start {n:Nat} (hn:n=ops.size):Closed md ops (Array.replicate n false):=by
 subst hn
 intro j oj hj hl
 have hlt:=(Array.getElem?_eq_some_iff.1 hj).1
 simp[Array.getD_eq_getD_getElem?,hlt]at hl
theorem jEV (hz:jGw md ops z=true) {i:Nat} {oi:Oper} {v:Value} (hi:ops[i]? =some oi) (hiz:i≠z) (hsel:∀(j:Nat) (o:Oper) cs b,ops[j]? =some o→o.op≠ .select cs b)
  (hQ:∀c a w,Q (.panic c) (a.put oi.dst v) w→Q (.panic c) a w):
  ∀(fuel:Nat) (listed:Array Bool) (a:Act) (w:World),Closed md ops listed→
   (∀ j oj,ops[j]? =some oj→j≠i→listed.getD j true=false→(∀ e∈oj.after,Region.binds md e=true→e.on≠i)→oi.apart ops oj=true)→
   i∈Region.ready md ops listed→YieldsIf P ops S oi v a→S w→
   jET P md ops Q S z fuel (listed.setIfInBounds i true) (a.put oi.dst v) w→jET P md ops Q S z (fuel+1) listed a w:=by
 intro fuel
 induction fuel with
 |zero=>
  intro listed a w _ _ hr hy hS H
  refine ⟨fun h=>(by rw[h]at hr;cases hr),fun j hj=>?_⟩
  by_cases hji:j=i
  ·subst hji;exact hy.wpOp hi hS ⟨.inr hS,H⟩
  ·have:=ready_mono hj hji
   rw[H.1]at this
   cases this
 |succ fuel ih=>
  intro listed a w hc hfree hr hy hS H
  refine ⟨fun h=>(by rw[h]at hr;cases hr),fun j hj=>?_⟩
  by_cases hji:j=i
  ·subst hji;exact hy.wpOp hi hS ⟨.inr hS,H⟩
  ·have h1:=H.2 j (ready_mono hj hji)
   obtain ⟨hjun,oj,hoj,hall⟩:=mem_ready.1 hj
   have h0:=(mem_ready.1 hr).1
   have hnot:∀e∈oj.after,Region.binds md e=true→e.on≠i:=fun e he hb heq=>by
    have h1:=hall e he hb
    rw[heq]at h1
    rw[jAf h1]at h0;cases h0
   have hjz:j≠z:=by
    intro e
    subst e
    have:=jFi hz hc hj (Array.getElem?_eq_some_iff.1 hi).1 (Ne.symm hji)
    rw[jAf this]at h0;cases h0
   have h2:=wpOp_putIf hoj (hfree j oj hoj hji hjun hnot) (fun cs b=>hsel i oi cs b hi) (fun cs b=>hsel j oj cs b hoj) hQ hy h1
   have hfree':∀k ok,ops[k]? =some ok→k≠i→(listed.setIfInBounds j true).getD k true=false→
     (∀ e∈ok.after,Region.binds md e=true→e.on≠i)→oi.apart ops ok=true:=fun k ok hk hki hun hno=>by
    refine hfree k ok hk hki ?_ hno
    by_cases hjk:j=k
    ·subst hjk;exact hjun
    ·rw [getD_set_ne true hjk]at hun;exact hun
   refine wpOp_mono (fun a' w' h3=>?_) h2
   have hS':S w':=h3.2.1.resolve_left hjz
   refine ⟨.inr hS',ih (listed.setIfInBounds j true) a' w' (hc.set hj) hfree' (ready_mono hr (Ne.symm hji)) h3.1 hS' ?_⟩
   rw[Array.setIfInBounds_comm _ _ hji]
   exact h3.2.2
end
def jLR (z:Nat):List (Nat×Bool)→Bool
 |[]=>true
 |(i,_)::p=>match Nat.beq i z with
  |true=>false
  |false=>jLR z p
def jLC (ops:Array Oper) (p:List (Nat×Bool)) (z:Nat):Bool:=Region.noSelect ops&&Nat.beq (p.length+1) ops.size&&jLR z p&&jGw .any ops z&&kQ ops (p++[(z,false)]) (Array.replicate ops.size false)
section
variable {P : Program} {f : FuncId} {N : Nat} {k : List Item} {σ : Store} {B : Base} {H F : List Chunk} {R : Ending → World → Prop} {ops l : List Oper} {o : Oper} {K : Act → World → Prop} {S : World → Prop} {z : Nat}
theorem jKE {ops:Array Oper} {K1 K2:Act→World→Prop} {i:Nat} {next:Act→World→Prop} {a:Act} {w:World} (h:wpOp P ops (QN K1) i next a w):wpOp P ops (QN K2) i next a w:=by
 unfold wpOp at*
 split
 ·rename_i ho
  simpa[ho]using h
 ·rename_i o ho
  simp only[ho]at h
  split
  ·rename_i hw
   rw[if_pos hw]at h
   rcases h with h|h
   ·exact .inl (jPc h)
   ·exact (Kw h.2).elim
  ·rename_i hw
   rw[if_neg hw]at h
   exact h
theorem ZW {ops:Array Oper} {K:Act→World→Prop} (hn:Region.noSelect ops=true) (hz:jGw .any ops z=true):∀(p:List (Nat×Bool)) (listed:Array Bool) (a:Act) (w:World),S w→Closed .any ops listed→jLR z p=true→
  kQ ops (p++[(z,false)]) listed=true→jAL P ops S (fun a w=>wpOp P ops (QN K) z K a w) p a w→jET P .any ops (QN K) S z (p.length+1) listed a w
 |[],listed,a,w,hS,_,_,hB,h=>by
  simp only[List.nil_append,kQ,Bool.and_eq_true,decide_eq_true_eq]at hB
  refine ⟨fun h0=>absurd (hB.1.symm.trans h0) (by simp),fun j hj=>?_⟩
  rw[hB.1]at hj
  have:j=z:=by simpa using hj
  subst this
  exact wpOp_mono (fun a' w' h'=>⟨.inl rfl,by simpa using hB.2,rfl,h'⟩) h
 |(i,true)::p,listed,a,w,hS,hc,hnz,hB,h=>by
  obtain ⟨o,v,ho,hy,h⟩:=h
  simp only[List.cons_append,kQ,Bool.and_eq_true]at hB
  have hf:=Region.free_spec ho hB.1.2
  unfold jLR at hnz
  split at hnz
  ·cases hnz
  ·rename_i hb
   have hiz:i≠z:=by rintro rfl;rw[Nat.beq_refl]at hb;cases hb
   have hr:i∈Region.ready .any ops listed:=by simpa using hB.1.1
   exact jEV hz ho hiz (Region.noSelect_spec hn) (fun c a w h=>absurd h.1 (by nofun)) _ listed a w hc hf hr hy hS (ZW hn hz p _ _ _ hS (hc.set hr) hnz hB.2 h)
 |(i,false)::p,listed,a,w,hS,hc,hnz,hB,h=>by
  simp only[List.cons_append,kQ,Bool.and_eq_true,decide_eq_true_eq]at hB
  refine ⟨fun h0=>absurd (hB.1.symm.trans h0) (by simp),fun j hj=>?_⟩
  have hj0:=hj
  rw[hB.1]at hj
  have:j=i:=by simpa using hj
  subst this
  unfold jLR at hnz
  split at hnz
  ·cases hnz
  ·exact jKE (wpOp_mono (fun a' w' h'=>⟨.inr h'.1,ZW hn hz p _ _ _ h'.1 (hc.set hj0) hnz hB.2 h'.2⟩) h)
theorem HR.Jf (p:List (Nat×Bool)) (z:Nat) (is:List Nat) (hF:jAV H is=some F) (hd:Ju is=true) {id:Nat} (hm:P.follows .mixedOrders=true) (hB:jLC ops.toArray p z=true)
  (h:HD P N ops p σ B H F (KZ P ops z (K4 P f k R))):HR P f N (.code (.region id ops.toArray true)::k) σ B H R:=by
 intro w hw a ha
 simp only[jLC,Bool.and_eq_true]at hB
 obtain ⟨⟨⟨⟨h1,h2⟩,h3⟩,h4⟩,h5⟩:=hB
 have hb:Below w.heap.size w { w with drawn:=w.drawn+1 }:=⟨rfl,rfl,rfl,Nat.le_refl _,fun _ _=>rfl⟩
 have hw1:Sat B H { w with drawn:=w.drawn+1 }:=hw.grow hb
 refine K4.of_wp (wp_region_any hm (jCt (S:=fun w=>Sat B F w) (z:=z) _ _ _ _ ?_))
 rw[show ops.toArray.size=p.length+1 from (Nat.eq_of_beq_eq_true h2).symm]
 rw[show ops.toArray.size=p.length+1 from (Nat.eq_of_beq_eq_true h2).symm]at h5
 exact ZW h1 h4 p _ _ _ (hw1.pick is hF hd) (Closed.start (Nat.eq_of_beq_eq_true h2)) h3 h5 (h _ hw1 (hw1.pick is hF hd) a ha)
end
end Go.GX
namespace Go.Proofs.YtgfdoognildoeaaGreat
open Go.GX Go.RowKit
attribute [local irreducible] Calls Run jZ jf JK HR HL HD jT jG JY Rd jK jY
open Nd
theorem jJo:IsFn Tryz.prog 160:=⟨⟨_,_,Tryz.func160,rfl,by decide⟩⟩
theorem jMF:IsFn Tryz.prog 119:=⟨⟨_,_,Tryz.func119,rfl,by decide⟩⟩
theorem jRt:IsFn Tryz.prog 158:=⟨⟨_,_,Tryz.func158,rfl,by decide⟩⟩
theorem jR0:IsFn Tryz.prog 118:=⟨⟨_,_,Tryz.func118,rfl,by decide⟩⟩
abbrev SV:=Option Addr×Nat
abbrev sv (x:SV) (n:Nat):Value:= .slice x.1 n x.2
structure NV where
 ta:SV
 li:SV
 ou:SV
 ch:SV
 bo:SV
 se:SV
 pa:SV
 ib:SV
 ps:List PtV
abbrev ndC (V:NV) (n:Nd):List Value:=[.int .i64 n.addr,.int .i64 n.poll,.int .i64 n.parent,sv V.ta n.table.length,sv V.li n.links.length,sv V.ou n.out.length,sv V.ch n.children.length,sv V.bo n.boxes.length,sv V.se n.seen.length,sv V.pa V.ps.length,sv V.ib n.inbox.length,.int .i64 n.seq,.int .i64 n.lost]
abbrev stC (V:NV) (n:Nd) (now:Int):List Value:=[.int .i64 n.addr,.int .i64 n.poll,.int .i64 n.parent,sv V.ta n.table.length,sv V.li n.links.length,sv V.ou n.out.length,sv V.ch n.children.length,sv V.bo n.boxes.length,sv V.se n.seen.length,sv V.pa V.ps.length,sv V.ib n.inbox.length,.int .i64 n.seq,.int .i64 n.lost,.int .i64 now]
abbrev cTa (v:Value) (l:List Ro):Chunk:=jG v 94 4 l.length (cellsOf roC l)
abbrev cLi (v:Value) (l:List Li):Chunk:=jG v 162 3 l.length (cellsOf liC l)
abbrev cSn (v:Value) (l:List Sn):Chunk:=jG v 131 11 l.length (cellsOf snC l)
abbrev cI (v:Value) (l:List Int):Chunk:=jG v 3 1 l.length (cellsOf iC l)
abbrev cMa (v:Value) (l:List Ma):Chunk:=jG v 166 10 l.length (cellsOf maC l)
abbrev cPr (v:Value) (l:List Pr):Chunk:=jG v 171 2 l.length (cellsOf prC l)
abbrev cPt (v:Value) (l:List PtV):Chunk:=jG v 173 6 l.length (cellsOf ptC l)
abbrev cDe (v:Value) (l:List De):Chunk:=jG v 65 2 l.length (cellsOf deC l)
abbrev ndH (V:NV) (n:Nd):List Chunk:=[cTa (sv V.ta n.table.length) n.table,cLi (sv V.li n.links.length) n.links,cSn (sv V.ou n.out.length) n.out,cI (sv V.ch n.children.length) n.children,cMa (sv V.bo n.boxes.length) n.boxes,cPr (sv V.se n.seen.length) n.seen,cPt (sv V.pa V.ps.length) V.ps,jB (ptG V.ps),cDe (sv V.ib n.inbox.length) n.inbox]
abbrev jCV (b:Nat) (V:NV) (n:Nd) (now:Int):Chunk:=jT b (stC V n now) 113
abbrev stH (b:Nat) (V:NV) (n:Nd) (now:Int):List Chunk:=jCV b V n now::ndH V n
abbrev ptr (b:Nat):Value:= .pointer (some ⟨b,0,none⟩)
structure Pts (V:NV) (n:Nd):Prop where
 eq:pts V.ps=n.parts
 sh:∀p∈V.ps,jA9 p
theorem Z0 (b:Nat) (V:NV) (n:Nd) (now:Int) (B:Base) (w:World) (hw:Sat B [jCV b V n now] w) (ho:0≤n.lost∧n.lost≤JU):
  Calls Tryz.prog 160 #[ptr b] w fun e w'=>∃_x:Unit,e= .returned (.tuple ⟨[]⟩)∧True∧Sat ⟨w,Zn [jCV b V n now]⟩ [jCV b V (lose n) now] w':=by
 obtain ⟨h0,h1⟩:=ho
 have h1:n.lost≤1099511627776:=h1
 refine jg [jCV b V n now] (hw) Tryz.func160 I (Nat.le_of_ble_eq_true I) ?_
 refine HR.sub (σ':=[(0,ptr b)]) ⟨I,trivial⟩ ?_
 repeat' (first|refine zh ?_|intro (bk:Nat))
 refine HR.fin Tryz.func160 I [] (fun _ _=>trivial) ?_
 have e:(if 1099511627776<n.lost+1 then (1099511627776:Int)else n.lost+1)=min (n.lost+1) JU:=by
  show _=min (n.lost+1) 1099511627776
  split<;>omega
 refine fun w' hw=>⟨(),rfl,trivial,?_⟩
 have hw2:Sat _ [jCV b V { n with lost:=if 1099511627776<n.lost+1 then 1099511627776 else n.lost+1 } now] w':=hw
 rw[e]at hw2
 exact hw2
theorem Zz (b:Nat) (V:NV) (n:Nd) (now:Int) (f:Fr) (B:Base) (w:World) (hw:Sat B (stH b V n now) w) (ho:Ord n):
  Calls Tryz.prog 119 #[ptr b,.agg ⟨frC f⟩] w fun e w'=>∃x:SV,e= .returned (.bool (queue n f).2)∧True∧Sat ⟨w,Zn (stH b V n now)⟩ (stH b { V with ou:=x } (queue n f).1 now) w':=by
 have h16:=ho.out
 have hlo:=ho.lost
 refine jg (stH b V n now) (hw) Tryz.func119 I (Nat.le_of_ble_eq_true I) ?_
 refine HR.sub (σ':=[(0,ptr b),(1,.agg ⟨frC f⟩)]) ⟨I,I,trivial⟩ ?_
 repeat' (first|refine zh ?_|intro (bk:Nat))
 refine HR.j4 [(0,true),(1,true),(2,true),(3,true),(4,true),(5,true),(6,false),(7,true),(8,true),(9,true),(10,true),(11,true)] [0,1] I I Jc (by kernel_rfl) ?_
 repeat' (first|refine zd ?_|fail)
 refine HD.one I ?_
 refine HL.JC (r:=fun v':Value=> .tuple ⟨[v',.bool (jDB n.out f).2]⟩) (Q:=fun _=>True) (G:=fun v'=>[cSn v' (jDB n.out f).1]) fn196 I I (fun w1 hw1=>jNX n.out f (sv V.ou n.out.length) w1 ((Rd.own 4 rfl).at hw1) (by omega)) ?_
 intro v1 _
 refine HL.shape 0 I fun a c hv=>?_
 subst hv
 refine HL.back [1,2] I I ?_
 repeat' (first|refine zd ?_|fail)
 refine HD.nil ?_
 obtain ⟨q,hq⟩:∃q,q=jDB n.out f:=⟨_,rfl⟩
 have hsp:queue n f=(if q.2=false∨q.1.length=n.out.length then lose { n with out:=q.1 } else { n with out:=q.1 },q.2):=by rw[hq];rfl
 rw[hsp,← hq]
 refine HR.ent (H':=jCV b V n now::cSn (.slice a q.1.length c) q.1::ndH V n) (Ent.pick [2,0,3,4,5,6,7,8,9,10,11] I I) ?_
 obtain ⟨m,hm⟩:∃m:Nd,m=(if q.2=false∨q.1.length=n.out.length then lose n else n):=⟨_,rfl⟩
 have hmo:(if q.2=false∨q.1.length=n.out.length then lose { n with out:=q.1 } else { n with out:=q.1 })={ m with out:=q.1 }:=by
  rw[hm];split<;>rfl
 have hmn:∀V:NV,ndH V m=ndH V n:=by intro V;rw[hm];split<;>rfl
 rw[hmo]
 repeat' (first|refine zh ?_|apply zb ?_ ?_|exact zc|(refine zi fun hb=>?_;try simp at hb)|intro (bk:Nat))
 refine HR.join (ι:=Unit) (fun _=>True) (fun _=>[(0,ptr b),(5,.slice a q.1.length c),(6,.bool q.2)]) (fun _=>jCV b V m now::cSn (.slice a q.1.length c) q.1::ndH V m) (fun _ _=>?_) (fun hj=>?_)
 ·repeat' (first|refine zh ?_|intro (bk:Nat))
  refine HR.ret Tryz.func119 I [_] (fun _ _=>⟨I,trivial⟩) ?_
  refine fun w' hw=>⟨(a,c),rfl,trivial,?_⟩
  exact hw.pick [0,2,3,1,5,6,7,8,9,10] I I
 ·refine HR.cond I (fun h=>?_) (fun h=>?_)
  ·have h:(!q.2||((q.1.length:Int)==(n.out.length:Int)))=true:=h
   have h2:q.2=false∨(q.1.length:Int)=(n.out.length:Int):=by simpa using h
   have h:q.2=false∨q.1.length=n.out.length:=h2.imp id (fun e=>by omega)
   rw[if_pos h]at hm
   refine HR.region ?_
   repeat' (first|refine zn ?_|apply zb ?_ ?_|exact zc|(refine zi fun hb=>?_;try simp at hb)|intro (bk:Nat))
   refine HL.Jh (r:=fun _:Unit=> .tuple ⟨[]⟩) (Q:=fun _=>True) (G0:=[jCV b V n now]) (H0:=cSn (.slice a q.1.length c) q.1::ndH V n) (G:=fun _=>[jCV b V (lose n) now]) jJo I I I (fun w1 hw1=>Z0 b V n now _ w1 (hw1.pick [0] I I) hlo) ?_
   intro _ _
   repeat' (first|refine zn ?_|apply zb ?_ ?_|exact zc|(refine zi fun hb=>?_;try simp at hb)|intro (bk:Nat))
   refine hj () _ _ trivial ⟨I,I,I,trivial⟩ (Ent.of_eq ?_)
   rw[hmn,hm];rfl
  ·have h:(!q.2||((q.1.length:Int)==(n.out.length:Int)))=false:=h
   have h2:¬(q.2=false∨(q.1.length:Int)=(n.out.length:Int)):=by simpa using h
   have h:¬(q.2=false∨q.1.length=n.out.length):=fun e=>h2 (e.imp id (fun e=>by omega))
   rw[if_neg h]at hm
   refine HR.skip ?_
   refine hj () _ _ trivial ⟨I,I,I,trivial⟩ (Ent.of_eq ?_)
   rw[hmn,hm]
theorem jG1 (b:Nat) (V:NV) (n:Nd) (now:Int) (f:Fr) (B:Base) (w:World) (hw:Sat B (stH b V n now) w) (ho:Ord n):
  Calls Tryz.prog 158 #[ptr b,.agg ⟨frC f⟩] w fun e w'=>∃x:SV,e= .returned (.tuple ⟨[]⟩)∧True∧Sat ⟨w,Zn (stH b V n now)⟩ (stH b { V with bo:=x } (box n f now) now) w':=by
 have h16:=ho.boxes
 have hlo:=ho.lost
 refine jg (stH b V n now) (hw) Tryz.func158 I (Nat.le_of_ble_eq_true I) ?_
 refine HR.sub (σ':=[(0,ptr b),(1,.agg ⟨frC f⟩)]) ⟨I,I,trivial⟩ ?_
 repeat' (first|refine zh ?_|intro (bk:Nat))
 refine HR.j4 [(0,true),(1,true),(2,true),(3,true),(4,true),(5,true),(6,true),(7,true),(8,true),(9,true),(10,false),(11,true),(12,true),(13,true),(14,true),(15,true)] [0,1] I I Jc (by kernel_rfl) ?_
 repeat' (first|refine zd ?_|fail)
 refine HD.one I ?_
 refine HL.JC (r:=fun v':Value=> .tuple ⟨[v',.bool (jEQ n.boxes f now).2]⟩) (Q:=fun _=>True) (G:=fun v'=>[cMa v' (jEQ n.boxes f now).1]) fn213 I I (fun w1 hw1=>jN4 n.boxes f now (sv V.bo n.boxes.length) w1 ((Rd.own 6 rfl).at hw1) (by omega)) ?_
 intro v1 _
 refine HL.shape 0 I fun a c hv=>?_
 subst hv
 refine HL.back [1,2] I I ?_
 repeat' (first|refine zd ?_|fail)
 refine HD.nil ?_
 obtain ⟨q,hq⟩:∃q,q=jEQ n.boxes f now:=⟨_,rfl⟩
 have hsp:box n f now=(if q.2=false∨q.1.length=n.boxes.length then lose { n with boxes:=q.1 } else { n with boxes:=q.1 }):=by rw[hq];rfl
 rw[hsp]
 rw[← hq]
 refine HR.ent (H':=jCV b V n now::cMa (.slice a q.1.length c) q.1::ndH V n) (Ent.pick [2,0,3,4,5,6,7,8,9,10,11] I I) ?_
 obtain ⟨m,hm⟩:∃m:Nd,m=(if q.2=false∨q.1.length=n.boxes.length then lose n else n):=⟨_,rfl⟩
 have hmo:(if q.2=false∨q.1.length=n.boxes.length then lose { n with boxes:=q.1 } else { n with boxes:=q.1 })={ m with boxes:=q.1 }:=by
  rw[hm];split<;>rfl
 have hmn:∀V:NV,ndH V m=ndH V n:=by intro V;rw[hm];split<;>rfl
 rw[hmo]
 repeat' (first|refine zh ?_|apply zb ?_ ?_|exact zc|(refine zi fun hb=>?_;try simp at hb)|intro (bk:Nat))
 refine HR.join (ι:=Unit) (fun _=>True) (fun _=>[(0,ptr b),(4,.slice a q.1.length c),(5,.bool q.2)]) (fun _=>jCV b V m now::cMa (.slice a q.1.length c) q.1::ndH V m) (fun _ _=>?_) (fun hj=>?_)
 ·repeat' (first|refine zh ?_|intro (bk:Nat))
  refine HR.fin Tryz.func158 I [] (fun _ _=>trivial) ?_
  refine fun w' hw=>⟨(a,c),rfl,trivial,?_⟩
  exact hw.pick [0,2,3,4,5,1,7,8,9,10] I I
 ·refine HR.cond I (fun h=>?_) (fun h=>?_)
  ·have h:(!q.2||((q.1.length:Int)==(n.boxes.length:Int)))=true:=h
   have h2:q.2=false∨(q.1.length:Int)=(n.boxes.length:Int):=by simpa using h
   have h:q.2=false∨q.1.length=n.boxes.length:=h2.imp id (fun e=>by omega)
   rw[if_pos h]at hm
   refine HR.region ?_
   repeat' (first|refine zn ?_|apply zb ?_ ?_|exact zc|(refine zi fun hb=>?_;try simp at hb)|intro (bk:Nat))
   refine HL.Jh (r:=fun _:Unit=> .tuple ⟨[]⟩) (Q:=fun _=>True) (G0:=[jCV b V n now]) (H0:=cMa (.slice a q.1.length c) q.1::ndH V n) (G:=fun _=>[jCV b V (lose n) now]) jJo I I I (fun w1 hw1=>Z0 b V n now _ w1 (hw1.pick [0] I I) hlo) ?_
   intro _ _
   repeat' (first|refine zn ?_|apply zb ?_ ?_|exact zc|(refine zi fun hb=>?_;try simp at hb)|intro (bk:Nat))
   refine hj () _ _ trivial ⟨I,I,I,trivial⟩ (Ent.of_eq ?_)
   rw[hmn,hm];rfl
  ·have h:(!q.2||((q.1.length:Int)==(n.boxes.length:Int)))=false:=h
   have h2:¬(q.2=false∨(q.1.length:Int)=(n.boxes.length:Int)):=by simpa using h
   have h:¬(q.2=false∨q.1.length=n.boxes.length):=fun e=>h2 (e.imp id (fun e=>by omega))
   rw[if_neg h]at hm
   refine HR.skip ?_
   refine hj () _ _ trivial ⟨I,I,I,trivial⟩ (Ent.of_eq ?_)
   rw[hmn,hm]
theorem jBB (b:Nat) (V:NV) (n:Nd) (now:Int) (d:De) (B:Base) (w:World) (hw:Sat B (stH b V n now) w) (ho:Ord n):
  Calls Tryz.prog 118 #[ptr b,.agg ⟨deC d⟩] w fun e w'=>∃x:SV,e= .returned (.tuple ⟨[]⟩)∧True∧Sat ⟨w,Zn (stH b V n now)⟩ (stH b { V with ib:=x } (deliver n d) now) w':=by
 have h256:=ho.inbox
 have hlo:=ho.lost
 refine jg (stH b V n now) (hw) Tryz.func118 I (Nat.le_of_ble_eq_true I) ?_
 refine HR.sub (σ':=[(0,ptr b),(1,.agg ⟨deC d⟩)]) ⟨I,I,trivial⟩ ?_
 repeat' (first|refine zh ?_|intro (bk:Nat))
 refine HR.cond I (fun h=>?_) (fun h=>?_)
 ·have h:n.inbox.length≥256:=by have:=of_decide_eq_true h;omega
  have e:deliver n d=lose n:=by unfold deliver;rw[if_pos h]
  rw[e]
  repeat' (first|refine zh ?_|intro (bk:Nat))
  refine HL.ent (Ent.pick [1,2,3,4,5,6,7,8,9,10] I I) ?_
  refine HL.Jh (r:=fun _:Unit=> .tuple ⟨[]⟩) (Q:=fun _=>True) (G0:=[jCV b V n now]) (H0:=ndH V n) (G:=fun _=>[jCV b V (lose n) now]) jJo I I I (fun w1 hw1=>Z0 b V n now _ w1 (hw1.pick [0] I I) hlo) ?_
  intro _ _
  repeat' (first|refine zh ?_|intro (bk:Nat))
  refine HR.ret Tryz.func118 I [] (fun _ _=>trivial) ?_
  exact fun w' hw=>⟨V.ib,rfl,trivial,hw⟩
 ·have h:¬n.inbox.length≥256:=by have:=of_decide_eq_false h;omega
  have e:deliver n d={ n with inbox:=n.inbox++[d] }:=by unfold deliver;rw[if_neg h]
  rw[e]
  repeat' (first|refine zh ?_|intro (bk:Nat))
  refine HR.Jf [(0,true),(1,true),(2,true),(3,true),(4,true),(5,true),(6,true),(7,false),(8,false),(9,true),(10,true),(11,true)] 12 [0,1] I I Jc (by kernel_rfl) ?_
  repeat' (first|refine zd ?_|fail)
  refine HD.one I ?_
  refine HL.jv jFN I I I I I (by decide) (by decide) ?_
  intro va
  refine HL.back [1,2] I I ?_
  refine HD.one I ?_
  refine HL.ZN 11 I jFN (Rd.own 0 I) I I I I (jF I) (by omega) (by omega) ?_
  intro v2
  refine HL.back [1,2] I I ?_
  repeat' (first|refine zd ?_|fail)
  refine HD.last I ?_
  refine HL.shape 11 I fun a c hv=>?_
  subst hv
  repeat' (first|refine zn ?_|intro (bk:Nat))
  refine HR.fin Tryz.func118 I [] (fun _ _=>trivial) ?_
  refine fun w' hw=>⟨(a,c),rfl,trivial,?_⟩
  have w1:=hw.pick [11,2,3,4,5,6,7,8,9,10] I I
  have hl:n.inbox.length+1=(n.inbox++[d]).length:=by simp
  have hc:cellsOf deC n.inbox++deC d=cellsOf deC (n.inbox++[d]):=by rw[jP];rfl
  have w2:Sat _ (jG (.slice a (n.inbox.length+1) c) 65 2 (n.inbox.length+1) (cellsOf deC n.inbox++deC d)::jT b [.int .i64 n.addr,.int .i64 n.poll,.int .i64 n.parent,sv V.ta n.table.length,sv V.li n.links.length,sv V.ou n.out.length,sv V.ch n.children.length,sv V.bo n.boxes.length,sv V.se n.seen.length,sv V.pa V.ps.length,.slice a (n.inbox.length+1) c,.int .i64 n.seq,.int .i64 n.lost,.int .i64 now] 113::[cTa (sv V.ta n.table.length) n.table,cLi (sv V.li n.links.length) n.links,cSn (sv V.ou n.out.length) n.out,cI (sv V.ch n.children.length) n.children,cMa (sv V.bo n.boxes.length) n.boxes,cPr (sv V.se n.seen.length) n.seen,cPt (sv V.pa V.ps.length) V.ps,jB (ptG V.ps)]) w':=w1
  rw[hl,hc]at w2
  exact w2.pick [1,2,3,4,5,6,7,8,9,0] I I
end Go.Proofs.YtgfdoognildoeaaGreat
namespace Go.Proofs.YtgfdoognildoeaaGreat
open Go.GX Go.RowKit
attribute [local irreducible] Calls Run jZ jf JK HR HL HD jT jG JY Rd jK jY
open Nd
theorem jQT:IsFn Tryz.prog 135:=⟨⟨_,_,Tryz.func135,rfl,by decide⟩⟩
theorem fn136:IsFn Tryz.prog 136:=⟨⟨_,_,Tryz.func136,rfl,by decide⟩⟩
theorem fn114:IsFn Tryz.prog 114:=⟨⟨_,_,Tryz.func114,rfl,by decide⟩⟩
theorem jPT:IsFn Tryz.prog 49:=⟨⟨_,_,Tryz.func49,rfl,by decide⟩⟩
theorem fn171:IsFn Tryz.prog 171:=⟨⟨_,_,Tryz.func171,rfl,by decide⟩⟩
theorem jRs:IsFn Tryz.prog 172:=⟨⟨_,_,Tryz.func172,rfl,by decide⟩⟩
theorem jBo (v:Value) (n:Nat) (zs:List Int) (w:World) (hv:Vw w v 3 1 n (cellsOf iC zs)) (hn:n≤1000000):
  Calls Tryz.prog 135 #[v] w fun e w'=>∃x:Unit,e= .returned (.tuple #[])∧True∧Sat ⟨w,Zn [jG v 3 1 n (cellsOf iC zs)]⟩ [jG v 3 1 n (cellsOf iC (Tf.srt zs))] w':=by
 have hl:zs.length=n:=by have:=hv.1;rw[jC jAd]at this;omega
 have stay:n=0→(∃ p cap,v= .slice p 0 cap)→Calls Tryz.prog 135 #[v] w fun e w'=>∃x:Unit,e= .returned (.tuple #[])∧True∧Sat ⟨w,Zn [jG v 3 1 n (cellsOf iC zs)]⟩ [jG v 3 1 n (cellsOf iC (Tf.srt zs))] w':=by
  intro h0 hp
  obtain ⟨p,cap,rfl⟩:=hp
  have hz:zs=[]:=List.eq_nil_of_length_eq_zero (by omega)
  subst hz
  refine (Tryz.slices_Sort_int_none p cap w).mono ?_
  rintro e w' ⟨rfl,rfl⟩
  exact ⟨(),rfl,trivial,by simpa[Tf.srt]using Sat.jKd hv⟩
 rcases hv.2 with ⟨rfl,h0⟩|⟨g,off,cap,cur,rfl,_⟩
 ·exact stay h0 ⟨none,0,rfl⟩
 ·have hv':Vw w (.slice (some ⟨g,off,none⟩) n cap) 3 1 n (zs.map (Value.int .i64)):=by rw[← Jp];exact hv
  obtain ⟨h1,h2,h3⟩:=hv'.holds
  have:=Tryz.slices_Sort_int g off cap zs w h3 h1 (by omega)
  rw[hl]at this
  refine this.mono ?_
  rintro e w' ⟨rfl,q,os,rfl⟩
  exact ⟨(),rfl,trivial,Sat.jPH (enc:=Value.int .i64) (zs:=zs) (ys:=Tf.srt zs) hv (by rw[(List.mergeSort_perm _ _).length_eq];exact hl)⟩
theorem jFR (v:Value) (n:Nat) (zs:List Int) (w:World) (hv:Vw w v 3 1 n (cellsOf iC zs)) (hn:n≤1000000):
  Calls Tryz.prog 136 #[v] w fun e w'=>∃x:Value,e= .returned x∧True∧Sat ⟨w,Zn [jG v 3 1 n (cellsOf iC zs)]⟩ [jG x 3 1 (Lib.compact zs).length (cellsOf iC (Lib.compact zs))] w':=by
 have hl:zs.length=n:=by have:=hv.1;rw[jC jAd]at this;omega
 have stay:n=0→(∃ p cap,v= .slice p 0 cap)→Calls Tryz.prog 136 #[v] w fun e w'=>∃x:Value,e= .returned x∧True∧Sat ⟨w,Zn [jG v 3 1 n (cellsOf iC zs)]⟩ [jG x 3 1 (Lib.compact zs).length (cellsOf iC (Lib.compact zs))] w':=by
  intro h0 hp
  obtain ⟨p,cap,rfl⟩:=hp
  have hz:zs=[]:=List.eq_nil_of_length_eq_zero (by omega)
  subst hz
  subst h0
  refine (Tryz.slices_Compact_int_empty p cap w).mono ?_
  rintro e w' ⟨rfl,rfl⟩
  exact ⟨_,rfl,trivial,Sat.jKd hv⟩
 rcases hv.2 with ⟨rfl,h0⟩|⟨g,off,cap,cur,rfl,_,hcap,_⟩
 ·exact stay h0 ⟨none,0,rfl⟩
 ·by_cases h0:n=0
  ·exact stay h0 ⟨_,cap,by rw[h0]⟩
  have hv':Vw w (.slice (some ⟨g,off,none⟩) n cap) 3 1 n (zs.map (Value.int .i64)):=by rw[← Jp];exact hv
  obtain ⟨h1',h2,h3⟩:=hv'.holds
  have hcl:(Lib.compact zs).length≤n:=by rw[← hl];exact Lib.compact_length_le zs
  have:=Tryz.slices_Compact_int g off cap zs w h3 (by omega) (by omega)
  rw[hl]at this
  refine this.mono ?_
  rintro e w' ⟨rfl,q,rfl⟩
  exact ⟨_,rfl,trivial,Sat.jSB (Sat.jPq (enc:=Value.int .i64) (q:=q) (zs:=zs) (ys:=Lib.compact zs++List.replicate (n-(Lib.compact zs).length) 0) hv (by simp;omega)) hcl (by simp)⟩
theorem jNj (l:List Int) (p:Int) (v:Value) (w:World) (hv:Sl w v (cellsOf iC l) l.length) (hl:l.length≤1000000):
  Calls Tryz.prog 114 #[v,.int .i64 p] w fun e w'=>e= .returned (.int .i64 (fidx (fun x=>decide (x=p)) l))∧Below w.heap.size w w':=by
 refine jD Tryz.func114 I (Nat.le_of_ble_eq_true I) ?_
 refine HR.sub (σ':=[(0,v),(1,.int .i64 p)]) ⟨I,I,trivial⟩ ?_
 repeat' (first|refine zh ?_|refine HL.JN (Rd.arg hv) I I I ?_|intro (bk:Nat))
 refine HR.loop (ι:=Nat) (fun k=>k≤l.length∧∀j b,j<k→l[j]? =some b→decide (b=p)=false) (fun k=>[(0,v),(1,.int .i64 p),(7,.int .i64 (l.length:Int)),(8,.int .i64 (k:Int))]) (fun _=>[]) (fun k=>l.length-k) 0 ⟨Nat.zero_le _,fun j b hj=>absurd hj (Nat.not_lt_zero _)⟩ ⟨I,I,I,I,trivial⟩ Ent.refl ?_
 rintro k ⟨hk,hno⟩ ih
 repeat' (first|refine zh ?_|intro (bk:Nat))
 refine HR.cond I (fun h2=>?_) (fun h2=>?_)
 ·have hlt:k<l.length:=by have:=of_decide_eq_true h2;omega
  obtain ⟨x,hx⟩:=jJ hlt
  repeat' (first|refine zh ?_|refine HL.JA (Rd.arg hv) Jw k I I I I hlt ?_|refine HL.ji (Rd.arg hv) I I I I (jW hx) ?_|intro (bk:Nat))
  refine HR.cond I (fun h3=>?_) (fun h3=>?_)
  ·have h3:p=x:=eq_of_beq h3
   repeat' (first|refine zh ?_|intro (bk:Nat))
   refine HR.ret Tryz.func114 I [_] (fun _ _=>⟨I,trivial⟩) ?_
   rw[kY hx (decide_eq_true h3.symm) hno]
   exact fun w' hw=>⟨rfl,hw.jE⟩
  ·have h3:decide (x=p)=false:=by
    refine decide_eq_false fun e=>?_
    subst e
    simp at h3
   repeat' (first|refine zh ?_|intro (bk:Nat))
   refine ih (k+1) _ _ ⟨hlt,fun j b hj hb=>?_⟩ (by omega) ⟨I,I,I,I,trivial⟩ Ent.refl
   by_cases e:j=k
   ·subst e;rw[hx]at hb;cases hb;exact h3
   ·exact hno j b (by omega) hb
 ·have hke:k=l.length:=by have:=of_decide_eq_false h2;omega
  subst hke
  rw[zX hno]
  repeat' (first|refine zh ?_|intro (bk:Nat))
  refine HR.ret Tryz.func114 I [_] (fun _ _=>⟨I,trivial⟩) ?_
  exact fun w' hw=>⟨rfl,hw.jE⟩
theorem jN8 (l:List Int) (p:Int):l.any (fun x=>decide (x=p))=decide (p∈l):=by
 by_cases h:p∈l
 ·rw [decide_eq_true h,List.any_eq_true];exact ⟨p,h,by simp⟩
 ·rw [decide_eq_false h,← Bool.not_eq_true,List.any_eq_true]
  rintro ⟨x,hx,e⟩
  exact h (of_decide_eq_true e▸hx)
theorem ZG (l:List Int) (p:Int) (v:Value) (w:World) (hv:Sl w v (cellsOf iC l) l.length) (hl:l.length≤1000000):
  Calls Tryz.prog 49 #[v,.int .i64 p] w fun e w'=>e= .returned (.bool (decide (p∈l)))∧Below w.heap.size w w':=by
 rw[← jN8,← jBf]
 refine jD Tryz.func49 I (Nat.le_of_ble_eq_true I) ?_
 refine HR.sub (σ':=[(0,v),(1,.int .i64 p)]) ⟨I,I,trivial⟩ ?_
 repeat' (first|refine zh ?_|refine HL.jR fn114 I I (fun w hw=>jNj l p v w ((Rd.arg hv).at hw) hl) ?_|intro (bk:Nat))
 refine HR.ret Tryz.func49 I [_] (fun _ _=>⟨I,trivial⟩) ?_
 exact fun w' hw=>⟨rfl,hw.jE⟩
theorem jL6 (bt:Nat) (to c:Int) (w:World) (hb:Sl w (.slice (some ⟨bt,0,none⟩) 1 1) [.int .i64 to] 1):Calls Tryz.prog 172 #[.int .i64 c,.pointer (some ⟨bt,0,none⟩)] w fun e w'=>e= .returned (.bool (c==to))∧Below w.heap.size w w':=by
 refine jD Tryz.func172 I (Nat.le_of_ble_eq_true I) ?_
 refine HR.sub (σ':=[(0,.int .i64 c),(1,.pointer (some ⟨bt,0,none⟩))]) ⟨I,I,trivial⟩ ?_
 repeat' (first|refine zh ?_|refine HL.ji (j:=0) (Rd.arg hb) I I I I I ?_|intro (bk:Nat))
 refine HR.ret Tryz.func172 I [_] (fun _ _=>⟨I,trivial⟩) ?_
 exact fun w' hw=>⟨rfl,hw.jE⟩
theorem K9 {l:List Int} {p:Int→Bool} {k:Nat} {x:Int} (hx:l[k]? =some x):(l.take (k+1)).filter p=if p x=true then (l.take k).filter p++[x]else (l.take k).filter p:=by
 obtain ⟨hk,rfl⟩:=List.getElem?_eq_some_iff.1 hx
 rw[List.take_succ_eq_append_getElem hk,List.filter_append]
 by_cases h:p l[k]=true
 ·simp [h]
 ·simp [h]
theorem jQY {α:Type} {p:α→Bool} {l:List α} (h:fidx p l= -1):∀a∈l,p a=false:=by
 rcases Jk p l with ⟨_,_,h2⟩|⟨k,b,e,_⟩
 ·exact h2
 ·omega
theorem jMQ (l:List Int) (to:Int) (bt:Nat) (v:Value) (B0:Base) (w:World) (hw0:Sat B0 [jG v 3 1 l.length (cellsOf iC l),jT bt [.int .i64 to] 3] w) (hl:l.length≤1000000):
  Calls Tryz.prog 171 #[v,.func (.func 172) #[] #[.pointer (some ⟨bt,0,none⟩)]] w fun e w'=>∃r:Value,e= .returned r∧True∧Sat ⟨w,Zn [jG v 3 1 l.length (cellsOf iC l),jT bt [.int .i64 to] 3]⟩ [jG r 3 1 (l.filter fun c=>!(c==to)).length (cellsOf iC (l.filter fun c=>!(c==to))),jT bt [.int .i64 to] 3] w':=by
 refine jg [jG v 3 1 l.length (cellsOf iC l),jT bt [.int .i64 to] 3] (hw0) Tryz.func171 I (Nat.le_of_ble_eq_true I) ?_
 refine HR.sub (σ':=[(0,v),(1,.func (.func 172) #[] #[.pointer (some ⟨bt,0,none⟩)])]) ⟨I,I,trivial⟩ ?_
 repeat' (first|refine zh ?_|refine HL.jR fn227 I I (fun w1 hw1=>jGc l (fun c=>c==to) 172 [.pointer (some ⟨bt,0,none⟩)] v w1 jRs (fun a ha w2 hb=>jL6 bt to a w2 (((Rd.blk (n:=1) 1 rfl).at hw1).ext hb)) ((Rd.own 0 rfl).at hw1) hl) ?_|intro (bk:Nat))
 refine HR.cond I (fun h=>?_) (fun h=>?_)
 ·have h:fidx (fun c=>c==to) l= -1:=eq_of_beq h
  have e:(l.filter fun c=>!(c==to))=l:=List.filter_eq_self.2 fun a ha=>by have:=jQY h a ha;simpa using this
  rw[e]
  repeat' (first|refine zh ?_|intro (bk:Nat))
  refine HR.ret Tryz.func171 I [_] (fun _ _=>⟨I,trivial⟩) ?_
  exact fun w' hw=>⟨v,rfl,trivial,hw⟩
 have h:¬fidx (fun c=>c==to) l= -1:=fun e=>by rw[e]at h;exact absurd h (by decide)
 rcases Jk (fun c=>c==to) l with ⟨h2,_⟩|⟨i0,a0,e0,_,ha0,hp0,hno0⟩
 ·exact absurd h2 h
 have hp0:(a0==to)=true:=hp0
 rw[e0]
 have hi0:i0<l.length:=(List.getElem?_eq_some_iff.1 ha0).1
 have ht0:(l.take (i0+1)).filter (fun c=>!(c==to))=l.take i0:=by
  rw[K9 ha0,if_neg (by simp[hp0])]
  refine List.filter_eq_self.2 fun a ha=>?_
  obtain ⟨j,hj,rfl⟩:=List.getElem_of_mem ha
  rw[List.length_take]at hj
  have:=hno0 j _ (by omega) (List.getElem?_eq_getElem (by omega))
  rw[List.getElem_take]
  simpa using this
 refine HR.row 0 I (by omega) fun g off c hv hnc hcm=>?_
 have hcm:c≤9223372036854775807:=hcm
 repeat' (first|refine zh ?_|intro (bk:Nat))
 obtain ⟨F,hF⟩:∃F:Nat→Nat,F=fun k=>((l.take k).filter fun c=>!(c==to)).length:=⟨_,rfl⟩
 have hF0:F (i0+1)=i0:=by rw[hF];show ((l.take (i0+1)).filter _).length=i0;rw[ht0,List.length_take];omega
 refine HR.loop (ι:=Nat×List Int) (fun x=>x.1≤l.length∧x.2.length=l.length∧F x.1<x.1∧x.2.take (F x.1)=(l.take x.1).filter (fun c=>!(c==to))∧x.2.drop x.1=l.drop x.1) (fun x=>[(0,v),(1,.func (.func 172) #[] #[.pointer (some ⟨bt,0,none⟩)]),(5,.int .i64 (F x.1:Int)),(6,.int .i64 (x.1:Int))]) (fun x=>[jG v 3 1 l.length (cellsOf iC x.2),jT bt [.int .i64 to] 3]) (fun x=>l.length-x.1) (i0+1,l) ⟨by show i0+1≤_;omega,rfl,by show F (i0+1)<i0+1;omega,by show l.take (F (i0+1))=_;rw[hF0,ht0],rfl⟩ (by rw[hF0];exact ⟨I,I,I,I,trivial⟩) Ent.refl ?_
 rintro ⟨k,X⟩ ⟨hk,hX,hFk,hT,hD⟩ ih
 have hk:k≤l.length:=hk
 have hX:X.length=l.length:=hX
 have hFk:F k<k:=hFk
 have hT:X.take (F k)=(l.take k).filter (fun c=>!(c==to)):=hT
 have hD:X.drop k=l.drop k:=hD
 have hTl:F k=((l.take k).filter fun c=>!(c==to)).length:=by rw[hF]
 repeat' (first|refine zh ?_|refine HL.JN (Rd.own 0 I) I I I ?_|intro (bk:Nat))
 refine HR.cond I (fun h2=>?_) (fun h2=>?_)
 ·have hlt:k<l.length:=by have:=of_decide_eq_true h2;omega
  obtain ⟨x,hx⟩:=jJ hlt
  have hxX:X[k]? =some x:=by
   have e1:(X.drop k)[0]? =X[k]? :=by rw[List.getElem?_drop];rfl
   have e2:(l.drop k)[0]? =l[k]? :=by rw[List.getElem?_drop];rfl
   rw[← e1,hD,e2,hx]
  have hnext:=K9 (p:=fun c=>!(c==to)) hx
  have hD1:X.drop (k+1)=l.drop (k+1):=by
   rw[← List.drop_drop,← List.drop_drop,hD]
  repeat' (first|refine zh ?_|refine HL.JA (Rd.own 0 I) Jw k I I I I hlt ?_|refine HL.ji (Rd.own 0 I) I I I I (jW hxX) ?_|refine HL.jEF (caps:=[.pointer (some ⟨bt,0,none⟩)]) jRs I I I (fun w1 hw1=>jL6 bt to x w1 ((Rd.blk (n:=1) 1 rfl).at hw1)) ?_|intro (bk:Nat))
  refine HR.cond I (fun h3=>?_) (fun h3=>?_)
  ·have h3:(!(x==to))=true:=h3
   rw[if_pos h3]at hnext
   have hF1:F (k+1)=F k+1:=by rw[hTl,hF];show ((l.take (k+1)).filter _).length=_;rw[hnext,List.length_append];rfl
   repeat' (first|refine zh ?_|refine HL.JA (Rd.own 0 I) Jw (F k) I I I I (by omega) ?_|refine HL.KA (j:=F k*1) 0 I I I I I I I (by rw[jC jAd];omega) ?_|intro (bk:Nat))
   refine ih (k+1,X.set (F k) x) _ _ ⟨hlt,?_,?_,?_,?_⟩ (by show l.length-(k+1)<l.length-k;omega) ?_ (Ent.JV I ?_)
   ·show (X.set (F k) x).length=_;rw[List.length_set];exact hX
   ·show F (k+1)<k+1;omega
   ·show (X.set (F k) x).take (F (k+1))=(l.take (k+1)).filter _
    rw[hnext,← hT,hF1,List.take_succ_eq_append_getElem (by rw[List.length_set];omega),List.take_set_of_le (by omega),List.getElem_set_self]
   ·show (X.set (F k) x).drop (k+1)=_
    rw[List.drop_set_of_lt (by omega),hD1]
   ·show Sub [_,_,(5,Value.int .i64 (F (k+1):Int)),_] _
    rw[hF1]
    exact ⟨I,I,I,I,trivial⟩
   ·obtain ⟨y,hy⟩:=jJ (l:=X) (j:=F k) (by omega)
    exact Jv (i:=0) jAd hy I (by decide)
  ·have h3:(!(x==to))=false:=h3
   rw[if_neg (by rw[h3];decide)]at hnext
   have hF1:F (k+1)=F k:=by rw[hTl,hF];show ((l.take (k+1)).filter _).length=_;rw[hnext]
   repeat' (first|refine zh ?_|intro (bk:Nat))
   refine ih (k+1,X) _ _ ⟨hlt,hX,by show F (k+1)<k+1;omega,by show X.take (F (k+1))=(l.take (k+1)).filter _;rw[hF1,hnext,hT],hD1⟩ (by show l.length-(k+1)<l.length-k;omega) ?_ Ent.refl
   show Sub [_,_,(5,Value.int .i64 (F (k+1):Int)),_] _
   rw[hF1]
   exact ⟨I,I,I,I,trivial⟩
 ·have hke:k=l.length:=by have:=of_decide_eq_false h2;omega
  subst hke
  subst hv
  rw[List.take_length]at hT hTl
  repeat' (first|refine zh ?_|refine HL.cut (sz:=1) (F l.length) l.length c I I I I (.inr ⟨_,_,rfl,rfl⟩) (.inl ⟨rfl,rfl,rfl⟩) (.inl ⟨rfl,rfl⟩) (by omega) hnc (Nat.le_refl _) ?_|intro (bk:Nat))
  refine HL.jCg (zy (by omega)) ?_
  refine HL.jHf (F l.length) 0 I I I I I I (by decide) I (by omega) ?_
  repeat' (first|refine zh ?_|refine HL.cut (sz:=1) 0 (F l.length) c I I I I (.inl ⟨rfl,rfl⟩) (.inr ⟨_,_,rfl,rfl⟩) (.inl ⟨rfl,rfl⟩) (by omega) (by omega) (Nat.le_refl _) ?_|intro (bk:Nat))
  refine HR.ret Tryz.func171 I [_] (fun _ _=>⟨I,trivial⟩) ?_
  refine fun w' hw=>⟨_,rfl,trivial,?_⟩
  have hc0:cutV 1 (some ⟨g,off,none⟩) 0 (F l.length) c= .slice (some ⟨g,off,none⟩) (l.filter fun c=>!(c==to)).length c:=by
   rw[zy (by omega),← hTl];simp
  rw[hc0]
  refine Sat.cutK hw (by omega) ?_
  rw[← hTl,← hT,List.take_append_of_le_length (by simp[jC jAd];omega),List.take_take,Nat.min_self,JJ jAd]
end Go.Proofs.YtgfdoognildoeaaGreat
namespace Go.Proofs.YtgfdoognildoeaaGreat
open Go.GX Go.RowKit
attribute [local irreducible] Calls Run jZ jf JK HR HL HD jT jG JY Rd jK jY
open Nd
theorem jRm:IsFn Tryz.prog 211:=⟨⟨_,_,Tryz.func211,rfl,by decide⟩⟩
theorem jRn:IsFn Tryz.prog 210:=⟨⟨_,_,Tryz.func210,rfl,by decide⟩⟩
theorem fn265:IsFn Tryz.prog 265:=⟨⟨_,_,Tryz.func265,rfl,by decide⟩⟩
theorem fn159:IsFn Tryz.prog 159:=⟨⟨_,_,Tryz.func159,rfl,by decide⟩⟩
theorem fn156:IsFn Tryz.prog 156:=⟨⟨_,_,Tryz.func156,rfl,by decide⟩⟩
theorem jBp (b:Nat) (V:NV) (n:Nd) (now:Int) (B:Base) (w:World) (hw:Sat B (stH b V n now) w) (hl:n.table.length≤1000):
  Calls Tryz.prog 211 #[ptr b] w fun e w'=>∃_x:Unit,e= .returned (.int .i64 (number n))∧True∧Sat ⟨w,Zn (stH b V n now)⟩ (stH b V n now) w':=by
 refine jg (stH b V n now) (hw) Tryz.func211 I (Nat.le_of_ble_eq_true I) ?_
 refine HR.sub (σ':=[(0,ptr b)]) ⟨I,trivial⟩ ?_
 repeat' (first|refine zh ?_|intro (bk:Nat))
 refine HR.loop (ι:=Nat) (fun k=>k≤n.table.length∧∀j a,j<k→n.table[j]? =some a→(a.dest==n.addr)=false) (fun k=>[(0,ptr b),(9,sv V.ta n.table.length),(10,.int .i64 (n.table.length:Int)),(11,.int .i64 (k:Int))]) (fun _=>stH b V n now) (fun k=>n.table.length-k) 0 ⟨Nat.zero_le _,fun j a hj=>by omega⟩ ⟨I,I,I,I,trivial⟩ Ent.refl ?_
 rintro k ⟨hk,hg⟩ ih
 repeat' (first|refine zh ?_|intro (bk:Nat))
 refine HR.cond I (fun h2=>?_) (fun h2=>?_)
 ·have hlt:k<n.table.length:=by have:=of_decide_eq_true h2;omega
  obtain ⟨x,hx⟩:=jJ hlt
  repeat' (first|refine zh ?_|refine HL.JA (Rd.own 1 I) Je k I I I I hlt ?_|refine HL.JW (Rd.own 1 I) I I I I (by simp) I (jH jq hx) ?_|intro (bk:Nat))
  refine HR.JF Jc (by kernel_rfl) ?_
  repeat' (first|refine zq ?_|apply zb ?_ ?_|exact zc|(refine zi fun hb=>?_;try simp at hb))
  refine HR.cond I (fun h3=>?_) (fun h3=>?_)
  ·have h3:(x.dest==n.addr)=true:=h3
   have hf:rat n.table n.addr=some x:=jA4 hx h3 hg
   repeat' (first|refine zh ?_|intro (bk:Nat))
   refine HR.ret Tryz.func211 I [_] (fun _ _=>⟨I,trivial⟩) ?_
   exact fun w' hw=>⟨(),by rw[number,hf];rfl,trivial,hw.pick [1,2,3,4,5,6,7,8,9,10] I rfl⟩
  ·have h3:(x.dest==n.addr)=false:=h3
   repeat' (first|refine zh ?_|intro (bk:Nat))
   refine ih (k+1) _ _ ⟨hlt,fun j a hj ha=>?_⟩ (by omega) ⟨I,I,I,I,trivial⟩ (Ent.pick [1,2,3,4,5,6,7,8,9,10] I I)
   by_cases hjk:j=k
   ·subst hjk;rw[hx]at ha;cases ha;exact h3
   ·exact hg j a (by omega) ha
 ·have hke:k=n.table.length:=by have:=of_decide_eq_false h2;omega
  subst hke
  have hf:rat n.table n.addr=none:=List.find?_eq_none.2 fun a ha=>by
   obtain ⟨j,hj⟩:=List.getElem?_of_mem ha
   have:=hg j a (List.getElem?_eq_some_iff.1 hj).1 hj
   simp[this]
  repeat' (first|refine zh ?_|intro (bk:Nat))
  refine HR.ret Tryz.func211 I [_] (fun _ _=>⟨I,trivial⟩) ?_
  exact fun w' hw=>⟨(),by rw[number,hf];rfl,trivial,hw⟩
theorem jFk (bt:Nat) (k:Int) (x:Sn) (w:World) (hb:Sl w (.slice (some ⟨bt,0,none⟩) 1 1) [.int .i64 k] 1):Calls Tryz.prog 265 #[.agg ⟨snC x⟩,.pointer (some ⟨bt,0,none⟩)] w fun e w'=>e= .returned (.bool (x.f.kd==k))∧Below w.heap.size w w':=by
 refine jD Tryz.func265 I (Nat.le_of_ble_eq_true I) ?_
 refine HR.sub (σ':=[(0,.agg ⟨snC x⟩),(1,.pointer (some ⟨bt,0,none⟩))]) ⟨I,I,trivial⟩ ?_
 repeat' (first|refine zh ?_|refine HL.ji (j:=0) (Rd.arg hb) I I I I I ?_|intro (bk:Nat))
 refine HR.ret Tryz.func265 I [_] (fun _ _=>⟨I,trivial⟩) ?_
 exact fun w' hw=>⟨rfl,hw.jE⟩
theorem jCx (b:Nat) (V:NV) (n:Nd) (now k:Int) (B:Base) (w:World) (hw:Sat B (stH b V n now) w) (hl:n.out.length≤1000):
  Calls Tryz.prog 210 #[ptr b,.int .i64 k] w fun e w'=>∃_x:Unit,e= .returned (.bool (waits n k))∧True∧Sat ⟨w,Zn (stH b V n now)⟩ (stH b V n now) w':=by
 refine jg (stH b V n now) (hw) Tryz.func210 I (Nat.le_of_ble_eq_true I) ?_
 refine HR.sub (σ':=[(0,ptr b),(1,.int .i64 k)]) ⟨I,I,trivial⟩ ?_
 repeat' (first|refine zh ?_|refine HL.mkF (g:=265) (caps:=[_]) I I ?_|refine HL.jR fn264 I I (fun w1 hw1=>jGi n.out (fun x=>x.f.kd==k) 265 [.pointer (some ⟨bk,0,none⟩)] (sv V.ou n.out.length) w1 fn265 (fun a ha w2 hb=>jFk bk k a w2 (((Rd.blk (n:=1) 0 rfl).at hw1).ext hb)) ((Rd.own 4 rfl).at hw1) (by omega)) ?_|intro (bk:Nat))
 refine HR.ret Tryz.func210 I [_] (fun _ _=>⟨I,trivial⟩) ?_
 exact fun w' hw=>⟨(),rfl,trivial,hw.pick [1,2,3,4,5,6,7,8,9,10] I rfl⟩
theorem jMt (b:Nat) (V:NV) (n:Nd) (now:Int) (f:Fr) (B:Base) (w:World) (hw:Sat B (stH b V n now) w) (hl:n.table.length≤1000):
  Calls Tryz.prog 159 #[ptr b,.agg ⟨frC f⟩] w fun e w'=>∃_x:Unit,e= .returned (.tuple ⟨[.int .i64 (hop n f.ta).1,.bool (hop n f.ta).2]⟩)∧True∧Sat ⟨w,Zn (stH b V n now)⟩ (stH b V n now) w':=by
 refine jg (stH b V n now) (hw) Tryz.func159 I (Nat.le_of_ble_eq_true I) ?_
 refine HR.sub (σ':=[(0,ptr b),(1,.agg ⟨frC f⟩)]) ⟨I,I,trivial⟩ ?_
 repeat' (first|refine zh ?_|intro (bk:Nat))
 refine HR.cond I (fun h=>?_) (fun h=>?_)
 ·have h:n.poll>0:=of_decide_eq_true h
  have e:hop n f.ta=(n.parent,!(n.parent==255)):=by unfold hop;rw[if_pos h]
  rw[e]
  repeat' (first|refine zh ?_|intro (bk:Nat))
  refine HR.JF Jc (by kernel_rfl) ?_
  repeat' (first|refine zq ?_|apply zb ?_ ?_|exact zc|(refine zi fun hb=>?_;try simp at hb))
  refine HR.ret Tryz.func159 I [_,_] (fun _ _=>⟨I,I,trivial⟩) ?_
  exact fun w' hw=>⟨(),rfl,trivial,hw.pick [1,2,3,4,5,6,7,8,9,10] I rfl⟩
 ·have h:¬n.poll>0:=of_decide_eq_false h
  have e:hop n f.ta=kL n.table f.ta:=by unfold hop;rw[if_neg h]
  rw[e]
  repeat' (first|refine zh ?_|intro (bk:Nat))
  refine HR.j4 [(0,true),(1,true),(2,true),(3,true),(4,true),(5,true),(6,true),(7,false),(8,true),(9,true),(10,true),(11,true)] [0,1] I I Jc (by kernel_rfl) ?_
  repeat' (first|refine zd ?_|fail)
  refine HD.one I ?_
  refine HL.jR fn50 I I (fun w1 hw1=>jBW n.table f.ta _ w1 ((Rd.own 2 rfl).at hw1) hl) ?_
  refine HL.back [0,1] I I ?_
  repeat' (first|refine zd ?_|fail)
  refine HD.nil ?_
  repeat' (first|refine zh ?_|intro (bk:Nat))
  refine HR.ret Tryz.func159 I [_,_] (fun _ _=>⟨I,I,trivial⟩) ?_
  exact fun w' hw=>⟨(),rfl,trivial,hw.pick [1,2,3,4,5,6,7,8,9,10] I rfl⟩
theorem jHt (b:Nat) (V:NV) (n:Nd) (now c:Int) (B:Base) (w:World) (hw:Sat B (stH b V n now) w) (hl:n.table.length≤1000) (hc:n.children.length≤1000):
  Calls Tryz.prog 156 #[ptr b,.int .i64 c] w fun e w'=>∃_x:Unit,e= .returned (.bool (zm n c))∧True∧Sat ⟨w,Zn (stH b V n now)⟩ (stH b V n now) w':=by
 refine jg (stH b V n now) (hw) Tryz.func156 I (Nat.le_of_ble_eq_true I) ?_
 refine HR.sub (σ':=[(0,ptr b),(1,.int .i64 c)]) ⟨I,I,trivial⟩ ?_
 repeat' (first|refine zh ?_|refine HL.jR fn50 I I (fun w1 hw1=>jBW n.table c _ w1 ((Rd.own 1 rfl).at hw1) hl) ?_|refine HL.jR jPT I I (fun w1 hw1=>ZG n.children c _ w1 ((Rd.own 4 rfl).at hw1) (by omega)) ?_|apply zb ?_ ?_|exact zc|(refine zi fun hb=>?_;try simp at hb)|intro (bk:Nat))
 refine HR.ret Tryz.func156 I [_] (fun _ _=>⟨I,trivial⟩) ?_
 exact fun w' hw=>⟨(),rfl,trivial,hw⟩
end Go.Proofs.YtgfdoognildoeaaGreat
namespace Go.Proofs.YtgfdoognildoeaaGreat
open Go.GX Go.RowKit
attribute [local irreducible] Calls Run jZ jf JK HR HL HD jT jG JY Rd jK jY
open Nd
theorem fn154:IsFn Tryz.prog 154:=⟨⟨_,_,Tryz.func154,rfl,by decide⟩⟩
theorem fn155:IsFn Tryz.prog 155:=⟨⟨_,_,Tryz.func155,rfl,by decide⟩⟩
theorem jMk {n:Nd} (h:Ord n):n.table.length≤24:=h.table.len
theorem jDT {n:Nd} (h:Ord n):Ord (bumped n):=(Zf (Good.refl h)).ord
theorem jFu (b:Nat) (V:NV) (n:Nd) (now:Int) (B:Base) (w:World) (hw:Sat B (stH b V n now) w) (ho:Ord n):
  Calls Tryz.prog 154 #[ptr b] w fun e w'=>∃x:SV×SV,e= .returned (.tuple ⟨[]⟩)∧True∧Sat ⟨w,Zn (stH b V n now)⟩ (stH b { V with ta:=x.1,ou:=x.2 } (J5 n) now) w':=by
 have h24:=jMk ho
 have hm:=jDT ho
 have hm24:=jMk hm
 have hm16:=hm.out
 refine jg (stH b V n now) (hw) Tryz.func154 I (Nat.le_of_ble_eq_true I) ?_
 refine HR.sub (σ':=[(0,ptr b)]) ⟨I,trivial⟩ ?_
 repeat' (first|refine zh ?_|intro (bk:Nat))
 refine HR.Jf [(0,true),(1,true),(2,true),(3,true),(4,true),(5,true),(6,true),(7,true),(8,true),(9,true),(10,true),(11,false),(12,true),(13,true),(14,true)] 15 [0] I I Jc (by kernel_rfl) ?_
 repeat' (first|refine zd ?_|fail)
 refine HD.one I ?_
 refine HL.JQ jRo I I (fun w1 hw1=>jEm n.table n.addr _ w1 ((Rd.own 1 rfl).at hw1) (by omega)) ?_
 intro v1
 refine HL.shape 0 I fun a c hv=>?_
 subst hv
 refine HL.back [1] I I ?_
 repeat' (first|refine zd ?_|fail)
 refine HD.last I ?_
 repeat' (first|refine zn ?_|intro (bk:Nat))
 obtain ⟨V1,hV1⟩:∃V1:NV,V1={ V with ta:=(a,c) }:=⟨_,rfl⟩
 obtain ⟨m,hmm⟩:∃m:Nd,m=bumped n:=⟨_,rfl⟩
 refine HR.ent (H':=stH b { V with ta:=(a,c) } (bumped n) now) (Ent.pick [1,0,3,4,5,6,7,8,9,10] I I) ?_
 have hbe:J5 n=if waits (bumped n) 1=false∧(bumped n).out.length<16 then (queue (bumped n) (jCX (bumped n))).1 else bumped n:=rfl
 have hVe:∀x:SV,({ V with ta:=(a,c),ou:=x }:NV)={ V1 with ou:=x }:=by intro x;rw[hV1]
 rw[hbe]
 rw[← hmm]at hm hm24 hm16 ⊢
 rw[← hV1]
 repeat' (first|refine zh ?_|intro (bk:Nat))
 refine HL.Jh (r:=fun _:Unit=> .bool (waits m 1)) (Q:=fun _=>True) (G0:=stH b V1 m now) (H0:=[]) (G:=fun _=>stH b V1 m now) jRn I I I (fun w1 hw1=>jCx b V1 m now 1 _ w1 hw1 (by omega)) ?_
 intro _ _
 repeat' (first|refine zh ?_|apply zb ?_ ?_|exact zc|(refine zi fun hb=>?_;try simp at hb)|intro (bk:Nat))
 refine HR.cond I (fun h=>?_) (fun h=>?_)
 ·have h:(!waits m 1&&decide ((m.out.length:Int)<16))=true:=h
  have h2:waits m 1=false∧(m.out.length:Int)<16:=by simpa using h
  rw[if_pos ⟨h2.1,by omega⟩]
  repeat' (first|refine zh ?_|intro (bk:Nat))
  refine HR.Jf [(0,true),(1,true),(2,true),(3,true),(4,true),(5,true),(6,true),(7,true),(8,true),(9,true),(10,true),(11,true),(13,true),(14,true),(15,true),(16,true),(17,true),(12,false),(18,false),(19,true)] 20 [0] I I Jc (by kernel_rfl) ?_
  repeat' (first|refine zd ?_|fail)
  refine HD.one I ?_
  refine HL.Jh (r:=fun _:Unit=> .int .i64 (number m)) (Q:=fun _=>True) (G0:=stH b V1 m now) (H0:=[]) (G:=fun _=>stH b V1 m now) jRm I I I (fun w1 hw1=>jBp b V1 m now _ w1 hw1 (by omega)) ?_
  intro _ _
  refine HL.back [0] I I ?_
  refine HD.one I ?_
  refine HL.jR fn212 I I (fun w1 hw1=>jM1 m.table _ w1 ((Rd.own 1 rfl).at hw1) (by omega)) ?_
  refine HL.back [0] I I ?_
  repeat' (first|refine zd ?_|fail)
  refine HD.last I ?_
  refine HL.Jh (r:=fun _:SV=> .bool (queue m (jCX m)).2) (Q:=fun _=>True) (G0:=stH b V1 m now) (H0:=[]) (G:=fun x=>stH b { V1 with ou:=x } (queue m (jCX m)).1 now) jMF I I I (fun w1 hw1=>Zz b V1 m now (jCX m) _ w1 hw1 hm) ?_
  intro x _
  repeat' (first|refine zh ?_|intro (bk:Nat))
  refine HR.fin Tryz.func154 I [] (fun _ _=>trivial) ?_
  exact fun w' hw=>⟨((a,c),x),rfl,trivial,by rw[hVe];exact hw⟩
 ·have h:(!waits m 1&&decide ((m.out.length:Int)<16))=false:=h
  have h2:¬(waits m 1=false∧(m.out.length:Int)<16):=by simpa using h
  rw[if_neg fun e=>h2 ⟨e.1,by omega⟩]
  repeat' (first|refine zh ?_|intro (bk:Nat))
  refine HR.fin Tryz.func154 I [] (fun _ _=>trivial) ?_
  exact fun w' hw=>⟨((a,c),V.ou),rfl,trivial,by rw[hVe,hV1];rw[hV1]at hw;exact hw⟩
theorem jKW (b:Nat) (V:NV) (n:Nd) (now:Int) (B:Base) (w:World) (hw:Sat B (stH b V n now) w) (ho:Ord n):
  Calls Tryz.prog 155 #[ptr b] w fun e w'=>∃x:SV×SV,e= .returned (.tuple ⟨[]⟩)∧True∧Sat ⟨w,Zn (stH b V n now)⟩ (stH b { V with ta:=x.1,ou:=x.2 } (poll n) now) w':=by
 have h24:=jMk ho
 have hm:=jDT ho
 have hm24:=jMk hm
 have hm16:=hm.out
 refine jg (stH b V n now) (hw) Tryz.func155 I (Nat.le_of_ble_eq_true I) ?_
 refine HR.sub (σ':=[(0,ptr b)]) ⟨I,trivial⟩ ?_
 repeat' (first|refine zh ?_|intro (bk:Nat))
 refine HR.Jf [(0,true),(1,true),(2,true),(3,true),(4,true),(5,true),(6,true),(7,true),(8,true),(9,true),(10,true),(11,false),(12,true),(13,true),(14,true)] 15 [0] I I Jc (by kernel_rfl) ?_
 repeat' (first|refine zd ?_|fail)
 refine HD.one I ?_
 refine HL.JQ jRo I I (fun w1 hw1=>jEm n.table n.addr _ w1 ((Rd.own 1 rfl).at hw1) (by omega)) ?_
 intro v1
 refine HL.shape 0 I fun a c hv=>?_
 subst hv
 refine HL.back [1] I I ?_
 repeat' (first|refine zd ?_|fail)
 refine HD.last I ?_
 repeat' (first|refine zn ?_|intro (bk:Nat))
 obtain ⟨V1,hV1⟩:∃V1:NV,V1={ V with ta:=(a,c) }:=⟨_,rfl⟩
 obtain ⟨m,hmm⟩:∃m:Nd,m=bumped n:=⟨_,rfl⟩
 refine HR.ent (H':=stH b { V with ta:=(a,c) } (bumped n) now) (Ent.pick [1,0,3,4,5,6,7,8,9,10] I I) ?_
 have hbe:poll n=if waits (bumped n) 3=false then (queue (bumped n) (jK8 (bumped n))).1 else bumped n:=rfl
 have hVe:∀x:SV,({ V with ta:=(a,c),ou:=x }:NV)={ V1 with ou:=x }:=by intro x;rw[hV1]
 rw[hbe]
 rw[← hmm]at hm hm24 hm16 ⊢
 rw[← hV1]
 repeat' (first|refine zh ?_|intro (bk:Nat))
 refine HL.Jh (r:=fun _:Unit=> .bool (waits m 3)) (Q:=fun _=>True) (G0:=stH b V1 m now) (H0:=[]) (G:=fun _=>stH b V1 m now) jRn I I I (fun w1 hw1=>jCx b V1 m now 3 _ w1 hw1 (by omega)) ?_
 intro _ _
 repeat' (first|refine zh ?_|intro (bk:Nat))
 refine HR.cond I (fun h=>?_) (fun h=>?_)
 ·have h2:waits m 3=false:=by simpa using h
  rw[if_pos h2]
  repeat' (first|refine zh ?_|intro (bk:Nat))
  refine HR.Jf [(0,true),(1,true),(2,true),(3,true),(4,true),(5,true),(6,true),(7,true),(8,true),(9,true),(10,true),(11,true),(12,true),(13,true),(14,true),(15,true),(16,true),(17,true),(18,true),(19,true),(20,true),(21,true),(22,false),(23,true)] 24 [0] I I Jc (by kernel_rfl) ?_
  repeat' (first|refine zd ?_|fail)
  refine HD.one I ?_
  refine HL.Jh (r:=fun _:Unit=> .int .i64 (number m)) (Q:=fun _=>True) (G0:=stH b V1 m now) (H0:=[]) (G:=fun _=>stH b V1 m now) jRm I I I (fun w1 hw1=>jBp b V1 m now _ w1 hw1 (by omega)) ?_
  intro _ _
  refine HL.back [0] I I ?_
  repeat' (first|refine zd ?_|fail)
  refine HD.last I ?_
  refine HL.Jh (r:=fun _:SV=> .bool (queue m (jK8 m)).2) (Q:=fun _=>True) (G0:=stH b V1 m now) (H0:=[]) (G:=fun x=>stH b { V1 with ou:=x } (queue m (jK8 m)).1 now) jMF I I I (fun w1 hw1=>Zz b V1 m now (jK8 m) _ w1 hw1 hm) ?_
  intro x _
  repeat' (first|refine zh ?_|intro (bk:Nat))
  refine HR.fin Tryz.func155 I [] (fun _ _=>trivial) ?_
  exact fun w' hw=>⟨((a,c),x),rfl,trivial,by rw[hVe];exact hw⟩
 ·have h2:¬waits m 3=false:=by simpa using h
  rw[if_neg h2]
  repeat' (first|refine zh ?_|intro (bk:Nat))
  refine HR.fin Tryz.func155 I [] (fun _ _=>trivial) ?_
  exact fun w' hw=>⟨((a,c),V.ou),rfl,trivial,by rw[hVe,hV1];rw[hV1]at hw;exact hw⟩
end Go.Proofs.YtgfdoognildoeaaGreat
namespace Go.Proofs.YtgfdoognildoeaaGreat
open Go.GX Go.RowKit
attribute [local irreducible] Calls Run jZ jf JK HR HL HD jT jG JY Rd jK jY
open Nd
theorem fn153:IsFn Tryz.prog 153:=⟨⟨_,_,Tryz.func153,rfl,by decide⟩⟩
theorem jMM:Elem Tryz.prog 84 75 9 80:=⟨rfl,⟨_,_,rfl,rfl,rfl,rfl,rfl⟩,by decide⟩
theorem jQJ (a:Fr):(frC a).length=9:=rfl
theorem jN6 {l:List Sn} {k:Nat} {x:Sn} (hx:l[k]? =some x):
  ((l.take (k+1)).filter stale).map (·.f)=(if stale x=true then ((l.take k).filter stale).map (·.f)++[x.f]else ((l.take k).filter stale).map (·.f))∧((l.take (k+1)).filter fun x=>!stale x)=if stale x=true then (l.take k).filter (fun x=>!stale x)else (l.take k).filter (fun x=>!stale x)++[x]:=by
 obtain ⟨hk,rfl⟩:=List.getElem?_eq_some_iff.1 hx
 rw[List.take_succ_eq_append_getElem hk,List.filter_append,List.filter_append]
 by_cases h:stale l[k]=true
 ·simp [h]
 ·simp [h]
theorem jJk {α β:Type} {g:β→α→β} {z:β} {l:List α} {k:Nat} {x:α} (hx:l[k]? =some x):(l.take (k+1)).foldl g z=g ((l.take k).foldl g z) x:=by
 obtain ⟨hk,rfl⟩:=List.getElem?_eq_some_iff.1 hx
 rw[List.take_succ_eq_append_getElem hk,List.foldl_append]
 rfl
theorem jFv (b:Nat) (V:NV) (n:Nd) (now:Int) (B:Base) (w:World) (hw:Sat B (stH b V n now) w) (ho:Ord n):
  Calls Tryz.prog 153 #[ptr b] w fun e w'=>∃x:SV×SV,e= .returned (.tuple ⟨[]⟩)∧True∧Sat ⟨w,Zn (stH b V n now)⟩ (stH b { V with ou:=x.1,bo:=x.2 } (asleep n now) now) w':=by
 have h16:=ho.out
 obtain ⟨bk2,hbk2⟩:∃g:Nat→List Fr,g=fun k=>((n.out.take k).filter stale).map (·.f):=⟨_,rfl⟩
 obtain ⟨rs,hrs⟩:∃g:Nat→List Sn,g=fun k=>(n.out.take k).filter fun x=>!stale x:=⟨_,rfl⟩
 have hbl:∀k,(bk2 k).length≤16:=fun k=>by
  rw[hbk2];show ((((n.out.take k).filter stale).map (·.f))).length≤16
  rw[List.length_map]
  exact Nat.le_trans (List.length_filter_le _ _) (by rw[List.length_take];omega)
 have hrl:∀k,(rs k).length≤16:=fun k=>by
  rw[hrs];exact Nat.le_trans (List.length_filter_le _ _) (by rw[List.length_take];omega)
 refine jg (stH b V n now) (hw) Tryz.func153 I (Nat.le_of_ble_eq_true I) ?_
 refine HR.sub (σ':=[(0,ptr b)]) ⟨I,trivial⟩ ?_
 repeat' (first|refine zh ?_|intro (bk:Nat))
 refine HR.ZC 75 9 ?_
 refine HR.ZC 131 11 ?_
 refine HR.loop (ι:=Nat×Value×Value) (fun x=>x.1≤n.out.length) (fun x=>[(0,ptr b),(2,x.2.1),(3,x.2.2),(12,sv V.ou n.out.length),(13,.int .i64 (n.out.length:Int)),(14,.int .i64 (x.1:Int))]) (fun x=>jG x.2.1 131 11 (rs x.1).length (cellsOf snC (rs x.1))::jG x.2.2 75 9 (bk2 x.1).length (cellsOf frC (bk2 x.1))::stH b V n now) (fun x=>n.out.length-x.1) (0,.slice none 0 0,.slice none 0 0) (Nat.zero_le _) ⟨I,I,I,I,I,I,trivial⟩ (by rw[hbk2,hrs];exact Ent.refl) ?_
 rintro ⟨k,u,v⟩ hk ih
 have hk:k≤n.out.length:=hk
 repeat' (first|refine zh ?_|intro (bk:Nat))
 refine HR.cond I (fun h2=>?_) (fun h2=>?_)
 ·have hlt:k<n.out.length:=by have:=of_decide_eq_true h2;omega
  obtain ⟨x,hx⟩:=jJ hlt
  have hb1:(bk2 (k,u,v).fst).length≤16:=hbl k
  have hr1:(rs (k,u,v).fst).length≤16:=hrl k
  obtain ⟨e1,e2⟩:=jN6 hx
  have e1:bk2 (k+1)=if stale x=true then bk2 k++[x.f]else bk2 k:=by rw[hbk2];exact e1
  have e2:rs (k+1)=if stale x=true then rs k else rs k++[x]:=by rw[hrs];exact e2
  repeat' (first|refine zh ?_|refine HL.JA (Rd.own 5 I) zf k I I I I hlt ?_|refine HL.JW (Rd.own 5 I) I I I I (by simp) I (jH JE hx) ?_|apply zb ?_ ?_|exact zc|(refine zi fun hb=>?_;try simp at hb)|intro (bk:Nat))
  refine HR.cond I (fun h3=>?_) (fun h3=>?_)
  ·have h3:stale x=true:=h3
   rw[if_pos h3]at e1 e2
   repeat' (first|refine zh ?_|intro (bk:Nat))
   refine HL.jv jMM I I I I I (by decide) (by decide) ?_
   intro va
   refine HL.ZN 3 I jMM (Rd.own 0 I) I I I I (jF I) (by omega) (by omega) ?_
   intro v2
   repeat' (first|refine zh ?_|intro (bk:Nat))
   refine ih (k+1,u,v2) _ _ hlt (by show n.out.length-(k+1)<n.out.length-k;omega) ⟨I,I,I,I,I,I,trivial⟩ ?_
   show Ent _ _ (jG u 131 11 (rs (k+1)).length (cellsOf snC (rs (k+1)))::jG v2 75 9 (bk2 (k+1)).length (cellsOf frC (bk2 (k+1)))::stH b V n now)
   rw[e1,e2,List.length_append,jP]
   exact Ent.pick [2,3,4,5,6,7,8,9,10,11,12,13] I I
  ·have h3:stale x=false:=h3
   rw[if_neg (by rw[h3];decide)]at e1 e2
   repeat' (first|refine zh ?_|intro (bk:Nat))
   refine HL.jv zf I I I I I (by decide) (by decide) ?_
   intro va
   refine HL.ZN 2 I zf (Rd.own 0 I) I I I I (jF I) (by omega) (by omega) ?_
   intro v2
   repeat' (first|refine zh ?_|intro (bk:Nat))
   refine ih (k+1,v2,v) _ _ hlt (by show n.out.length-(k+1)<n.out.length-k;omega) ⟨I,I,I,I,I,I,trivial⟩ ?_
   show Ent _ _ (jG v2 131 11 (rs (k+1)).length (cellsOf snC (rs (k+1)))::jG v 75 9 (bk2 (k+1)).length (cellsOf frC (bk2 (k+1)))::stH b V n now)
   rw[e1,e2,List.length_append,jP]
   exact Ent.pick [2,3,4,5,6,7,8,9,10,11,12,13] I I
 ·have hke:k=n.out.length:=by have:=of_decide_eq_false h2;omega
  subst hke
  have hL:=hbl n.out.length
  have hR:=hrl n.out.length
  obtain ⟨bl,hbe⟩:∃bl,bl=bk2 n.out.length:=⟨_,rfl⟩
  obtain ⟨rl,hre⟩:∃rl,rl=rs n.out.length:=⟨_,rfl⟩
  have hsp:asleep n now=bl.foldl (fun n f=>box n f now) { n with out:=rl }:=by
   rw[hbe,hre,hbk2,hrs];show _=((((n.out.take n.out.length).filter stale).map (·.f))).foldl _ { n with out:=(n.out.take n.out.length).filter fun x=>!stale x }
   rw[List.take_length];rfl
  rw[hsp]
  refine HR.ent (H':=jG u 131 11 rl.length (cellsOf snC rl)::jG v 75 9 bl.length (cellsOf frC bl)::stH b V n now) (Ent.of_eq (by rw[hbe,hre])) ?_
  rw[← hbe]at hL
  rw[← hre]at hR
  repeat' (first|refine zh ?_|intro (bk:Nat))
  refine HL.shape 0 I fun a c hv=>?_
  subst hv
  repeat' (first|refine zh ?_|refine HL.JN (Rd.own 1 I) I I I ?_|intro (bk:Nat))
  have hm:=ho.ZL hR
  obtain ⟨m,hmm⟩:∃m:Nd,m={ n with out:=rl }:=⟨_,rfl⟩
  refine HR.ent (H':=jG v 75 9 bl.length (cellsOf frC bl)::stH b { V with ou:=(a,c) } { n with out:=rl } now) (Ent.pick [1,2,3,4,0,6,7,8,9,10,11] I I) ?_
  rw[← hmm]at hm ⊢
  have hgo:∀k,Ord ((bl.take k).foldl (fun n f=>box n f now) m):=fun k=>(jA7 now _ (Good.refl hm)).ord
  refine HR.loop (ι:=Nat×SV) (fun x=>x.1≤bl.length) (fun x=>[(0,ptr b),(48,v),(49,.int .i64 (bl.length:Int)),(50,.int .i64 (x.1:Int))]) (fun x=>jG v 75 9 bl.length (cellsOf frC bl)::stH b { V with ou:=(a,c),bo:=x.2 } ((bl.take x.1).foldl (fun n f=>box n f now) m) now) (fun x=>bl.length-x.1) (0,V.bo) (Nat.zero_le _) ⟨I,I,I,I,trivial⟩ Ent.refl ?_
  rintro ⟨k,y⟩ hk ih
  have hk:k≤bl.length:=hk
  repeat' (first|refine zh ?_|intro (bk:Nat))
  refine HR.cond I (fun h2=>?_) (fun h2=>?_)
  ·have hlt:k<bl.length:=by have:=of_decide_eq_true h2;omega
   obtain ⟨x,hx⟩:=jJ hlt
   repeat' (first|refine zh ?_|refine HL.JA (Rd.own 0 I) jMM k I I I I hlt ?_|refine HL.JW (Rd.own 0 I) I I I I (by simp) I (jH jQJ hx) ?_|intro (bk:Nat))
   refine HL.ent (H':=stH b { V with ou:=(a,c),bo:=y } ((bl.take k).foldl (fun n f=>box n f now) m) now++[jG v 75 9 bl.length (cellsOf frC bl)]) (Ent.pick [2,3,4,5,6,7,8,9,10,11,1] I I) ?_
   refine HL.Jh (r:=fun _:SV=> .tuple ⟨[]⟩) (Q:=fun _=>True) (G0:=stH b { V with ou:=(a,c),bo:=y } ((bl.take k).foldl (fun n f=>box n f now) m) now) (H0:=[jG v 75 9 bl.length (cellsOf frC bl)]) (G:=fun z=>stH b { V with ou:=(a,c),bo:=z } (box ((bl.take k).foldl (fun n f=>box n f now) m) x now) now) jRt I I I (fun w1 hw1=>jG1 b { V with ou:=(a,c),bo:=y } _ now x _ w1 (hw1.pick [0,1,2,3,4,5,6,7,8,9] I I) (hgo k)) ?_
   intro z _
   repeat' (first|refine zh ?_|intro (bk:Nat))
   refine ih (k+1,z) _ _ hlt (by show bl.length-(k+1)<bl.length-k;omega) ⟨I,I,I,I,trivial⟩ ?_
   show Ent _ _ (jG v 75 9 bl.length (cellsOf frC bl)::stH b { V with ou:=(a,c),bo:=z } ((bl.take (k+1)).foldl (fun n f=>box n f now) m) now)
   rw[jJk hx]
   exact Ent.pick [10,0,1,2,3,4,5,6,7,8,9] I I
  ·have hke:k=bl.length:=by have:=of_decide_eq_false h2;omega
   subst hke
   repeat' (first|refine zh ?_|intro (bk:Nat))
   refine HR.fin Tryz.func153 I [] (fun _ _=>trivial) ?_
   refine fun w' hw=>⟨((a,c),y),rfl,trivial,?_⟩
   have w1:Sat _ (jG v 75 9 bl.length (cellsOf frC bl)::stH b { V with ou:=(a,c),bo:=y } ((bl.take bl.length).foldl (fun n f=>box n f now) m) now) w':=hw
   rw[List.take_length]at w1
   exact w1.pick [1,2,3,4,5,6,7,8,9,10] I I
end Go.Proofs.YtgfdoognildoeaaGreat
