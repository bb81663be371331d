/- Part of a proof. Conditions: none. -/
import Derived.Test.YtgfdoognildoeaaGreatSB8
set_option linter.unusedVariables false
set_option linter.unusedSectionVars false
set_option linter.unusedSimpArgs false
set_option maxRecDepth 100000
set_option maxHeartbeats 4000000
namespace Go.Proofs.YtgfdoognildoeaaGreat
open Go.GX Go.RowKit
attribute [local irreducible] Calls Run JH JL zU HR HL HD jS jM ZN Rd jg Jf
open Nd
theorem fn277:IsFn Tryz.prog 277:=zF Tryz.func277 I
def atI:Option Nat->Int
 |some a=>(a:Int)
 |none=>-1
theorem jJw {l:List Pt} {s now:Int} {x:By} (h:jDa x≠0):jDb l s now x=⟨[],[],false,jDa x⟩:=if_pos h
theorem jGN {l:List Pt} {s now i0 i1 i2:Int} {x d:By} (h:jDa x=0) (h0:i0=b8 x 0) (h1:i1=b8 x 1) (h2:i2=b8 x 2) (hd:d=x.drop 3):
  jDb l s now x=if i2=1 then ⟨(JX (Ja l) s i0 1).1,d,true,0⟩else jPh (jED (JX (Ja l) s i0 i2) s i0 i2 now) i1.toNat d:=by
 subst h0;subst h1;subst h2;subst hd;unfold jDb;rw[if_neg (by simp[h])]
theorem QG {P:Program} {N n:Nat} {σ:Store} {B:Base} {H F:List Chunk} {ops:List Oper} {K:Act->World->Prop} {L:Array Bool} {v:Value} {e sz m:Nat} {xs:List Value} (i:Nat) (hi:J5 H i=some (jM v e sz m xs)) (hn:0<m)
  (h:∀g off cap,v= .slice (some ⟨g,off,none⟩) m cap->HA P N ops n L σ B H F K):HA P N ops n L σ B H F K:=by
 intro w hw hF a ha;obtain ⟨g,off,cap,e,_⟩:=Qd (Sat.vw hw hi) hn;exact h g off cap e w hw hF a ha
theorem jJC {i c n:Int} (h:fits i c n=true):n<=64:=by
 unfold Nd.fits at h
 split at h
 ·have:=eq_of_beq h;omega
 ·split at h
  ·exact of_decide_eq_true h
  ·split at h
   ·simp at h;omega
   ·simp at h;omega
theorem jCt {p:Pt} (h:JU p=true):∀s∈p.da,s.length<=64:=by
 have H:=zf (Jk h);have h1:=H.hv;have h2:=H.da;unfold JU at h;simp only[Bool.and_eq_true]at h;have hall:=List.all_eq_true.1 h.1.1.2;intro s hs;obtain ⟨j,hj⟩:=List.getElem?_of_mem hs;have hjl:=(List.getElem?_eq_some_iff.1 hj).1;have:=hall j (List.mem_range.2 (by omega));unfold jE4 at this;rw[show p.da.getD j []=s by rw[List.getD_eq_getElem?_getD,hj];rfl]at this
 split at this
 ·have:=jJC this;omega
 ·have:=of_decide_eq_true this;rw[this];simp
theorem jJv {l:List Pt} {s id c:Int} (h:∀p∈l,∀s∈p.da,s.length<=64):∀p∈(JX l s id c).1,∀s∈p.da,s.length<=64:=by
 unfold JX
 split
 ·split
  ·exact h
  ·exact fun p hp=>h p (List.mem_of_mem_eraseIdx hp)
 ·exact h
theorem jMn {o:List Pt×Option Nat} {s id c now:Int} (h:∀p∈o.1,∀s∈p.da,s.length<=64):∀p∈(jED o s id c now).1,∀s∈p.da,s.length<=64:=by
 unfold jED
 split
 ·exact h
 ·intro p hp;rcases List.mem_append.1 hp with hp|hp
  ·refine h p ?_;unfold Zj at hp
   split at hp
   ·exact List.mem_of_mem_eraseIdx hp
   ·exact hp
  ·rw [List.mem_singleton]at hp;subst hp;intro s hs;have:=List.eq_of_mem_replicate hs;rw[this];simp
theorem jBf {m:Nat}:∀ {l:List By},(∀ s∈l,s.length<=m)->l.flatten.length<=m*l.length
 |[],_=>by simp
 |s::l,h=>by
  have h1:=h s (List.mem_cons_self ..);have h2:=jBf (l:=l) fun x hx=>h x (List.mem_cons_of_mem _ hx)
  rw[List.flatten_cons,List.length_append,List.length_cons,Nat.mul_add];omega
theorem jQU (l:List PtV) (s now:Int) (x:By) (v:Value) (w:World) (hv:RdPts w v l) (hs:∀p∈l,jAS p.pt) (hl:l.length<=1000) (hx:x.length<=1000):
  Calls Tryz.prog 223 #[v,.int .i64 s,.int .i64 now,str x] w fun e w'=>∃y:Value×List PtV,e= .returned (.tuple ⟨[y.1,str (jDb (pts l) s now x).t,.bool (jDb (pts l) s now x).ok,.int .i64 (jDb (pts l) s now x).e]⟩)/\jAT y (jDb (pts l) s now x).l/\Sat (base w) (jAq y) w':=by
 refine zE Tryz.func223 I [(0,v),(1,.int .i64 s),(2,.int .i64 now),(3,str x)] (zh ?_);refine qB fn275 I I (fun w _=>jJD x w (by omega)) (zh ?_);refine HR.cond I (fun h=>?_) (fun h=>?_)
 ·have h:jDa x≠0:=by have h:(jDa x != 0)=true:=h;simpa using h
  rw[jJw h];refine zh ?_;refine HR.J6 173 6 (qR (Ent.trans QJ (Ent.pick [1,0] I I)) ?_);refine HR.ret Tryz.func223 I [_,_,_,_] (fun _ _=>⟨I,I,I,I,trivial⟩) ?_
  exact fun w' hw=>⟨(_,[]),rfl,⟨rfl,fun p hp=>by cases hp⟩,hw⟩
 have h:jDa x=0:=by have h:(jDa x != 0)=false:=h;simpa using h
 obtain ⟨c0,c1,c2,c3,c4,c5,c6,c7⟩:=jC0 h;obtain ⟨i0,h0⟩:∃i0:Int,i0=b8 x 0:=⟨_,rfl⟩;obtain ⟨i1,h1⟩:∃i1:Int,i1=b8 x 1:=⟨_,rfl⟩;obtain ⟨i2,h2⟩:∃i2:Int,i2=b8 x 2:=⟨_,rfl⟩;obtain ⟨d,hd⟩:∃d,d=x.drop 3:=⟨_,rfl⟩;rw[jGN h h0 h1 h2 hd];have hdl:(d.length:Int)=(x.length:Int)-3:=by rw[hd,List.length_drop];omega
 have hd64:d.length<=64:=by have:=jJC c5;omega
 have g0:0<=i0/\i0<=255:=by omega
 have g1:0<=i1/\i1<i2:=by omega
 have g2:1<=i2/\i2<=16:=by omega
 clear c1 c2 c3 c4 c5 c6 c7;refine zh ?_;refine qK j3 (by kernel_rfl) ?_;have b0:=(x.getD 0 0).toNat_lt;have b1:=(x.getD 1 0).toNat_lt;have b2:=(x.getD 2 0).toNat_lt;refine zq ?_;refine QC 13 (v':= .int .i64 i0) I (by rw[h0];try rfl) ?_;refine QC 14 (v':= .int .i64 i1) I (by rw[h1];try rfl) ?_;refine QC 15 (v':= .int .i64 i2) I (by rw[h2];try rfl) ?_;refine QC 16 (v':=str d) I (by rw[hd];try rfl) ?_;refine zh ?_;refine qL (r:=fun x:Value×List PtV=>x.1) (Q:=fun x=>jAT x (Ja (pts l))) (G:=fun x=>jAq x) jS3 I I (fun w1 hw1=>jET l v w1 (hv.ext hw1.jF) hs hl) ?_
 rintro ⟨v1,L⟩ ⟨hL,hsh⟩
 have hL:pts L=Ja (pts l):=hL;have hsh:∀p∈L,kR p:=hsh;have hLl:L.length<=8:=by have:=ZT (pts l);rw[<- hL,jW]at this;exact this
 have hfr:jCD (pts L):=by rw[hL];exact jBs _
 rw[<- hL];have hcl:∀T:List PtV,(cellsOf ptC T).length=T.length*6:=jA jY;refine zh ?_;refine qB jSn I I (fun w1 hw1=>jG1 L s i0 v1 w1 ((Rd.own 0 rfl).at hw1) (by omega) hsh) (zn ?_);refine HR.ctl I (HR.join (ι:=Unit) (fun _=>True) (fun _=>[(1,.int .i64 s),(2,.int .i64 now),(13,.int .i64 i0),(14,.int .i64 i1),(15,.int .i64 i2),(16,str d),(17,v1),(18,.int .i64 (atI (Z0 (pts L) s i0))),(54,.bool (match Z0 (pts L) s i0 with|some a=>(((pts L).getD a pz).ct != i2)|none=>false))]) (fun _=>jAq (v1,L)) (fun _ _=>?_) (fun hj=>?_))
 ·refine HR.join (ι:=Value×List PtV×Option Nat) (fun i=>(pts i.2.1,i.2.2)=JX (pts L) s i0 i2/\∀p∈i.2.1,kR p) (fun i=>[(1,.int .i64 s),(2,.int .i64 now),(13,.int .i64 i0),(14,.int .i64 i1),(15,.int .i64 i2),(16,str d),(17,i.1),(18,.int .i64 (atI i.2.2))]) (fun i=>jAq (i.1,i.2.1)) (fun i=>?_) (fun hj2=>?_)
  ·obtain ⟨v2,M,at2⟩:=i
   rintro ⟨hM,hshM⟩
   have hM:(pts M,at2)=JX (pts L) s i0 i2:=hM;have hshM:∀p∈M,kR p:=hshM;have hMl:M.length<=8:=by have:=Ki (l:=pts L) (by rw[jW];omega) s i0 i2;rw[<- hM,jW]at this;exact this
   refine zh ?_;refine HR.cond I (fun h5=>?_) (fun h5=>?_)
   ·have h5:i2=1:=eq_of_beq h5;rw[if_pos h5];have e:(JX (pts L) s i0 1).1=pts M:=by rw[<- h5,<- hM]
    rw[e];refine zh ?_;refine HR.ret Tryz.func223 I [_,_,_,_] (fun _ _=>⟨I,I,I,I,trivial⟩) ?_
    exact fun w' hw=>⟨(v2,M),rfl,⟨rfl,hshM⟩,hw.pick [0,1] I rfl⟩
   have h5:¬i2=1:=by have h5:(i2==1)=false:=h5;simpa using h5
   rw[if_neg h5,<- hM];have hsp:=jGJ (now:=now) (s:=s) hfr (by rw[jW];omega) (id:=i0) (c:=i2) (by omega) (by omega) (by omega) (by omega);rw[<- hM]at hsp;have hi2:i2=((i2.toNat:Nat):Int):=by omega
   have smM:∀p∈pts M,∀s∈p.da,s.length<=64:=by
    have:=jJv (l:=pts L) (s:=s) (id:=i0) (c:=i2) (by rw[hL];exact fun p hp=>jCt (Jm p hp));rw[<- hM]at this;exact this
   refine zh ?_;refine HR.join (ι:=Value×List PtV×Nat) (fun i=>(pts i.2.1,i.2.2)=jED (pts M,at2) s i0 i2 now/\∀p∈i.2.1,kR p) (fun i=>[(14,.int .i64 i1),(16,str d),(17,i.1),(18,.int .i64 (i.2.2:Int))]) (fun i=>jAq (i.1,i.2.1)) (fun i=>?_) (fun hj3=>?_)
   ·obtain ⟨v3,L3,a⟩:=i
    rintro ⟨hP,hsh3⟩
    have hP:(pts L3,a)=jED (pts M,at2) s i0 i2 now:=hP;have hsh3:∀p∈L3,kR p:=hsh3;rw[<- hP]at hsp ⊢;obtain ⟨f3,l3,a3,ct3⟩:=hsp;have sm3:∀p∈pts L3,∀s∈p.da,s.length<=64:=by
     have:=jMn (o:=(pts M,at2)) (s:=s) (id:=i0) (c:=i2) (now:=now) (fun p hp=>smM p hp);rw[<- hP]at this;exact this
    have l3:L3.length<=8:=by have l3:(pts L3).length<=8:=l3;rw[jW]at l3;exact l3
    have a3:a<L3.length:=by have a3:a<(pts L3).length:=a3;rw[jW]at a3;exact a3
    obtain ⟨p,hp⟩:=jG a3;have hpm:=List.mem_of_getElem? hp;have hgd:(pts L3).getD a pz=p.pt:=by rw[List.getD_eq_getElem?_getD,J3 hp];rfl
    have ct3:((pts L3).getD a pz).ct=i2:=ct3;rw[hgd]at ct3;have f3:jCD (pts L3):=f3;obtain ⟨H,hal⟩:=f3 p.pt (List.mem_map_of_mem hpm);have h1:=H.hv;have h2:=H.da;obtain ⟨sa,sn,sc,ta,tn,tc,ep⟩:=(hsh3 p hpm).lit;obtain ⟨q,hq⟩:∃q,q=p.pt:=⟨_,rfl⟩;rw[<- hq]at ct3 hal h1 h2 ep hgd;have hq':q=p.pt:=hq;have hpx:p=⟨p.vh,p.vd,q⟩:=by rw[hq]
    obtain ⟨vh,hvh⟩:∃vh,vh=p.vh:=⟨_,rfl⟩;obtain ⟨vd,hvd⟩:∃vd,vd=p.vd:=⟨_,rfl⟩;rw[<- hvh,<- hvd]at hpx;have shp:=hsh3 p hpm;clear ep;subst hpx;have hpe:jPh (pts L3,a) i1.toNat d=if (kZ q i1.toNat d).hv.all id then ⟨(pts L3).eraseIdx a,(kZ q i1.toNat d).da.flatten,true,0⟩else ⟨(pts L3).set a (kZ q i1.toNat d),[],false,0⟩:=by
     unfold jPh;simp only;rw[hgd]
    rw[hpe];obtain ⟨j,hj⟩:∃j,j=i1.toNat:=⟨_,rfl⟩;have hij:i1=((j:Nat):Int):=by omega
    rw[<- hj];have hjl:j<q.hv.length:=by omega
    have hjd:j<q.da.length:=by omega
    obtain ⟨b,hb⟩:=jG hjl;have hbd:q.hv.getD j false=b:=by rw[List.getD_eq_getElem?_getD,hb];rfl
    obtain ⟨R,hR⟩:∃R,R=ptG (L3.eraseIdx a):=⟨_,rfl⟩;refine qR (H':=[jM v3 173 6 L3.length (cellsOf ptC L3),ptH ⟨vh,vd,q⟩,ptD ⟨vh,vd,q⟩,jC R]) ?_ ?_
    ·refine Ent.trans (Ent.pick [1,0] I I) (Ent.trans (QH (G':=[ptH ⟨vh,vd,q⟩,ptD ⟨vh,vd,q⟩]++R) [] ?_) ?_)
     ·rw [List.append_nil,hR];exact (zJ hp).trans List.perm_append_comm
     ·refine Ent.trans (Qn (A:=[]) (c:=ptH ⟨vh,vd,q⟩) (C:=ptD ⟨vh,vd,q⟩::R)) (Ent.trans (Ent.pick [1,0,2] I I) (Ent.trans (Qn (A:=[]) (c:=ptD ⟨vh,vd,q⟩) (C:=R)) (Ent.pick [3,2,0,1] I I)))
    have hH:∀(Q:Pt) (i:Nat) (H:List Chunk),J5 H i=some (ptH ⟨vh,vd,Q⟩)->Rd (base w) H vh (cellsOf bC Q.hv) Q.hv.length:=fun Q i H hi=>Rd.own i hi
    have hD:∀(Q:Pt) (i:Nat) (H:List Chunk),J5 H i=some (ptD ⟨vh,vd,Q⟩)->Rd (base w) H vd (cellsOf sC Q.da) Q.da.length:=fun Q i H hi=>Rd.own i hi
    refine zh ?_;refine qE (Rd.own 0 I) jX a I I I I a3 ?_;refine qP 4 (Rd.own 0 I) (by rw[hcl];omega) I I I I I I I ?_;refine qF (Rd.own 0 I) I I I I (jJ jY hp (i:=4) I) (zh ?_);refine qE (hH q 1 _ I) J4 j I I I hij hjl ?_;refine qF (hH q 1 _ I) I I I I (jN hb) (zh ?_);obtain ⟨Q,hQ⟩:∃Q,Q=kZ q j d:=⟨_,rfl⟩;have hQs:Q.so=q.so/\Q.id=q.id/\Q.ct=q.ct/\Q.si=q.si/\Q.hv.length=q.hv.length/\Q.da.length=q.da.length:=by
     rw[hQ];unfold kZ;split
     ·exact ⟨rfl,rfl,rfl,rfl,rfl,rfl⟩
     ·exact ⟨rfl,rfl,rfl,rfl,List.length_set,List.length_set⟩
    obtain ⟨q1,q2,q3,q4,q5,q6⟩:=hQs;have hQd:∀s∈Q.da,s.length<=64:=by
     rw[hQ];unfold kZ;split
     ·exact sm3 q (by rw[hq'];exact List.mem_map_of_mem hpm)
     ·intro s hs;rcases List.mem_or_eq_of_mem_set hs with hs|rfl
      ·exact sm3 q (by rw[hq'];exact List.mem_map_of_mem hpm) s hs
      ·exact hd64
    rw[<- hQ];refine HR.join (ι:=Unit) (fun _=>True) (fun _=>[(17,v3),(18,.int .i64 (a:Int))]) (fun _=>[jM v3 173 6 L3.length (cellsOf ptC L3),ptH ⟨vh,vd,Q⟩,ptD ⟨vh,vd,Q⟩,jC R]) (fun _ _=>?_) (fun hj5=>?_)
    ·refine zh ?_;refine qE (Rd.own 0 I) jX a I I I I a3 ?_;refine qP 4 (Rd.own 0 I) (by rw[hcl];omega) I I I I I I I ?_;refine qF (Rd.own 0 I) I I I I (jJ jY hp (i:=4) I) ?_;refine qD (hH Q 1 _ I) I I I (zh ?_);refine HR.loop (ι:=Nat) (fun k=>k<=Q.hv.length/\(Q.hv.take k).all id=true) (fun k=>[(17,v3),(18,.int .i64 (a:Int)),(113,vh),(114,.int .i64 (Q.hv.length:Int)),(115,.int .i64 (k:Int))]) (fun _=>[jM v3 173 6 L3.length (cellsOf ptC L3),ptH ⟨vh,vd,Q⟩,ptD ⟨vh,vd,Q⟩,jC R]) (fun k=>Q.hv.length-k) 0 ⟨Nat.zero_le _,by rw[List.take_zero];rfl⟩ ⟨I,I,I,I,I,trivial⟩ Ent.refl ?_
     rintro k ⟨hk,hall⟩ ih
     refine zh ?_;refine HR.cond I (fun h6=>?_) (fun h6=>?_)
     ·have hlt:k<Q.hv.length:=by have:=of_decide_eq_true h6;omega
      obtain ⟨b6,hb6⟩:=jG hlt;refine zh ?_;refine qE (hH Q 1 _ I) J4 k I I I I hlt ?_;refine qF (hH Q 1 _ I) I I I I (jN hb6) (zh ?_);refine HR.cond I (fun h7=>?_) (fun h7=>?_)
      ·have h7:b6=false:=by have h7:(!b6)=true:=h7;simpa using h7
       have hna:¬Q.hv.all id=true:=fun hh=>by
        have:=List.all_eq_true.1 hh b6 (List.mem_of_getElem? hb6);rw[h7]at this;cases this
       rw[if_neg hna];refine zh ?_;refine HR.ret Tryz.func223 I [_,_,_,_] (fun _ _=>⟨I,I,I,I,trivial⟩) ?_;refine fun w' hw=>⟨(v3,L3.set a ⟨vh,vd,Q⟩),rfl,⟨by unfold pts;rw[List.map_set],fun y hy=>?_⟩,?_⟩
       ·rcases List.mem_or_eq_of_mem_set hy with hy|rfl
        ·exact hsh3 y hy
        ·exact shp
       ·have hcs:cellsOf ptC (L3.set a ⟨vh,vd,Q⟩)=cellsOf ptC L3:=by
         unfold cellsOf;rw[List.map_set];have e:ptC ⟨vh,vd,Q⟩=ptC ⟨vh,vd,q⟩:=by
          show [Value.int .i64 Q.so,.int .i64 Q.id,.int .i64 Q.ct,.int .i64 Q.si,vh,vd]=[.int .i64 q.so,.int .i64 q.id,.int .i64 q.ct,.int .i64 q.si,vh,vd];rw[q1,q2,q3,q4]
         rw[e]
         congr 1
         refine List.ext_getElem? fun m=>?_
         rw[List.getElem?_set]
         split
         ·rename_i e2
          subst e2;rw[if_pos (by rw[List.length_map];exact a3),List.getElem?_map,hp];rfl
         ·rfl
        have w1:=hw.pick [1,2,3,0] I I;have w2:=(Ent.group (G:=[ptH ⟨vh,vd,Q⟩,ptD ⟨vh,vd,Q⟩])) w' w1;have w3:=QV w' w2;have hset:(L3.set a ⟨vh,vd,Q⟩)[a]? =some ⟨vh,vd,Q⟩:=List.getElem?_set_self a3;have hpm2:(R++[ptH ⟨vh,vd,Q⟩,ptD ⟨vh,vd,Q⟩]).Perm (ptG (L3.set a ⟨vh,vd,Q⟩)++[]):=by
         rw[List.append_nil];have:=zJ hset;rw[List.eraseIdx_set_eq,<- hR]at this;exact this.symm
        have w4:=(QH [] hpm2) w' w3;have w5:=w4.pick [1,0] I I;exact qC (by rw[List.length_set]) hcs.symm w' w5
      ·have h7:b6=true:=by have h7:(!b6)=false:=h7;simpa using h7
       refine zh ?_;refine ih (k+1) _ _ ⟨hlt,?_⟩ (by omega) ⟨I,I,I,I,I,trivial⟩ Ent.refl;rw[jE hb6,List.all_append,hall,h7];rfl
     ·have hke:k=Q.hv.length:=by have:=of_decide_eq_false h6;omega
      subst hke;rw[List.take_length]at hall;rw[if_pos hall];have hfl:Q.da.flatten.length<=64*Q.da.length:=jBf hQd;refine zh ?_;refine qE (Rd.own 0 I) jX a I I I I a3 ?_;refine qP 5 (Rd.own 0 I) (by rw[hcl];omega) I I I I I I I ?_;refine qF (Rd.own 0 I) I I I I (jJ jY hp (i:=5) I) ?_;refine qB fn277 I I (fun w1 hw1=>jP4 Q.da vd w1 ((hD Q 2 _ rfl).at hw1) (by omega) (by omega) (by omega)) (zh ?_);refine qI jRb I I (fun w1 hw1=>Ko L3 a v3 w1 ((Rd.own 0 rfl).at hw1) hsh3 a3 (by omega)) ?_;intro r;refine zh ?_;refine HR.ret Tryz.func223 I [_,_,_,_] (fun _ _=>⟨I,I,I,I,trivial⟩) ?_;refine fun w' hw=>⟨(r,L3.eraseIdx a),rfl,⟨KD _ _ _,fun y hy=>hsh3 y (List.mem_of_mem_eraseIdx hy)⟩,?_⟩
      have w1:=hw.pick [0,4] I I;rw[hR]at w1;exact w1
    ·refine HR.cond I (fun h6=>?_) (fun h6=>?_)
     ·have h6:b=false:=by have h6:(!b)=true:=h6;simpa using h6
      have hQe:Q=⟨q.so,q.id,q.ct,q.si,q.hv.set j true,q.da.set j d⟩:=by rw[hQ];unfold kZ;rw[hbd,h6,if_neg (by decide)]
      refine HR.ctl I (HR.region (zn ?_));refine qE (Rd.own 0 I) jX a I I I I a3 ?_;refine qP 4 (Rd.own 0 I) (by rw[hcl];omega) I I I I I I I ?_;refine qF (Rd.own 0 I) I I I I (jJ jY hp (i:=4) I) (zn ?_);refine qE (hH q 1 _ I) J4 j I I I hij hjl ?_;refine qw (v:=vh) (e:=4) (sz:=1) (n:=q.hv.length) (xs:=cellsOf bC q.hv) 1 I I I I I I I (by rw[zH jBF];omega) ?_;refine zn ?_;refine HR.region (zn ?_);refine qE (Rd.own 0 I) jX a I I I I a3 ?_;refine qP 5 (Rd.own 0 I) (by rw[hcl];omega) I I I I I I I ?_;refine qF (Rd.own 0 I) I I I I (jJ jY hp (i:=5) I) (zn ?_);refine qE (hD q 2 _ I) ZB j I I I hij hjd ?_;refine qw (v:=vd) (e:=9) (sz:=1) (n:=q.da.length) (xs:=cellsOf sC q.da) 2 I I I I I I I (by rw[zH jCg];omega) ?_;refine zn ?_;refine hj5 () _ _ trivial ⟨I,I,trivial⟩ (Ent.of_eq ?_);have e1:=ZW (f:=fun b:Bool=>Value.bool b) q.hv j true;have e2:=ZW (f:=fun s:By=>str s) q.da j d;show [jM v3 _ 6 L3.length (cellsOf ptC L3),jM vh 4 1 q.hv.length ((cellsOf bC q.hv).set (j*1) (.bool true)),jM vd 9 1 q.da.length ((cellsOf sC q.da).set (j*1) (str d)),jC R]=[_,jM vh 4 1 Q.hv.length (cellsOf bC Q.hv),jM vd 9 1 Q.da.length (cellsOf sC Q.da),_];rw[e1,e2,q5,q6,hQe]
     ·have h6:b=true:=by have h6:(!b)=false:=h6;simpa using h6
      have hQe:Q=q:=by rw[hQ,jJs (by rw[hbd,h6])]
      refine HR.skip ?_;exact hj5 () _ _ trivial ⟨I,I,trivial⟩ (Ent.of_eq (by rw[hQe]))
   ·cases at2 with
    |some a=>
     refine QY I (HR.skip ?_);exact hj3 (v2,M,a) _ _ ⟨rfl,hshM⟩ ⟨I,I,I,I,trivial⟩ (Ent.pick [0,1] I I)
    |none=>
     refine Qj I (zh ?_);refine qD (Rd.own 0 I) I I I (zh ?_);refine HR.join (ι:=Value×List PtV) (fun i=>pts i.2=Zj (pts M)/\∀p∈i.2,kR p) (fun i=>[(1,.int .i64 s),(2,.int .i64 now),(13,.int .i64 i0),(14,.int .i64 i1),(15,.int .i64 i2),(16,str d),(17,i.1)]) (fun i=>jAq i) (fun i=>?_) (fun hj6=>?_)
     ·obtain ⟨v4,N⟩:=i
      rintro ⟨hN,hshN⟩
      have hN:pts N=Zj (pts M):=hN;have hshN:∀p∈N,kR p:=hshN;have hNl:N.length<=7:=by have:=jA2 (l:=pts M) (by rw[jW];omega);rw[<- hN,jW]at this;exact this
      obtain ⟨pb,hpb⟩:∃pb,pb=jq s i0 i2 now:=⟨_,rfl⟩;have hbl:i2.toNat=pb.hv.length:=by rw[hpb];simp[jq]
      have hsl:i2.toNat=pb.da.length:=by rw[hpb];simp[jq]
      have hbl0:0<pb.hv.length:=by rw[<- hbl];omega
      have hsl0:0<pb.da.length:=by rw[<- hsl];omega
      have hbc:((List.replicate i2.toNat (ji (.bool false))).flatten)=cellsOf bC pb.hv:=by rw[hpb];unfold cellsOf jq;simp only;rw[List.map_replicate];rfl
      have hsc:((List.replicate i2.toNat (ji (str []))).flatten)=cellsOf sC pb.da:=by rw[hpb];unfold cellsOf jq;simp only;rw[List.map_replicate];rfl
      refine zh ?_;refine HR.join (ι:=Value×PtV) (fun i=>i.2.pt=pb/\kR i.2) (fun i=>[(14,.int .i64 i1),(16,str d),(17,i.1)]) (fun i=>[ptH i.2,ptD i.2,jC (ptG N),jM i.1 173 6 (N.length+1) (cellsOf ptC N++ptC i.2)]) (fun i=>?_) (fun hj4=>?_)
      ·obtain ⟨o3,P⟩:=i
       rintro ⟨hP,hshP⟩
       have hP:P.pt=pb:=hP;refine qR (H':=jAq (o3,N++[P])) ?_ ?_
       ·refine Ent.trans (Ent.group (G:=[ptH P,ptD P])) (Ent.trans QV ?_);have e:ptG N++[ptH P,ptD P]=ptG (N++[P]):=by rw[Zi,jAc]
        rw[e];refine Ent.trans (Ent.pick [1,0] I I) (qC (by simp) ?_);rw[jL,JN]
       first|refine HR.ctl I ?_|skip
       refine HR.region (zn ?_);refine qD (Rd.own 0 I) I I I (zn ?_);refine hj3 (o3,N++[P],N.length) _ _ ⟨?_,fun p hp=>?_⟩ ⟨rfl,rfl,rfl,by show some (Value.int IntKind.i64 _)=some _;congr 2;simp,trivial⟩ Ent.refl
       ·show (pts (N++[P]),N.length)=(Zj (pts M)++[jq s i0 i2 now],(Zj (pts M)).length);rw[<- hN,<- hpb,<- hP,jCv,jW];rfl
       ·rcases List.mem_append.1 hp with hp|hp
        ·exact hshN p hp
        ·rw [List.mem_singleton]at hp;subst hp;exact hshP
      ·refine QO [] I I j3 ?_;refine za 0 ?_;refine za 1 ?_;refine za 2 ?_;refine za 3 ?_;refine za 4 ?_;refine za 6 ?_;refine za 8 ?_;refine YH 5 7 9 (by kernel_rfl) I I I ?_ ?_ ?_
       ·refine qB jLN I I (fun w _=>jAG now w) (qG [] I I ?_);refine HA.two 7 9 (by kernel_rfl) I I ?_ ?_
        ·refine qg i2.toNat i2.toNat J4 I I I I hi2 hi2 (Nat.le_refl _) (show 1*i2.toNat<=_ by omega) (by omega) ?_;intro vb;refine qM (qC hbl hbc) (qG [] I I ?_);refine HA.one 9 (by kernel_rfl) I (qg i2.toNat i2.toNat ZB I I I I hi2 hi2 (Nat.le_refl _) (show 16*i2.toNat<=_ by omega) (by omega) ?_);intro vs;refine qM (qC hsl hsc) (qG [] I I ?_);refine QG 1 I (v:=vb) (e:=4) (sz:=1) (m:=pb.hv.length) (xs:=cellsOf bC pb.hv) hbl0 fun g1 o1 e1 hvb=>?_
         subst hvb;refine QG 0 I (v:=vs) (e:=9) (sz:=1) (m:=pb.da.length) (xs:=cellsOf sC pb.da) hsl0 fun g2 o2 e2 hvs=>?_
         subst hvs;refine za 10 ?_;refine HA.one 11 (by kernel_rfl) I (qH jX I I I I I (by decide) (by decide) ?_);intro va;refine qG [] I I (HA.one 12 (by kernel_rfl) I ?_);refine qJ 3 I jX (Rd.own 0 I) I I I I (jH I) (by show (N.length+1)*80<=_;omega) (by show N.length+1<=_;omega) ?_;intro o3;refine qG [] I I ?_;refine za 13 ?_;refine HA.done (by kernel_rfl) ?_;subst hpb;exact hj4 (o3,⟨.slice (some ⟨g1,o1,none⟩) (jq s i0 i2 now).hv.length e1,.slice (some ⟨g2,o2,none⟩) (jq s i0 i2 now).da.length e2,jq s i0 i2 now⟩) _ _ ⟨rfl,⟨_,_,_,rfl⟩,⟨_,_,_,rfl⟩⟩ ⟨I,I,I,trivial⟩ (Ent.pick [2,1,4,3] I I)
        ·refine qg i2.toNat i2.toNat ZB I I I I hi2 hi2 (Nat.le_refl _) (show 16*i2.toNat<=_ by omega) (by omega) ?_;intro vs;refine qM (qC hsl hsc) (qG [] I I ?_);refine HA.one 7 (by kernel_rfl) I (qg i2.toNat i2.toNat J4 I I I I hi2 hi2 (Nat.le_refl _) (show 1*i2.toNat<=_ by omega) (by omega) ?_);intro vb;refine qM (qC hbl hbc) (qG [] I I ?_);refine QG 0 I (v:=vb) (e:=4) (sz:=1) (m:=pb.hv.length) (xs:=cellsOf bC pb.hv) hbl0 fun g1 o1 e1 hvb=>?_
         subst hvb;refine QG 1 I (v:=vs) (e:=9) (sz:=1) (m:=pb.da.length) (xs:=cellsOf sC pb.da) hsl0 fun g2 o2 e2 hvs=>?_
         subst hvs;refine za 10 ?_;refine HA.one 11 (by kernel_rfl) I (qH jX I I I I I (by decide) (by decide) ?_);intro va;refine qG [] I I (HA.one 12 (by kernel_rfl) I ?_);refine qJ 3 I jX (Rd.own 0 I) I I I I (jH I) (by show (N.length+1)*80<=_;omega) (by show N.length+1<=_;omega) ?_;intro o3;refine qG [] I I ?_;refine za 13 ?_;refine HA.done (by kernel_rfl) ?_;subst hpb;exact hj4 (o3,⟨.slice (some ⟨g1,o1,none⟩) (jq s i0 i2 now).hv.length e1,.slice (some ⟨g2,o2,none⟩) (jq s i0 i2 now).da.length e2,jq s i0 i2 now⟩) _ _ ⟨rfl,⟨_,_,_,rfl⟩,⟨_,_,_,rfl⟩⟩ ⟨I,I,I,trivial⟩ (Ent.pick [1,2,4,3] I I)
       ·refine qg i2.toNat i2.toNat J4 I I I I hi2 hi2 (Nat.le_refl _) (show 1*i2.toNat<=_ by omega) (by omega) ?_;intro vb;refine qM (qC hbl hbc) (qG [] I I ?_);refine HA.two 5 9 (by kernel_rfl) I I ?_ ?_
        ·refine qB jLN I I (fun w _=>jAG now w) (qG [] I I ?_);refine HA.one 9 (by kernel_rfl) I (qg i2.toNat i2.toNat ZB I I I I hi2 hi2 (Nat.le_refl _) (show 16*i2.toNat<=_ by omega) (by omega) ?_);intro vs;refine qM (qC hsl hsc) (qG [] I I ?_);refine QG 1 I (v:=vb) (e:=4) (sz:=1) (m:=pb.hv.length) (xs:=cellsOf bC pb.hv) hbl0 fun g1 o1 e1 hvb=>?_
         subst hvb;refine QG 0 I (v:=vs) (e:=9) (sz:=1) (m:=pb.da.length) (xs:=cellsOf sC pb.da) hsl0 fun g2 o2 e2 hvs=>?_
         subst hvs;refine za 10 ?_;refine HA.one 11 (by kernel_rfl) I (qH jX I I I I I (by decide) (by decide) ?_);intro va;refine qG [] I I (HA.one 12 (by kernel_rfl) I ?_);refine qJ 3 I jX (Rd.own 0 I) I I I I (jH I) (by show (N.length+1)*80<=_;omega) (by show N.length+1<=_;omega) ?_;intro o3;refine qG [] I I ?_;refine za 13 ?_;refine HA.done (by kernel_rfl) ?_;subst hpb;exact hj4 (o3,⟨.slice (some ⟨g1,o1,none⟩) (jq s i0 i2 now).hv.length e1,.slice (some ⟨g2,o2,none⟩) (jq s i0 i2 now).da.length e2,jq s i0 i2 now⟩) _ _ ⟨rfl,⟨_,_,_,rfl⟩,⟨_,_,_,rfl⟩⟩ ⟨I,I,I,trivial⟩ (Ent.pick [2,1,4,3] I I)
        ·refine qg i2.toNat i2.toNat ZB I I I I hi2 hi2 (Nat.le_refl _) (show 16*i2.toNat<=_ by omega) (by omega) ?_;intro vs;refine qM (qC hsl hsc) (qG [] I I ?_);refine HA.one 5 (by kernel_rfl) I (qB jLN I I (fun w _=>jAG now w) ?_);refine qG [] I I ?_;refine QG 1 I (v:=vb) (e:=4) (sz:=1) (m:=pb.hv.length) (xs:=cellsOf bC pb.hv) hbl0 fun g1 o1 e1 hvb=>?_
         subst hvb;refine QG 0 I (v:=vs) (e:=9) (sz:=1) (m:=pb.da.length) (xs:=cellsOf sC pb.da) hsl0 fun g2 o2 e2 hvs=>?_
         subst hvs;refine za 10 ?_;refine HA.one 11 (by kernel_rfl) I (qH jX I I I I I (by decide) (by decide) ?_);intro va;refine qG [] I I (HA.one 12 (by kernel_rfl) I ?_);refine qJ 3 I jX (Rd.own 0 I) I I I I (jH I) (by show (N.length+1)*80<=_;omega) (by show N.length+1<=_;omega) ?_;intro o3;refine qG [] I I ?_;refine za 13 ?_;refine HA.done (by kernel_rfl) ?_;subst hpb;exact hj4 (o3,⟨.slice (some ⟨g1,o1,none⟩) (jq s i0 i2 now).hv.length e1,.slice (some ⟨g2,o2,none⟩) (jq s i0 i2 now).da.length e2,jq s i0 i2 now⟩) _ _ ⟨rfl,⟨_,_,_,rfl⟩,⟨_,_,_,rfl⟩⟩ ⟨I,I,I,trivial⟩ (Ent.pick [2,1,4,3] I I)
       ·refine qg i2.toNat i2.toNat ZB I I I I hi2 hi2 (Nat.le_refl _) (show 16*i2.toNat<=_ by omega) (by omega) ?_;intro vs;refine qM (qC hsl hsc) (qG [] I I ?_);refine HA.two 5 7 (by kernel_rfl) I I ?_ ?_
        ·refine qB jLN I I (fun w _=>jAG now w) (qG [] I I ?_);refine HA.one 7 (by kernel_rfl) I (qg i2.toNat i2.toNat J4 I I I I hi2 hi2 (Nat.le_refl _) (show 1*i2.toNat<=_ by omega) (by omega) ?_);intro vb;refine qM (qC hbl hbc) (qG [] I I ?_);refine QG 0 I (v:=vb) (e:=4) (sz:=1) (m:=pb.hv.length) (xs:=cellsOf bC pb.hv) hbl0 fun g1 o1 e1 hvb=>?_
         subst hvb;refine QG 1 I (v:=vs) (e:=9) (sz:=1) (m:=pb.da.length) (xs:=cellsOf sC pb.da) hsl0 fun g2 o2 e2 hvs=>?_
         subst hvs;refine za 10 ?_;refine HA.one 11 (by kernel_rfl) I (qH jX I I I I I (by decide) (by decide) ?_);intro va;refine qG [] I I (HA.one 12 (by kernel_rfl) I ?_);refine qJ 3 I jX (Rd.own 0 I) I I I I (jH I) (by show (N.length+1)*80<=_;omega) (by show N.length+1<=_;omega) ?_;intro o3;refine qG [] I I ?_;refine za 13 ?_;refine HA.done (by kernel_rfl) ?_;subst hpb;exact hj4 (o3,⟨.slice (some ⟨g1,o1,none⟩) (jq s i0 i2 now).hv.length e1,.slice (some ⟨g2,o2,none⟩) (jq s i0 i2 now).da.length e2,jq s i0 i2 now⟩) _ _ ⟨rfl,⟨_,_,_,rfl⟩,⟨_,_,_,rfl⟩⟩ ⟨I,I,I,trivial⟩ (Ent.pick [1,2,4,3] I I)
        ·refine qg i2.toNat i2.toNat J4 I I I I hi2 hi2 (Nat.le_refl _) (show 1*i2.toNat<=_ by omega) (by omega) ?_;intro vb;refine qM (qC hbl hbc) (qG [] I I ?_);refine HA.one 5 (by kernel_rfl) I (qB jLN I I (fun w _=>jAG now w) ?_);refine qG [] I I ?_;refine QG 0 I (v:=vb) (e:=4) (sz:=1) (m:=pb.hv.length) (xs:=cellsOf bC pb.hv) hbl0 fun g1 o1 e1 hvb=>?_
         subst hvb;refine QG 1 I (v:=vs) (e:=9) (sz:=1) (m:=pb.da.length) (xs:=cellsOf sC pb.da) hsl0 fun g2 o2 e2 hvs=>?_
         subst hvs;refine za 10 ?_;refine HA.one 11 (by kernel_rfl) I (qH jX I I I I I (by decide) (by decide) ?_);intro va;refine qG [] I I (HA.one 12 (by kernel_rfl) I ?_);refine qJ 3 I jX (Rd.own 0 I) I I I I (jH I) (by show (N.length+1)*80<=_;omega) (by show N.length+1<=_;omega) ?_;intro o3;refine qG [] I I ?_;refine za 13 ?_;refine HA.done (by kernel_rfl) ?_;subst hpb;exact hj4 (o3,⟨.slice (some ⟨g1,o1,none⟩) (jq s i0 i2 now).hv.length e1,.slice (some ⟨g2,o2,none⟩) (jq s i0 i2 now).da.length e2,jq s i0 i2 now⟩) _ _ ⟨rfl,⟨_,_,_,rfl⟩,⟨_,_,_,rfl⟩⟩ ⟨I,I,I,trivial⟩ (Ent.pick [1,2,4,3] I I)
     ·refine HR.cond I (fun h6=>?_) (fun h6=>?_)
      ·have h6:M.length=8:=by have h6:((M.length:Int)==8)=true:=h6;simp at h6;omega
       obtain ⟨m0,hm0⟩:=jG (show 0<M.length by omega);refine HR.region (zn ?_);refine qI jRb I I (fun w1 hw1=>Ko M 0 v2 w1 ((Rd.own 0 rfl).at hw1) hshM (by omega) (by omega)) ?_;intro r;refine zn ?_;refine hj6 (r,M.eraseIdx 0) _ _ ⟨?_,fun y hy=>hshM y (List.mem_of_mem_eraseIdx hy)⟩ ⟨I,I,I,I,I,I,I,trivial⟩ (Ent.trans (Ent.pick [2,0] I I) (Ent.trans (QH _ (zJ hm0)) (Ent.pick [1,0] I I)));show pts (M.eraseIdx 0)=Zj (pts M);unfold Zj;rw[if_pos (by rw[jW];exact h6)];exact KD _ _ _
      ·have h6:¬M.length=8:=by intro e;have h6:((M.length:Int)==8)=false:=h6;rw[e]at h6;cases h6
       refine HR.skip (hj6 (v2,M) _ _ ⟨?_,hshM⟩ ⟨I,I,I,I,I,I,I,trivial⟩ (Ent.pick [0,1] I I));show pts M=Zj (pts M);unfold Zj;rw[if_neg (by rw[jW];exact h6)]
  ·rcases JF (pis s i0) (pts L)with ⟨_,e2,_⟩|⟨a,q,_,e2,hq,_,_⟩
   ·have e2:Z0 (pts L) s i0=none:=e2;rw[e2];refine QY I (HR.skip ?_);exact hj2 (v1,L,none) _ _ ⟨by unfold JX;rw[e2],hsh⟩ ⟨I,I,I,I,I,I,I,I,trivial⟩ Ent.refl
   ·have e2:Z0 (pts L) s i0=some a:=e2;have hal:a<L.length:=by have:=(List.getElem?_eq_some_iff.1 hq).1;rw[jW]at this;exact this
    have hgq:(pts L).getD a pz=q:=by rw[List.getD_eq_getElem?_getD,hq];rfl
    rw[e2];obtain ⟨m0,hm0⟩:=jG hal;refine HR.cond I (fun h6=>?_) (fun h6=>?_)
    ·have h6:¬((pts L).getD a pz).ct=i2:=by have h6:(((pts L).getD a pz).ct != i2)=true:=h6;simpa using h6
     refine HR.ctl I (HR.region (zn ?_));refine qI jRb I I (fun w1 hw1=>Ko L a v1 w1 ((Rd.own 0 rfl).at hw1) hsh hal (by omega)) ?_;intro r;refine zn ?_;refine HR.region (zn ?_);refine hj2 (r,L.eraseIdx a,none) _ _ ⟨?_,fun y hy=>hsh y (List.mem_of_mem_eraseIdx hy)⟩ ⟨I,I,I,I,I,I,I,I,trivial⟩ (Ent.trans (Ent.pick [2,0] I I) (Ent.trans (QH _ (zJ hm0)) (Ent.pick [1,0] I I)));show (pts (L.eraseIdx a),(none:Option Nat))=JX (pts L) s i0 i2;unfold JX;rw[e2];simp only;rw[if_neg h6];exact congrArg (·,none) (KD _ _ _)
    ·have h6:((pts L).getD a pz).ct=i2:=by have h6:(((pts L).getD a pz).ct != i2)=false:=h6;simpa using h6
     refine HR.skip (hj2 (v1,L,some a) _ _ ⟨?_,hsh⟩ ⟨I,I,I,I,I,I,I,I,trivial⟩ Ent.refl);show (pts L,some a)=JX (pts L) s i0 i2;unfold JX;rw[e2];simp only;rw[if_pos h6]
 ·have hpf:pfi (pts L) s i0=atI (Z0 (pts L) s i0):=by
   unfold pfi Z0 fidx atI;cases List.findIdx? (pis s i0) (pts L)<;>rfl
  rw[hpf];rcases JF (pis s i0) (pts L)with ⟨_,e2,_⟩|⟨a,q,_,e2,hq,_,_⟩
  ·have e2:Z0 (pts L) s i0=none:=e2;rw[e2]at hj ⊢;refine HR.region ?_
   repeat' (first|refine zn ?_|fail)
   exact hj () _ _ trivial ⟨I,I,I,I,I,I,I,I,I,trivial⟩ Ent.refl
  ·have e2:Z0 (pts L) s i0=some a:=e2;have hal:a<L.length:=by have:=(List.getElem?_eq_some_iff.1 hq).1;rw[jW]at this;exact this
   have hgq:(pts L).getD a pz=q:=by rw[List.getD_eq_getElem?_getD,hq];rfl
   obtain ⟨p,hp⟩:=jG hal;have hpq:p.pt=q:=by rw[J3 hp]at hq;cases hq;rfl
   rw[e2]at hj ⊢;simp only[hgq,<- hpq]at hj;refine HR.region ?_
   repeat' (first|refine zn ?_|refine qE (Rd.own 0 I) jX a I I I I hal ?_|refine qP 2 (Rd.own 0 I) (show a*6<(cellsOf ptC L).length by rw[hcl];omega) I I I I I I I ?_|refine qF (Rd.own 0 I) I I I I (jJ jY hp (i:=2) I) ?_|fail)
   exact hj () _ _ trivial ⟨I,I,I,I,I,I,I,I,I,trivial⟩ Ent.refl
theorem jSt:IsFn Tryz.prog 231:=zF Tryz.func231 I
theorem jSs:IsFn Tryz.prog 232:=zF Tryz.func232 I
theorem fn233:IsFn Tryz.prog 233:=zF Tryz.func233 I
theorem jS9:IsFn Tryz.prog 178:=zF Tryz.func178 I
theorem jRa:IsFn Tryz.prog 284:=zF Tryz.func284 I
theorem fn285:IsFn Tryz.prog 285:=zF Tryz.func285 I
theorem fn98:IsFn Tryz.prog 98:=zF Tryz.func98 I
theorem jF8 (p:PtV) (w:World) (hr:RdPt w p) (hs:jAS p.pt):Calls Tryz.prog 231 #[.agg ⟨ptC p⟩] w fun e w'=>e= .returned (.bool (JU p.pt))/\Below w.heap.size w w':=by
 obtain ⟨vh,vd,q⟩:=p;obtain ⟨hh,hd⟩:=hr;obtain ⟨s1,s2,s3⟩:=hs;have hh:Sl w vh (cellsOf bC q.hv) q.hv.length:=hh;have hd:Sl w vd (cellsOf sC q.da) q.da.length:=hd;refine zE Tryz.func231 I [(0,.agg ⟨ptC ⟨vh,vd,q⟩⟩)] ?_
 repeat' (first|refine zh ?_|refine qD (qA hh) I I I ?_|refine qD (qA hd) I I I ?_|apply zb ?_ ?_|exact zc|(refine zi fun hb=>?_;try simp at hb)|intro (bk:Nat))
 refine HR.cond I (fun h=>?_) (fun h=>?_)
 ·have h:jE6 q=true:=h;rw[jGE h];refine zh ?_;exact zR Tryz.func231
 have h:jE6 q=false:=h;have H:=zf h;have e1:=H.hv;have e2:=H.da;have c0:=H.ct0;have c1:=H.ct1;refine zh ?_;refine qD (qA hh) I I I (zh ?_);refine HR.loop (ι:=Nat) (fun k=>k<=q.hv.length/\(List.range k).all (jE4 q)=true) (fun k=>[(1,.pointer (some ⟨bk,0,none⟩)),(3,.int .i64 ((jJr (q.hv.take k):Nat):Int)),(51,.int .i64 (q.hv.length:Int)),(52,.int .i64 (k:Int))]) (fun _=>[jS bk (ptC ⟨vh,vd,q⟩) 173]) (fun k=>q.hv.length-k) 0 ⟨Nat.zero_le _,rfl⟩ ⟨I,I,I,I,trivial⟩ Ent.refl ?_
 rintro k ⟨hk,hall⟩ ih
 have hpl:=jMm (q.hv.take k);have htl:(q.hv.take k).length<=k:=by simp;omega
 refine zh ?_;refine HR.cond I (fun h2=>?_) (fun h2=>?_)
 ·have hlt:k<q.hv.length:=by have:=of_decide_eq_true h2;omega
  obtain ⟨b,hb⟩:=jG hlt;obtain ⟨d,hdk⟩:=jG (show k<q.da.length by omega);have hpo:jE4 q k=if b then fits k q.ct (d.length:Int)else decide (d=[]):=by
   unfold jE4;rw[List.getD_eq_getElem?_getD,List.getD_eq_getElem?_getD,hb,hdk];rfl
  have hps:=jGH hb;have hdl:=s3 d (List.mem_of_getElem? hdk);refine zh ?_;refine qE (qA hh) J4 k I I I I hlt ?_;refine qF (qA hh) I I I I (jN hb) (zh ?_);refine HR.cond I (fun h4=>?_) (fun h4=>?_)
  ·have h4:b=true:=h4;rw[h4,if_pos rfl]at hps hpo;refine zh ?_;refine qO [(0,true),(1,true),(2,true),(3,true),(4,true),(5,true),(6,true),(7,true),(8,true),(9,false),(10,true)] [0] I I j3 (by kernel_rfl) (zd ?_);refine qc (qA hd) ZB k I I I I I (by omega) ?_;refine QD (qA hd) I I I I I (jN hdk) (zd ?_);refine Qb [0] I I jSm I I I (fun w _=>jFq k q.ct d.length w (by omega) (by omega)) (zd ?_);refine HD.nil (HR.cond I (fun h3=>?_) (fun h3=>?_))
   ·have h3:jE4 q k=false:=by rw[hpo];have h3:(!fits k q.ct (d.length:Int))=true:=h3;simpa using h3
    rw[jCu hlt h3];refine zh ?_;exact zR Tryz.func231
   ·have h3:jE4 q k=true:=by rw[hpo];have h3:(!fits k q.ct (d.length:Int))=false:=h3;simpa using h3
    refine zh ?_;exact ih (k+1) _ _ ⟨hlt,Z6 hall h3⟩ (by omega) ⟨rfl,by rw[hps];rfl,rfl,rfl,trivial⟩ Ent.refl
  ·have h4:b=false:=h4;rw[h4,if_neg (by decide)]at hps hpo;refine zh ?_;refine qE (qA hd) ZB k I I I I (by omega) ?_;refine qF (qA hd) I I I I (jN hdk) (zh ?_);refine HR.cond I (fun h3=>?_) (fun h3=>?_)
   ·have h3:jE4 q k=false:=by rw[hpo];have h3:(d != ([]:By))=true:=h3;simpa using h3
    rw[jCu hlt h3];refine zh ?_;exact zR Tryz.func231
   ·have h3:jE4 q k=true:=by rw[hpo];have h3:(d != ([]:By))=false:=h3;simpa using h3
    refine zh ?_;exact ih (k+1) _ _ ⟨hlt,Z6 hall h3⟩ (by omega) ⟨rfl,by rw[hps];rfl,rfl,rfl,trivial⟩ Ent.refl
 ·have hke:k=q.hv.length:=by have:=of_decide_eq_false h2;omega
  subst hke;rw[List.take_length];have hpv:JU q=(decide (((jJr q.hv:Nat):Int)>0)&&decide (((jJr q.hv:Nat):Int)<q.ct)):=by
   unfold JU;rw[h,hall]
   simp
  rw[hpv]
  repeat' (first|refine zh ?_|apply zb ?_ ?_|exact zc|(refine zi fun hb=>?_;try simp at hb)|fail)
  exact zR Tryz.func231
theorem jCp (L:List PtV) (s id:Int) (v:Value) (w:World) (hv:Sl w v (cellsOf ptC L) L.length) (hl:L.length<=1000000):
  Calls Tryz.prog 232 #[v,.int .i64 s,.int .i64 id] w fun e w'=>e= .returned (.int .i64 (pfi (pts L) s id))/\Below w.heap.size w w':=by
 have hcl:∀T:List PtV,(cellsOf ptC T).length=T.length*6:=jA jY;refine zE Tryz.func232 I [(0,v),(1,.int .i64 s),(2,.int .i64 id)] (zh ?_);refine qD (qA hv) I I I (zh ?_);refine HR.loop (ι:=Nat) (fun k=>k<=L.length/\∀j b,j<k->(pts L)[j]? =some b->pis s id b=false) (fun k=>[(0,v),(1,.int .i64 s),(2,.int .i64 id),(9,.int .i64 (L.length:Int)),(10,.int .i64 (k:Int))]) (fun _=>[]) (fun k=>L.length-k) 0 ⟨Nat.zero_le _,fun j b hj=>absurd hj (Nat.not_lt_zero _)⟩ ⟨I,I,I,I,I,trivial⟩ Ent.refl ?_
 rintro k ⟨hk,hno⟩ ih
 refine zh ?_;refine HR.cond I (fun h2=>?_) (fun h2=>?_)
 ·have hlt:k<L.length:=by have:=of_decide_eq_true h2;omega
  obtain ⟨x,hx⟩:=jG hlt
  repeat' (first|refine zh ?_|refine qE (qA hv) jX k I I I I hlt ?_|refine qP 0 (qA hv) (by rw[hcl];omega) I I I I I I I ?_|refine qP 1 (qA hv) (by rw[hcl];omega) I I I I I I I ?_|refine qF (qA hv) I I I I (jJ jY hx (i:=0) I) ?_|refine qF (qA hv) I I I I (jJ jY hx (i:=1) I) ?_|apply zb ?_ ?_|exact zc|(refine zi fun hb=>?_;try simp at hb)|fail)
  refine HR.cond I (fun h3=>?_) (fun h3=>?_)
  ·have h3:pis s id x.pt=true:=h3;refine zh ?_;refine HR.ret Tryz.func232 I [_] (fun _ _=>⟨I,trivial⟩) ?_;have e:pfi (pts L) s id=k:=Zk (J3 hx) h3 hno;rw[e]
   exact fun w' hw=>⟨rfl,hw.jF⟩
  ·have h3:pis s id x.pt=false:=h3;refine zh ?_;refine ih (k+1) _ _ ⟨hlt,fun j b hj hb=>?_⟩ (by omega) ⟨I,I,I,I,I,trivial⟩ Ent.refl
   by_cases e:j=k
   ·subst e;rw[J3 hx]at hb;cases hb;exact h3
   ·exact hno j b (by omega) hb
 ·have hke:k=L.length:=by have:=of_decide_eq_false h2;omega
  subst hke;have e:pfi (pts L) s id= -1:=Jq (fun j b hj hb=>hno j b (by rw[jW]at hj;exact hj) hb);rw[e];refine zh ?_;exact zR Tryz.func232
theorem jHp (p:PtV) (w:World) (hr:RdPt w p) (h2:p.pt.hv.length<=1000) (h3:p.pt.da.length<=1000):
  Calls Tryz.prog 233 #[.agg ⟨ptC p⟩] w fun e w'=>∃x:Value×Value,e= .returned (.agg ⟨ptC ⟨x.1,x.2,p.pt⟩⟩)/\kR ⟨x.1,x.2,p.pt⟩/\Sat (base w) [ptH ⟨x.1,x.2,p.pt⟩,ptD ⟨x.1,x.2,p.pt⟩] w':=by
 obtain ⟨vh,vd,q⟩:=p;obtain ⟨hh,hd⟩:=hr;have hh:Sl w vh (cellsOf bC q.hv) q.hv.length:=hh;have hd:Sl w vd (cellsOf sC q.da) q.da.length:=hd;have h2:q.hv.length<=1000:=h2;have h3:q.da.length<=1000:=h3;obtain ⟨ah,ch,evh,_⟩:=hh.2;obtain ⟨ad,cd,evd,_⟩:=hd.2;subst evh;subst evd;refine zE Tryz.func233 I [(0,.agg ⟨ptC ⟨.slice ah q.hv.length ch,.slice ad q.da.length cd,q⟩⟩)] ?_;refine HR.ctl I (HR.region ?_);refine HL.box I I ?_;intro b1;refine HL.alloc I I ?_;intro b2;refine zh ?_;refine qh J4 I ?_;intro va;refine zh ?_;refine qJ 0 I J4 (qA hh) I I I (jA jBF _) (jR jPC _) (by omega) (by omega) ?_;intro v1;refine HL.shape 0 I fun a1 c1 hv1=>?_
 subst hv1;refine zh ?_;refine qh ZB I ?_;intro vb;refine zh ?_;refine qJ 0 I ZB (qA hd) I I I (jA jCg _) (jR jMD _) (by omega) (by omega) ?_;intro v2;refine HL.shape 0 I fun a2 c2 hv2=>?_
 subst hv2;refine zh ?_;refine HR.ret Tryz.func233 I [_] (fun w hw=>⟨⟨_,rfl,jQ hw 2 I I I I rfl⟩,trivial⟩) ?_;refine fun w' hw=>⟨(.slice a1 (0+q.hv.length) c1,.slice a2 (0+q.da.length) c2),rfl,⟨⟨_,_,_,rfl⟩,⟨_,_,_,rfl⟩⟩,?_⟩
 have w1:=hw.pick [1,0] I I;refine Ent.of_eq ?_ w' w1;show [jM _ 4 1 (0+q.hv.length) ([]++cellsOf bC q.hv),jM _ 9 1 (0+q.da.length) ([]++cellsOf sC q.da)]=[jM _ 4 1 q.hv.length (cellsOf bC q.hv),jM _ 9 1 q.da.length (cellsOf sC q.da)];rw[List.nil_append,List.nil_append]
 congr 2
 ·exact Nat.zero_add _
 ·rw [Nat.zero_add]
theorem jF7 (p:PtV) (w:World) (hh:Sl w p.vh (cellsOf bC p.pt.hv) p.pt.hv.length) (hl:p.pt.hv.length<=1000):
  Calls Tryz.prog 285 #[.agg ⟨ptC p⟩] w fun e w'=>e= .returned (.bool (p.pt.hv.all id))/\Below w.heap.size w w':=by
 obtain ⟨vh,vd,q⟩:=p;have hh:Sl w vh (cellsOf bC q.hv) q.hv.length:=hh;have hl:q.hv.length<=1000:=hl;refine zE Tryz.func285 I [(0,.agg ⟨ptC ⟨vh,vd,q⟩⟩)] ?_
 repeat' (first|refine zh ?_|refine qD (qA hh) I I I ?_|intro (bk:Nat))
 refine HR.loop (ι:=Nat) (fun k=>k<=q.hv.length/\(q.hv.take k).all id=true) (fun k=>[(1,.pointer (some ⟨bk,0,none⟩)),(6,.int .i64 (q.hv.length:Int)),(7,.int .i64 (k:Int))]) (fun _=>[jS bk (ptC ⟨vh,vd,q⟩) 173]) (fun k=>q.hv.length-k) 0 ⟨Nat.zero_le _,by rw[List.take_zero];rfl⟩ ⟨I,I,I,trivial⟩ Ent.refl ?_
 rintro k ⟨hk,hall⟩ ih
 refine zh ?_;refine HR.cond I (fun h6=>?_) (fun h6=>?_)
 ·have hlt:k<q.hv.length:=by have:=of_decide_eq_true h6;omega
  obtain ⟨b6,hb6⟩:=jG hlt;refine zh ?_;refine qE (qA hh) J4 k I I I I hlt ?_;refine qF (qA hh) I I I I (jN hb6) (zh ?_);refine HR.cond I (fun h7=>?_) (fun h7=>?_)
  ·have h7:b6=false:=by have h7:(!b6)=true:=h7;simpa using h7
   have hna:q.hv.all id=false:=by
    rw[<- Bool.not_eq_true];intro hh;have:=List.all_eq_true.1 hh b6 (List.mem_of_getElem? hb6);rw[h7]at this;cases this
   have hna:(PtV.mk vh vd q).pt.hv.all id=false:=hna;rw[hna];refine zh ?_;exact zR Tryz.func285
  ·have h7:b6=true:=by have h7:(!b6)=false:=h7;simpa using h7
   refine zh ?_;refine ih (k+1) _ _ ⟨hlt,?_⟩ (by omega) ⟨I,I,I,trivial⟩ Ent.refl;rw[jE hb6,List.all_append,hall,h7];rfl
 ·have hke:k=q.hv.length:=by have:=of_decide_eq_false h6;omega
  subst hke;rw[List.take_length]at hall;have hall:(PtV.mk vh vd q).pt.hv.all id=true:=hall;rw[hall];refine zh ?_;exact zR Tryz.func285
theorem kV (L:List PtV) (i:Nat) (v:Value) (w:World) (hv:Sl w v (cellsOf ptC L) L.length) (hsh:∀p∈L,kR p) (hi:i<L.length) (hl:L.length<=1000):
  Calls Tryz.prog 284 #[v,.int .i64 (i:Int)] w fun e w'=>∃v',e= .returned v'/\Sat (base w) [jM v' 173 6 (L.eraseIdx i).length (cellsOf ptC (L.eraseIdx i))] w':=by
 have hstep:∀ {k:Nat} {x:PtV},L[k]? =some x->(L.take (k+1)).eraseIdx i=if k=i then (L.take k).eraseIdx i else (L.take k).eraseIdx i++[x]:=by
  intro k x hx;have hkl:=(List.getElem?_eq_some_iff.1 hx).1;have htl:(L.take k).length=k:=by simp;omega
  rw[jE hx]
  split
  ·rename_i h
   subst h;rw[List.eraseIdx_append_of_length_le (by omega),htl,Nat.sub_self,List.eraseIdx_of_length_le (l:=L.take k) (by omega)];simp
  ·rename_i h
   by_cases h3:i<k
   ·rw [List.eraseIdx_append_of_lt_length (by omega)]
   ·rw [List.eraseIdx_append_of_length_le (by omega),htl,List.eraseIdx_of_length_le (l:=[x]) (by simp;omega),List.eraseIdx_of_length_le (l:=L.take k) (by omega)]
 refine zE Tryz.func284 I [(0,v),(1,.int .i64 (i:Int))] (zh ?_);refine qD (qA hv) I I I (zh ?_);refine HR.J6 173 6 (qd (α:=Nat) (β:=Value) (fun k o=>k<=L.length) (fun k o=>[(0,v),(1,.int .i64 (i:Int)),(5,o),(8,.int .i64 (L.length:Int)),(9,.int .i64 (k:Int))]) (fun k o=>[jM o 173 6 ((L.take k).eraseIdx i).length (cellsOf ptC ((L.take k).eraseIdx i))]) (fun k _=>L.length-k) 0 (.slice none 0 0) (Nat.zero_le _) ⟨I,I,I,I,I,trivial⟩ (by rw[List.take_zero,List.eraseIdx_nil];exact Ent.refl) ?_)
 rintro k o hk ih
 have htl:((L.take k).eraseIdx i).length<=k:=Nat.le_trans (List.length_eraseIdx_le _ _) (by simp;omega);refine zh ?_;refine HR.cond I (fun h2=>?_) (fun h2=>?_)
 ·have hlt:k<L.length:=by have:=of_decide_eq_true h2;omega
  obtain ⟨x,hx⟩:=jG hlt;have hst:=hstep hx;have hxs:=(hsh x (List.mem_of_getElem? hx)).one;refine zh ?_;refine HR.cond I (fun h3=>?_) (fun h3=>?_)
  ·have h3:¬k=i:=by have h3:((k:Int) != (i:Int))=true:=h3;simp at h3;omega
   rw[if_neg h3]at hst;refine zh ?_;refine qE (qA hv) jX k I I I I hlt ?_;refine qN (qA hv) I I I I (by simp) I (jD jY hx) ?_;refine qH jX I I I I I (by decide) (by decide) ?_;intro va;refine qJ (news:=ptC x) 1 I jX (Rd.own 0 I) I I I I (jH hxs) (by omega) (by omega) ?_;intro o2;refine zh ?_;refine ih (k+1) o2 _ _ hlt (by omega) ⟨I,I,I,I,I,trivial⟩ (Ent.trans (Ent.pick [1] I I) (qC ?_ ?_))
   ·rw [hst];simp
   ·rw [hst,jL];rfl
  ·have h3:k=i:=by have h3:((k:Int) != (i:Int))=false:=h3;simp at h3;omega
   rw[if_pos h3]at hst;refine zh ?_;exact ih (k+1) o _ _ hlt (by omega) ⟨I,I,I,I,I,trivial⟩ (qC (by rw[hst]) (by rw[hst]))
 ·have hke:k=L.length:=by have:=of_decide_eq_false h2;omega
  subst hke;rw[List.take_length];refine zh ?_;refine HR.ret Tryz.func284 I [_] (fun _ _=>⟨I,trivial⟩) ?_
  exact fun w' hw=>⟨o,rfl,hw⟩
theorem jBn (l:List PtV) (v:Value) (w:World) (hv:RdPts w v l) (hs:∀p∈l,jAS p.pt) (hl:l.length<=1000):
  Calls Tryz.prog 178 #[v] w fun e w'=>∃x:Value×List PtV,e= .returned x.1/\jAT x (Ja (pts l))/\Sat (base w) (jAq x) w':=by
 have hcl:∀T:List PtV,(cellsOf ptC T).length=T.length*6:=jA jY;refine zE Tryz.func178 I [(0,v)] (zh ?_);refine qD (qA hv.s) I I I (zh ?_);refine HR.J6 173 6 (qR (H':=[jM (.slice none 0 0) 173 6 0 [],jC []]) (Ent.trans QJ (Ent.pick [1,0] I I)) ?_);refine Qw (α:=Nat) (β:=Value) (γ:=List PtV) (fun k o L=>k<=l.length/\pts L=((pts l).take k).foldl ZE []/\∀p∈L,kR p) (fun k o L=>[(0,v),(3,o),(6,.int .i64 (l.length:Int)),(7,.int .i64 (k:Int))]) (fun k o L=>jAq (o,L)) (fun k _ _=>l.length-k) 0 (.slice none 0 0) [] ⟨Nat.zero_le _,rfl,fun p hp=>by cases hp⟩ ⟨I,I,I,I,trivial⟩ Ent.refl ?_
 rintro k o L ⟨hk,hL,hsh⟩ ih
 have hLl:L.length<=k:=by have:=jCw (pts l) k;rw[<- hL,jW]at this;exact this
 refine zh ?_;refine HR.cond I (fun h2=>?_) (fun h2=>?_)
 ·have hlt:k<l.length:=by have:=of_decide_eq_true h2;omega
  obtain ⟨x,hx⟩:=jG hlt;have hxm:=List.mem_of_getElem? hx;have hrx:=hv.r x hxm;have hsx:=hs x hxm;have hst:((pts l).take (k+1)).foldl ZE []=ZE (((pts l).take k).foldl ZE []) x.pt:=Kt _ _ (J3 hx);rw[<- hL]at hst;have hn:=jJu (l:=pts L) (s:=x.pt.so) (i:=x.pt.id);refine zh ?_;refine HR.join (ι:=Unit) (fun _=>True) (fun _=>[(0,v),(3,o),(4,.int .i64 (k:Int)),(6,.int .i64 (l.length:Int)),(7,.int .i64 (k:Int)),(29,.bool (JU x.pt&&decide (pfi (pts L) x.pt.so x.pt.id<0)))]) (fun _=>jAq (o,L)) (fun _ _=>?_) (fun hj=>?_)
  ·refine HR.cond I (fun h3=>?_) (fun h3=>?_)
   ·have h3:(JU x.pt&&decide (pfi (pts L) x.pt.so x.pt.id<0))=true:=h3;have hp:ZE (pts L) x.pt=pts L++[x.pt]:=by unfold ZE;rw[hn,if_pos h3]
    rw[hp]at hst;have hpv:JU x.pt=true:=by simp only[Bool.and_eq_true]at h3;exact h3.1
    have H:=zf (Jk hpv);have i1:=H.hv;have i2:=H.da;have i3:=H.ct0;have i4:=H.ct1;refine zh ?_;refine qE (qA hv.s) jX k I I I I hlt ?_;refine qN (qA hv.s) I I I I (by simp) I (jD jY hx) ?_;refine qL (r:=fun y:Value×Value=> .agg ⟨ptC ⟨y.1,y.2,x.pt⟩⟩) (Q:=fun y=>kR ⟨y.1,y.2,x.pt⟩) (G:=fun y=>[ptH ⟨y.1,y.2,x.pt⟩,ptD ⟨y.1,y.2,x.pt⟩]) fn233 I I (fun w1 hw1=>jHp x w1 (hrx.ext hw1.jF) (by omega) (by omega)) ?_
    rintro ⟨y1,y2⟩ hy
    have hy1:=hy.one;obtain ⟨P,hP⟩:∃P:PtV,P=⟨y1,y2,x.pt⟩:=⟨_,rfl⟩;refine qH jX I I I I I (by decide) (by decide) ?_;intro va;refine qJ (news:=ptC ⟨y1,y2,x.pt⟩) 3 I jX (Rd.own 0 I) I I I I (jH hy1) (by show (L.length+1)*80<=_;omega) (by show L.length+1<=_;omega) ?_;intro o3;refine zh ?_;refine ih (k+1) o3 (L++[P]) _ _ ⟨hlt,?_,?_⟩ (by omega) ⟨I,I,I,I,trivial⟩ ?_
    ·rw [jCv,hst,hP];rfl
    ·intro p hp;rcases List.mem_append.1 hp with hp|hp
     ·exact hsh p hp
     ·rw [List.mem_singleton]at hp;rw[hp,hP];exact hy
    ·refine Ent.trans (Ent.pick (H':=[ptH P,ptD P,jC (ptG L),jM o3 173 6 (L++[P]).length (cellsOf ptC (L++[P]))]) [1,2,4,3] ?_ I) (Ent.trans (Ent.group (G:=[ptH P,ptD P])) (Ent.trans QV ?_))
     ·rw [jL,hP];simp;rfl
     ·show Ent _ _ [_,jC (ptG (L++[P]))];rw[Zi,jAc];exact Ent.pick [1,0] I I
   ·have h3:(JU x.pt&&decide (pfi (pts L) x.pt.so x.pt.id<0))=false:=h3;have hp:ZE (pts L) x.pt=pts L:=by unfold ZE;rw[hn,h3];rfl
    rw[hp]at hst;refine zh ?_;exact ih (k+1) o L _ _ ⟨hlt,hst.symm,hsh⟩ (by omega) ⟨I,I,I,I,trivial⟩ (Ent.pick [0,1] I I)
  ·refine qO [(0,true),(1,true),(2,true),(3,true),(4,false),(5,true),(6,true),(7,true),(8,true),(9,true),(10,true),(11,true),(12,true),(13,true),(14,true),(15,true),(16,true),(17,false),(18,true),(19,true)] [0,1] I I j3 (by kernel_rfl) ?_;have hval:=fun (w1:World) (hw1:Sat (base w) (jAq (o,L)) w1)=>jF8 x w1 (hrx.ext hw1.jF) hsx
   cases hpv:JU x.pt with
   |true=>
    rw[hpv]at hval hj
    repeat' (first|refine zd ?_|refine Qb [0,1] I I jSt I I I (fun w1 hw1=>hval w1 hw1) ?_|refine Qb [0,1] I I jSs I I I (fun w1 hw1=>jCp L x.pt.so x.pt.id o w1 ((Rd.own 0 rfl).at hw1) (by omega)) ?_|refine qc (qA hv.s) jX k I I I I I hlt ?_|refine QI (qA hv.s) I I I I I (by simp) I (jD jY hx) ?_|refine QA 0 (qA hv.s) (by rw[hcl];omega) I I I I I I I I ?_|refine QA 1 (qA hv.s) (by rw[hcl];omega) I I I I I I I I ?_|refine QD (qA hv.s) I I I I I (jJ jY hx (i:=0) I) ?_|refine QD (qA hv.s) I I I I I (jJ jY hx (i:=1) I) ?_|fail)
    refine HD.nil ?_;exact hj () _ _ trivial ⟨I,I,I,I,I,I,trivial⟩ Ent.refl
   |false=>
    rw[hpv]at hval hj;refine zd ?_;refine qc (qA hv.s) jX k I I I I I hlt ?_;refine QI (qA hv.s) I I I I I (by simp) I (jD jY hx) ?_;refine Qb [0,1] I I jSt I I I (fun w1 hw1=>hval w1 hw1) (zd ?_);refine HD.nil ?_;exact hj () _ _ trivial ⟨I,I,I,I,I,I,trivial⟩ Ent.refl
 ·have hke:k=l.length:=by have:=of_decide_eq_false h2;omega
  subst hke;have hpo:Ja (pts l)=(pts L).drop (L.length-8):=by
   unfold Ja last;rw[hL,List.take_of_length_le (by rw[jW];exact Nat.le_refl _),<- jW L,hL,List.take_of_length_le (by rw[jW];exact Nat.le_refl _)]
  refine zh ?_;refine qD (Rd.own 0 I) I I I (zh ?_);refine HR.cond I (fun h3=>?_) (fun h3=>?_)
  ·have h3:(L.length:Int)>8:=of_decide_eq_true h3;refine zh ?_;refine qD (Rd.own 0 I) I I I (zh ?_);refine QB 45 (v':= .int .i64 ((L.length-8:Nat):Int)) I (by show Value.int _ ((L.length:Int)-8)=_;congr 1;omega) ?_;refine yF (sz:=6) (L.length-8) L.length 0 I I I I I (.inr ⟨_,_,rfl,rfl⟩) (.inl ⟨rfl,rfl⟩) (Nat.sub_le _ _) (Nat.le_refl _) (zh ?_);refine HR.ret Tryz.func178 I [_] (fun _ _=>⟨I,trivial⟩) ?_;refine fun w' hw=>⟨(_,L.drop (L.length-8)),rfl,⟨?_,fun p hp=>hsh p (List.mem_of_mem_drop hp)⟩,?_⟩
   ·rw [hpo];unfold pts;rw[List.map_drop]
   ·have hw2:=hw.pick [1,0] I I;have hw3:=(QH _ (jMg L (L.length-8))) w' hw2;have hw4:=hw3.pick [1,0] I I;refine qC (by simp) ?_ w' hw4;rw[jo jY,List.take_of_length_le (by rw[jA jY,List.length_drop];exact Nat.le_refl _)]
  ·have h3:¬(L.length:Int)>8:=of_decide_eq_false h3;rw[show L.length-8=0 by omega,List.drop_zero]at hpo;refine zh ?_;refine HR.ret Tryz.func178 I [_] (fun _ _=>⟨I,trivial⟩) ?_
   exact fun w' hw=>⟨(o,L),rfl,⟨hpo.symm,hsh⟩,hw.pick [0,1] I rfl⟩
theorem jKs (l:List PtV) (now life:Int) (v:Value) (w:World) (hv:RdPts w v l) (hs:∀p∈l,jAS p.pt) (hl:l.length<=1000):
  Calls Tryz.prog 98 #[v,.int .i64 now,.int .i64 life] w fun e w'=>∃x:Value×List PtV,e= .returned x.1/\jAT x (jAr (pts l) now life)/\Sat (base w) (jAq x) w':=by
 have t1:=zY now;have t3:=zY life;have hcl:∀T:List PtV,(cellsOf ptC T).length=T.length*6:=jA jY;refine zE Tryz.func98 I [(0,v),(1,.int .i64 now),(2,.int .i64 life)] (zh ?_);refine qL (r:=fun x:Value×List PtV=>x.1) (Q:=fun x=>jAT x (Ja (pts l))) (G:=fun x=>jAq x) jS9 I I (fun w1 hw1=>jBn l v w1 (hv.ext hw1.jF) hs hl) ?_
 rintro ⟨v1,L⟩ ⟨hL,hsh⟩
 have hL:pts L=Ja (pts l):=hL;have hsh:∀p∈L,kR p:=hsh;have hLl:L.length<=8:=by have:=ZT (pts l);rw[<- hL,jW]at this;exact this
 have hpv:∀p∈L,Head p.pt:=fun p hp=>zf (Jk (Jm p.pt (by rw[<- hL];exact List.mem_map_of_mem hp)))
 refine zh ?_;refine qD (Rd.own 0 I) I I I (zh ?_);refine HR.J6 173 6 ?_;obtain ⟨p,hp⟩:∃p:PtV->Bool,p=fun x=>decide (tick now-x.pt.si<=tick life):=⟨_,rfl⟩
 refine qd (α:=Nat) (β:=Value) (fun k o=>k<=L.length) (fun k o=>[(1,.int .i64 now),(2,.int .i64 life),(7,o),(8,v1),(13,.int .i64 (L.length:Int)),(14,.int .i64 (k:Int))]) (fun k o=>[jM o 173 6 ((L.take k).filter p).length (cellsOf ptC ((L.take k).filter p)),jM v1 173 6 L.length (cellsOf ptC L),jC (ptG L)]) (fun k _=>L.length-k) 0 (.slice none 0 0) (Nat.zero_le _) ⟨I,I,I,I,I,I,trivial⟩ (Ent.pick [0,1,2] I I) ?_
 rintro k o hk ih
 have hfl:((L.take k).filter p).length<=8:=Nat.le_trans (List.length_filter_le _ _) (by simp;omega);refine zh ?_;refine HR.cond I (fun h2=>?_) (fun h2=>?_)
 ·have hlt:k<L.length:=by have:=of_decide_eq_true h2;omega
  obtain ⟨x,hx⟩:=jG hlt;have hxm:=List.mem_of_getElem? hx;have hft:=jA7 p hx;have H:=hpv x hxm;have hxs:=(hsh x hxm).one;have s0:=H.si0;have s1:x.pt.si<=1099511627776:=H.si1;refine zh ?_;refine qO [(0,true),(2,true),(3,true),(4,true),(5,true),(6,true),(8,true),(1,false),(7,true),(9,false),(10,true)] [1] I I j3 (by kernel_rfl) ?_
  repeat' (first|refine zd ?_|refine Qb [1] I I jLP I I I (fun w _=>zW _ w) ?_|refine qc (Rd.own 0 I) jX k I I I I I hlt ?_|refine QA 3 (Rd.own 0 I) (by rw[hcl];omega) I I I I I I I I ?_|refine QD (Rd.own 0 I) I I I I I (jJ jY hx (i:=3) I) ?_|fail)
  refine HD.nil (HR.cond I (fun h3=>?_) (fun h3=>?_))
  ·have h3:p x=true:=by rw[hp];exact h3
   rw[if_pos h3]at hft;refine zh ?_;refine qE (Rd.own 1 I) jX k I I I I hlt ?_;refine qN (Rd.own 1 I) I I I I (by simp) I (jD jY hx) ?_;refine qH jX I I I I I (by decide) (by decide) ?_;intro va;refine qJ (news:=ptC x) 1 I jX (Rd.own 0 I) I I I I (jH hxs) (by omega) (by omega) ?_;intro o2;refine zh ?_;refine ih (k+1) o2 _ _ hlt (by omega) ⟨I,I,I,I,I,I,trivial⟩ (Ent.trans (Ent.pick [1,2,3] I I) (qC ?_ ?_))
   ·rw [hft];simp
   ·rw [hft,jL];rfl
  ·have h3:p x=false:=by rw[hp];exact h3
   rw[if_neg (by rw[h3];decide)]at hft;refine zh ?_;refine ih (k+1) o _ _ hlt (by omega) ⟨I,I,I,I,I,I,trivial⟩ (qC ?_ ?_)
   ·rw [hft]
   ·rw [hft]
 ·have hke:k=L.length:=by have:=of_decide_eq_false h2;omega
  subst hke;rw[List.take_length];refine zh ?_;refine HR.ret Tryz.func98 I [_] (fun _ _=>⟨I,trivial⟩) ?_;refine fun w' hw=>⟨(o,L.filter p),rfl,⟨?_,fun y hy=>hsh y (List.mem_filter.1 hy).1⟩,?_⟩
  ·unfold jAr;rw[<- hL,hp];unfold pts;rw[List.filter_map];rfl
  ·have hw2:=hw.pick [2,0] I I;have hw3:=(QH _ (jD9 p L)) w' hw2;exact hw3.pick [1,0] I I
theorem fn243:IsFn Tryz.prog 243:=zF Tryz.func243 I
theorem jKt (l:List PtV) (s now:Int) (x:By) (v:Value) (w:World) (hv:RdPts w v l) (hs:∀p∈l,jAS p.pt) (hl:l.length<=1000) (hx:x.length<=1000):
  Calls Tryz.prog 243 #[v,.int .i64 s,.int .i64 now,str x] w fun e w'=>∃y:Value×List PtV,e= .returned (.tuple ⟨[y.1,str (jDb (pts l) s now x).t,.bool (jDb (pts l) s now x).ok,.int .i64 (jDb (pts l) s now x).e]⟩)/\jAT y (jDb (pts l) s now x).l/\Sat (base w) (jAq y) w':=by
 refine zE Tryz.func243 I [(0,v),(1,.int .i64 s),(2,.int .i64 now),(3,str x)] (zh ?_);refine qB fn283 I I (fun w _=>jF9 x w (by omega)) (zh ?_);refine HR.cond I (fun h=>?_) (fun h=>?_)
 ·have h:jDa x≠0:=by have h:(jDa x != 0)=true:=h;simpa using h
  rw[jJw h];refine zh ?_;refine HR.J6 173 6 (qR (Ent.trans QJ (Ent.pick [1,0] I I)) ?_);refine HR.ret Tryz.func243 I [_,_,_,_] (fun _ _=>⟨I,I,I,I,trivial⟩) ?_
  exact fun w' hw=>⟨(_,[]),rfl,⟨rfl,fun p hp=>by cases hp⟩,hw⟩
 have h:jDa x=0:=by have h:(jDa x != 0)=false:=h;simpa using h
 obtain ⟨c0,c1,c2,c3,c4,c5,c6,c7⟩:=jC0 h;obtain ⟨i0,h0⟩:∃i0:Int,i0=b8 x 0:=⟨_,rfl⟩;obtain ⟨i1,h1⟩:∃i1:Int,i1=b8 x 1:=⟨_,rfl⟩;obtain ⟨i2,h2⟩:∃i2:Int,i2=b8 x 2:=⟨_,rfl⟩;obtain ⟨d,hd⟩:∃d,d=x.drop 3:=⟨_,rfl⟩;rw[jGN h h0 h1 h2 hd];have hdl:(d.length:Int)=(x.length:Int)-3:=by rw[hd,List.length_drop];omega
 have hd64:d.length<=64:=by have:=jJC c5;omega
 have g0:0<=i0/\i0<=255:=by omega
 have g1:0<=i1/\i1<i2:=by omega
 have g2:1<=i2/\i2<=16:=by omega
 clear c1 c2 c3 c4 c5 c6 c7;refine zh ?_;refine qK j3 (by kernel_rfl) ?_;have b0:=(x.getD 0 0).toNat_lt;have b1:=(x.getD 1 0).toNat_lt;have b2:=(x.getD 2 0).toNat_lt;refine zq ?_;refine QC 13 (v':= .int .i64 i0) I (by rw[h0];try rfl) ?_;refine QC 14 (v':= .int .i64 i1) I (by rw[h1];try rfl) ?_;refine QC 15 (v':= .int .i64 i2) I (by rw[h2];try rfl) ?_;refine zh ?_;refine qL (r:=fun x:Value×List PtV=>x.1) (Q:=fun x=>jAT x (Ja (pts l))) (G:=fun x=>jAq x) jS9 I I (fun w1 hw1=>jBn l v w1 (hv.ext hw1.jF) hs hl) ?_
 rintro ⟨v1,L⟩ ⟨hL,hsh⟩
 have hL:pts L=Ja (pts l):=hL;have hsh:∀p∈L,kR p:=hsh;have hLl:L.length<=8:=by have:=ZT (pts l);rw[<- hL,jW]at this;exact this
 have hfr:jCD (pts L):=by rw[hL];exact jBs _
 rw[<- hL];have hcl:∀T:List PtV,(cellsOf ptC T).length=T.length*6:=jA jY;refine zh ?_;refine qB jSs I I (fun w1 hw1=>jCp L s i0 v1 w1 ((Rd.own 0 rfl).at hw1) (by omega)) (zn ?_);refine HR.ctl I (HR.join (ι:=Unit) (fun _=>True) (fun _=>[(1,.int .i64 s),(2,.int .i64 now),(3,str x),(13,.int .i64 i0),(14,.int .i64 i1),(15,.int .i64 i2),(16,v1),(17,.int .i64 (atI (Z0 (pts L) s i0))),(50,.bool (match Z0 (pts L) s i0 with|some a=>(((pts L).getD a pz).ct != i2)|none=>false))]) (fun _=>jAq (v1,L)) (fun _ _=>?_) (fun hj=>?_))
 ·refine HR.join (ι:=Value×List PtV×Option Nat) (fun i=>(pts i.2.1,i.2.2)=JX (pts L) s i0 i2/\∀p∈i.2.1,kR p) (fun i=>[(1,.int .i64 s),(2,.int .i64 now),(3,str x),(13,.int .i64 i0),(14,.int .i64 i1),(15,.int .i64 i2),(16,i.1),(17,.int .i64 (atI i.2.2))]) (fun i=>jAq (i.1,i.2.1)) (fun i=>?_) (fun hj2=>?_)
  ·obtain ⟨v2,M,at2⟩:=i
   rintro ⟨hM,hshM⟩
   have hM:(pts M,at2)=JX (pts L) s i0 i2:=hM;have hshM:∀p∈M,kR p:=hshM;have hMl:M.length<=8:=by have:=Ki (l:=pts L) (by rw[jW];omega) s i0 i2;rw[<- hM,jW]at this;exact this
   refine zh ?_;refine HR.cond I (fun h5=>?_) (fun h5=>?_)
   ·have h5:i2=1:=eq_of_beq h5;rw[if_pos h5];have e:(JX (pts L) s i0 1).1=pts M:=by rw[<- h5,<- hM]
    rw[e];refine zh ?_;refine qK j3 (by kernel_rfl) (zq ?_);refine QC 9 (v':=str d) I (by rw[hd];try rfl) ?_;refine HR.ret Tryz.func243 I [_,_,_,_] (fun _ _=>⟨I,I,I,I,trivial⟩) ?_
    exact fun w' hw=>⟨(v2,M),rfl,⟨rfl,hshM⟩,hw.pick [0,1] I rfl⟩
   have h5:¬i2=1:=by have h5:(i2==1)=false:=h5;simpa using h5
   rw[if_neg h5,<- hM];have hsp:=jGJ (now:=now) (s:=s) hfr (by rw[jW];omega) (id:=i0) (c:=i2) (by omega) (by omega) (by omega) (by omega);rw[<- hM]at hsp;have hi2:i2=((i2.toNat:Nat):Int):=by omega
   have smM:∀p∈pts M,∀s∈p.da,s.length<=64:=by
    have:=jJv (l:=pts L) (s:=s) (id:=i0) (c:=i2) (by rw[hL];exact fun p hp=>jCt (Jm p hp));rw[<- hM]at this;exact this
   refine zh ?_;refine HR.join (ι:=Value×List PtV×Nat) (fun i=>(pts i.2.1,i.2.2)=jED (pts M,at2) s i0 i2 now/\∀p∈i.2.1,kR p) (fun i=>[(3,str x),(14,.int .i64 i1),(16,i.1),(17,.int .i64 (i.2.2:Int))]) (fun i=>jAq (i.1,i.2.1)) (fun i=>?_) (fun hj3=>?_)
   ·obtain ⟨v3,L3,a⟩:=i
    rintro ⟨hP,hsh3⟩
    have hP:(pts L3,a)=jED (pts M,at2) s i0 i2 now:=hP;have hsh3:∀p∈L3,kR p:=hsh3;rw[<- hP]at hsp ⊢;obtain ⟨f3,l3,a3,ct3⟩:=hsp;have sm3:∀p∈pts L3,∀s∈p.da,s.length<=64:=by
     have:=jMn (o:=(pts M,at2)) (s:=s) (id:=i0) (c:=i2) (now:=now) (fun p hp=>smM p hp);rw[<- hP]at this;exact this
    have l3:L3.length<=8:=by have l3:(pts L3).length<=8:=l3;rw[jW]at l3;exact l3
    have a3:a<L3.length:=by have a3:a<(pts L3).length:=a3;rw[jW]at a3;exact a3
    obtain ⟨p,hp⟩:=jG a3;have hpm:=List.mem_of_getElem? hp;have hgd:(pts L3).getD a pz=p.pt:=by rw[List.getD_eq_getElem?_getD,J3 hp];rfl
    have ct3:((pts L3).getD a pz).ct=i2:=ct3;rw[hgd]at ct3;have f3:jCD (pts L3):=f3;obtain ⟨H,hal⟩:=f3 p.pt (List.mem_map_of_mem hpm);have h1:=H.hv;have h2:=H.da;obtain ⟨sa,sn,sc,ta,tn,tc,ep⟩:=(hsh3 p hpm).lit;obtain ⟨q,hq⟩:∃q,q=p.pt:=⟨_,rfl⟩;rw[<- hq]at ct3 hal h1 h2 ep hgd;have hq':q=p.pt:=hq;have hpx:p=⟨p.vh,p.vd,q⟩:=by rw[hq]
    obtain ⟨vh,hvh⟩:∃vh,vh=p.vh:=⟨_,rfl⟩;obtain ⟨vd,hvd⟩:∃vd,vd=p.vd:=⟨_,rfl⟩;rw[<- hvh,<- hvd]at hpx;have shp:=hsh3 p hpm;clear ep;subst hpx;obtain ⟨j,hj⟩:∃j,j=i1.toNat:=⟨_,rfl⟩;have hij:i1=((j:Nat):Int):=by omega
    rw[<- hj];have hjl:j<q.hv.length:=by omega
    have hjd:j<q.da.length:=by omega
    obtain ⟨b,hb⟩:=jG hjl;have hbd:q.hv.getD j false=b:=by rw[List.getD_eq_getElem?_getD,hb];rfl
    obtain ⟨R,hR⟩:∃R,R=ptG (L3.eraseIdx a):=⟨_,rfl⟩;refine qR (H':=[jM v3 173 6 L3.length (cellsOf ptC L3),ptH ⟨vh,vd,q⟩,ptD ⟨vh,vd,q⟩,jC R]) ?_ ?_
    ·refine Ent.trans (Ent.pick [1,0] I I) (Ent.trans (QH (G':=[ptH ⟨vh,vd,q⟩,ptD ⟨vh,vd,q⟩]++R) [] ?_) ?_)
     ·rw [List.append_nil,hR];exact (zJ hp).trans List.perm_append_comm
     ·refine Ent.trans (Qn (A:=[]) (c:=ptH ⟨vh,vd,q⟩) (C:=ptD ⟨vh,vd,q⟩::R)) (Ent.trans (Ent.pick [1,0,2] I I) (Ent.trans (Qn (A:=[]) (c:=ptD ⟨vh,vd,q⟩) (C:=R)) (Ent.pick [3,2,0,1] I I)))
    have hH:∀(Q:Pt) (i:Nat) (H:List Chunk),J5 H i=some (ptH ⟨vh,vd,Q⟩)->Rd (base w) H vh (cellsOf bC Q.hv) Q.hv.length:=fun Q i H hi=>Rd.own i hi
    have hD:∀(Q:Pt) (i:Nat) (H:List Chunk),J5 H i=some (ptD ⟨vh,vd,Q⟩)->Rd (base w) H vd (cellsOf sC Q.da) Q.da.length:=fun Q i H hi=>Rd.own i hi
    refine zh ?_;refine qE (Rd.own 0 I) jX a I I I I a3 ?_;refine qP 4 (Rd.own 0 I) (by rw[hcl];omega) I I I I I I I ?_;refine qF (Rd.own 0 I) I I I I (jJ jY hp (i:=4) I) (zh ?_);refine qE (hH q 1 _ I) J4 j I I I hij hjl ?_;refine qF (hH q 1 _ I) I I I I (jN hb) (zh ?_);refine HR.cond I (fun h6=>?_) (fun h6=>?_)
    ·have h6:b=true:=h6;rw[jMj (i:=j) (d:=d) (J3 hp) (by show q.hv.getD j false=true;rw[hbd,h6]) hal];refine zh ?_;refine HR.ret Tryz.func243 I [_,_,_,_] (fun _ _=>⟨I,I,I,I,trivial⟩) ?_;refine fun w' hw=>⟨(v3,L3),rfl,⟨rfl,hsh3⟩,?_⟩
     have w1:=hw.pick [1,2,3,0] I I;have w2:=(Ent.group (G:=[ptH ⟨vh,vd,q⟩,ptD ⟨vh,vd,q⟩])) w' w1;have w3:=QV w' w2;have hpm2:(R++[ptH ⟨vh,vd,q⟩,ptD ⟨vh,vd,q⟩]).Perm (ptG L3++[]):=by
      rw[List.append_nil,hR];exact (zJ hp).symm
     have w4:=(QH [] hpm2) w' w3;exact w4.pick [1,0] I I
    have h6:b=false:=h6;have hpe:jPh (pts L3,a) j d=if (kZ q j d).hv.all id then ⟨(pts L3).eraseIdx a,(kZ q j d).da.flatten,true,0⟩else ⟨(pts L3).set a (kZ q j d),[],false,0⟩:=by
     unfold jPh;simp only;rw[hgd]
    rw[hpe];obtain ⟨Q,hQ⟩:∃Q,Q=kZ q j d:=⟨_,rfl⟩;have hQe:Q=⟨q.so,q.id,q.ct,q.si,q.hv.set j true,q.da.set j d⟩:=by rw[hQ];unfold kZ;rw[hbd,h6,if_neg (by decide)]
    have hQs:Q.so=q.so/\Q.id=q.id/\Q.ct=q.ct/\Q.si=q.si/\Q.hv.length=q.hv.length/\Q.da.length=q.da.length:=by
     rw[hQe];exact ⟨rfl,rfl,rfl,rfl,List.length_set,List.length_set⟩
    obtain ⟨q1,q2,q3,q4,q5,q6⟩:=hQs;have hQd:∀s∈Q.da,s.length<=64:=by
     rw[hQe];intro s hs;rcases List.mem_or_eq_of_mem_set hs with hs|rfl
     ·exact sm3 q (by rw[hq'];exact List.mem_map_of_mem hpm) s hs
     ·exact hd64
    rw[<- hQ];have ePQ:ptC ⟨vh,vd,Q⟩=ptC ⟨vh,vd,q⟩:=by
     show [Value.int .i64 Q.so,.int .i64 Q.id,.int .i64 Q.ct,.int .i64 Q.si,vh,vd]=[.int .i64 q.so,.int .i64 q.id,.int .i64 q.ct,.int .i64 q.si,vh,vd];rw[q1,q2,q3,q4]
    refine zh ?_
    first|refine HR.ctl I ?_|skip
    first|refine HR.region ?_|skip
    refine qE (Rd.own 0 I) jX a I I I I a3 ?_;refine qP 4 (Rd.own 0 I) (by rw[hcl];omega) I I I I I I I ?_;refine qF (Rd.own 0 I) I I I I (jJ jY hp (i:=4) I) (zn ?_);refine qE (hH q 1 _ I) J4 j I I I hij hjl ?_;refine qw (v:=vh) (e:=4) (sz:=1) (n:=q.hv.length) (xs:=cellsOf bC q.hv) 1 I I I I I I I (by rw[zH jBF];omega) ?_;refine zn ?_
    first|refine HR.ctl I ?_|skip
    refine yL [(0,true),(1,true),(2,true),(3,true),(4,true),(5,true),(6,true),(7,true),(8,true)] 9 [0,1,2,3] I I j3 (by kernel_rfl) ?_;have hDd:∀(H:List Chunk),J5 H 2=some (ptD ⟨vh,vd,q⟩)->Rd (base w) H vd (cellsOf sC q.da) q.da.length:=fun H hi=>Rd.own 2 hi
    refine zd ?_;refine qc (Rd.own 0 I) jX a I I I I I a3 ?_;refine QA 5 (Rd.own 0 I) (by rw[hcl];omega) I I I I I I I I ?_;refine QD (Rd.own 0 I) I I I I I (jJ jY hp (i:=5) I) (zd ?_);refine qc (hDd _ I) ZB j I I I I hij hjd ?_;refine yI 104 (v':=str d) I (by rw[hd];try rfl) ?_;refine qo I (qw (v:=vd) (e:=9) (sz:=1) (n:=q.da.length) (xs:=cellsOf sC q.da) 2 I I I I I I I (by rw[zH jCg];omega) ?_);refine HL.nil (qR (H':=[jM v3 173 6 L3.length (cellsOf ptC L3),ptH ⟨vh,vd,Q⟩,ptD ⟨vh,vd,Q⟩,jC R]) (Ent.of_eq ?_) ?_)
    ·have e1:=ZW (f:=fun b:Bool=>Value.bool b) q.hv j true;have e2:=ZW (f:=fun s:By=>str s) q.da j d;show [jM v3 _ 6 L3.length (cellsOf ptC L3),jM vh 4 1 q.hv.length ((cellsOf bC q.hv).set (j*1) (.bool true)),jM vd 9 1 q.da.length ((cellsOf sC q.da).set (j*1) (str d)),jC R]=[_,jM vh 4 1 Q.hv.length (cellsOf bC Q.hv),jM vd 9 1 Q.da.length (cellsOf sC Q.da),_];rw[e1,e2,q5,q6,hQe]
    refine zh ?_;refine qE (Rd.own 0 I) jX a I I I I a3 ?_;refine qN (Rd.own 0 I) I I I I (by simp) I (jD jY hp) ?_;refine QB 109 (v':= .agg ⟨ptC ⟨vh,vd,Q⟩⟩) I (by rw[ePQ]) (qB fn285 I I (fun w1 hw1=>jF7 ⟨vh,vd,Q⟩ w1 ((hH Q 1 _ rfl).at hw1) (show Q.hv.length<=1000 by omega)) (zh ?_));refine HR.cond I (fun h7=>?_) (fun h7=>?_)
    ·have hna:¬Q.hv.all id=true:=by have h7:(!Q.hv.all id)=true:=h7;simpa using h7
     rw[if_neg hna];refine zh ?_;refine HR.ret Tryz.func243 I [_,_,_,_] (fun _ _=>⟨I,I,I,I,trivial⟩) ?_;refine fun w' hw=>⟨(v3,L3.set a ⟨vh,vd,Q⟩),rfl,⟨by unfold pts;rw[List.map_set],fun y hy=>?_⟩,?_⟩
     ·rcases List.mem_or_eq_of_mem_set hy with hy|rfl
      ·exact hsh3 y hy
      ·exact shp
     ·have hcs:cellsOf ptC (L3.set a ⟨vh,vd,Q⟩)=cellsOf ptC L3:=by
       unfold cellsOf;rw[List.map_set,ePQ]
       congr 1
       refine List.ext_getElem? fun m=>?_
       rw[List.getElem?_set]
       split
       ·rename_i e2
        subst e2;rw[if_pos (by rw[List.length_map];exact a3),List.getElem?_map,hp];rfl
       ·rfl
      have w1:=hw.pick [1,2,3,0] I I;have w2:=(Ent.group (G:=[ptH ⟨vh,vd,Q⟩,ptD ⟨vh,vd,Q⟩])) w' w1;have w3:=QV w' w2;have hset:(L3.set a ⟨vh,vd,Q⟩)[a]? =some ⟨vh,vd,Q⟩:=List.getElem?_set_self a3;have hpm2:(R++[ptH ⟨vh,vd,Q⟩,ptD ⟨vh,vd,Q⟩]).Perm (ptG (L3.set a ⟨vh,vd,Q⟩)++[]):=by
       rw[List.append_nil];have:=zJ hset;rw[List.eraseIdx_set_eq,<- hR]at this;exact this.symm
      have w4:=(QH [] hpm2) w' w3;have w5:=w4.pick [1,0] I I;exact qC (by rw[List.length_set]) hcs.symm w' w5
    ·have hall:Q.hv.all id=true:=by have h7:(!Q.hv.all id)=false:=h7;simpa using h7
     rw[if_pos hall];refine zh ?_;refine qE (Rd.own 0 I) jX a I I I I a3 ?_;refine qP 5 (Rd.own 0 I) (by rw[hcl];omega) I I I I I I I ?_;refine qF (Rd.own 0 I) I I I I (jJ jY hp (i:=5) I) ?_;refine qD (hD Q 2 _ I) I I I (zh ?_);refine HR.loop (ι:=Nat) (fun k=>k<=Q.da.length) (fun k=>[(16,v3),(17,.int .i64 (a:Int)),(18,str (Q.da.take k).flatten),(118,.int .i64 (Q.da.length:Int)),(119,.int .i64 (k:Int))]) (fun _=>[jM v3 173 6 L3.length (cellsOf ptC L3),ptH ⟨vh,vd,Q⟩,ptD ⟨vh,vd,Q⟩,jC R]) (fun k=>Q.da.length-k) 0 (Nat.zero_le _) ⟨rfl,rfl,by rw[List.take_zero];rfl,rfl,rfl,trivial⟩ Ent.refl ?_;intro k hk ih;refine zh ?_;refine HR.cond I (fun h8=>?_) (fun h8=>?_)
     ·have hlt:k<Q.da.length:=by have:=of_decide_eq_true h8;omega
      obtain ⟨d8,hd8⟩:=jG hlt;have hb1:=jBf (l:=Q.da.take k) (fun s hs=>hQd s (List.mem_of_mem_take hs));have hb2:=hQd d8 (List.mem_of_getElem? hd8);have hb3:(Q.da.take k).length<=k:=by simp;omega
      have hst:(Q.da.take (k+1)).flatten=(Q.da.take k).flatten++d8:=by rw[jE hd8];simp
      obtain ⟨W,hW⟩:∃W,W=(Q.da.take k).flatten:=⟨_,rfl⟩;rw[<- hW]at hb1 hst ⊢;refine zh ?_;refine qE (Rd.own 0 I) jX a I I I I a3 ?_;refine qP 5 (Rd.own 0 I) (by rw[hcl];omega) I I I I I I I ?_;refine qF (Rd.own 0 I) I I I I (jJ jY hp (i:=5) I) (zh ?_);refine qE (hD Q 2 _ I) ZB k I I I I hlt ?_;refine qF (hD Q 2 _ I) I I I I (jN hd8) (zh ?_);exact ih (k+1) _ _ hlt (by omega) ⟨rfl,rfl,by rw[hst];rfl,rfl,rfl,trivial⟩ Ent.refl
     ·have hke:k=Q.da.length:=by have:=of_decide_eq_false h8;omega
      subst hke;rw[List.take_length];refine zh ?_;refine qI jRa I I (fun w1 hw1=>kV L3 a v3 w1 ((Rd.own 0 rfl).at hw1) hsh3 a3 (by omega)) ?_;intro r;refine zh ?_;refine HR.ret Tryz.func243 I [_,_,_,_] (fun _ _=>⟨I,I,I,I,trivial⟩) ?_;refine fun w' hw=>⟨(r,L3.eraseIdx a),rfl,⟨KD _ _ _,fun y hy=>hsh3 y (List.mem_of_mem_eraseIdx hy)⟩,?_⟩
      have w1:=hw.pick [0,4] I I;rw[hR]at w1;exact w1
   ·cases at2 with
    |some a=>
     refine QY I (HR.skip ?_);exact hj3 (v2,M,a) _ _ ⟨rfl,hshM⟩ ⟨I,I,I,I,trivial⟩ (Ent.pick [0,1] I I)
    |none=>
     refine Qj I (zh ?_);refine qD (Rd.own 0 I) I I I (zh ?_);refine HR.join (ι:=Value×List PtV) (fun i=>pts i.2=Zj (pts M)/\∀p∈i.2,kR p) (fun i=>[(1,.int .i64 s),(2,.int .i64 now),(3,str x),(13,.int .i64 i0),(14,.int .i64 i1),(15,.int .i64 i2),(16,i.1)]) (fun i=>jAq i) (fun i=>?_) (fun hj6=>?_)
     ·obtain ⟨v4,N⟩:=i
      rintro ⟨hN,hshN⟩
      have hN:pts N=Zj (pts M):=hN;have hshN:∀p∈N,kR p:=hshN;have hNl:N.length<=7:=by have:=jA2 (l:=pts M) (by rw[jW];omega);rw[<- hN,jW]at this;exact this
      obtain ⟨pb,hpb⟩:∃pb,pb=jq s i0 i2 now:=⟨_,rfl⟩;have hbl:i2.toNat=pb.hv.length:=by rw[hpb];simp[jq]
      have hsl:i2.toNat=pb.da.length:=by rw[hpb];simp[jq]
      have hbl0:0<pb.hv.length:=by rw[<- hbl];omega
      have hsl0:0<pb.da.length:=by rw[<- hsl];omega
      have hbc:((List.replicate i2.toNat (ji (.bool false))).flatten)=cellsOf bC pb.hv:=by rw[hpb];unfold cellsOf jq;simp only;rw[List.map_replicate];rfl
      have hsc:((List.replicate i2.toNat (ji (str []))).flatten)=cellsOf sC pb.da:=by rw[hpb];unfold cellsOf jq;simp only;rw[List.map_replicate];rfl
      refine zh ?_;refine qD (Rd.own 0 I) I I I (zh ?_);refine HR.join (ι:=Value×PtV) (fun i=>i.2.pt=pb/\kR i.2) (fun i=>[(3,str x),(14,.int .i64 i1),(16,i.1),(17,.int .i64 (N.length:Int))]) (fun i=>[ptH i.2,ptD i.2,jC (ptG N),jM i.1 173 6 (N.length+1) (cellsOf ptC N++ptC i.2)]) (fun i=>?_) (fun hj4=>?_)
      ·obtain ⟨o3,P⟩:=i
       rintro ⟨hP,hshP⟩
       have hP:P.pt=pb:=hP;refine qR (H':=jAq (o3,N++[P])) ?_ ?_
       ·refine Ent.trans (Ent.group (G:=[ptH P,ptD P])) (Ent.trans QV ?_);have e:ptG N++[ptH P,ptD P]=ptG (N++[P]):=by rw[Zi,jAc]
        rw[e];refine Ent.trans (Ent.pick [1,0] I I) (qC (by simp) ?_);rw[jL,JN]
       refine hj3 (o3,N++[P],N.length) _ _ ⟨?_,fun p hp=>?_⟩ ⟨I,I,I,I,trivial⟩ Ent.refl
       ·show (pts (N++[P]),N.length)=(Zj (pts M)++[jq s i0 i2 now],(Zj (pts M)).length);rw[<- hN,<- hpb,<- hP,jCv,jW];rfl
       ·rcases List.mem_append.1 hp with hp|hp
        ·exact hshN p hp
        ·rw [List.mem_singleton]at hp;subst hp;exact hshP
      ·refine QO [] I I j3 ?_;refine za 0 ?_;refine za 1 ?_;refine za 2 ?_;refine za 3 ?_;refine za 4 ?_;refine za 6 ?_;refine za 8 ?_;refine YH 5 7 9 (by kernel_rfl) I I I ?_ ?_ ?_
       ·refine qB jLP I I (fun w _=>zW now w) (qG [] I I ?_);refine HA.two 7 9 (by kernel_rfl) I I ?_ ?_
        ·refine qg i2.toNat i2.toNat J4 I I I I hi2 hi2 (Nat.le_refl _) (show 1*i2.toNat<=_ by omega) (by omega) ?_;intro vb;refine qM (qC hbl hbc) (qG [] I I ?_);refine HA.one 9 (by kernel_rfl) I (qg i2.toNat i2.toNat ZB I I I I hi2 hi2 (Nat.le_refl _) (show 16*i2.toNat<=_ by omega) (by omega) ?_);intro vs;refine qM (qC hsl hsc) (qG [] I I ?_);refine QG 1 I (v:=vb) (e:=4) (sz:=1) (m:=pb.hv.length) (xs:=cellsOf bC pb.hv) hbl0 fun g1 o1 e1 hvb=>?_
         subst hvb;refine QG 0 I (v:=vs) (e:=9) (sz:=1) (m:=pb.da.length) (xs:=cellsOf sC pb.da) hsl0 fun g2 o2 e2 hvs=>?_
         subst hvs;refine za 10 ?_;refine HA.one 11 (by kernel_rfl) I (qH jX I I I I I (by decide) (by decide) ?_);intro va;refine qG [] I I (HA.one 12 (by kernel_rfl) I ?_);refine qJ 3 I jX (Rd.own 0 I) I I I I (jH I) (by show (N.length+1)*80<=_;omega) (by show N.length+1<=_;omega) ?_;intro o3;refine qG [] I I ?_;refine za 13 ?_;refine HA.done (by kernel_rfl) ?_;subst hpb;exact hj4 (o3,⟨.slice (some ⟨g1,o1,none⟩) (jq s i0 i2 now).hv.length e1,.slice (some ⟨g2,o2,none⟩) (jq s i0 i2 now).da.length e2,jq s i0 i2 now⟩) _ _ ⟨rfl,⟨_,_,_,rfl⟩,⟨_,_,_,rfl⟩⟩ ⟨I,I,I,I,trivial⟩ (Ent.pick [2,1,4,3] I I)
        ·refine qg i2.toNat i2.toNat ZB I I I I hi2 hi2 (Nat.le_refl _) (show 16*i2.toNat<=_ by omega) (by omega) ?_;intro vs;refine qM (qC hsl hsc) (qG [] I I ?_);refine HA.one 7 (by kernel_rfl) I (qg i2.toNat i2.toNat J4 I I I I hi2 hi2 (Nat.le_refl _) (show 1*i2.toNat<=_ by omega) (by omega) ?_);intro vb;refine qM (qC hbl hbc) (qG [] I I ?_);refine QG 0 I (v:=vb) (e:=4) (sz:=1) (m:=pb.hv.length) (xs:=cellsOf bC pb.hv) hbl0 fun g1 o1 e1 hvb=>?_
         subst hvb;refine QG 1 I (v:=vs) (e:=9) (sz:=1) (m:=pb.da.length) (xs:=cellsOf sC pb.da) hsl0 fun g2 o2 e2 hvs=>?_
         subst hvs;refine za 10 ?_;refine HA.one 11 (by kernel_rfl) I (qH jX I I I I I (by decide) (by decide) ?_);intro va;refine qG [] I I (HA.one 12 (by kernel_rfl) I ?_);refine qJ 3 I jX (Rd.own 0 I) I I I I (jH I) (by show (N.length+1)*80<=_;omega) (by show N.length+1<=_;omega) ?_;intro o3;refine qG [] I I ?_;refine za 13 ?_;refine HA.done (by kernel_rfl) ?_;subst hpb;exact hj4 (o3,⟨.slice (some ⟨g1,o1,none⟩) (jq s i0 i2 now).hv.length e1,.slice (some ⟨g2,o2,none⟩) (jq s i0 i2 now).da.length e2,jq s i0 i2 now⟩) _ _ ⟨rfl,⟨_,_,_,rfl⟩,⟨_,_,_,rfl⟩⟩ ⟨I,I,I,I,trivial⟩ (Ent.pick [1,2,4,3] I I)
       ·refine qg i2.toNat i2.toNat J4 I I I I hi2 hi2 (Nat.le_refl _) (show 1*i2.toNat<=_ by omega) (by omega) ?_;intro vb;refine qM (qC hbl hbc) (qG [] I I ?_);refine HA.two 5 9 (by kernel_rfl) I I ?_ ?_
        ·refine qB jLP I I (fun w _=>zW now w) (qG [] I I ?_);refine HA.one 9 (by kernel_rfl) I (qg i2.toNat i2.toNat ZB I I I I hi2 hi2 (Nat.le_refl _) (show 16*i2.toNat<=_ by omega) (by omega) ?_);intro vs;refine qM (qC hsl hsc) (qG [] I I ?_);refine QG 1 I (v:=vb) (e:=4) (sz:=1) (m:=pb.hv.length) (xs:=cellsOf bC pb.hv) hbl0 fun g1 o1 e1 hvb=>?_
         subst hvb;refine QG 0 I (v:=vs) (e:=9) (sz:=1) (m:=pb.da.length) (xs:=cellsOf sC pb.da) hsl0 fun g2 o2 e2 hvs=>?_
         subst hvs;refine za 10 ?_;refine HA.one 11 (by kernel_rfl) I (qH jX I I I I I (by decide) (by decide) ?_);intro va;refine qG [] I I (HA.one 12 (by kernel_rfl) I ?_);refine qJ 3 I jX (Rd.own 0 I) I I I I (jH I) (by show (N.length+1)*80<=_;omega) (by show N.length+1<=_;omega) ?_;intro o3;refine qG [] I I ?_;refine za 13 ?_;refine HA.done (by kernel_rfl) ?_;subst hpb;exact hj4 (o3,⟨.slice (some ⟨g1,o1,none⟩) (jq s i0 i2 now).hv.length e1,.slice (some ⟨g2,o2,none⟩) (jq s i0 i2 now).da.length e2,jq s i0 i2 now⟩) _ _ ⟨rfl,⟨_,_,_,rfl⟩,⟨_,_,_,rfl⟩⟩ ⟨I,I,I,I,trivial⟩ (Ent.pick [2,1,4,3] I I)
        ·refine qg i2.toNat i2.toNat ZB I I I I hi2 hi2 (Nat.le_refl _) (show 16*i2.toNat<=_ by omega) (by omega) ?_;intro vs;refine qM (qC hsl hsc) (qG [] I I ?_);refine HA.one 5 (by kernel_rfl) I (qB jLP I I (fun w _=>zW now w) ?_);refine qG [] I I ?_;refine QG 1 I (v:=vb) (e:=4) (sz:=1) (m:=pb.hv.length) (xs:=cellsOf bC pb.hv) hbl0 fun g1 o1 e1 hvb=>?_
         subst hvb;refine QG 0 I (v:=vs) (e:=9) (sz:=1) (m:=pb.da.length) (xs:=cellsOf sC pb.da) hsl0 fun g2 o2 e2 hvs=>?_
         subst hvs;refine za 10 ?_;refine HA.one 11 (by kernel_rfl) I (qH jX I I I I I (by decide) (by decide) ?_);intro va;refine qG [] I I (HA.one 12 (by kernel_rfl) I ?_);refine qJ 3 I jX (Rd.own 0 I) I I I I (jH I) (by show (N.length+1)*80<=_;omega) (by show N.length+1<=_;omega) ?_;intro o3;refine qG [] I I ?_;refine za 13 ?_;refine HA.done (by kernel_rfl) ?_;subst hpb;exact hj4 (o3,⟨.slice (some ⟨g1,o1,none⟩) (jq s i0 i2 now).hv.length e1,.slice (some ⟨g2,o2,none⟩) (jq s i0 i2 now).da.length e2,jq s i0 i2 now⟩) _ _ ⟨rfl,⟨_,_,_,rfl⟩,⟨_,_,_,rfl⟩⟩ ⟨I,I,I,I,trivial⟩ (Ent.pick [2,1,4,3] I I)
       ·refine qg i2.toNat i2.toNat ZB I I I I hi2 hi2 (Nat.le_refl _) (show 16*i2.toNat<=_ by omega) (by omega) ?_;intro vs;refine qM (qC hsl hsc) (qG [] I I ?_);refine HA.two 5 7 (by kernel_rfl) I I ?_ ?_
        ·refine qB jLP I I (fun w _=>zW now w) (qG [] I I ?_);refine HA.one 7 (by kernel_rfl) I (qg i2.toNat i2.toNat J4 I I I I hi2 hi2 (Nat.le_refl _) (show 1*i2.toNat<=_ by omega) (by omega) ?_);intro vb;refine qM (qC hbl hbc) (qG [] I I ?_);refine QG 0 I (v:=vb) (e:=4) (sz:=1) (m:=pb.hv.length) (xs:=cellsOf bC pb.hv) hbl0 fun g1 o1 e1 hvb=>?_
         subst hvb;refine QG 1 I (v:=vs) (e:=9) (sz:=1) (m:=pb.da.length) (xs:=cellsOf sC pb.da) hsl0 fun g2 o2 e2 hvs=>?_
         subst hvs;refine za 10 ?_;refine HA.one 11 (by kernel_rfl) I (qH jX I I I I I (by decide) (by decide) ?_);intro va;refine qG [] I I (HA.one 12 (by kernel_rfl) I ?_);refine qJ 3 I jX (Rd.own 0 I) I I I I (jH I) (by show (N.length+1)*80<=_;omega) (by show N.length+1<=_;omega) ?_;intro o3;refine qG [] I I ?_;refine za 13 ?_;refine HA.done (by kernel_rfl) ?_;subst hpb;exact hj4 (o3,⟨.slice (some ⟨g1,o1,none⟩) (jq s i0 i2 now).hv.length e1,.slice (some ⟨g2,o2,none⟩) (jq s i0 i2 now).da.length e2,jq s i0 i2 now⟩) _ _ ⟨rfl,⟨_,_,_,rfl⟩,⟨_,_,_,rfl⟩⟩ ⟨I,I,I,I,trivial⟩ (Ent.pick [1,2,4,3] I I)
        ·refine qg i2.toNat i2.toNat J4 I I I I hi2 hi2 (Nat.le_refl _) (show 1*i2.toNat<=_ by omega) (by omega) ?_;intro vb;refine qM (qC hbl hbc) (qG [] I I ?_);refine HA.one 5 (by kernel_rfl) I (qB jLP I I (fun w _=>zW now w) ?_);refine qG [] I I ?_;refine QG 0 I (v:=vb) (e:=4) (sz:=1) (m:=pb.hv.length) (xs:=cellsOf bC pb.hv) hbl0 fun g1 o1 e1 hvb=>?_
         subst hvb;refine QG 1 I (v:=vs) (e:=9) (sz:=1) (m:=pb.da.length) (xs:=cellsOf sC pb.da) hsl0 fun g2 o2 e2 hvs=>?_
         subst hvs;refine za 10 ?_;refine HA.one 11 (by kernel_rfl) I (qH jX I I I I I (by decide) (by decide) ?_);intro va;refine qG [] I I (HA.one 12 (by kernel_rfl) I ?_);refine qJ 3 I jX (Rd.own 0 I) I I I I (jH I) (by show (N.length+1)*80<=_;omega) (by show N.length+1<=_;omega) ?_;intro o3;refine qG [] I I ?_;refine za 13 ?_;refine HA.done (by kernel_rfl) ?_;subst hpb;exact hj4 (o3,⟨.slice (some ⟨g1,o1,none⟩) (jq s i0 i2 now).hv.length e1,.slice (some ⟨g2,o2,none⟩) (jq s i0 i2 now).da.length e2,jq s i0 i2 now⟩) _ _ ⟨rfl,⟨_,_,_,rfl⟩,⟨_,_,_,rfl⟩⟩ ⟨I,I,I,I,trivial⟩ (Ent.pick [1,2,4,3] I I)
     ·refine HR.cond I (fun h6=>?_) (fun h6=>?_)
      ·have h6:M.length=8:=by have h6:((M.length:Int)==8)=true:=h6;simp at h6;omega
       obtain ⟨m0,hm0⟩:=jG (show 0<M.length by omega);refine HR.region (zn ?_);refine qI jRa I I (fun w1 hw1=>kV M 0 v2 w1 ((Rd.own 0 rfl).at hw1) hshM (by omega) (by omega)) ?_;intro r;refine zn ?_;refine hj6 (r,M.eraseIdx 0) _ _ ⟨?_,fun y hy=>hshM y (List.mem_of_mem_eraseIdx hy)⟩ ⟨I,I,I,I,I,I,I,trivial⟩ (Ent.trans (Ent.pick [2,0] I I) (Ent.trans (QH _ (zJ hm0)) (Ent.pick [1,0] I I)));show pts (M.eraseIdx 0)=Zj (pts M);unfold Zj;rw[if_pos (by rw[jW];exact h6)];exact KD _ _ _
      ·have h6:¬M.length=8:=by intro e;have h6:((M.length:Int)==8)=false:=h6;rw[e]at h6;cases h6
       refine HR.skip (hj6 (v2,M) _ _ ⟨?_,hshM⟩ ⟨I,I,I,I,I,I,I,trivial⟩ (Ent.pick [0,1] I I));show pts M=Zj (pts M);unfold Zj;rw[if_neg (by rw[jW];exact h6)]
  ·rcases JF (pis s i0) (pts L)with ⟨_,e2,_⟩|⟨a,q,_,e2,hq,_,_⟩
   ·have e2:Z0 (pts L) s i0=none:=e2;rw[e2];refine QY I (HR.skip ?_);exact hj2 (v1,L,none) _ _ ⟨by unfold JX;rw[e2],hsh⟩ ⟨I,I,I,I,I,I,I,I,trivial⟩ Ent.refl
   ·have e2:Z0 (pts L) s i0=some a:=e2;have hal:a<L.length:=by have:=(List.getElem?_eq_some_iff.1 hq).1;rw[jW]at this;exact this
    have hgq:(pts L).getD a pz=q:=by rw[List.getD_eq_getElem?_getD,hq];rfl
    rw[e2];obtain ⟨m0,hm0⟩:=jG hal;refine HR.cond I (fun h6=>?_) (fun h6=>?_)
    ·have h6:¬((pts L).getD a pz).ct=i2:=by have h6:(((pts L).getD a pz).ct != i2)=true:=h6;simpa using h6
     refine HR.ctl I (HR.region (zn ?_));refine qI jRa I I (fun w1 hw1=>kV L a v1 w1 ((Rd.own 0 rfl).at hw1) hsh hal (by omega)) ?_;intro r;refine zn ?_;refine HR.region (zn ?_);refine hj2 (r,L.eraseIdx a,none) _ _ ⟨?_,fun y hy=>hsh y (List.mem_of_mem_eraseIdx hy)⟩ ⟨I,I,I,I,I,I,I,I,trivial⟩ (Ent.trans (Ent.pick [2,0] I I) (Ent.trans (QH _ (zJ hm0)) (Ent.pick [1,0] I I)));show (pts (L.eraseIdx a),(none:Option Nat))=JX (pts L) s i0 i2;unfold JX;rw[e2];simp only;rw[if_neg h6];exact congrArg (·,none) (KD _ _ _)
    ·have h6:((pts L).getD a pz).ct=i2:=by have h6:(((pts L).getD a pz).ct != i2)=false:=h6;simpa using h6
     refine HR.skip (hj2 (v1,L,some a) _ _ ⟨?_,hsh⟩ ⟨I,I,I,I,I,I,I,I,trivial⟩ Ent.refl);show (pts L,some a)=JX (pts L) s i0 i2;unfold JX;rw[e2];simp only;rw[if_pos h6]
 ·have hpf:pfi (pts L) s i0=atI (Z0 (pts L) s i0):=by
   unfold pfi Z0 fidx atI;cases List.findIdx? (pis s i0) (pts L)<;>rfl
  rw[hpf];rcases JF (pis s i0) (pts L)with ⟨_,e2,_⟩|⟨a,q,_,e2,hq,_,_⟩
  ·have e2:Z0 (pts L) s i0=none:=e2;rw[e2]at hj ⊢;refine HR.region ?_
   repeat' (first|refine zn ?_|fail)
   exact hj () _ _ trivial ⟨I,I,I,I,I,I,I,I,I,trivial⟩ Ent.refl
  ·have e2:Z0 (pts L) s i0=some a:=e2;have hal:a<L.length:=by have:=(List.getElem?_eq_some_iff.1 hq).1;rw[jW]at this;exact this
   have hgq:(pts L).getD a pz=q:=by rw[List.getD_eq_getElem?_getD,hq];rfl
   obtain ⟨p,hp⟩:=jG hal;have hpq:p.pt=q:=by rw[J3 hp]at hq;cases hq;rfl
   rw[e2]at hj ⊢;simp only[hgq,<- hpq]at hj;refine HR.region ?_
   repeat' (first|refine zn ?_|refine qE (Rd.own 0 I) jX a I I I I hal ?_|refine qP 2 (Rd.own 0 I) (show a*6<(cellsOf ptC L).length by rw[hcl];omega) I I I I I I I ?_|refine qF (Rd.own 0 I) I I I I (jJ jY hp (i:=2) I) ?_|fail)
   exact hj () _ _ trivial ⟨I,I,I,I,I,I,I,I,I,trivial⟩ Ent.refl
end Go.Proofs.YtgfdoognildoeaaGreat
namespace Go.GX
open Go.RowKit
def jMh (md:Region.Mode) (ops:Array Oper) (i:Nat):List Nat:=match ops[i]? with
 |some o=>(o.after.toList.filter fun e=>Region.binds md e).map (·.on)
 |none=>[]
def jHH:List Nat->List Nat->List Nat
 |l,[]=>l
 |l,x::xs=>match Zp x l with
  |true=>jHH l xs
  |false=>jHH (x::l) xs
def jKG (md:Region.Mode) (ops:Array Oper):Nat->List Nat->List Nat
 |0,l=>l
 |n+1,l=>jKG md ops n (jHH l (l.flatMap (jMh md ops)))
def jJS (md:Region.Mode) (ops:Array Oper) (z:Nat):Bool:=(List.range ops.size).all fun i=>Nat.beq i z||Zp i (jKG md ops 12 (jMh md ops z))
def Closed (md:Region.Mode) (ops:Array Oper) (listed:Array Bool):Prop:=∀(j:Nat) (oj:Oper),ops[j]? =some oj->listed.getD j true=true->∀e∈oj.after,Region.binds md e=true->listed.getD e.on false=true
section
variable {P : Program} {md : Region.Mode} {ops : Array Oper} {Q : Exit -> Act -> World -> Prop} {S : World -> Prop} {z : Nat} {listed : Array Bool}
theorem jBh {x:Nat}:∀ {xs l:List Nat},x∈jHH l xs->x∈l\/x∈xs
 |[],l,h=> .inl h
 |y::xs,l,h=>by
  unfold jHH at h
  split at h
  ·exact (jBh h).imp id (List.mem_cons_of_mem _)
  ·rcases jBh h with h|h
   ·rcases List.mem_cons.1 h with rfl|h
    ·exact .inr (List.mem_cons_self ..)
    ·exact .inl h
   ·exact .inr (List.mem_cons_of_mem _ h)
theorem jBV {i j:Nat} (h:j∈jMh md ops i):∃o,ops[i]? =some o/\∃e∈o.after,Region.binds md e=true/\e.on=j:=by
 unfold jMh at h
 split at h
 ·rename_i o ho
  obtain ⟨e,he,rfl⟩:=List.mem_map.1 h;rw[List.mem_filter]at he;exact ⟨o,ho,e,by simpa using he.1,he.2,rfl⟩
 ·cases h
theorem jAF {j:Nat} (h:listed.getD j false=true):listed.getD j true=true:=by
 simp only[Array.getD_eq_getD_getElem?]at*;cases h2:listed[j]? with
 |none=>rfl
 |some b=>rw[h2]at h;exact h
theorem KH (hc:Closed md ops listed):∀(n:Nat) (l:List Nat),(∀ x∈l,listed.getD x false=true)->∀x∈jKG md ops n l,listed.getD x false=true
 |0,l,h,x,hx=>h x hx
 |n+1,l,h,x,hx=>by
  refine KH hc n _ (fun y hy=>?_) x hx;rcases jBh hy with hy|hy
  ·exact h y hy
  ·obtain ⟨i,hi,hy⟩:=List.mem_flatMap.1 hy;obtain ⟨o,ho,e,he,hb,rfl⟩:=jBV hy;exact hc i o ho (jAF (h i hi)) e he hb
theorem jHN (hz:jJS md ops z=true) (hc:Closed md ops listed) (hr:z∈Region.ready md ops listed) {i:Nat} (hi:i<ops.size) (hne:i≠z):listed.getD i false=true:=by
 have h1:=List.all_eq_true.1 hz i (List.mem_range.2 hi);have h2:Nat.beq i z=false:=by
  rw[<- Bool.not_eq_true];intro hb;exact hne (Nat.eq_of_beq_eq_true hb)
 rw[h2,Bool.false_or]at h1;obtain ⟨_,oz,hoz,hall⟩:=mem_ready.1 hr;refine KH hc 12 _ (fun y hy=>?_) i (kJ h1);obtain ⟨o,ho,e,he,hb,rfl⟩:=jBV hy;rw[hoz]at ho;cases ho;exact hall e he hb
theorem Closed.set (hc:Closed md ops listed) {j:Nat} (hr:j∈Region.ready md ops listed):Closed md ops (listed.setIfInBounds j true):=by
 obtain ⟨_,oj,hoj,hall⟩:=mem_ready.1 hr;intro k ok hk hl e he hb
 by_cases hkj:j=k
 ·subst hkj;rw[hoj]at hk;cases hk;exact getD_set_true (hall e he hb)
 ·rw [getD_set_ne true hkj]at hl;exact getD_set_true (hc k ok hk hl e he hb)
theorem Closed.start {n:Nat} (hn:n=ops.size):Closed md ops (Array.replicate n false):=by
 subst hn;intro j oj hj hl;have hlt:=(Array.getElem?_eq_some_iff.1 hj).1
 simp[Array.getD_eq_getD_getElem?,hlt]at hl
theorem jFY (hz:jJS md ops z=true) {i:Nat} {oi:Oper} {v:Value} (hi:ops[i]? =some oi) (hiz:i≠z) (hsel:∀(j:Nat) (o:Oper) cs b,ops[j]? =some o->o.op≠ .select cs b)
  (hQ:∀c a w,Q (.panic c) (a.put oi.dst v) w->Q (.panic c) a w):
  ∀(fuel:Nat) (listed:Array Bool) (a:Act) (w:World),Closed md ops listed->
   (∀ j oj,ops[j]? =some oj->j≠i->listed.getD j true=false->(∀ e∈oj.after,Region.binds md e=true->e.on≠i)->oi.apart ops oj=true)->
   i∈Region.ready md ops listed->YieldsIf P ops S oi v a->S w->
   jBj P md ops Q S z fuel (listed.setIfInBounds i true) (a.put oi.dst v) w->jBj P md ops Q S z (fuel+1) listed a w:=by
 intro fuel
 induction fuel with
 |zero=>
  intro listed a w _ _ hr hy hS H;refine ⟨fun h=>(by rw[h]at hr;cases hr),fun j hj=>?_⟩
  by_cases hji:j=i
  ·subst hji;exact hy.wpOp hi hS ⟨.inr hS,H⟩
  ·have:=ready_mono hj hji;rw[H.1]at this;cases this
 |succ fuel ih=>
  intro listed a w hc hfree hr hy hS H;refine ⟨fun h=>(by rw[h]at hr;cases hr),fun j hj=>?_⟩
  by_cases hji:j=i
  ·subst hji;exact hy.wpOp hi hS ⟨.inr hS,H⟩
  ·have h1:=H.2 j (ready_mono hj hji);obtain ⟨hjun,oj,hoj,hall⟩:=mem_ready.1 hj;have h0:=(mem_ready.1 hr).1;have hnot:∀e∈oj.after,Region.binds md e=true->e.on≠i:=fun e he hb heq=>by
    have h1:=hall e he hb;rw[heq]at h1;rw[jAF h1]at h0;cases h0
   have hjz:j≠z:=by
    intro e;subst e;have:=jHN hz hc hj (Array.getElem?_eq_some_iff.1 hi).1 (Ne.symm hji);rw[jAF this]at h0;cases h0
   have h2:=wpOp_putIf hoj (hfree j oj hoj hji hjun hnot) (fun cs b=>hsel i oi cs b hi) (fun cs b=>hsel j oj cs b hoj) hQ hy h1
   have hfree':∀k ok,ops[k]? =some ok->k≠i->(listed.setIfInBounds j true).getD k true=false->
     (∀ e∈ok.after,Region.binds md e=true->e.on≠i)->oi.apart ops ok=true:=fun k ok hk hki hun hno=>by
    refine hfree k ok hk hki ?_ hno
    by_cases hjk:j=k
    ·subst hjk;exact hjun
    ·rw [getD_set_ne true hjk]at hun;exact hun
   refine wpOp_mono (fun a' w' h3=>?_) h2;have hS':S w':=h3.2.1.resolve_left hjz;refine ⟨.inr hS',ih (listed.setIfInBounds j true) a' w' (hc.set hj) hfree' (ready_mono hr (Ne.symm hji)) h3.1 hS' ?_⟩;rw[Array.setIfInBounds_comm _ _ hji];exact h3.2.2
end
def jM4 (z:Nat):List (Nat×Bool)->Bool
 |[]=>true
 |(i,_)::p=>match Nat.beq i z with
  |true=>false
  |false=>jM4 z p
def jMp (ops:Array Oper) (p:List (Nat×Bool)) (z:Nat):Bool:=Region.noSelect ops&&Nat.beq (p.length+1) ops.size&&jM4 z p&&jJS .any ops z&&zA ops (p++[(z,false)]) (Array.replicate ops.size false)
section
variable {P : Program} {f : FuncId} {N : Nat} {k : List Item} {σ : Store} {B : Base} {H F : List Chunk} {R : Ending -> World -> Prop} {ops l : List Oper} {o : Oper} {K : Act -> World -> Prop} {S : World -> Prop} {z : Nat}
theorem jEj {ops:Array Oper} {K1 K2:Act->World->Prop} {i:Nat} {next:Act->World->Prop} {a:Act} {w:World} (h:wpOp P ops (QN K1) i next a w):wpOp P ops (QN K2) i next a w:=by
 unfold wpOp at*
 split
 ·rename_i ho
  simpa[ho]using h
 ·rename_i o ho
  simp only[ho]at h
  split
  ·rename_i hw
   rw[if_pos hw]at h;rcases h with h|h
   ·exact .inl (jPH h)
   ·exact (KM h.2).elim
  ·rename_i hw
   rw[if_neg hw]at h;exact h
theorem ZX {ops:Array Oper} {K:Act->World->Prop} (hn:Region.noSelect ops=true) (hz:jJS .any ops z=true):∀(p:List (Nat×Bool)) (listed:Array Bool) (a:Act) (w:World),S w->Closed .any ops listed->jM4 z p=true->
  zA ops (p++[(z,false)]) listed=true->Zq P ops S (fun a w=>wpOp P ops (QN K) z K a w) p a w->jBj P .any ops (QN K) S z (p.length+1) listed a w
 |[],listed,a,w,hS,_,_,hB,h=>by
  simp only[List.nil_append,zA,Bool.and_eq_true,decide_eq_true_eq]at hB;refine ⟨fun h0=>absurd (hB.1.symm.trans h0) (by simp),fun j hj=>?_⟩;rw[hB.1]at hj;have:j=z:=by simpa using hj
  subst this;exact wpOp_mono (fun a' w' h'=>⟨.inl rfl,by simpa using hB.2,rfl,h'⟩) h
 |(i,true)::p,listed,a,w,hS,hc,hnz,hB,h=>by
  obtain ⟨o,v,ho,hy,h⟩:=h;simp only[List.cons_append,zA,Bool.and_eq_true]at hB;have hf:=Region.free_spec ho hB.1.2;unfold jM4 at hnz
  split at hnz
  ·cases hnz
  ·rename_i hb
   have hiz:i≠z:=by rintro rfl;rw[Nat.beq_refl]at hb;cases hb
   have hr:i∈Region.ready .any ops listed:=by simpa using hB.1.1
   exact jFY hz ho hiz (Region.noSelect_spec hn) (fun c a w h=>absurd h.1 (by nofun)) _ listed a w hc hf hr hy hS (ZX hn hz p _ _ _ hS (hc.set hr) hnz hB.2 h)
 |(i,false)::p,listed,a,w,hS,hc,hnz,hB,h=>by
  simp only[List.cons_append,zA,Bool.and_eq_true,decide_eq_true_eq]at hB;refine ⟨fun h0=>absurd (hB.1.symm.trans h0) (by simp),fun j hj=>?_⟩;have hj0:=hj;rw[hB.1]at hj;have:j=i:=by simpa using hj
  subst this;unfold jM4 at hnz
  split at hnz
  ·cases hnz
  ·exact jEj (wpOp_mono (fun a' w' h'=>⟨.inr h'.1,ZX hn hz p _ _ _ h'.1 (hc.set hj0) hnz hB.2 h'.2⟩) h)
theorem qU (p:List (Nat×Bool)) (z:Nat) (is:List Nat) (hF:jAN H is=some F) (hd:JV is=true) {id:Nat} (hm:P.follows .mixedOrders=true) (hB:jMp ops.toArray p z=true)
  (h:HD P N ops p σ B H F (KZ P ops z (jCE P f k R))):HR P f N (.code (.region id ops.toArray true)::k) σ B H R:=by
 intro w hw a ha;simp only[jMp,Bool.and_eq_true]at hB;obtain ⟨⟨⟨⟨h1,h2⟩,h3⟩,h4⟩,h5⟩:=hB;have hb:Below w.heap.size w { w with drawn:=w.drawn+1 }:=⟨rfl,rfl,rfl,Nat.le_refl _,fun _ _=>rfl⟩;have hw1:Sat B H { w with drawn:=w.drawn+1 }:=hw.grow hb;refine QU (wp_region_any hm (jBM (S:=fun w=>Sat B F w) (z:=z) _ _ _ _ ?_));rw[show ops.toArray.size=p.length+1 from (Nat.eq_of_beq_eq_true h2).symm];rw[show ops.toArray.size=p.length+1 from (Nat.eq_of_beq_eq_true h2).symm]at h5;exact ZX h1 h4 p _ _ _ (hw1.pick is hF hd) (Closed.start (Nat.eq_of_beq_eq_true h2)) h3 h5 (h _ hw1 (hw1.pick is hF hd) a ha)
end
end Go.GX
