/- Part of a proof. Conditions: none. -/
import Derived.Test.YtgfdoognildoeaaGreatSB13
set_option linter.unusedVariables false
set_option linter.unusedSectionVars false
set_option linter.unusedSimpArgs false
set_option maxRecDepth 100000
set_option maxHeartbeats 4000000
namespace Go.Proofs.YtgfdoognildoeaaGreat
open Go.GX Go.RowKit
attribute [local irreducible] Calls Run JH JL zU HR HL HD jS jM ZN Rd jg Jf
open Nd
theorem fn113:IsFn Tryz.prog 113:=zF Tryz.func113 I
theorem jHe (V:NV) (n:Nd) (f:Fr) (ok:Bool) (w:World) (h:OkN w V n) (hs:SmN n) (hf:∀s∈n.out,fits .i64 s.tr):
  Calls Tryz.prog 113 #[.agg ⟨ndC V n⟩,.agg ⟨frC f⟩,.bool ok] w fun e w'=>∃x:NV×List Chunk,e= .returned (.agg ⟨ndC x.1 (result n f ok)⟩)/\Imp V n x.1 x.2 (result n f ok)/\Sat (base w) [jC x.2] w':=by
 obtain ⟨m,hm⟩:∃m,m=order n:=⟨_,rfl⟩;have hmp:m.parts=n.parts:=by rw[hm];rfl
 have hmf:∀s∈m.out,fits .i64 s.tr:=fun s hs=>hf s (List.mem_of_mem_take (by rw[hm]at hs;exact hs))
 have ho:Ord m:=by rw[hm];exact JJ n
 have h16:=ho.out;have hsp:result n f ok=match m.out.findIdx? (hits f)with
  |none=>m
  |some i=>if (ZU m.out i ok).2 then giveUp (if Tp.okN f.dst then { m with out:=(ZU m.out i ok).1,links:=JD m.links f.dst ok } else { m with out:=(ZU m.out i ok).1 }) f.dst else (if Tp.okN f.dst then { m with out:=(ZU m.out i ok).1,links:=JD m.links f.dst ok } else { m with out:=(ZU m.out i ok).1 }):=by rw[hm];rfl
 obtain ⟨Z,hZ⟩:∃Z,Z=result n f ok:=⟨_,rfl⟩;rw[<- hZ];rw[hsp]at hZ;refine zE Tryz.func113 I [(0,.agg ⟨ndC V n⟩),(1,.agg ⟨frC f⟩),(2,.bool ok)] ?_;refine HR.ctl I (HR.region ?_);refine HL.box I I ?_;intro b3;refine HL.box I I ?_;intro b4;refine HL.alloc I I ?_;intro b6;refine zh ?_;refine qL (r:=fun x:NV×List Chunk=> .agg ⟨ndC x.1 m⟩) (Q:=fun x=>ROk V n x.1 x.2 m) (G:=fun x=>roH x.1 x.2 m) jSf I I (fun w1 hw1=>by rw[hm];exact kE V n w1 (h.ext hw1.jF) hs) ?_
 rintro ⟨V2,Gt⟩ hR
 have hR:ROk V n V2 Gt m:=hR;refine qM (Ent.pick [8,7,6,0,1,2,3,4,5] I I) (zh ?_);refine HR.loop (ι:=Nat) (fun i=>i<=m.out.length/\∀j x,j<i->m.out[j]? =some x->hits f x=false) (fun i=>[(2,.bool ok),(3,ptr b3),(4,ptr b4),(6,ptr b6),(7,.int .i64 (i:Int))]) (fun _=>[jS b3 (ndC V2 m) 62,jS b4 (frC f) 75,rsC b6,jC Gt,cSn (sv V2.ou m.out.length) m.out,cMa (sv V2.bo m.boxes.length) m.boxes,cI (sv V2.ch m.children.length) m.children,cPr (sv V2.se m.seen.length) m.seen,cDe (sv V2.ib m.inbox.length) m.inbox]) (fun i=>m.out.length-i) 0 ⟨Nat.zero_le _,fun j x hj=>absurd hj (Nat.not_lt_zero _)⟩ ⟨I,I,I,I,I,trivial⟩ Ent.refl ?_
 rintro i ⟨hi,hno⟩ ih
 refine zh ?_;refine HR.cond I (fun h1=>?_) (fun h1=>?_)
 rotate_left
 ·have h1:¬(i:Int)<(m.out.length:Int):=of_decide_eq_false h1;have hfi:m.out.findIdx? (hits f)=none:=List.findIdx?_eq_none_iff.2 fun x hx=>by
   obtain ⟨j,hj⟩:=List.getElem?_of_mem hx;exact hno j x (by have:=(List.getElem?_eq_some_iff.1 hj).1;omega) hj
  rw[hfi]at hZ;have hZ:Z=m:=hZ;rw[hZ];refine zh ?_;refine HR.ret Tryz.func113 I [_] (fun w hw=>⟨⟨_,rfl,jQ hw 2 I I I I rfl⟩,trivial⟩) ?_
  exact fun w' hw=>⟨(V2,roH V2 Gt m),rfl,hR.okn hmp,Ent.trans (Ent.pick [3,4,5,6,7,8] I I) (Ent.group (G:=roH V2 Gt m) (H:=[])) w' hw⟩
 have h1:(i:Int)<(m.out.length:Int):=of_decide_eq_true h1;have hlt:i<m.out.length:=by omega
 obtain ⟨x,hx⟩:=jG hlt;have hcl:(cellsOf snC m.out).length=m.out.length*11:=jA jU _
 repeat' (first|refine zh ?_|refine qE (Rd.own 4 I) jy i I I I I hlt ?_|refine qP 0 (Rd.own 4 I) (by rw[hcl];omega) I I I I I I I ?_|refine qN (Rd.own 4 I) I I I I (by simp) I (jGu hx) ?_|apply zb ?_ ?_|exact zc|(refine zi fun hb=>?_;try simp at hb)|intro (bk:Nat))
 refine HR.cond I (fun h2=>?_) (fun h2=>?_)
 ·have h2:((!(x.f.kd==f.kd)||!(x.f.so==f.so))||!(x.f.sq==f.sq))=true:=h2;have h3:hits f x=false:=by
   unfold hits;cases e1:(x.f.kd==f.kd)<;>cases e2:(x.f.so==f.so)<;>cases e3:(x.f.sq==f.sq)<;>simp[e1,e2,e3]at h2 ⊢
  repeat' (first|refine zh ?_|fail)
  refine ih (i+1) _ _ ⟨hlt,fun j y hj hy=>?_⟩ (by show m.out.length-(i+1)<m.out.length-i;omega) ⟨I,I,I,I,I,trivial⟩ (Ent.pick [1,2,3,4,5,6,7,8,9] I I)
  by_cases e:j=i
  ·subst e;rw[hx]at hy;cases hy;exact h3
  ·exact hno j y (by omega) hy
 have h2:((!(x.f.kd==f.kd)||!(x.f.so==f.so))||!(x.f.sq==f.sq))=false:=h2;have h3:hits f x=true:=by
  unfold hits;cases e1:(x.f.kd==f.kd)<;>cases e2:(x.f.so==f.so)<;>cases e3:(x.f.sq==f.sq)<;>simp[e1,e2,e3]at h2 ⊢
 have hfi:m.out.findIdx? (hits f)=some i:=by
  rw[List.findIdx?_eq_some_iff_getElem];obtain ⟨_,e⟩:=List.getElem?_eq_some_iff.1 hx;refine ⟨hlt,by rw[e];exact h3,fun j hj=>?_⟩;have:=hno j m.out[j] hj (List.getElem?_eq_getElem (by omega));rw[this];decide
 rw[hfi]at hZ;have hmr:=kr m.out i ok;obtain ⟨r,hr⟩:∃r,r=ZU m.out i ok:=⟨_,rfl⟩;rw[<- hr]at hmr;have hm1:=ho.Zr hmr;have hml:Ord { m with out:=r.1,links:=JD m.links f.dst ok }:=hm1.jCG (jAA _ _ _);have hl24:=llen ho;obtain ⟨b,hb⟩:∃b,b=if Tp.okN f.dst then { m with out:=r.1,links:=JD m.links f.dst ok } else { m with out:=r.1 }:=⟨_,rfl⟩
 have hob:Ord b:=by rw[hb];split;exact hml;exact hm1
 have hbe:∃q,b={ m with out:=r.1,links:=q }:=by rw[hb];split;exact ⟨_,rfl⟩;exact ⟨m.links,rfl⟩
 have hZ:Z=if r.2=true then giveUp b f.dst else b:=by rw[hZ,hb,hr]
 repeat' (first|refine zh ?_|fail)
 refine qL (r:=fun v':Value=> .tuple ⟨[v',.bool r.2]⟩) (Q:=fun _=>True) (G:=fun v'=>[cSn v' r.1]) jTS I I (fun w1 hw1=>by have:=jA0 m.out (i:Int) ok _ w1 ((Rd.own 5 rfl).at hw1) (by omega) hmf (by omega);rw[Int.toNat_natCast]at this;rw[hr];exact this) ?_;intro v1 _;refine HL.shape 0 I fun a1 c1 hv=>?_
 subst hv
 repeat' (first|refine zh ?_|refine qB jQN I I (fun w _=>KL f.dst w) ?_|fail)
 refine qR (H':=[jS b3 (ndC { V2 with ou:=(a1,c1) } { m with out:=r.1 }) 62,jS b4 (frC f) 75,rsC b6,jC Gt,cSn (.slice a1 r.1.length c1) r.1,cMa (sv V2.bo m.boxes.length) m.boxes,cI (sv V2.ch m.children.length) m.children,cPr (sv V2.se m.seen.length) m.seen,cDe (sv V2.ib m.inbox.length) m.inbox]) (Ent.pick [2,3,4,5,0,7,8,9,10] I I) (HR.join (ι:=SV×List Chunk) (fun x=>∀w2,Sl w2 (sv V2.li m.links.length) (cellsOf liC m.links) m.links.length->(jC x.2).p w2->Sl w2 (sv x.1 b.links.length) (cellsOf liC b.links) b.links.length) (fun _=>[(3,ptr b3),(4,ptr b4),(6,ptr b6),(10,.bool r.2)]) (fun x=>[jS b3 (ndC { V2 with ou:=(a1,c1),li:=x.1 } b) 62,jS b4 (frC f) 75,rsC b6,jC Gt,cSn (.slice a1 r.1.length c1) r.1,cMa (sv V2.bo m.boxes.length) m.boxes,cI (sv V2.ch m.children.length) m.children,cPr (sv V2.se m.seen.length) m.seen,cDe (sv V2.ib m.inbox.length) m.inbox,jC x.2]) (fun x hx=>?_) (fun hj=>?_))
 rotate_left
 ·refine HR.cond I (fun h4=>?_) (fun h4=>?_)
  ·have h4:Tp.okN f.dst=true:=h4;rw[h4,if_pos rfl]at hb;refine HR.region ?_
   repeat' (first|refine zn ?_|refine qI jS7 I I (fun w1 hw1=>jCs m.links f.dst ok _ w1 (hR.li w1 (h.li.ext hw1.jF)) (by omega)) ?_|fail)
   intro v2;refine HL.shape 0 I fun a2 c2 hv=>?_
   subst hv
   repeat' (first|refine zn ?_|fail)
   refine hj ((a2,c2),[cLi (.slice a2 (JD m.links f.dst ok).length c2) (JD m.links f.dst ok)]) _ _ (fun w2 _ hg=>?_) ⟨I,I,I,I,trivial⟩ ?_
   ·rw [hb];exact jV hg.1
   ·rw [hb];exact Ent.trans (Ent.group (G:=[cLi (.slice a2 (JD m.links f.dst ok).length c2) (JD m.links f.dst ok)])) (Ent.pick [1,2,3,4,5,6,7,8,9,0] I I)
  ·have h4:Tp.okN f.dst=false:=h4;rw[h4,if_neg (by decide)]at hb;refine HR.skip (hj (V2.li,[]) _ _ (fun w2 hw2 _=>?_) ⟨I,I,I,I,trivial⟩ ?_)
   ·rw [hb];exact hw2
   ·rw [hb];exact Ent.trans QJ (Ent.pick [1,2,3,4,5,6,7,8,9,0] I I)
 obtain ⟨y,Gl⟩:=x;have hy:∀w2,Sl w2 (sv V2.li m.links.length) (cellsOf liC m.links) m.links.length->(jC Gl).p w2->Sl w2 (sv y b.links.length) (cellsOf liC b.links) b.links.length:=hx;obtain ⟨q,hbq⟩:=hbe;have b_ta:b.table=m.table:=by rw[hbq]
 have b_ou:b.out=r.1:=by rw[hbq]
 have b_bo:b.boxes=m.boxes:=by rw[hbq]
 have b_ch:b.children=m.children:=by rw[hbq]
 have b_se:b.seen=m.seen:=by rw[hbq]
 have b_ib:b.inbox=m.inbox:=by rw[hbq]
 have b_pa:b.parts=n.parts:=by rw[hbq];exact hmp
 have okb:Imp V n { V2 with ou:=(a1,c1),li:=y } [jC Gt,cSn (.slice a1 r.1.length c1) r.1,cMa (sv V2.bo m.boxes.length) m.boxes,cI (sv V2.ch m.children.length) m.children,cPr (sv V2.se m.seen.length) m.seen,cDe (sv V2.ib m.inbox.length) m.inbox,jC Gl] b:=by
  intro w2 h2 hg;refine ⟨?_,hy w2 (hR.li w2 h2.li) (jK hg (c:=jC Gl) (by simp)),?_,?_,?_,?_,?_,?_,?_⟩
  ·rw [b_ta];exact hR.ta w2 h2.ta (jK hg (c:=jC Gt) (by simp))
  ·rw [b_ou];exact jV (jK hg (c:=cSn (.slice a1 r.1.length c1) r.1) (by simp))
  ·rw [b_ch];exact jV (jK hg (c:=cI (sv V2.ch m.children.length) m.children) (by simp))
  ·rw [b_bo];exact jV (jK hg (c:=cMa (sv V2.bo m.boxes.length) m.boxes) (by simp))
  ·rw [b_se];exact jV (jK hg (c:=cPr (sv V2.se m.seen.length) m.seen) (by simp))
  ·show RdPts w2 (sv V2.pa V2.ps.length) V2.ps;rw[hR.pa,hR.ps];exact h2.pa
  ·rw [b_ib];exact jV (jK hg (c:=cDe (sv V2.ib m.inbox.length) m.inbox) (by simp))
  ·show pts V2.ps=_;rw[hR.ps,b_pa];exact h2.eq
 cases hr2:r.2 with
 |false=>
  rw[hr2]at hZ;have hZ:Z=b:=hZ;rw[hZ]
  repeat' (first|refine zh ?_|fail)
  refine HR.ret Tryz.func113 I [_] (fun w hw=>⟨⟨_,rfl,jQ hw 2 I I I I rfl⟩,trivial⟩) ?_
  exact fun w' hw=>⟨(_,_),rfl,okb,Ent.trans (Ent.pick [3,4,5,6,7,8,9] I I) (Ent.group (G:=[_,_,_,_,_,_,_]) (H:=[])) w' hw⟩
 |true=>
 rw[hr2]at hZ;have hZ:Z=giveUp b f.dst:=hZ;have hbl:=hob.lost;obtain ⟨d,hd⟩:∃d,d=lose b:=⟨_,rfl⟩
 repeat' (first|refine zh ?_|refine qB (r:= .agg ⟨ndC { V2 with ou:=(a1,c1),li:=y } d⟩) jLR I I (fun w1 _=>by rw[hd];exact kF { V2 with ou:=(a1,c1),li:=y } b w1 hbl) ?_|refine qB jQN I I (fun w _=>KL f.dst w) ?_|fail)
 refine HR.cond I (fun h5=>?_) (fun h5=>?_)
 rotate_left
 ·have h5:Tp.okN f.dst=false:=h5;have hZ:Z=d:=by rw[hZ,hd];unfold giveUp;rw[if_pos h5]
  rw[hZ]
  repeat' (first|refine zh ?_|fail)
  refine HR.ret Tryz.func113 I [_] (fun w hw=>⟨⟨_,rfl,jQ hw 2 I I I I rfl⟩,trivial⟩) ?_;refine fun w' hw=>⟨({ V2 with ou:=(a1,c1),li:=y },[jC Gt,cSn (.slice a1 r.1.length c1) r.1,cMa (sv V2.bo m.boxes.length) m.boxes,cI (sv V2.ch m.children.length) m.children,cPr (sv V2.se m.seen.length) m.seen,cDe (sv V2.ib m.inbox.length) m.inbox,jC Gl]),?_,fun w2 h2 hg=>?_,Ent.trans (Ent.pick [3,4,5,6,7,8,9] I I) (Ent.group (G:=[_,_,_,_,_,_,_]) (H:=[])) w' hw⟩
  ·rw [hd];rfl
  ·have o:=okb w2 h2 hg;rw[hd];exact ⟨o.ta,o.li,o.ou,o.ch,o.bo,o.se,o.pa,o.ib,o.eq⟩
 have h5:Tp.okN f.dst=true:=h5;have hZ:Z={ d with table:=jMY b.table b.addr f.dst,links:=JE b.links f.dst,children:=b.children.filter fun c=>!(c==f.dst),parent:=if b.parent=f.dst then 255 else b.parent }:=by
  rw[hZ,hd];unfold giveUp;rw[if_neg (by rw[h5];decide)]
 have d_ta:d.table=b.table:=by rw[hd];rfl
 have d_ad:d.addr=b.addr:=by rw[hd];rfl
 have d_li:d.links=b.links:=by rw[hd];rfl
 have d_ch:d.children=m.children:=by rw[hd,<- b_ch];rfl
 have d_pr:d.parent=b.parent:=by rw[hd];rfl
 have d_ou:d.out=r.1:=by rw[hd,<- b_ou];rfl
 have d_bo:d.boxes=m.boxes:=by rw[hd,<- b_bo];rfl
 have d_se:d.seen=m.seen:=by rw[hd,<- b_se];rfl
 have d_ib:d.inbox=m.inbox:=by rw[hd,<- b_ib];rfl
 have d_pa:d.parts=n.parts:=by rw[hd,<- b_pa];rfl
 have hb24:=jFa hob;have hbl24:=llen hob;have hk251:=jRM ho;rw[<- d_ta,<- d_ad,<- d_li,b_ch,<- d_pr]at hZ;obtain ⟨TT,hTT⟩:∃TT,TT=jMY d.table d.addr f.dst:=⟨_,rfl⟩;obtain ⟨LL,hLL⟩:∃LL,LL=JE d.links f.dst:=⟨_,rfl⟩;rw[<- hTT,<- hLL]at hZ
 repeat' (first|refine zh ?_|refine qI fn63 I I (fun w1 hw1=>jKx d.table d.addr f.dst _ w1 (by rw[d_ta,b_ta];exact hR.ta w1 (h.ta.ext hw1.jF) (QF 3 hw1 I)) (by rw[d_ta];omega)) ?_|fail)
 intro v3;refine HL.shape 0 I fun a3 c3 hv=>?_
 subst hv;rw[<- hTT]
 repeat' (first|refine zh ?_|refine qI jS6 I I (fun w1 hw1=>jA1 d.links f.dst _ w1 (by rw[d_li];exact hy w1 (hR.li w1 (h.li.ext hw1.jF)) (QF 10 hw1 I)) (by rw[d_li];omega)) ?_|fail)
 intro v4;refine HL.shape 0 I fun a4 c4 hv=>?_
 subst hv;rw[<- hLL]
 repeat' (first|refine zh ?_|fail)
 refine HR.J6 3 1 (qR (H':=[cI (.slice none 0 0) [],jS b3 (ndC { V2 with ou:=(a1,c1),ta:=(a3,c3),li:=(a4,c4) } { d with table:=TT,links:=LL,children:=m.children }) 62,jS b4 (frC f) 75,rsC b6,cTa (.slice a3 TT.length c3) TT,cLi (.slice a4 LL.length c4) LL,cSn (.slice a1 r.1.length c1) r.1,cMa (sv V2.bo m.boxes.length) m.boxes,cI (sv V2.ch m.children.length) m.children,cPr (sv V2.se m.seen.length) m.seen,cDe (sv V2.ib m.inbox.length) m.inbox]) (Ent.trans (Ent.pick [0,3,4,5,2,1,7,8,9,10,11] I I) (Ent.of_eq (by rw[hd,<- b_ch];rfl))) ?_);refine HR.loop (ι:=Nat×Value) (fun x=>x.1<=m.children.length) (fun x=>[(3,ptr b3),(4,ptr b4),(6,ptr b6),(11,x.2),(12,.int .i64 (x.1:Int))]) (fun x=>[cI x.2 ((m.children.take x.1).filter fun c=>!(c==f.dst)),jS b3 (ndC { V2 with ou:=(a1,c1),ta:=(a3,c3),li:=(a4,c4) } { d with table:=TT,links:=LL,children:=m.children }) 62,jS b4 (frC f) 75,rsC b6,cTa (.slice a3 TT.length c3) TT,cLi (.slice a4 LL.length c4) LL,cSn (.slice a1 r.1.length c1) r.1,cMa (sv V2.bo m.boxes.length) m.boxes,cI (sv V2.ch m.children.length) m.children,cPr (sv V2.se m.seen.length) m.seen,cDe (sv V2.ib m.inbox.length) m.inbox]) (fun x=>m.children.length-x.1) (0,.slice none 0 0) (Nat.zero_le _) ⟨I,I,I,I,I,trivial⟩ Ent.refl ?_
 rintro ⟨k,o⟩ hk ih
 have hk:k<=m.children.length:=hk;have hcm:(m.children.take k).length<=k:=by rw[List.length_take];omega
 have hfl:((m.children.take k).filter fun c=>!(c==f.dst)).length<=k:=Nat.le_trans (List.length_filter_le _ _) hcm
 repeat' (first|refine zh ?_|fail)
 refine HR.cond I (fun h6=>?_) (fun h6=>?_)
 ·have hkl:k<m.children.length:=by have:(k:Int)<(m.children.length:Int):=of_decide_eq_true h6;omega
  obtain ⟨c,hc⟩:=jG hkl;have htf:=Zd (p:=fun c=>!(c==f.dst)) hc
  repeat' (first|refine zh ?_|fail)
  refine qK j3 (by kernel_rfl) ?_
  repeat' (first|refine zq ?_|refine qW (Rd.own 8 I) j5 k I I I I hkl ?_|refine qj (Rd.own 8 I) I I I I (jN hc) ?_|fail)
  refine HR.cond I (fun h7=>?_) (fun h7=>?_)
  ·have h7:(!(c==f.dst))=true:=h7;rw[if_pos h7]at htf
   repeat' (first|refine zh ?_|refine qE (Rd.own 8 I) j5 k I I I I hkl ?_|refine qF (Rd.own 8 I) I I I I (jN hc) ?_|fail)
   refine qH j5 I I I I I (by decide) (by decide) ?_;intro va;refine qJ 1 I j5 (Rd.own 0 I) I I I I (jH I) (by show (((m.children.take k).filter fun c=>!(c==f.dst)).length+1)*8<=_;omega) (by show ((m.children.take k).filter fun c=>!(c==f.dst)).length+1<=_;omega) ?_;intro v5
   repeat' (first|refine zh ?_|fail)
   refine ih (k+1,v5) _ _ hkl (by show m.children.length-(k+1)<m.children.length-k;omega) ⟨I,I,I,I,I,trivial⟩ ?_;show Ent _ _ (jM v5 3 1 ((m.children.take (k+1)).filter fun c=>!(c==f.dst)).length (cellsOf iC ((m.children.take (k+1)).filter fun c=>!(c==f.dst)))::_);rw[htf,List.length_append,jL];exact Ent.pick [1,2,3,4,5,6,7,8,9,10,11] I I
  ·have h7:(!(c==f.dst))=false:=h7;rw[if_neg (by rw[h7];decide)]at htf
   repeat' (first|refine zh ?_|fail)
   refine ih (k+1,o) _ _ hkl (by show m.children.length-(k+1)<m.children.length-k;omega) ⟨I,I,I,I,I,trivial⟩ ?_;show Ent _ _ (cI o ((m.children.take (k+1)).filter fun c=>!(c==f.dst))::_);rw[htf];exact Ent.refl
 have hke:k=m.children.length:=by have:¬(k:Int)<(m.children.length:Int):=of_decide_eq_false h6;omega
 subst hke;obtain ⟨CC,hCC⟩:∃CC,CC=m.children.filter fun c=>!(c==f.dst):=⟨_,rfl⟩
 rw[<- hCC]at hZ;refine qR (H':=[cI o CC,jS b3 (ndC { V2 with ou:=(a1,c1),ta:=(a3,c3),li:=(a4,c4) } { d with table:=TT,links:=LL,children:=m.children }) 62,jS b4 (frC f) 75,rsC b6,cTa (.slice a3 TT.length c3) TT,cLi (.slice a4 LL.length c4) LL,cSn (.slice a1 r.1.length c1) r.1,cMa (sv V2.bo m.boxes.length) m.boxes,cPr (sv V2.se m.seen.length) m.seen,cDe (sv V2.ib m.inbox.length) m.inbox]) (Ent.trans (Ent.pick [0,1,2,3,4,5,6,7,9,10] I I) (Ent.of_eq (by rw[hCC];simp only[List.take_length]))) ?_
 repeat' (first|refine zh ?_|fail)
 refine HL.shape 0 I fun a5 c5 hv=>?_
 subst hv;have fin:∀z:Nd,z={ d with table:=TT,links:=LL,children:=CC,parent:=z.parent }->∀w',Sat (base w) [cTa (.slice a3 TT.length c3) TT,cLi (.slice a4 LL.length c4) LL,cSn (.slice a1 r.1.length c1) r.1,cI (.slice a5 CC.length c5) CC,cMa (sv V2.bo m.boxes.length) m.boxes,cPr (sv V2.se m.seen.length) m.seen,cDe (sv V2.ib m.inbox.length) m.inbox] w'->Imp V n { V2 with ou:=(a1,c1),ta:=(a3,c3),li:=(a4,c4),ch:=(a5,c5) } [cTa (.slice a3 TT.length c3) TT,cLi (.slice a4 LL.length c4) LL,cSn (.slice a1 r.1.length c1) r.1,cI (.slice a5 CC.length c5) CC,cMa (sv V2.bo m.boxes.length) m.boxes,cPr (sv V2.se m.seen.length) m.seen,cDe (sv V2.ib m.inbox.length) m.inbox] z/\Sat (base w) [jC [cTa (.slice a3 TT.length c3) TT,cLi (.slice a4 LL.length c4) LL,cSn (.slice a1 r.1.length c1) r.1,cI (.slice a5 CC.length c5) CC,cMa (sv V2.bo m.boxes.length) m.boxes,cPr (sv V2.se m.seen.length) m.seen,cDe (sv V2.ib m.inbox.length) m.inbox]] w':=by
  intro z e w' hw;refine ⟨fun w2 h2 hg=>?_,Ent.group (G:=[_,_,_,_,_,_,_]) (H:=[]) w' hw⟩;have g1:=jK hg (c:=cTa (.slice a3 TT.length c3) TT) (by simp);have g2:=jK hg (c:=cLi (.slice a4 LL.length c4) LL) (by simp);have g3:=jK hg (c:=cSn (.slice a1 r.1.length c1) r.1) (by simp);have g4:=jK hg (c:=cI (.slice a5 CC.length c5) CC) (by simp);have g5:=jK hg (c:=cMa (sv V2.bo m.boxes.length) m.boxes) (by simp);have g6:=jK hg (c:=cPr (sv V2.se m.seen.length) m.seen) (by simp);have g7:=jK hg (c:=cDe (sv V2.ib m.inbox.length) m.inbox) (by simp);have e1:z.table=TT:=by rw[e]
  have e2:z.links=LL:=by rw[e]
  have e3:z.out=r.1:=by rw[e];exact d_ou
  have e4:z.children=CC:=by rw[e]
  have e5:z.boxes=m.boxes:=by rw[e];exact d_bo
  have e6:z.seen=m.seen:=by rw[e];exact d_se
  have e7:z.inbox=m.inbox:=by rw[e];exact d_ib
  have e8:z.parts=n.parts:=by rw[e];exact d_pa
  refine ⟨?_,?_,?_,?_,?_,?_,?_,?_,?_⟩
  ·rw [e1];exact jV g1
  ·rw [e2];exact jV g2
  ·rw [e3];exact jV g3
  ·rw [e4];exact jV g4
  ·rw [e5];exact jV g5
  ·rw [e6];exact jV g6
  ·show RdPts w2 (sv V2.pa V2.ps.length) V2.ps;rw[hR.pa,hR.ps];exact h2.pa
  ·rw [e7];exact jV g7
  ·show pts V2.ps=_;rw[hR.ps,e8];exact h2.eq
 repeat' (first|refine zh ?_|fail)
 refine HR.cond I (fun h7=>?_) (fun h7=>?_)
 ·have h7:d.parent=f.dst:=eq_of_beq h7;rw[if_pos h7]at hZ
  repeat' (first|refine zh ?_|fail)
  refine HR.ret Tryz.func113 I [_] (fun w hw=>⟨⟨_,rfl,jQ hw 3 I I I I rfl⟩,trivial⟩) ?_;intro w' hw;obtain ⟨f1,f2⟩:=fin Z (by rw[hZ]) w' (hw.pick [4,5,6,0,7,8,9] I I);exact ⟨(_,_),by rw[hZ];rfl,f1,f2⟩
 ·have h7:¬d.parent=f.dst:=by have h7:(d.parent==f.dst)=false:=h7;simpa using h7
  rw[if_neg h7]at hZ
  repeat' (first|refine zh ?_|fail)
  refine HR.ret Tryz.func113 I [_] (fun w hw=>⟨⟨_,rfl,jQ hw 3 I I I I rfl⟩,trivial⟩) ?_;intro w' hw;obtain ⟨f1,f2⟩:=fin Z (by rw[hZ]) w' (hw.pick [4,5,6,0,7,8,9] I I);exact ⟨(_,_),by rw[hZ];rfl,f1,f2⟩
theorem jRF {V:NV} {n:Nd} {w:World} (hg:(jC (ndH V n)).p w) (hp:pts V.ps=n.parts):OkN w V n:=by
 have g1:=jK hg (c:=cTa (sv V.ta n.table.length) n.table) (by simp);have g2:=jK hg (c:=cLi (sv V.li n.links.length) n.links) (by simp);have g3:=jK hg (c:=cSn (sv V.ou n.out.length) n.out) (by simp);have g4:=jK hg (c:=cI (sv V.ch n.children.length) n.children) (by simp);have g5:=jK hg (c:=cMa (sv V.bo n.boxes.length) n.boxes) (by simp);have g6:=jK hg (c:=cPr (sv V.se n.seen.length) n.seen) (by simp);have g7:=jK hg (c:=cPt (sv V.pa V.ps.length) V.ps) (by simp);have g8:=jK hg (c:=jC (ptG V.ps)) (by simp);have g9:=jK hg (c:=cDe (sv V.ib n.inbox.length) n.inbox) (by simp);exact ⟨jV g1,jV g2,jV g3,jV g4,jV g5,jV g6,⟨jV g7,fun p hp=>⟨jV (jK g8 (Kg hp).1),jV (jK g8 (Kg hp).2)⟩⟩,jV g9,hp⟩
abbrev Own (V:NV) (G:List Chunk) (n:Nd):Prop:=∀w2,(jC G).p w2->OkN w2 V n
theorem Pts.own {V:NV} {n:Nd} (h:Pts V n):Own V (ndH V n) n:=fun w2 hg=>jRF hg h.eq
theorem jBQ {B:Base} {G:List Chunk} {w:World} (h:Sat B G w):Sat B [jC G] w:=by
 have h:Sat B (G++[]) w:=by rw[List.append_nil];exact h
 exact h.group
theorem jPi (addr poll:Int) (w:World):
  Calls Tryz.prog 36 #[.int .i64 addr,.int .i64 poll] w fun e w'=>∃x:NV×List Chunk,e= .returned (.agg ⟨ndC x.1 (new addr poll)⟩)/\Own x.1 x.2 (new addr poll)/\Sat (base w) [jC x.2] w':=
 (jPT addr poll w).mono fun e w' ⟨V',h1,h2,h3⟩=>⟨(V',ndH V' _),h1,h2.own,jBQ h3⟩
theorem kY (V:NV) (n:Nd) (f:Fr) (ok:Bool) (w:World) (h:OkN w V n) (hs:SmN n):
  Calls Tryz.prog 44 #[.agg ⟨ndC V n⟩,.agg ⟨frC f⟩,.bool ok] w fun e w'=>∃x:NV×List Chunk,e= .returned (.agg ⟨ndC x.1 (result n f ok)⟩)/\Own x.1 x.2 (result n f ok)/\Sat (base w) [jC x.2] w':=
 (jHS V n f ok w h hs).mono fun e w' ⟨V',h1,h2,h3⟩=>⟨(V',ndH V' _),h1,h2.own,jBQ h3⟩
theorem jMd (V:NV) (n:Nd) (now:Int) (w:World) (h:OkN w V n) (hs:SmN n) (hf:∀s∈n.out,fits .i64 s.wt):
  Calls Tryz.prog 79 #[.agg ⟨ndC V n⟩,.int .i64 now] w fun e w'=>∃x:NV×List Chunk,e= .returned (.agg ⟨ndC x.1 (Zb n now)⟩)/\Own x.1 x.2 (Zb n now)/\Sat (base w) [jC x.2] w':=
 (jL1 V n now w h hs hf).mono fun e w' ⟨V',h1,h2,h3⟩=>⟨(V',ndH V' _),h1,h2.own,jBQ h3⟩
theorem jMe (V:NV) (n:Nd) (now:Int) (w:World) (h:OkN w V n) (hs:SmN n):
  Calls Tryz.prog 80 #[.agg ⟨ndC V n⟩,.int .i64 now] w fun e w'=>∃x:NV×List Chunk,e= .returned (.tuple ⟨[.agg ⟨ndC x.1 (talk n now).1⟩,.agg ⟨frC (talk n now).2.1⟩,.bool (talk n now).2.2]⟩)/\Own x.1 x.2 (talk n now).1/\Sat (base w) [jC x.2] w':=
 (jL2 V n now w h hs).mono fun e w' ⟨V',h1,h2,h3⟩=>⟨(V',ndH V' _),h1,h2.own,jBQ h3⟩
theorem jMt (V:NV) (n:Nd) (now:Int) (f:Fr) (w:World) (h:OkN w V n) (hs:SmN n) (hfl:f.da.length<=9223372036854775807):
  Calls Tryz.prog 87 #[.agg ⟨ndC V n⟩,.int .i64 now,.agg ⟨frC f⟩] w fun e w'=>∃x:NV×List Chunk,e= .returned (.agg ⟨ndC x.1 (hear n now f)⟩)/\Own x.1 x.2 (hear n now f)/\Sat (base w) [jC x.2] w':=
 (jMA V n now f w h hs hfl).mono fun e w' ⟨V',h1,h2,h3⟩=>⟨(V',ndH V' _),h1,h2.own,jBQ h3⟩
structure PtSm (l:List Pt):Prop where
 len:l.length<=1000
 sm:∀p∈l,jAS p
theorem jGP {n:Nd} (h:Ord n) (hp:PtSm n.parts):SmN n:=
 ⟨Nat.le_trans (jFa h) (by decide),Nat.le_trans (llen h) (by decide),Nat.le_trans h.out (by decide),Nat.le_trans (jRM h) (by decide),Nat.le_trans h.boxes (by decide),Nat.le_trans h.seen (by decide),hp.len,Nat.le_trans h.inbox (by decide),hp.sm⟩
theorem jKz {p:Pt} (h:JU p=true):jAS p:=by
 have H:=zf (Jk h);have h1:=H.hv;have h2:=H.da;have h3:=H.ct1;exact ⟨by omega,by omega,fun s hs=>by have:=jCt h s hs;omega⟩
theorem jCx (l:List Pt):∀p∈Ja l,jAS p:=fun p hp=>jKz (Jm p hp)
theorem jMu (l:List Pt) (now life:Int):PtSm (jAr l now life):=
 ⟨Nat.le_trans (Nat.le_trans (List.length_filter_le _ _) (ZT l)) (by decide),fun p hp=>jCx l p (List.mem_filter.1 hp).1⟩
theorem jGK {l:List Pt} {s id c:Int} {p:Pt} (h:p∈(JX l s id c).1):p∈l:=by
 unfold JX at h
 split at h
 ·split at h
  ·exact h
  ·exact List.mem_of_mem_eraseIdx h
 ·exact h
theorem jPj {p:Pt} {i:Nat} {d:By} (h:jAS p) (hd:d.length<=1000):jAS (kZ p i d):=by
 unfold kZ
 split
 ·exact h
 ·refine ⟨?_,?_,fun s hs=>?_⟩
  ·show (p.hv.set i true).length<=140737488355328;rw[List.length_set];exact h.1
  ·show (p.da.set i d).length<=8796093022208;rw[List.length_set];exact h.2.1
  ·rcases List.mem_or_eq_of_mem_set hs with hs|rfl
   ·exact h.2.2 s hs
   ·omega
theorem jMy {l:List Pt} {s now:Int} {x:By} (hx:x.length<=1000) (he:(jDb l s now x).e=0):PtSm (jDb l s now x).l:=by
 unfold jDb at he ⊢
 split
 ·exact ⟨Nat.zero_le _,fun p hp=>by cases hp⟩
 ·rename_i hc
  have hc:jDa x=0:=Decidable.not_not.1 hc;obtain ⟨c1,c2,c3,c4,c5,c6,c7,c8⟩:=jC0 hc;have ho8:=ZT l
  split
  ·exact ⟨Nat.le_trans (Ki ho8 s (b8 x 0) 1) (by decide),fun p hp=>jCx l p (jGK hp)⟩
  ·rename_i h1
   have hd8:=Ki ho8 s (b8 x 0) (b8 x 2);have hm:∀p∈(JX (Ja l) s (b8 x 0) (b8 x 2)).1,jAS p:=fun p hp=>jCx l p (jGK hp)
   have hnew:(∀ p∈(jED (JX (Ja l) s (b8 x 0) (b8 x 2)) s (b8 x 0) (b8 x 2) now).1,jAS p)/\(jED (JX (Ja l) s (b8 x 0) (b8 x 2)) s (b8 x 0) (b8 x 2) now).1.length<=8:=by
    unfold jED
    split
    ·exact ⟨hm,hd8⟩
    ·have hr:=jA2 hd8;refine ⟨fun p hp=>?_,by rw[List.length_append];simp;omega⟩;rcases List.mem_append.1 hp with hp|hp
     ·unfold Zj at hp
      split at hp
      ·exact hm p (List.mem_of_mem_eraseIdx hp)
      ·exact hm p hp
     ·rw [List.mem_singleton.1 hp];refine ⟨?_,?_,fun s hs=>?_⟩
      ·show (List.replicate (b8 x 2).toNat false).length<=140737488355328;rw[List.length_replicate];omega
      ·show (List.replicate (b8 x 2).toNat ([]:By)).length<=8796093022208;rw[List.length_replicate];omega
      ·have hs:s∈List.replicate (b8 x 2).toNat ([]:By):=hs;rw[(List.mem_replicate.1 hs).2];simp
   generalize jED (JX (Ja l) s (b8 x 0) (b8 x 2)) s (b8 x 0) (b8 x 2) now=o at hnew ⊢;obtain ⟨n1,n2⟩:=hnew;have hz:jAS pz:=⟨by decide,by decide,fun s hs=>by cases hs⟩;have hg:jAS (o.1.getD o.2 pz):=by
    rw[List.getD_eq_getElem?_getD];cases hq:o.1[o.2]? with
    |none=>exact hz
    |some q=>exact n1 q (List.mem_of_getElem? hq)
   have hdl:(x.drop 3).length<=1000:=by rw[List.length_drop];omega
   unfold jPh
   split
   ·exact ⟨Nat.le_trans (List.length_eraseIdx_le _ _) (by omega),fun p hp=>n1 p (List.mem_of_mem_eraseIdx hp)⟩
   ·refine ⟨by rw[List.length_set];omega,fun p hp=>?_⟩;rcases List.mem_or_eq_of_mem_set hp with hp|rfl
    ·exact n1 p hp
    ·exact jPj hg hdl
theorem jPv (a p:Int):PtSm (new a p).parts:=⟨Nat.zero_le _,fun p hp=>by cases hp⟩
theorem Zc (now:Int):∀(k:Nat) (n:Nd) (i:Nat),(J7 now k n i).1.parts=n.parts
 |0,n,i=>rfl
 |k+1,n,i=>by
  unfold J7
  split
  ·rfl
  ·split
   ·exact Zc now k n _
   ·split
    ·rfl
    ·split
     ·rw [Zc now k];exact jDU _ _ _
     ·split
      ·rfl
      ·split
       ·rw [Zc now k];rfl
       ·rw [Zc now k]
theorem jLz {n:Nd} {now:Int} (h:PtSm n.parts):PtSm (talk n now).1.parts:=by
 unfold talk;rw[Zc];exact h
theorem jHj {n:Nd} {f:Fr} {ok:Bool} (h:PtSm n.parts):PtSm (result n f ok).parts:=by
 unfold result;simp only
 split
 ·exact h
 ·split
  ·rw [jBw];split<;>exact h
  ·split<;>exact h
theorem jLx (n:Nd) (now:Int):PtSm (Zb n now).parts:=by
 have e:(Zb n now).parts=jAr (order n).parts (tick now) 120:=by
  have k1:∀(c:Prop) [Decidable c] (a:Nd),(if c then Nd.zP a else a).parts=a.parts:=by intro c _ a;split;exact jB2 _;rfl
  have k2:∀(c:Prop) [Decidable c] (a:Nd),(if c then Nd.poll a else a).parts=a.parts:=by intro c _ a;split;exact jEC _;rfl
  unfold Zb;simp only;rw[k2,k1,jB3]
 rw[e];exact jMu _ _ _
theorem jNf {n:Nd} {now:Int} {f:Fr} (h:PtSm n.parts):PtSm (hear n now f).parts:=by
 unfold hear;simp only
 split
 ·exact h
 ·rename_i h1
  have hc:Kv f=0:=Decidable.not_not.1 fun e=>h1 (.inl e)
  have hl:=(jFT hc).2.2.2.2.2.2
  split
  ·rw [ZH];exact h
  ·split
   ·rw [Kh];exact h
   ·split
    ·unfold received;simp only
     split
     ·exact h
     ·split
      ·split
       ·exact h
       ·rename_i he
        have hp:PtSm (jDb (order n).parts f.so (tick now) f.da).l:=jMy (by omega) (Decidable.not_not.1 he)
        split
        ·rw [jBB];exact hp
        ·exact hp
      ·split
       ·exact h
       ·rw [Zh];exact h
    ·exact h
theorem fn19:IsFn Tryz.prog 19:=zF Tryz.func19 I
theorem fn146:IsFn Tryz.prog 146:=zF Tryz.func146 I
theorem jCf (a b:List Int) (va vb:Value) (w:World) (ha:Sl w va (cellsOf iC a) a.length) (hb:Sl w vb (cellsOf iC b) b.length) (hla:a.length<=1000000):
  Calls Tryz.prog 19 #[va,vb] w fun e' w'=>e'= .returned (.bool (decide (a=b)))/\Below w.heap.size w w':=by
 refine zE Tryz.func19 I [(0,va),(1,vb)] (zh ?_);refine qD (qA ha) I I I (zh ?_);refine qD (qA hb) I I I (zh ?_);refine HR.cond I (fun h1=>?_) (fun h1=>?_)
 ·refine zh ?_;refine HR.ret Tryz.func19 I [_] (fun _ _=>⟨I,trivial⟩) ?_;have:a≠b:=by rintro rfl;simp at h1
  exact fun w' hw=>⟨by simp[this,ZJ],hw.jF⟩
 have hl:a.length=b.length:=by have h1':((a.length:Int) != (b.length:Int))=false:=h1;simp at h1';omega
 refine zh ?_;refine HR.loop (ι:=Nat) (fun k=>k<=a.length/\a.take k=b.take k) (fun k=>[(0,va),(1,vb),(5,.int .i64 (k:Int))]) (fun _=>[]) (fun k=>a.length-k) 0 ⟨Nat.zero_le _,by simp⟩ ⟨I,I,I,trivial⟩ Ent.refl ?_
 rintro k ⟨hk,hg⟩ ih
 refine zh ?_;refine qD (qA ha) I I I (zh ?_);refine HR.cond I (fun h2=>?_) (fun h2=>?_)
 ·have hlt:k<a.length:=by have:=of_decide_eq_true h2;omega
  obtain ⟨x,hx⟩:=jG hlt;obtain ⟨y,hy⟩:=jG (show k<b.length by omega);refine zh ?_;refine qK j3 (by kernel_rfl) (zq ?_);refine qW (qA ha) j5 k I I I I hlt ?_;refine qj (qA ha) I I I I (jN hx) (zq ?_);refine qW (qA hb) j5 k I I I I (by omega) ?_;refine qj (qA hb) I I I I (jN hy) (zq ?_);refine HR.cond I (fun h3=>?_) (fun h3=>?_)
  ·refine zh ?_;refine HR.ret Tryz.func19 I [_] (fun _ _=>⟨I,trivial⟩) ?_;have:a≠b:=by rintro rfl;rw[hx]at hy;cases hy;simp at h3
   exact fun w' hw=>⟨by simp[this,ZJ],hw.jF⟩
  ·refine zh ?_;refine ih (k+1) _ _ ⟨hlt,?_⟩ (by omega) ⟨I,I,I,trivial⟩ Ent.refl;rw[jE hx,jE hy,hg];have hxy:x=y:=by simpa using h3
   rw[hxy]
 ·have hke:k=a.length:=by have:=of_decide_eq_false h2;omega
  subst hke;refine zh ?_;refine HR.ret Tryz.func19 I [_] (fun _ _=>⟨I,trivial⟩) ?_;have:a=b:=by rw[<- List.take_length (l:=a),hg,hl,List.take_length]
  exact fun w' hw=>⟨by simp[this,ZJ],hw.jF⟩
theorem jHZ (a b:List By) (va vb:Value) (w:World) (ha:Sl w va (cellsOf sC a) a.length) (hb:Sl w vb (cellsOf sC b) b.length) (hla:a.length<=8796093022208):
  Calls Tryz.prog 146 #[va,vb] w fun e' w'=>e'= .returned (.bool (decide (a=b)))/\Below w.heap.size w w':=by
 refine zE Tryz.func146 I [(0,va),(1,vb)] (zh ?_);refine qD (qA ha) I I I (zh ?_);refine qD (qA hb) I I I (zh ?_);refine HR.cond I (fun h1=>?_) (fun h1=>?_)
 ·refine zh ?_;refine HR.ret Tryz.func146 I [_] (fun _ _=>⟨I,trivial⟩) ?_;have:a≠b:=by rintro rfl;simp at h1
  exact fun w' hw=>⟨by simp[this,ZJ],hw.jF⟩
 have hl:a.length=b.length:=by have h1':((a.length:Int) != (b.length:Int))=false:=h1;simp at h1';omega
 refine zh ?_;refine HR.loop (ι:=Nat) (fun k=>k<=a.length/\a.take k=b.take k) (fun k=>[(0,va),(1,vb),(5,.int .i64 (k:Int))]) (fun _=>[]) (fun k=>a.length-k) 0 ⟨Nat.zero_le _,by simp⟩ ⟨I,I,I,trivial⟩ Ent.refl ?_
 rintro k ⟨hk,hg⟩ ih
 refine zh ?_;refine qD (qA ha) I I I (zh ?_);refine HR.cond I (fun h2=>?_) (fun h2=>?_)
 ·have hlt:k<a.length:=by have:=of_decide_eq_true h2;omega
  obtain ⟨x,hx⟩:=jG hlt;obtain ⟨y,hy⟩:=jG (show k<b.length by omega);refine zh ?_;refine qK j3 (by kernel_rfl) (zq ?_);refine qW (qA ha) ZB k I I I I hlt ?_;refine qj (qA ha) I I I I (jN hx) (zq ?_);refine qW (qA hb) ZB k I I I I (by omega) ?_;refine qj (qA hb) I I I I (jN hy) (zq ?_);refine HR.cond I (fun h3=>?_) (fun h3=>?_)
  ·refine zh ?_;refine HR.ret Tryz.func146 I [_] (fun _ _=>⟨I,trivial⟩) ?_;have:a≠b:=by rintro rfl;rw[hx]at hy;cases hy;simp at h3
   exact fun w' hw=>⟨by simp[this,ZJ],hw.jF⟩
  ·refine zh ?_;refine ih (k+1) _ _ ⟨hlt,?_⟩ (by omega) ⟨I,I,I,trivial⟩ Ent.refl;rw[jE hx,jE hy,hg];have hxy:x=y:=by simpa using h3
   rw[hxy]
 ·have hke:k=a.length:=by have:=of_decide_eq_false h2;omega
  subst hke;refine zh ?_;refine HR.ret Tryz.func146 I [_] (fun _ _=>⟨I,trivial⟩) ?_;have:a=b:=by rw[<- List.take_length (l:=a),hg,hl,List.take_length]
  exact fun w' hw=>⟨by simp[this,ZJ],hw.jF⟩
end Go.Proofs.YtgfdoognildoeaaGreat
namespace Me
open Go.GX Nd Tp
structure Mesh where
 tick:Int
 nodes:List Nd.Nd
def jNB:Mesh:=⟨0,[]⟩
abbrev Air:=Ra.Air
def idx (l:List Nd.Nd) (a:Int):Option Nat:=l.findIdx? fun n=>n.addr==a
def nth (l:List Nd.Nd) (i:Nat):Nd.Nd:=l.getD i nd0
def Jg (l:List Int) (i:Nat):Int:=match l[i]? with
 |none=>0
 |some a=>if okN a=false then 2 else if a∈l.take i then 9 else 0
def jCy (polls:List Int) (i:Nat):Int:=polls.getD i 0
def nodeAt (addrs polls:List Int) (i:Nat):Nd.Nd:=new (addrs.getD i 0) (jCy polls i)
def put (l:List Nd.Nd) (n:Nd.Nd):List Nd.Nd:=ins (fun x=>decide (x.addr<n.addr)) l n
def build (addrs polls:List Int):Nat->List Nd.Nd
 |0=>[]
 |k+1=>put (build addrs polls k) (nodeAt addrs polls k)
def jHK (addrs polls:List Int):Mesh×Int:=
 if addrs.length>24 then (jNB,3)
 else if jf (Jg addrs) addrs.length≠0 then (jNB,jf (Jg addrs) addrs.length)
 else (⟨0,build addrs polls addrs.length⟩,0)
def jFV (t:Int):Int:=max 0 (min t (jw-1))+1
def live (a:Air) (addr:Int):Bool:=!(Ra.check a==0)||!decide (addr∈a.o)
def phase1 (a:Air) (now:Int) (n:Nd.Nd):Nd.Nd:=if live a n.addr then Zb n now else n
def jFc (now:Int) (lv:Bool) (n:Nd.Nd):Nd.Nd×Fr×Bool:=if lv then talk n now else (n,fr0,false)
def Kn (f:Fr) (now:Int) (s:List Nd.Nd×Bool) (to:Int):List Nd.Nd×Bool:=match idx s.1 to with
 |none=>s
 |some k=>if awake (nth s.1 k) now then (s.1.set k (hear (nth s.1 k) now f),s.2||(to==f.dst))else s
def hears (f:Fr) (now:Int) (l:List Nd.Nd) (tos:List Int):List Nd.Nd×Bool:=tos.foldl (Kn f now) (l,false)
def told (a:Air) (now:Int) (l:List Nd.Nd) (i:Nat) (f:Fr):List Nd.Nd:=
 let h:=hears f now l (Ra.recv (Ra.san a) f)
 h.1.set i (result (nth h.1 i) f (Ra.jCC (Ra.san a) f&&(h.2||(f.dst==255))))
def jPP (a:Air) (now:Int) (l:List Nd.Nd) (i:Nat):Option (Fr×Bool)->List Nd.Nd
 |some (f,true)=>told a now l i f
 |_=>l
def tells (a:Air) (now:Int) (fs:List (Fr×Bool)):Nat->List Nd.Nd->List Nd.Nd
 |0,l=>l
 |k+1,l=>jPP a now (tells a now fs k l) k fs[k]?
def spoken (m:Mesh) (a:Air):List (Nd.Nd×Fr×Bool):=m.nodes.map fun n=>jFc (jFV m.tick) (live a n.addr) (phase1 a (jFV m.tick) n)
def jLD (m:Mesh) (a:Air):Mesh:=
 ⟨jFV m.tick,tells a (jFV m.tick) ((spoken m a).map (·.2)) m.nodes.length ((spoken m a).map (·.1))⟩
def jPG (l:List Nd.Nd) (to:Int):Nat->List Int->Int->List Int×Int
 |0,p,_=>(p,1)
 |k+1,p,now=>match idx l now with
  |none=>(p,1)
  |some i=>if now∈p then (p,2)else if now=to then (p++[now],0)
   else if (zy (nth l i).table to).2 then jPG l to k (p++[now]) (zy (nth l i).table to).1 else (p++[now],1)
def follow (l:List Nd.Nd) (src to:Int):List Int×Int:=jPG l to (l.length+2) [] src
def path (l:List Nd.Nd) (src to:Int):List Int×Bool:=if (follow l src to).2=0 then ((follow l src to).1,true)else ([],false)
def loops (l:List Nd.Nd):Bool:=l.any fun n=>n.table.any fun r=>(follow l n.addr r.dest).2==2
theorem jJn {α:Type} {dr ur:α->Bool} {q:List α} {x y:α} (h:y∈(jHJ dr ur q x).1):y∈q\/y=x:=by
 have hi:∀l:List α,(∀ z∈l,z∈q)->y∈ins ur l x->y∈q\/y=x:=by
  intro l hl h;unfold ins at h;rcases List.mem_append.1 h with h|h
  ·exact .inl (hl y ((List.takeWhile_sublist _).subset h))
  ·rcases List.mem_cons.1 h with h|h
   ·exact .inr h
   ·exact .inl (hl y ((List.dropWhile_sublist _).subset h))
 unfold jHJ at h
 split at h
 ·split at h
  ·exact .inl (List.mem_of_mem_take h)
  ·rcases List.mem_append.1 h with h|h
   ·exact .inl (List.mem_of_mem_take h)
   ·exact .inr (List.mem_singleton.1 h)
 ·split at h
  ·split at h
   ·exact .inl (List.mem_of_mem_take h)
   ·exact hi _ (fun z hz=>List.mem_of_mem_take (List.mem_of_mem_eraseIdx hz)) h
  ·exact hi _ (fun z hz=>List.mem_of_mem_take hz) h
theorem jQa {q:List Ma} {f:Fr} {now:Int} {s:Ma} (h:s∈(jB1 q f now).1):s∈q\/s.f=f:=by
 rcases jJn h with h|rfl
 ·exact .inl h
 ·exact .inr I
theorem jDQ {to now life:Int}:∀ {l:List Ma} {s:Fr×List Ma×Bool},(∀ m∈(l.foldl (J8 to now life) s).2.1,m∈l\/m∈s.2.1)/\((l.foldl (J8 to now life) s).2.2=true->s.2.2=true/\(l.foldl (J8 to now life) s).1=s.1\/∃m∈l,m.f=(l.foldl (J8 to now life) s).1)
 |[],s=>⟨fun m hm=> .inr hm,fun h=> .inl ⟨h,rfl⟩⟩
 |a::l,s=>by
  obtain ⟨h1,h2⟩:=jDQ (to:=to) (now:=now) (life:=life) (l:=l) (s:=J8 to now life s a);rw[List.foldl_cons];have hb:(J8 to now life s a=s)\/(J8 to now life s a=(a.f,s.2.1,true))\/(J8 to now life s a=(s.1,s.2.1++[a],s.2.2)):=by
   unfold J8;split
   ·exact .inl I
   ·split
    ·exact .inr (.inl I)
    ·exact .inr (.inr I)
  refine ⟨fun m hm=>?_,fun h=>?_⟩
  ·rcases h1 m hm with h|h
   ·exact .inl (List.mem_cons_of_mem _ h)
   ·rcases hb with e|e|e
    ·rw [e]at h;exact .inr h
    ·rw [e]at h;exact .inr h
    ·rw [e]at h;rcases List.mem_append.1 h with h|h
     ·exact .inr h
     ·exact .inl (by rw[List.mem_singleton.1 h];exact List.mem_cons_self ..)
  ·rcases h2 h with ⟨g1,g2⟩|⟨m,hm,e⟩
   ·rcases hb with e|e|e
    ·rw [e]at g1 g2 ⊢;exact .inl ⟨g1,g2⟩
    ·rw [e]at g2 ⊢;exact .inr ⟨a,List.mem_cons_self ..,g2.symm⟩
    ·rw [e]at g1 g2 ⊢;exact .inl ⟨g1,g2⟩
   ·exact .inr ⟨m,List.mem_cons_of_mem _ hm,e⟩
theorem jN8 {l:List Ma} {to now life:Int} {m:Ma} (h:m∈(Js l to now life).2.1):m∈l:=by
 unfold Js at h;rcases (jDQ).1 m h with h|h
 ·exact List.mem_of_mem_take h
 ·cases h
theorem jQZ {l:List Ma} {to now life:Int} (h:(Js l to now life).2.2=true):∃m∈l,m.f=(Js l to now life).1:=by
 unfold Js at h ⊢;rcases (jDQ).2 h with ⟨h,_⟩|⟨m,hm,e⟩
 ·cases h
 ·exact ⟨m,List.mem_of_mem_take hm,e⟩
def Knows (t:List Ro) (q:Ro):Prop:=∃s∈t,s.dest=q.dest/\(s.sq>q.sq\/(s.sq=q.sq/\s.cost<=q.cost))
def jR9 (t:List Ro) (q:Ro):Prop:=∃s∈t,s.dest=q.dest/\(s.sq>q.sq\/(s.sq=q.sq/\s.cost<q.cost))
structure Ctx where
 D:Fr->Prop
 K:List Pt->Prop
 M:Int->De->Prop
 hD:∀(f:Fr) (fr dst hp:Int),D f->D { f with fr:=fr,dst:=dst,hp:=hp }
 hK:∀(l:List Pt) (f:Fr) (now:Int),K l->D f->(jDb l f.so now f.da).e=0->K (jDb l f.so now f.da).l/\((jDb l f.so now f.da).ok=true->M f.ta ⟨f.so,(jDb l f.so now f.da).t⟩)
 hE:∀(l:List Pt) (now life:Int),K l->K (jAr l now life)
 hN:K []
structure Sound (C:Ctx) (a:Int) (t:List Ro) (f:Fr):Prop where
 bea:f.kd=1->f.fr=a/\∀q∈(jAp f.da).1,Knows t q
 pol:f.kd=3->f.fr=a/\Knows t ⟨a,f.sq,0,0⟩
 dat:f.kd=2->C.D f
section
variable {C : Ctx} {R : Ro -> Prop} {n m : Nd.Nd}
theorem ko {a poll:Int} (h:okN a=true):(new a poll).addr=a/\(new a poll).out=[]/\(new a poll).boxes=[]/\(new a poll).parts=[]/\(new a poll).inbox=[]/\(new a poll).table=[jHg a]:=by
 rw[zL]at h;have hc:clamp a 0 250=a:=by unfold clamp;omega
 refine ⟨hc,rfl,rfl,rfl,rfl,?_⟩;show (if KR [] (clamp a 0 250)=0 then []else [jHg (clamp a 0 250)])=_;rw[hc,if_neg];unfold KR;rw[if_neg (by decide),if_neg (by rw[(zL a).2 h];decide)]
 simp[jf]
end
structure Inv (C:Ctx) (l:List Nd.Nd):Prop where
 ord:∀x∈l,Ord x
 dis:∀(i j:Nat) (x y:Nd.Nd),l[i]? =some x->l[j]? =some y->x.addr=y.addr->i=j
 rt:∀x∈l,∀r∈x.table,r.dest≠x.addr->fin r=true->∀y∈l,y.addr=r.nx->jR9 y.table r
 out:∀x∈l,∀s∈x.out,Sound C x.addr x.table s.f
 bx:∀x∈l,∀b∈x.boxes,b.f.kd=2/\C.D b.f
 pt:∀x∈l,C.K x.parts
 ib:∀x∈l,∀d∈x.inbox,C.M x.addr d
theorem jSV {l:List Nd.Nd} {k:Nat} (hk:k<l.length):l[k]? =some (nth l k):=by
 unfold nth;rw[List.getD_eq_getElem?_getD,List.getElem?_eq_getElem hk];rfl
theorem jCU {l:List Nd.Nd} {a:Int} {k:Nat} (h:idx l a=some k):l[k]? =some (nth l k)/\(nth l k).addr=a:=by
 obtain ⟨h1,h2,_⟩:=List.findIdx?_eq_some_iff_getElem.1 h;have:=jSV h1;refine ⟨this,?_⟩;rw[List.getElem?_eq_getElem h1]at this;rw[<- Option.some.inj this]
 simpa using h2
theorem jP7 {l:List Nd.Nd} {a:Int} (h:idx l a=none):∀x∈l,x.addr≠a:=by
 intro x hx e;have:=List.findIdx?_eq_none_iff.1 h x hx
 simp[e]at this
theorem jNY {l:List Nd.Nd} {x:Nd.Nd} (hx:x∈l):∃k,idx l x.addr=some k:=by
 cases h:idx l x.addr with
 |some k=>exact ⟨k,rfl⟩
 |none=>exact absurd I (jP7 h x hx)
theorem asc_one {t:List Ro} (h:Asc (·.dest) t) {r s:Ro} (hr:r∈t) (hs:s∈t) (e:r.dest=s.dest):r=s:=by
 obtain ⟨i,hi⟩:=List.getElem?_of_mem hr;obtain ⟨j,hj⟩:=List.getElem?_of_mem hs;rcases Nat.lt_trichotomy i j with hij|rfl|hij
 ·have:=h.lt hij hi hj;omega
 ·rw [hi]at hj;cases hj;rfl
 ·have:=h.lt hij hj hi;omega
theorem jRA {t:List Ro} {d:Int} (h:(zy t d).2=true):∃r∈t,r.dest=d/\fin r=true/\(zy t d).1=r.nx:=by
 unfold zy at h ⊢
 split at h
 ·rename_i r hr
  split at h
  ·rename_i hf
   exact ⟨r,List.mem_of_find?_eq_some hr,by simpa using List.find?_some hr,hf,by rw[if_pos hf]⟩
  ·cases h
 ·cases h
theorem jNk {C:Ctx} {l:List Nd.Nd} (h:Inv C l) (to:Int):∀(k:Nat) (p:List Int) (now:Int),
  (∀ b∈p,b≠to/\∃y∈l,y.addr=b/\∃r∈y.table,r.dest=to/\∀z∈l,z.addr=now->jR9 z.table r)->(jPG l to k p now).2≠2
 |0,p,now,_=>fun e=>absurd (show (1:Int)=2 from e) (by decide)
 |k+1,p,now,hp=>by
  unfold jPG
  split
  ·exact fun e=>absurd (show (1:Int)=2 from e) (by decide)
  ·rename_i i hi
   obtain ⟨h1,h2⟩:=jCU hi;have hm:=List.mem_of_getElem? h1
   split
   ·rename_i hin
    exfalso
    obtain ⟨_,y,hy,e,r,hr,hd,ha⟩:=hp now hin;obtain ⟨s,hs,e1,e2⟩:=ha y hy e;have:=asc_one (h.ord y hy).table.asc hs hr e1;subst this;omega
   ·split
    ·exact fun e=>absurd (show (0:Int)=2 from e) (by decide)
    ·rename_i hto
     split
     ·rename_i hh
      obtain ⟨r,hr,hd,hf,hn⟩:=jRA hh;have hab:∀z∈l,z.addr=(zy (nth l i).table to).1->jR9 z.table r:=fun z hz e=>h.rt _ hm r hr (by rw[hd,h2];exact fun e=>hto e.symm) hf z hz (e.trans hn)
      refine jNk h to k _ _ fun b hb=>?_
      rcases List.mem_append.1 hb with hb|hb
      ·obtain ⟨g1,y,hy,e,q,hq,hqd,ha⟩:=hp b hb;refine ⟨g1,y,hy,e,q,hq,hqd,fun z hz ez=>?_⟩;obtain ⟨s,hs,e1,e2⟩:=ha _ hm h2;have:=asc_one (h.ord _ hm).table.asc hs hr (by rw[e1,hqd,hd]);subst this;obtain ⟨u,hu,u1,u2⟩:=hab z hz ez;exact ⟨u,hu,by rw[u1,e1],by omega⟩
      ·rw [List.mem_singleton.1 hb];exact ⟨hto,_,hm,h2,r,hr,hd,hab⟩
     ·exact fun e=>absurd (show (1:Int)=2 from e) (by decide)
theorem Inv.jPu {C:Ctx} {l:List Nd.Nd} (h:Inv C l):loops l=false:=by
 unfold loops;rw[<- Bool.not_eq_true,List.any_eq_true]
 rintro ⟨n,hn,h2⟩
 obtain ⟨r,hr,h3⟩:=List.any_eq_true.1 h2;have:=jNk h r.dest (l.length+2) [] n.addr fun b hb=>by cases hb
 exact this (by simpa[follow]using h3)
theorem jP6 {α:Type} (p:α->Bool) (l:List α) (x:α):(ins p l x).Perm (x::l):=by
 unfold ins;have:=List.perm_middle (a:=x) (l₁:=l.takeWhile p) (l₂:=l.dropWhile p)
 rwa[List.takeWhile_append_dropWhile]at this
theorem jAM (addrs polls:List Int):∀k,(build addrs polls k).Perm ((List.range k).map (nodeAt addrs polls))
 |0=>List.Perm.refl _
 |k+1=>by
  unfold build put;refine (jP6 _ _ _).trans ?_;rw[List.range_succ,List.map_append];exact ((jAM addrs polls k).cons _).trans (List.perm_append_singleton _ _).symm
theorem jQh {addrs:List Int} (h:jf (Jg addrs) addrs.length=0):(∀ a∈addrs,okN a=true)/\addrs.Nodup:=by
 have key:∀(i:Nat) (a:Int),addrs[i]? =some a->okN a=true/\a ∉ addrs.take i:=by
  intro i a hi;have h1:=zX h i (List.getElem?_eq_some_iff.1 hi).1;unfold Jg at h1;rw[hi]at h1;simp only at h1
  split at h1
  ·cases h1
  ·rename_i h2
   split at h1
   ·cases h1
   ·rename_i h3
    exact ⟨by cases e:okN a;exact absurd e h2;rfl,h3⟩
 refine ⟨fun a ha=>?_,?_⟩
 ·obtain ⟨i,hi⟩:=List.getElem?_of_mem ha;exact (key i a hi).1
 ·refine List.pairwise_iff_getElem.2 fun i j hi hj hij e=>?_
  refine (key j addrs[j] (List.getElem?_eq_getElem hj)).2 ?_;rw[<- e];exact List.mem_of_getElem? (i:=i) (by rw[List.getElem?_take_of_lt hij,List.getElem?_eq_getElem hi])
theorem jTb {l:List Nd.Nd} (h:(l.map (·.addr)).Nodup):∀(i j:Nat) (x y:Nd.Nd),l[i]? =some x->l[j]? =some y->x.addr=y.addr->i=j:=by
 intro i j x y hi hj e;have hi':(l.map (·.addr))[i]? =some x.addr:=by rw[List.getElem?_map,hi];rfl
 have hj':(l.map (·.addr))[j]? =some y.addr:=by rw[List.getElem?_map,hj];rfl
 exact (List.getElem?_inj (List.getElem?_eq_some_iff.1 hi').1 h).1 (by rw[hi',hj',e])
theorem jN6 {C:Ctx} {addrs polls:List Int} (h:jf (Jg addrs) addrs.length=0):Inv C (build addrs polls addrs.length)/\(build addrs polls addrs.length).length=addrs.length:=by
 obtain ⟨h1,h2⟩:=jQh h;have hp:=jAM addrs polls addrs.length;have hat:∀k,k<addrs.length->okN (addrs.getD k 0)=true:=fun k hk=>by
  rw[List.getD_eq_getElem?_getD,List.getElem?_eq_getElem hk];exact h1 _ (List.getElem_mem hk)
 have hx:∀x∈build addrs polls addrs.length,∃a p,okN a=true/\x=new a p:=fun x hx=>by
  obtain ⟨k,hk,rfl⟩:=List.mem_map.1 (hp.mem_iff.1 hx);exact ⟨_,_,hat k (List.mem_range.1 hk),rfl⟩
 have ha:((List.range addrs.length).map (nodeAt addrs polls)).map (·.addr)=addrs:=by
  refine List.ext_getElem? fun k=>?_
  rw[List.map_map,List.getElem?_map]
  by_cases hk:k<addrs.length
  ·rw [List.getElem?_range hk,List.getElem?_eq_getElem hk];show some (new (addrs.getD k 0) (jCy polls k)).addr=some addrs[k];rw[(ko (hat k hk)).1,List.getD_eq_getElem?_getD,List.getElem?_eq_getElem hk];rfl
  ·rw [List.getElem?_eq_none (by simpa using hk),List.getElem?_eq_none (by simpa using hk)];rfl
 have hd:((build addrs polls addrs.length).map (·.addr)).Nodup:=by
  refine (hp.map (·.addr)).nodup_iff.2 ?_;rw[ha];exact h2
 refine ⟨⟨fun x hm=>?_,jTb hd,fun x hm r hr hne=>?_,fun x hm s hs=>?_,fun x hm s hs=>?_,fun x hm=>?_,fun x hm s hs=>?_⟩,by rw[hp.length_eq];simp⟩
 all_goals obtain ⟨a,p,hok,rfl⟩:=hx x hm
 all_goals obtain ⟨e1,e2,e3,e4,e5,e6⟩:=ko (poll:=p) hok
 ·exact JJ _
 ·rw [e6,List.mem_singleton]at hr;subst hr;rw[e1]at hne;exact absurd I hne
 ·rw [e2]at hs;cases hs
 ·rw [e3]at hs;cases hs
 ·rw [e4];exact C.hN
 ·rw [e5]at hs;cases hs
theorem Inv.new {C:Ctx} {addrs polls:List Int} (h:(jHK addrs polls).2=0):Inv C (jHK addrs polls).1.nodes/\(jHK addrs polls).1.tick=0/\(jHK addrs polls).1.nodes.length=addrs.length:=by
 unfold jHK at h ⊢
 split at h
 ·cases h
 ·rename_i h1
  rw[if_neg h1]
  split at h
  ·rename_i h2;exact absurd h h2
  ·rename_i h2
   rw[if_neg h2];obtain ⟨g1,g2⟩:=jN6 (C:=C) (polls:=polls) (Decidable.not_not.1 h2);exact ⟨g1,rfl,g2⟩
end Me
namespace Go.Proofs.YtgfdoognildoeaaGreat
open Go.GX Go.RowKit
attribute [local irreducible] Calls Run JH JL zU HR HL HD jS jM ZN Rd jg Jf
open Nd Me
theorem ptsm0:PtSm []:=⟨Nat.zero_le _,fun p hp=>by cases hp⟩
def ctx0:Ctx where
 D f:=f.da.length<=1000
 K:=PtSm
 M _ _:=True
 hD _ _ _ _ h:=h
 hK _ _ _ _ hd he:=⟨jMy hd he,fun _=>trivial⟩
 hE l now life _:=jMu l now life
 hN:=ptsm0
end Go.Proofs.YtgfdoognildoeaaGreat
namespace Go.Proofs.YtgfdoognildoeaaGreat
open Go.GX Go.RowKit
attribute [local irreducible] Calls Run JH JL zU HR HL HD jS jM ZN Rd jg Jf
open Nd
abbrev ZF (p:NV×Nd):List Value:=ndC p.1 p.2
theorem jh (p:NV×Nd):(ZF p).length=13:=rfl
theorem jJ0 (p:NV×Nd):Ju (ZF p)=true:=rfl
theorem JQ:Elem Tryz.prog 24 62 13 232:=⟨rfl,⟨_,_,rfl,rfl,rfl,rfl,rfl⟩,by decide⟩
structure OkL (w:World) (v:Value) (xs:List (NV×Nd)):Prop where
 s:Sl w v (cellsOf ZF xs) xs.length
 r:∀x∈xs,OkN w x.1 x.2
theorem OkL.ext {w w':World} {v:Value} {xs:List (NV×Nd)} (h:OkL w v xs) (hb:Below w.heap.size w w'):OkL w' v xs:=⟨h.s.ext hb,fun x hx=>(h.r x hx).ext hb⟩
abbrev nds (xs:List (NV×Nd)):List Nd:=xs.map (·.2)
theorem fn148:IsFn Tryz.prog 148:=zF Tryz.func148 I
theorem fn204:IsFn Tryz.prog 204:=zF Tryz.func204 I
theorem fn35:IsFn Tryz.prog 35:=zF Tryz.func35 I
theorem fn71:IsFn Tryz.prog 71:=zF Tryz.func71 I
theorem fn28:IsFn Tryz.prog 28:=zF Tryz.func28 I
theorem jLb (l:List Int) (v:Value) (w:World) (hv:Sl w v (cellsOf iC l) l.length) (hl:l.length<=1000):
  Calls Tryz.prog 148 #[v] w fun e w'=>∃v',e= .returned v'/\Sat (base w) [jM v' 3 1 l.length (cellsOf iC l)] w':=by
 obtain ⟨a,c,rfl,_⟩:=hv.2;refine zE Tryz.func148 I [(0,.slice a l.length c)] (zh ?_);refine QW I I I I (zh ?_);refine HR.cond I (fun h=>?_) (fun h=>?_)
 ·have ha:a=none:=by simpa using h
  have hz:l=[]:=by
   subst ha;rcases hv.1 with ⟨_,h0,_⟩|⟨b,off,cap,he,_⟩
   ·exact List.eq_nil_of_length_eq_zero h0
   ·cases he
  subst hz;refine zh ?_;refine HR.J6 3 1 (HR.ret Tryz.func148 I [_] (fun _ _=>⟨I,trivial⟩) ?_)
  exact fun w' hw=>⟨.slice none 0 0,rfl,hw⟩
 ·refine zh ?_;refine qh j5 I ?_;intro v1;refine zh ?_;refine qJ 0 I j5 (qA hv) I I I (jA KP _) (jR jQu _) (by omega) (by omega) ?_;intro v2;refine zh ?_;refine HR.ret Tryz.func148 I [_] (fun _ _=>⟨I,trivial⟩) ?_
  exact fun w' hw=>⟨v2,rfl,qC (Nat.zero_add _) (List.nil_append _) w' hw⟩
theorem jJH (l:List PtV) (v:Value) (w:World) (hv:Sl w v (cellsOf ptC l) l.length) (hsh:∀p∈l,kR p) (hl:l.length<=1000):
  Calls Tryz.prog 204 #[v] w fun e w'=>∃v',e= .returned v'/\Sat (base w) [jM v' 173 6 l.length (cellsOf ptC l)] w':=by
 obtain ⟨a,c,rfl,_⟩:=hv.2;refine zE Tryz.func204 I [(0,.slice a l.length c)] (zh ?_);refine QW I I I I (zh ?_);refine HR.cond I (fun h=>?_) (fun h=>?_)
 ·have ha:a=none:=by simpa using h
  have hz:l=[]:=by
   subst ha;rcases hv.1 with ⟨_,h0,_⟩|⟨b,off,cap,he,_⟩
   ·exact List.eq_nil_of_length_eq_zero h0
   ·cases he
  subst hz;refine zh ?_;refine HR.J6 173 6 (HR.ret Tryz.func204 I [_] (fun _ _=>⟨I,trivial⟩) ?_)
  exact fun w' hw=>⟨.slice none 0 0,rfl,hw⟩
 ·refine zh ?_;refine qh jX I ?_;intro v1;refine zh ?_;refine qJ 0 I jX (qA hv) I I I (jA jY _) (jMf hsh) (by omega) (by omega) ?_;intro v2;refine zh ?_;refine HR.ret Tryz.func204 I [_] (fun _ _=>⟨I,trivial⟩) ?_
  exact fun w' hw=>⟨v2,rfl,qC (Nat.zero_add _) (List.nil_append _) w' hw⟩
theorem jNV (l:List (NV×Nd)) (x:(NV×Nd)) (i:Nat) (v va:Value) (B0:Base) (w:World) (hw0:Sat B0 [jM va 62 13 1 (ZF x),jM v 62 13 l.length (cellsOf ZF l)] w) (hi:i<=l.length) (hl:l.length<=1000):
  Calls Tryz.prog 35 #[v,.int .i64 (i:Int),va] w fun e w'=>∃r:Value,e= .returned r/\True/\Sat ⟨w,zN [jM va 62 13 1 (ZF x),jM v 62 13 l.length (cellsOf ZF l)]⟩ [jM r 62 13 (l.take i++x::l.drop i).length (cellsOf ZF (l.take i++x::l.drop i))] w':=by
 obtain ⟨ga,oa,ca,rfl,hnca,hcma⟩:=Qd (Sat.vw hw0 (i:=0) I) (by decide);have hlen:(l.take i++x::l.drop i).length=l.length+1:=by simp;omega
 have hcl:(cellsOf ZF l).length=l.length*13:=jA jh l;have hcells:cellsOf ZF (l.take i++x::l.drop i)=(cellsOf ZF l).take (i*13)++ZF x++(cellsOf ZF l).drop (i*13):=by
  rw[JC jh,jo jh,jL,List.append_assoc];rfl
 have ha1:∀u∈cellsOf ZF l,u.oneCell'=true:=jR jJ0 _;refine jc [jM (.slice (some ⟨ga,oa,none⟩) 1 ca) 62 13 1 (ZF x),jM v 62 13 l.length (cellsOf ZF l)] (hw0) Tryz.func35 I (Nat.le_of_ble_eq_true I) (HR.sub (σ':=[(0,v),(1,.int .i64 (i:Int)),(2,.slice (some ⟨ga,oa,none⟩) 1 ca)]) ⟨I,I,I,trivial⟩ (zh ?_));refine qX (sz:=13) i l.length (Rd.own 1 I) I I I I (.inr ⟨_,_,_,rfl,rfl,rfl⟩) (.inl ⟨rfl,rfl⟩) hi (Nat.le_refl _) (zh ?_);refine qD (Rd.own 1 I) I I I (zh ?_);refine HR.cond I (fun h=>?_) (fun h=>?_)
 ·have hil:i=l.length:=by have:=eq_of_beq h;omega
  refine zh ?_;refine qJ 1 I JQ (Rd.own 0 I) I I I I (jH I) (by omega) (by omega) ?_;intro v2;refine zh ?_;refine HR.ret Tryz.func35 I [_] (fun _ _=>⟨I,trivial⟩) ?_;refine fun w' hw=>⟨_,rfl,trivial,qC ?_ ?_ w' (hw.pick [1] I rfl)⟩
  ·rw [hlen]
  ·subst hil;rw[hcells,List.take_of_length_le (by omega),List.drop_eq_nil_of_le (by omega),List.append_nil]
 have hlt:i<l.length:=by have h:((i:Int)==(l.length:Int))=false:=h;simp at h;omega
 refine Qi 1 I (by omega) fun g off c hv hnc hcm=>?_
 subst hv;have hcm:c<=9223372036854775807:=hcm;refine zh ?_;refine Q5 I I I (zh ?_);refine HR.cond I (fun h2=>?_) (fun h2=>?_)
 ·have hc:c<l.length+1:=by have:=of_decide_eq_true h2;omega
  refine zh ?_;refine qX (sz:=13) 0 i (Rd.own 1 I) I I I I (.inl ⟨rfl,rfl⟩) (.inr ⟨_,_,_,rfl,rfl,rfl⟩) (Nat.zero_le _) hi (zh ?_);refine Qf i (l.length+1-i) 1 I JQ I I I I I (by omega) hi (by omega) hnc (by omega) (by omega) (by omega) ?_;intro v2;have hN:i+(l.length+1-i)=l.length+1:=by omega
  rw[hN];refine Qs 0 I (by omega) fun g2 o2 c2 hv2 hnc2 hcm2=>?_
  subst hv2;refine zh ?_;refine qX (sz:=13) i (l.length+1) (Rd.own 0 I) I I I I (.inr ⟨_,_,_,rfl,rfl,rfl⟩) (.inl ⟨rfl,rfl⟩) (by omega) (Nat.le_refl _) (zh ?_);refine qx i 1 0 I (Rd.own 1 I) I I I I I I (jH I) (Nat.min_eq_left (by omega)) (by decide) (zh ?_);refine qO [(0,true),(1,true),(2,true),(3,true),(4,true),(5,true),(6,true),(7,true),(8,false)] [] I I j3 (by kernel_rfl) ?_
  repeat' (first|refine QM I I I ?_|refine QK I I I (by first|omega|(simp;done)|(simp;omega)) ?_|refine HD.cut (sz:=13) (i+1) (l.length+1) c2 I I I I I (.inr ⟨_,_,rfl,rfl⟩) (.inl ⟨rfl,rfl,rfl⟩) (.inl ⟨rfl,rfl⟩) (by omega) hnc2 (Nat.le_refl _) ?_|refine HD.cut (sz:=13) i l.length c I I I I I (.inr ⟨_,_,rfl,rfl⟩) (.inl ⟨rfl,rfl,rfl⟩) (.inl ⟨rfl,rfl⟩) hi hnc (Nat.le_refl _) ?_|(refine HD.one I ?_;first|refine QT I I ?_|refine qx (i+1) (l.length-i) 0 I (Rd.sub (Rd.own 2 I) hcl hi (Nat.le_refl _)) I I I I I (by rw[List.length_take,List.length_drop,hcl];omega) (fun u hu=>ha1 u (List.mem_of_mem_drop (List.mem_of_mem_take (List.mem_of_mem_take hu)))) (Nat.min_eq_left (by omega)) (by omega) ?_|(refine qm ?_;first|refine qZ 0 I I I I ?_|refine qZ 1 I I I I ?_|refine qZ 2 I I I I ?_|refine qZ 3 I I I I ?_)|(refine qb ?_;first|refine qV 0 I I I I I ?_|refine qV 1 I I I I I ?_|refine qV 2 I I I I I ?_|refine qV 3 I I I I I ?_)|(refine HL.alloc I I ?_;intro bk))|refine HL.back [] rfl rfl ?_|refine HD.nil ?_|fail)
  refine zh ?_;refine HR.ret Tryz.func35 I [_] (fun _ _=>⟨I,trivial⟩) ?_;refine fun w' hw=>⟨_,rfl,trivial,qC ?_ ?_ w' (hw.pick [0] I rfl)⟩
  ·rw [hlen]
  ·rw [hcells,<- jA4 (xs:=cellsOf ZF l) (X:=ZF x) (Z:=(List.replicate (l.length+1-i) (ZF (V0,nd0))).flatten) (p:=i*13) (q:=13) (s:=(l.length-i)*13) (by rw[hcl];omega) I (by rw[je];simp;omega)];rw[show (i+1)*13=i*13+13 by omega];rfl
 ·have hc:l.length+1<=c:=by have:=of_decide_eq_false h2;omega
  refine zh ?_;refine Q0 (sz:=13) (l.length+1) 1 I I I I I I I (by omega) hc ?_;intro junk hj;refine zh ?_;refine HL.cut (sz:=13) (i+1) (l.length+1) c I I I I (.inr ⟨_,_,rfl,rfl⟩) (.inl ⟨rfl,rfl,rfl⟩) (.inl ⟨rfl,rfl⟩) (by omega) hc (Nat.le_refl _) ?_;refine QZ (zk (by omega)) (yO 0 1 I I (by decide) I I I (tS:=24) (tR:=4) I I (by omega) (by decide) I (by kernel_rfl) (by kernel_rfl) (by kernel_rfl) (by kernel_rfl) (zh ?_));refine qO [(0,true),(1,true),(2,true),(3,true),(4,true),(5,true),(6,true),(7,true),(8,false)] [] I I j3 (by kernel_rfl) ?_
  repeat' (first|refine QM I I I ?_|refine QK I I I (by first|omega|(simp;done)|(simp;omega)) ?_|refine HD.cut (sz:=13) (i+1) (l.length+1) c I I I I I (.inr ⟨_,_,rfl,rfl⟩) (.inl ⟨rfl,rfl,rfl⟩) (.inl ⟨rfl,rfl⟩) (by omega) hc (Nat.le_refl _) ?_|refine HD.cut (sz:=13) i (l.length+1) c I I I I I (.inr ⟨_,_,rfl,rfl⟩) (.inl ⟨rfl,rfl,rfl⟩) (.inl ⟨rfl,rfl⟩) (by omega) hc (Nat.le_refl _) ?_|(refine HD.one I ?_;first|refine QT I I ?_|refine qx (i+1) (l.length-i) 1 I (Rd.sub (sz:=13) (l:=i) (h:=l.length+1) (Rd.own 1 I) (by rw[List.length_append,hcl,hj];omega) (by omega) (Nat.le_refl _)) I I I I I (by rw[List.length_take,List.length_drop,List.length_append,hcl,hj];omega) (fun u hu=>ha1 u (KT (p:=i*13) (s:=(l.length-i)*13) (u:=(l.length+1-i)*13) (by rw[hcl];omega) (by omega) hu)) (show min (l.length+1-i) (l.length+1-(i+1))=l.length-i by omega) (by omega) ?_|(refine qm ?_;first|refine qZ 0 I I I I ?_|refine qZ 1 I I I I ?_|refine qZ 2 I I I I ?_|refine qZ 3 I I I I ?_)|(refine qb ?_;first|refine qV 0 I I I I I ?_|refine qV 1 I I I I I ?_|refine qV 2 I I I I I ?_|refine qV 3 I I I I I ?_)|(refine HL.alloc I I ?_;intro bk))|refine HL.back [] rfl rfl ?_|refine HD.nil ?_|fail)
  refine zh ?_;refine qX (sz:=13) i (l.length+1) (Rd.own 1 I) I I I I (.inr ⟨_,_,_,rfl,rfl,rfl⟩) (.inl ⟨rfl,rfl⟩) (by omega) (Nat.le_refl _) (zh ?_);refine qx i 1 1 I (Rd.own 0 I) I I I I I I (jH I) (Nat.min_eq_left (by omega)) (by decide) (zh ?_);refine HR.ret Tryz.func35 I [_] (fun _ _=>⟨I,trivial⟩) ?_;refine fun w' hw=>⟨_,rfl,trivial,qC ?_ ?_ w' (hw.pick [1] I rfl)⟩
  ·rw [hlen]
  ·rw [hcells,<- Km (xs:=cellsOf ZF l) (X:=ZF x) (J:=junk) (p:=i*13) (q:=13) (s:=(l.length-i)*13) (u:=(l.length+1-i)*13) (by rw[hcl];omega) I (by rw[hj];omega) (by omega)];rw[show (i+1)*13=i*13+13 by omega]
theorem jFn (a b:List Ro) (va vb:Value) (w:World) (ha:Sl w va (cellsOf roC a) a.length) (hb:Sl w vb (cellsOf roC b) b.length) (hla:a.length<=1000000):
  Calls Tryz.prog 71 #[va,vb] w fun e' w'=>e'= .returned (.bool (decide (a=b)))/\Below w.heap.size w w':=by
 refine zE Tryz.func71 I [(0,va),(1,vb)] (zh ?_);refine qD (qA ha) I I I (zh ?_);refine qD (qA hb) I I I (zh ?_);refine HR.cond I (fun h1=>?_) (fun h1=>?_)
 ·refine zh ?_;refine HR.ret Tryz.func71 I [_] (fun _ _=>⟨I,trivial⟩) ?_;have:a≠b:=by rintro rfl;simp at h1
  exact fun w' hw=>⟨by simp[this,ZJ],hw.jF⟩
 have hl:a.length=b.length:=by have h1':((a.length:Int) != (b.length:Int))=false:=h1;simp at h1';omega
 refine zh ?_;refine HR.loop (ι:=Nat) (fun k=>k<=a.length/\a.take k=b.take k) (fun k=>[(0,va),(1,vb),(5,.int .i64 (k:Int))]) (fun _=>[]) (fun k=>a.length-k) 0 ⟨Nat.zero_le _,by simp⟩ ⟨I,I,I,trivial⟩ Ent.refl ?_
 rintro k ⟨hk,hg⟩ ih
 refine zh ?_;refine qD (qA ha) I I I (zh ?_);refine HR.cond I (fun h2=>?_) (fun h2=>?_)
 ·have hlt:k<a.length:=by have:=of_decide_eq_true h2;omega
  obtain ⟨x,hx⟩:=jG hlt;obtain ⟨y,hy⟩:=jG (show k<b.length by omega);refine zh ?_;refine qK j3 (by kernel_rfl) (zq ?_);refine qW (qA ha) jZ k I I I I hlt ?_;refine qy (qA ha) I I I I (by simp) I (jD jP hx) (zq ?_);refine qW (qA hb) jZ k I I I I (by omega) ?_;refine qy (qA hb) I I I I (by simp) I (jD jP hy) ?_;refine Qg I (by kernel_rfl) (by kernel_rfl) I I I (zq ?_);refine HR.cond I (fun h3=>?_) (fun h3=>?_)
  ·refine zh ?_;refine HR.ret Tryz.func71 I [_] (fun _ _=>⟨I,trivial⟩) ?_;have:a≠b:=by rintro rfl;rw[hx]at hy;cases hy;simp at h3
   exact fun w' hw=>⟨by simp[this,ZJ],hw.jF⟩
  ·refine zh ?_;refine ih (k+1) _ _ ⟨hlt,?_⟩ (by omega) ⟨I,I,I,trivial⟩ Ent.refl;rw[jE hx,jE hy,hg];have hxy:x=y:=by
    obtain ⟨a1,a2,a3,a4⟩:=x;obtain ⟨b1,b2,b3,b4⟩:=y
    simp at h3
    simp[h3]
   rw[hxy]
 ·have hke:k=a.length:=by have:=of_decide_eq_false h2;omega
  subst hke;refine zh ?_;refine HR.ret Tryz.func71 I [_] (fun _ _=>⟨I,trivial⟩) ?_;have:a=b:=by rw[<- List.take_length (l:=a),hg,hl,List.take_length]
  exact fun w' hw=>⟨by simp[this,ZJ],hw.jF⟩
theorem jFo (a b:List De) (va vb:Value) (w:World) (ha:Sl w va (cellsOf deC a) a.length) (hb:Sl w vb (cellsOf deC b) b.length) (hla:a.length<=1000000):
  Calls Tryz.prog 28 #[va,vb] w fun e' w'=>e'= .returned (.bool (decide (a=b)))/\Below w.heap.size w w':=by
 refine zE Tryz.func28 I [(0,va),(1,vb)] (zh ?_);refine qD (qA ha) I I I (zh ?_);refine qD (qA hb) I I I (zh ?_);refine HR.cond I (fun h1=>?_) (fun h1=>?_)
 ·refine zh ?_;refine HR.ret Tryz.func28 I [_] (fun _ _=>⟨I,trivial⟩) ?_;have:a≠b:=by rintro rfl;simp at h1
  exact fun w' hw=>⟨by simp[this,ZJ],hw.jF⟩
 have hl:a.length=b.length:=by have h1':((a.length:Int) != (b.length:Int))=false:=h1;simp at h1';omega
 refine zh ?_;refine HR.loop (ι:=Nat) (fun k=>k<=a.length/\a.take k=b.take k) (fun k=>[(0,va),(1,vb),(5,.int .i64 (k:Int))]) (fun _=>[]) (fun k=>a.length-k) 0 ⟨Nat.zero_le _,by simp⟩ ⟨I,I,I,trivial⟩ Ent.refl ?_
 rintro k ⟨hk,hg⟩ ih
 refine zh ?_;refine qD (qA ha) I I I (zh ?_);refine HR.cond I (fun h2=>?_) (fun h2=>?_)
 ·have hlt:k<a.length:=by have:=of_decide_eq_true h2;omega
  obtain ⟨x,hx⟩:=jG hlt;obtain ⟨y,hy⟩:=jG (show k<b.length by omega);refine zh ?_;refine qK j3 (by kernel_rfl) (zq ?_);refine qW (qA ha) jAb k I I I I hlt ?_;refine qy (qA ha) I I I I (by simp) I (jD jAh hx) (zq ?_);refine qW (qA hb) jAb k I I I I (by omega) ?_;refine qy (qA hb) I I I I (by simp) I (jD jAh hy) ?_;refine Qg I (by kernel_rfl) (by kernel_rfl) I I I (zq ?_);refine HR.cond I (fun h3=>?_) (fun h3=>?_)
  ·refine zh ?_;refine HR.ret Tryz.func28 I [_] (fun _ _=>⟨I,trivial⟩) ?_;have:a≠b:=by rintro rfl;rw[hx]at hy;cases hy;simp at h3
   exact fun w' hw=>⟨by simp[this,ZJ],hw.jF⟩
  ·refine zh ?_;refine ih (k+1) _ _ ⟨hlt,?_⟩ (by omega) ⟨I,I,I,trivial⟩ Ent.refl;rw[jE hx,jE hy,hg];have hxy:x=y:=by
    obtain ⟨a1,a2⟩:=x;obtain ⟨b1,b2⟩:=y
    simp at h3
    simp[h3]
   rw[hxy]
 ·have hke:k=a.length:=by have:=of_decide_eq_false h2;omega
  subst hke;refine zh ?_;refine HR.ret Tryz.func28 I [_] (fun _ _=>⟨I,trivial⟩) ?_;have:a=b:=by rw[<- List.take_length (l:=a),hg,hl,List.take_length]
  exact fun w' hw=>⟨by simp[this,ZJ],hw.jF⟩
end Go.Proofs.YtgfdoognildoeaaGreat
namespace Me
open Go.GX Nd Tp
structure WfS (s:Sn):Prop where
 tr:Go.GX.fits .i64 s.tr
 wt:Go.GX.fits .i64 s.wt
 da:s.f.da.length<=9223372036854775807
structure WfO (n:Nd.Nd):Prop where
 out:∀s∈n.out,WfS s
 bx:∀b∈n.boxes,b.f.da.length<=9223372036854775807
theorem jTX:Go.GX.fits .i64 0:=by show (-9223372036854775808:Int)<=0/\(0:Int)<=9223372036854775807;omega
section
variable {n m : Nd.Nd}
theorem WfO.of (h:WfO n) (h1:∀s∈m.out,s∈n.out) (h2:∀b∈m.boxes,b∈n.boxes):WfO m:=⟨fun s hs=>h.out s (h1 s hs),fun b hb=>h.bx b (h2 b hb)⟩
theorem WfO.order (h:WfO n):WfO (order n):=h.of (fun s hs=>List.mem_of_mem_take hs) fun b hb=>List.mem_of_mem_take hb
theorem WfO.lose (h:WfO n):WfO (lose n):=⟨h.out,h.bx⟩
theorem WfO.queue (h:WfO n) {f:Fr} (hf:f.da.length<=9223372036854775807):WfO (queue n f).1:=by
 have hs:∀s∈(jDf n.out f).1,WfS s:=fun s hs=>by
  rcases jJn hs with hs|rfl
  ·exact h.out s hs
  ·exact ⟨jTX,jTX,hf⟩
 unfold Nd.queue;simp only
 split
 ·exact ⟨hs,h.bx⟩
 ·exact ⟨hs,h.bx⟩
theorem WfO.box (h:WfO n) {f:Fr} (hf:f.da.length<=9223372036854775807) (now:Int):WfO (box n f now):=by
 have hs:∀b∈(jB1 n.boxes f now).1,b.f.da.length<=9223372036854775807:=fun b hb=>by
  rcases jQa hb with hb|e
  ·exact h.bx b hb
  ·rw [e];exact hf
 unfold Nd.box;simp only
 split
 ·exact ⟨h.out,hs⟩
 ·exact ⟨h.out,hs⟩
theorem WfO.deliver (h:WfO n) (d:De):WfO (deliver n d):=by
 unfold Nd.deliver;split
 ·exact h.lose
 ·exact ⟨h.out,h.bx⟩
theorem jHz (s:Sn):0<=jm s/\jm s<=8:=by unfold jm;omega
theorem jFD {q:List Sn} {i:Nat} {ok:Bool} (h:∀s∈q,WfS s):∀s∈(ZU q i ok).1,WfS s:=by
 have h16:∀s∈q.take 16,WfS s:=fun s hs=>h s (List.mem_of_mem_take hs)
 unfold ZU;intro s hs
 split at hs
 ·exact h16 s hs
 ·rename_i t ht
  split at hs
  ·exact h16 s (List.mem_of_mem_eraseIdx hs)
  ·split at hs
   ·exact h16 s (List.mem_of_mem_eraseIdx hs)
   ·rcases List.mem_or_eq_of_mem_set hs with hs|rfl
    ·exact h16 s hs
    ·have:=jHz t;refine ⟨?_,?_,(h16 t (List.mem_of_getElem? ht)).da⟩
     ·show (-9223372036854775808:Int)<=jm t/\jm t<=9223372036854775807;omega
     ·show (-9223372036854775808:Int)<=(if t.f.ur then 0 else min (jm t) 4)/\(if t.f.ur then 0 else min (jm t) 4)<=(9223372036854775807:Int)
      split<;>omega
theorem jPx {q:List Sn} (h:∀s∈q,WfS s):∀s∈ZL q,WfS s:=by
 intro s hs;unfold ZL at hs;obtain ⟨t,ht,rfl⟩:=List.mem_map.1 hs;have h1:=h t (List.mem_of_mem_take ht);unfold zS;split
 ·rename_i hw
  have h2:(-9223372036854775808:Int)<=t.wt/\t.wt<=9223372036854775807:=h1.wt;refine ⟨h1.tr,?_,h1.da⟩;show (-9223372036854775808:Int)<=t.wt-1/\t.wt-1<=9223372036854775807;omega
 ·exact h1
theorem WfO.boxes (now:Int):∀(l:List Fr) {n:Nd.Nd},(∀ f∈l,f.da.length<=9223372036854775807)->WfO n->WfO (l.foldl (fun n f=>Nd.box n f now) n)
 |[],_,_,h=>h
 |f::l,n,hl,h=>WfO.boxes now l (fun g hg=>hl g (List.mem_cons_of_mem _ hg)) (h.box (hl f (List.mem_cons_self ..)) now)
theorem WfO.asleep (h:WfO n) (now:Int):WfO (asleep n now):=by
 unfold Nd.asleep;refine WfO.boxes now _ (fun f hf=>?_) ⟨fun s hs=>h.out s (List.mem_filter.1 hs).1,h.bx⟩;obtain ⟨s,hs,rfl⟩:=List.mem_map.1 hf;exact (h.out s (List.mem_filter.1 hs).1).da
theorem jKn (t:List Ro):(jD0 t).length<=9223372036854775807:=by
 unfold jD0;rw[jEz];have:((t.filter usable).take 24).length<=24:=List.length_take_le _ _;omega
theorem WfO.zP (h:WfO n):WfO (zP n):=by
 have hb:WfO (bumped n):=⟨h.out,h.bx⟩;unfold Nd.zP;split
 ·exact hb.queue (jKn _)
 ·exact hb
theorem WfO.poll (h:WfO n):WfO (poll n):=by
 have hb:WfO (bumped n):=⟨h.out,h.bx⟩;unfold Nd.poll;split
 ·exact hb.queue (Nat.zero_le _)
 ·exact hb
theorem WfO.tick (h:WfO n) (now:Int):WfO (Zb n now):=by
 have ho:=h.order;unfold Zb;simp only
 have h1:WfO (Nd.asleep { Nd.order n with out:=ZL (Nd.order n).out,boxes:=jAn (Nd.order n).boxes (Nd.tick now) 120,parts:=jAr (Nd.order n).parts (Nd.tick now) 120 } (Nd.tick now)):=
  WfO.asleep ⟨jPx ho.out,fun b hb=>ho.bx b (List.mem_of_mem_take (List.mem_filter.1 hb).1)⟩ _
 generalize Nd.asleep { Nd.order n with out:=ZL (Nd.order n).out,boxes:=jAn (Nd.order n).boxes (Nd.tick now) 120,parts:=jAr (Nd.order n).parts (Nd.tick now) 120 } (Nd.tick now)=a at h1 ⊢;have h2:WfO (if a.poll=0/\Nd.tick now%8=a.addr%8 then Nd.zP a else a):=by
  split
  ·exact h1.zP
  ·exact h1
 generalize (if a.poll=0/\Nd.tick now%8=a.addr%8 then Nd.zP a else a)=b at h2 ⊢
 split
 ·exact h2.poll
 ·exact h2
theorem WfO.J7 {now:Int}:∀(k:Nat) {n:Nd.Nd} {i:Nat},WfO n->WfO (J7 now k n i).1/\(J7 now k n i).2.1.da.length<=9223372036854775807
 |0,n,i,h=>⟨h,Nat.zero_le _⟩
 |k+1,n,i,h=>by
  unfold Nd.J7
  split
  ·exact ⟨h,Nat.zero_le _⟩
  ·rename_i x hx
   have hm:x∈n.out:=List.mem_of_getElem? hx;have hd:=(h.out x hm).da
   split
   ·exact WfO.J7 k h
   ·split
    ·exact ⟨h,hd⟩
    ·split
     ·exact WfO.J7 k (WfO.box (n:={ n with out:=n.out.eraseIdx i }) (f:={ x.f with dst:=x.f.ta }) ⟨fun s hs=>h.out s (List.mem_of_mem_eraseIdx hs),h.bx⟩ hd _)
     ·split
      ·exact ⟨h,hd⟩
      ·split
       ·exact WfO.J7 k (WfO.lose (n:={ n with out:=(ZU n.out i false).1 }) ⟨jFD h.out,h.bx⟩)
       ·exact WfO.J7 k (n:={ n with out:=(ZU n.out i false).1 }) ⟨jFD h.out,h.bx⟩
theorem WfO.talk (h:WfO n) (now:Int):WfO (talk n now).1/\(talk n now).2.1.da.length<=9223372036854775807:=WfO.J7 _ h.order
theorem WfO.giveUp (h:WfO n) (to:Int):WfO (giveUp n to):=by
 unfold Nd.giveUp;split
 ·exact h.lose
 ·exact ⟨h.out,h.bx⟩
theorem WfO.result (h:WfO n) (f:Fr) (ok:Bool):WfO (result n f ok):=by
 have ho:=h.order;unfold Nd.result;simp only
 split
 ·exact ho
 ·rename_i i hi
  have h2:WfO (if okN f.dst=true then { Nd.order n with out:=(ZU (Nd.order n).out i ok).1,links:=JD (Nd.order n).links f.dst ok } else { Nd.order n with out:=(ZU (Nd.order n).out i ok).1 }):=by
   split
   ·exact ⟨jFD ho.out,ho.bx⟩
   ·exact ⟨jFD ho.out,ho.bx⟩
  split
  ·exact h2.giveUp _
  ·exact h2
theorem WfO.drain {fr now:Int}:∀(k:Nat) {n:Nd.Nd},WfO n->WfO (drain fr now k n)
 |0,_,h=>h
 |k+1,n,h=>by
  unfold Nd.drain;simp only;have h1:WfO { n with boxes:=(Js n.boxes fr now 120).2.1 }:=⟨h.out,fun b hb=>h.bx b (jN8 hb)⟩
  split
  ·rename_i ht
   obtain ⟨b,hb,e⟩:=jQZ ht;refine WfO.drain k (h1.queue ?_);show (Js n.boxes fr now 120).1.da.length<=_;rw[<- e];exact h.bx b hb
  ·exact h1
theorem WfO.jT (h:WfO n) (f:Fr):WfO (jT n f):=by
 unfold Nd.jT;simp only
 split
 ·exact ⟨h.out,h.bx⟩
 ·split
  ·exact ⟨h.out,h.bx⟩
  ·exact ⟨h.out,h.bx⟩
theorem WfO.received (h:WfO n) {f:Fr} (hf:f.da.length<=9223372036854775807) (now:Int):WfO (received n f now):=by
 have h1:WfO { n with seen:=(ZA n.seen ⟨f.so,f.sq⟩).1 }:=⟨h.out,h.bx⟩;unfold Nd.received;simp only
 split
 ·exact h1
 ·split
  ·split
   ·exact h1
   ·split
    ·exact WfO.deliver (n:={ n with seen:=(ZA n.seen ⟨f.so,f.sq⟩).1,parts:=_ }) ⟨h.out,h.bx⟩ _
    ·exact ⟨h.out,h.bx⟩
  ·split
   ·exact h1.lose
   ·exact h1.queue hf
theorem WfO.hear (h : WfO n) {f : Fr} (hf : f.da.length <= 9223372036854775807) (now : Int) : WfO (hear n now f) := by
  have ho := h.order;unfold Nd.hear;simp only
  split
  · exact ho
  · split
    · exact ho.jT f
    · split
      · unfold Nd.polled
        exact WfO.drain _ (n := { Nd.order n with children := _, table := _ }) ⟨ho.out, ho.bx⟩
      · first
        | exact ho.received hf _
        | (split
           · exact ho.received hf _
           · exact ho)
theorem WfO.new (addr poll:Int):WfO (new addr poll):=WfO.order (n:=⟨addr,poll,255,[],[],[],[],[],[],[],[],0,0⟩) ⟨fun s hs=>(List.not_mem_nil hs).elim,fun b hb=>(List.not_mem_nil hb).elim⟩
end
end Me
namespace Go.Proofs.YtgfdoognildoeaaGreat
open Go.GX Go.RowKit
attribute [local irreducible] Calls Run JH JL zU HR HL HD jS jM ZN Rd jg Jf
open Nd
structure GdN (n:Nd):Prop where
 sm:SmN n
 wf:Me.WfO n
theorem SmN.ptS {n:Nd} (h:SmN n):PtSm n.parts:=⟨h.pa,h.sm⟩
section
variable {n : Nd}
theorem GdN.tick (h:GdN n) (now:Int):GdN (Zb n now):=⟨jGP (jLy n now).ord (jLx n now),h.wf.tick now⟩
theorem GdN.talk (h:GdN n) (now:Int):GdN (talk n now).1/\(talk n now).2.1.da.length<=9223372036854775807:=⟨⟨jGP (jL0 n now).ord (jLz h.sm.ptS),(h.wf.talk now).1⟩,(h.wf.talk now).2⟩
theorem GdN.hear (h:GdN n) {f:Fr} (hf:f.da.length<=9223372036854775807) (now:Int):GdN (hear n now f):=⟨jGP (jNg n now f).ord (jNf h.sm.ptS),h.wf.hear hf now⟩
theorem GdN.result (h:GdN n) (f:Fr) (ok:Bool):GdN (result n f ok):=⟨jGP (jHk n f ok).ord (jHj h.sm.ptS),h.wf.result f ok⟩
theorem GdN.new (a p:Int):GdN (new a p):=⟨jGP (JJ _) (jPv a p),Me.WfO.new a p⟩
end
theorem Jz:Elem Tryz.prog 70 77 24 320:=⟨rfl,⟨_,_,rfl,rfl,rfl,rfl,rfl⟩,by decide⟩
abbrev meC (t:Int) (v:Value):List Value:=[.int .i64 t,v]
abbrev meV (t:Int) (v:Value):Value:= .agg ⟨meC t v⟩
abbrev cNd (v:Value) (xs:List (NV×Nd)):Chunk:=jM v 62 13 xs.length (cellsOf ZF xs)
theorem jR7 (v:Value) (ys:List (NV×Nd)) (x:NV×Nd):cNd v (ys++[x])=jM v 62 13 (ys.length+1) (cellsOf ZF ys++ZF x):=by
 show jM v _ 13 (ys++[x]).length (cellsOf ZF (ys++[x]))=_;rw[jL,List.length_append,JN];rfl
abbrev OkX (w:World) (xs:List (NV×Nd)):Prop:=∀x∈xs,OkN w x.1 x.2
abbrev jDi (xs:List (NV×Nd)) (ys:List (NV×Nd)) (G:List Chunk):Prop:=∀w2,OkX w2 xs->(jC G).p w2->OkX w2 ys
theorem jDi.refl (xs:List (NV×Nd)) (G:List Chunk):jDi xs xs G:=fun _ h _=>h
theorem jDi.set {xs ys:List (NV×Nd)} {G G':List Chunk} (h:jDi xs ys G) {i:Nat} {V:NV} {n:Nd} (h':∀w2,OkX w2 ys->(jC G').p w2->OkN w2 V n):jDi xs (ys.set i (V,n)) [jC G',jC G]:=fun w2 hx hg x hm=>by
 have hy:=h w2 hx (jK hg (by simp));rcases List.mem_or_eq_of_mem_set hm with hm|rfl
 ·exact hy x hm
 ·exact h' w2 hy (jK hg (by simp))
theorem JW (xs:List (NV×Nd)):(nds xs).length=xs.length:=by simp[nds]
theorem Je {xs:List (NV×Nd)} {k:Nat} {x:NV×Nd} (h:xs[k]? =some x):(nds xs)[k]? =some x.2:=by unfold nds;rw[List.getElem?_map,h];rfl
theorem jFA (xs:List (NV×Nd)) (k:Nat) (x:NV×Nd):nds (xs.set k x)=(nds xs).set k x.2:=by unfold nds;rw[List.map_set]
theorem jC2 {xs:List (NV×Nd)} {k:Nat} {x:NV×Nd} (h:xs[k]? =some x):Me.nth (nds xs) k=x.2:=by unfold Me.nth;rw[List.getD_eq_getElem?_getD,Je h];rfl
theorem jCF {α:Type} {l:List α} {k:Nat} {a:α} (h:l[k]? =some a):l.set k a=l:=by
 obtain ⟨hk,rfl⟩:=List.getElem?_eq_some_iff.1 h;exact List.set_getElem_self hk
def jNZ (l:List Nd) (a:Int):Int:=match Me.idx l a with
 |some i=>(i:Int)
 |none=>-1
theorem jGo (xs:List (NV×Nd)) (a:Int):jNZ (nds xs) a=fidx (fun x=>x.2.addr==a) xs:=by
 unfold jNZ fidx Me.idx nds;rw[List.findIdx?_map];rfl
theorem jBe (xs:List (NV×Nd)) (a:Int):(jNZ (nds xs) a= -1/\Me.idx (nds xs) a=none)\/∃(i:Nat) (x:NV×Nd),jNZ (nds xs) a=(i:Int)/\Me.idx (nds xs) a=some i/\xs[i]? =some x/\x.2.addr=a:=by
 unfold jNZ;cases h:Me.idx (nds xs) a with
 |none=>exact .inl ⟨rfl,rfl⟩
 |some i=>
  obtain ⟨h1,h2⟩:=Me.jCU h;have hl:i<xs.length:=by have:=(List.getElem?_eq_some_iff.1 h1).1;rwa[JW]at this
  obtain ⟨x,hx⟩:=jG hl;exact .inr ⟨i,x,rfl,rfl,hx,by rw[jC2 hx]at h2;exact h2⟩
end Go.Proofs.YtgfdoognildoeaaGreat
namespace Go.GX
open Go.RowKit
section
variable {P : Program} {N : Nat} {σ : Store} {B : Base} {H : List Chunk} {ops l : List Oper} {K : Act -> World -> Prop}
variable {d : Nat} {ty : TypeId} {pos : String} {af : Array Edge} {gd : Option (Nat × Bool)}
theorem yX {α:Type} {r:α->Value} {Q:α->Prop} {G:α->List Chunk} {g:FuncId} {x:Operand} {args:List Operand} {a1 caps:List Value} {tys:Array TypeId} (hg:IsFn P g) (hx:lookO σ x=some (.func (.func g) #[] caps.toArray))
  (hs:stat N ops ⟨some d,.call ⟨.value x,args.toArray,tys⟩,ty,pos,af,gd⟩ σ=true) (ha:vals σ args=some a1)
  (hc:∀w,Sat B H w->Calls P g ((a1++caps).toArray) w fun e w'=>∃x,e= .returned (r x)/\Q x/\Sat (base w) (G x) w')
  (h:∀x,Q x->HL P N ops l ((d,r x)::σ) B (G x++H) K):HL P N ops (⟨some d,.call ⟨.value x,args.toArray,tys⟩,ty,pos,af,gd⟩::l) σ B H K:=
 fun w hw=>JH.enter hs (jKB hg hx ha) ((hc w hw).mono fun e w' ⟨x,h1,h2,h3⟩=>⟨r x,h1,h x h2 w' (hw.join h3)⟩)
theorem HR.seq {f:FuncId} {k:List Item} {R:Ending->World->Prop} {x y:Code} (h:HR P f N (.code x:: .code y::k) σ B H R):HR P f N (.code (.seq x y)::k) σ B H R:=fun w hw=>Run.seq (h w hw)
end
end Go.GX
namespace Go.Proofs.YtgfdoognildoeaaGreat
open Go.GX Go.RowKit
attribute [local irreducible] Calls Run JH JL zU HR HL HD jS jM ZN Rd jg Jf
open Nd
theorem fn76:IsFn Tryz.prog 76:=zF Tryz.func76 I
theorem fn38:IsFn Tryz.prog 38:=zF Tryz.func38 I
theorem fn12:IsFn Tryz.prog 12:=zF Tryz.func12 I
theorem jJj {w:World} {p:PtV} (h:RdPt w p):∃aa ca ab cb,p=⟨.slice aa p.pt.hv.length ca,.slice ab p.pt.da.length cb,p.pt⟩:=by
 obtain ⟨vh,vd,q⟩:=p;obtain ⟨aa,ca,e1,_⟩:=h.h.2;obtain ⟨ab,cb,e2,_⟩:=h.d.2;have e1:vh= .slice aa q.hv.length ca:=e1;have e2:vd= .slice ab q.da.length cb:=e2;exact ⟨aa,ca,ab,cb,by rw[e1,e2]⟩
theorem jEs (La Lb:List PtV) (va vb:Value) (w:World) (ha:RdPts w va La) (hb:RdPts w vb Lb) (he:pts La=pts Lb) (hs:∀p∈La,jAS p.pt) (hl:La.length<=1000):
  Calls Tryz.prog 76 #[va,vb] w fun e w'=>e= .returned (.bool true)/\Below w.heap.size w w':=by
 have hlen:Lb.length=La.length:=by rw[<- jW,<- he,jW]
 refine zE Tryz.func76 I [(0,va),(1,vb)] (zh ?_);refine qD (qA ha.s) I I I (zh ?_);refine qD (qA hb.s) I I I (zh ?_);refine QX 13 false I (by rw[hlen];simp) ?_;refine zh ?_;refine HR.loop (ι:=Nat) (fun k=>k<=La.length) (fun k=>[(0,va),(1,vb),(5,.int .i64 (k:Int))]) (fun _=>[]) (fun k=>La.length-k) 0 (Nat.zero_le _) ⟨I,I,I,trivial⟩ Ent.refl ?_
 rintro k hk ih
 have hk:k<=La.length:=hk;refine zh ?_;refine qD (qA ha.s) I I I (zh ?_);refine HR.cond I (fun h2=>?_) (fun h2=>?_)
 rotate_left
 ·refine zh ?_;exact zR Tryz.func76
 have hlt:k<La.length:=by have:(k:Int)<(La.length:Int):=of_decide_eq_true h2;omega
 obtain ⟨p,hp⟩:=jG hlt;obtain ⟨p',hp'⟩:=jG (show k<Lb.length by omega);have hpp:p'.pt=p.pt:=by
  have e1:=J3 hp;have e2:=J3 hp';rw[he,e2]at e1;exact Option.some.inj e1
 have hr1:=ha.r p (List.mem_of_getElem? hp);have hr2:=hb.r p' (List.mem_of_getElem? hp');have hsp:=hs p (List.mem_of_getElem? hp);obtain ⟨aa,ca,ab,cb,ex⟩:=jJj hr1;obtain ⟨aa',ca',ab',cb',ex'⟩:=jJj hr2;obtain ⟨q,hq⟩:∃q,q=p.pt:=⟨_,rfl⟩;rw[hpp]at ex';rw[<- hq]at ex ex' hsp;subst ex;subst ex';have hh:Sl w (.slice aa q.hv.length ca) (cellsOf bC q.hv) q.hv.length:=hr1.h;have hd:Sl w (.slice ab q.da.length cb) (cellsOf sC q.da) q.da.length:=hr1.d;have hh':Sl w (.slice aa' q.hv.length ca') (cellsOf bC q.hv) q.hv.length:=hr2.h;have hd':Sl w (.slice ab' q.da.length cb') (cellsOf sC q.da) q.da.length:=hr2.d;have hs1:q.hv.length<=140737488355328:=hsp.1;have hs2:q.da.length<=8796093022208:=hsp.2.1;clear hr1 hr2 hsp;refine zh ?_;refine HR.join (ι:=Nat×Nat) (fun _=>True) (fun x=>[(0,va),(1,vb),(5,.int .i64 (k:Int)),(6,ptr x.1),(7,ptr x.2)]) (fun x=>[jS x.1 (ptC ⟨.slice aa q.hv.length ca,.slice ab q.da.length cb,q⟩) 173,jS x.2 (ptC ⟨.slice aa' q.hv.length ca',.slice ab' q.da.length cb',q⟩) 173]) ?_ (fun hj=>?_)
 rotate_left
 ·refine QO [] I I j3 ?_;refine za 0 ?_;refine za 1 ?_;refine Q7 2 (by kernel_rfl) I I (jGp (qA ha.s) jX k I I I hlt) (Q7 3 (by kernel_rfl) I I (jA5 (us:=ptC ⟨.slice aa q.hv.length ca,.slice ab q.da.length cb,q⟩) (qA ha.s) I I I (by simp) I (jD jY hp)) ?_);refine za 4 ?_;refine za 5 ?_;refine Q7 6 (by kernel_rfl) I I (jGp (qA hb.s) jX k I I I (by omega)) (Q7 7 (by kernel_rfl) I I (jA5 (us:=ptC ⟨.slice aa' q.hv.length ca',.slice ab' q.da.length cb',q⟩) (qA hb.s) I I I (by simp) I (jD jY hp')) ?_);refine HA.two 8 9 (by kernel_rfl) I I ?_ ?_
  ·refine HL.alloc I I ?_;intro b6;refine qG [] I I (HA.one 9 (by kernel_rfl) I ?_);refine HL.alloc I I ?_;intro b7;refine qG [] I I (HA.one 10 (by kernel_rfl) I (zn ?_));refine qG [] I I (HA.one 11 (by kernel_rfl) I (zn ?_));refine qG [] I I (HA.done (by kernel_rfl) ?_);exact hj (b6,b7) _ _ trivial ⟨I,I,I,I,I,trivial⟩ (Ent.pick [1,0] I I)
  ·refine HL.alloc I I ?_;intro b7;refine qG [] I I (HA.one 8 (by kernel_rfl) I ?_);refine HL.alloc I I ?_;intro b6;refine qG [] I I (HA.one 10 (by kernel_rfl) I (zn ?_));refine qG [] I I (HA.one 11 (by kernel_rfl) I (zn ?_));refine qG [] I I (HA.done (by kernel_rfl) ?_);exact hj (b6,b7) _ _ trivial ⟨I,I,I,I,I,trivial⟩ (Ent.pick [0,1] I I)
 rintro ⟨b6,b7⟩ _
 repeat' (first|refine zh ?_|refine qB fn146 I I (fun w1 hw1=>jHZ q.da q.da _ _ w1 ((qA hd).at hw1) ((qA hd').at hw1) hs2) ?_|apply zb ?_ ?_|exact zc|(refine zi fun hb=>?_;try simp at hb)|fail)
 refine HR.cond I (fun h3=>?_) (fun h3=>?_)
 ·simp at h3
 refine zh ?_;refine HR.loop (ι:=Nat) (fun j=>j<=q.hv.length) (fun j=>[(0,va),(1,vb),(5,.int .i64 (k:Int)),(6,ptr b6),(7,ptr b7),(8,.int .i64 (j:Int))]) (fun _=>[jS b6 (ptC ⟨.slice aa q.hv.length ca,.slice ab q.da.length cb,q⟩) 173,jS b7 (ptC ⟨.slice aa' q.hv.length ca',.slice ab' q.da.length cb',q⟩) 173]) (fun j=>q.hv.length-j) 0 (Nat.zero_le _) ⟨I,I,I,I,I,I,trivial⟩ Ent.refl ?_
 rintro j hj2 ih2
 have hj2:j<=q.hv.length:=hj2;refine zh ?_;refine HR.cond I (fun h4=>?_) (fun h4=>?_)
 rotate_left
 ·refine zh ?_;exact ih (k+1) _ _ hlt (by show La.length-(k+1)<La.length-k;omega) ⟨I,I,I,trivial⟩ (Ent.pick [] I I)
 have hjl:j<q.hv.length:=by have:(j:Int)<(q.hv.length:Int):=of_decide_eq_true h4;omega
 obtain ⟨b,hbj⟩:=jG hjl;refine zh ?_;refine qK j3 (by kernel_rfl) (zq ?_);refine qW (qA hh) J4 j I I I I hjl ?_;refine qj (qA hh) I I I I (jN hbj) (zq ?_);refine qW (qA hh') J4 j I I I I hjl ?_;refine qj (qA hh') I I I I (jN hbj) (zq ?_);refine HR.cond I (fun h5=>?_) (fun h5=>?_)
 ·cases b<;>cases h5
 repeat' (first|refine zh ?_|fail)
 exact ih2 (j+1) _ _ hjl (by show q.hv.length-(j+1)<q.hv.length-j;omega) ⟨I,I,I,I,I,I,trivial⟩ Ent.refl
theorem jFm (Va Vb:NV) (n:Nd) (w:World) (ha:OkN w Va n) (hc:OkN w Vb n) (hs:SmN n):
  Calls Tryz.prog 38 #[.agg ⟨ndC Va n⟩,.agg ⟨ndC Vb n⟩] w fun e w'=>e= .returned (.bool true)/\Below w.heap.size w w':=by
 have t1:=hs.ta;have t2:=hs.li;have t3:=hs.ou;have t4:=hs.ch;have t5:=hs.bo;have t6:=hs.se;have t7:=hs.ib;refine zE Tryz.func38 I [(0,.agg ⟨ndC Va n⟩),(1,.agg ⟨ndC Vb n⟩)] ?_
 repeat' (first|refine zh ?_|refine qB fn71 I I (fun w1 hw1=>jFn n.table n.table _ _ w1 ((qA ha.ta).at hw1) ((qA hc.ta).at hw1) (by omega)) ?_|refine qB fn72 I I (fun w1 hw1=>jKY n.links n.links _ _ w1 ((qA ha.li).at hw1) ((qA hc.li).at hw1) (by omega)) ?_|refine qB fn73 I I (fun w1 hw1=>jKV n.out n.out _ _ w1 ((qA ha.ou).at hw1) ((qA hc.ou).at hw1) (by omega)) ?_|refine qB fn19 I I (fun w1 hw1=>jCf n.children n.children _ _ w1 ((qA ha.ch).at hw1) ((qA hc.ch).at hw1) (by omega)) ?_|refine qB fn74 I I (fun w1 hw1=>jKX n.boxes n.boxes _ _ w1 ((qA ha.bo).at hw1) ((qA hc.bo).at hw1) (by omega)) ?_|refine qB fn75 I I (fun w1 hw1=>jKW n.seen n.seen _ _ w1 ((qA ha.se).at hw1) ((qA hc.se).at hw1) (by omega)) ?_|refine qB fn76 I I (fun w1 hw1=>jEs Va.ps Vb.ps _ _ w1 (ha.pa.ext hw1.jF) (hc.pa.ext hw1.jF) (ha.eq.trans hc.eq.symm) (fun p hp=>hs.sm p.pt (by rw[<- ha.eq];exact List.mem_map.2 ⟨p,hp,rfl⟩)) (by rw[<- jW,ha.eq];exact hs.pa)) ?_|refine qB fn28 I I (fun w1 hw1=>jFo n.inbox n.inbox _ _ w1 ((qA ha.ib).at hw1) ((qA hc.ib).at hw1) (by omega)) ?_|apply zb ?_ ?_|exact zc|(refine zi fun hb=>?_;try simp at hb)|intro (bk:Nat))
 refine HR.ret Tryz.func38 I [_] (fun _ _=>⟨I,trivial⟩) ?_
 exact fun w' hw=>⟨by simp[ZJ],hw.jF⟩
theorem jKZ (t:Int) (va vb:Value) (xs ys:List (NV×Nd)) (w:World) (ha:OkL w va xs) (hc:OkL w vb ys) (he:nds xs=nds ys) (hs:∀x∈xs,SmN x.2) (hl:xs.length<=1000):
  Calls Tryz.prog 12 #[meV t va,meV t vb] w fun e w'=>e= .returned (.bool true)/\Below w.heap.size w w':=by
 have hlen:ys.length=xs.length:=by rw[<- JW,<- he,JW]
 refine zE Tryz.func12 I [(0,meV t va),(1,meV t vb)] ?_;refine HR.ctl I (HR.region ?_);refine HL.box I I ?_;intro b2;refine HL.box I I ?_;intro b3
 repeat' (first|refine zh ?_|refine qD (qA ha.s) I I I ?_|refine qD (qA hc.s) I I I ?_|apply zb ?_ ?_|exact zc|(refine zi fun hb=>?_;try simp at hb)|fail)
 refine HR.cond I (fun h1=>?_) (fun h1=>?_)
 ·rw [hlen]at h1;simp at h1
 refine zh ?_;refine HR.loop (ι:=Nat) (fun k=>k<=xs.length) (fun k=>[(2,ptr b2),(3,ptr b3),(5,.int .i64 (k:Int))]) (fun _=>[jS b3 (meC t vb) 26,jS b2 (meC t va) 26]) (fun k=>xs.length-k) 0 (Nat.zero_le _) ⟨I,I,I,trivial⟩ Ent.refl ?_
 rintro k hk ih
 have hk:k<=xs.length:=hk;refine zh ?_;refine qD (qA ha.s) I I I (zh ?_);refine HR.cond I (fun h2=>?_) (fun h2=>?_)
 rotate_left
 ·refine zh ?_;exact zR Tryz.func12
 have hlt:k<xs.length:=by have:(k:Int)<(xs.length:Int):=of_decide_eq_true h2;omega
 obtain ⟨⟨V,n⟩,hx⟩:=jG hlt;obtain ⟨⟨W,m⟩,hy⟩:=jG (show k<ys.length by omega);have hnm:m=n:=by
  have e1:=Je hx;have e2:=Je hy;rw[he,e2]at e1;exact Option.some.inj e1
 subst hnm;have hV:OkN w V m:=ha.r _ (List.mem_of_getElem? hx);have hW:OkN w W m:=hc.r _ (List.mem_of_getElem? hy);have hsn:SmN m:=hs _ (List.mem_of_getElem? hx);refine zh ?_;refine qO [(0,true),(1,true),(2,true),(3,true),(4,true),(5,true),(6,true),(7,true),(8,true),(9,true),(10,false),(11,true)] [0,1] I I j3 (by kernel_rfl) (zd ?_);refine qc (qA ha.s) JQ k I I I I I hlt ?_;refine QI (us:=ndC V m) (qA ha.s) I I I I I (by simp) I (jD jh hx) (zd ?_);refine qc (qA hc.s) JQ k I I I I I (by omega) ?_;refine QI (us:=ndC W m) (qA hc.s) I I I I I (by simp) I (jD jh hy) ?_;refine HD.one I (qB (r:= .bool true) fn38 I I (fun w1 hw1=>jFm V W m w1 (hV.ext hw1.jF) (hW.ext hw1.jF) hsn) ?_);refine HL.back [0,1] I I (zd ?_);refine HD.nil (zh ?_);exact ih (k+1) _ _ hlt (by show xs.length-(k+1)<xs.length-k;omega) ⟨I,I,I,trivial⟩ Ent.refl
end Go.Proofs.YtgfdoognildoeaaGreat
