/- Part of a proof. Conditions: none. -/
import Derived.Test.YtgfdoognildoeaaGreatSB15
set_option linter.unusedVariables false
set_option linter.unusedSectionVars false
set_option linter.unusedSimpArgs false
set_option maxRecDepth 100000
set_option maxHeartbeats 4000000
namespace Go.Proofs.YtgfdoognildoeaaGreat
open Go.GX Go.RowKit
attribute [local irreducible] Calls Run JH JL zU HR HL HD jS jM ZN Rd jg Jf
open Nd
theorem fn15:IsFn Tryz.prog 15:=zF Tryz.func15 I
theorem jSW (t:Int):(if (if (1099511627775:Int)<t then 1099511627775 else t)>0 then (if (1099511627775:Int)<t then 1099511627775 else t)else 0)=max 0 (min t 1099511627775):=by
 split<;>split at* <;>omega
abbrev ssP (ss:List StX):List (Nd×Bool×Bool×Fr):=ss.map fun s=>(s.1.2,s.2)
theorem jL3 (ss:List StX) (k:Nat) (s:StX):ssP (ss.set k s)=(ssP ss).set k (s.1.2,s.2):=by unfold ssP;rw[List.map_set]
theorem jL4 {ss:List StX} {k:Nat} {s:StX} (h:ss[k]? =some s):(ssP ss)[k]? =some (s.1.2,s.2):=by unfold ssP;rw[List.getElem?_map,h];rfl
theorem kT (ss:List StX):(ssP ss).length=ss.length:=by simp[ssP]
theorem phases (nw:Int) (a:Me.Air) (n:Nd):zu nw (Jt nw (n,Me.live a n.addr,false,fr0))=((Me.jFc nw (Me.live a n.addr) (Me.phase1 a nw n)).1,Me.live a n.addr,(Me.jFc nw (Me.live a n.addr) (Me.phase1 a nw n)).2.2,(Me.jFc nw (Me.live a n.addr) (Me.phase1 a nw n)).2.1):=by
 unfold zu Jt Me.jFc Me.phase1
 by_cases h:Me.live a n.addr=true
 ·simp only[h,if_true]
 ·simp only[h,if_false,Bool.false_eq_true]
theorem jPm (m:Me.Mesh) (a:Me.Air):(m.nodes.map (fun n=>zu (Me.jFV m.tick) (Jt (Me.jFV m.tick) (n,Me.live a n.addr,false,fr0)))).map (·.1)=(Me.spoken m a).map (·.1):=by
 unfold Me.spoken;rw[List.map_map,List.map_map];refine List.map_congr_left fun n _=>?_
 show (zu _ _).1=_;rw[phases];rfl
theorem jPn (m:Me.Mesh) (a:Me.Air):(m.nodes.map (fun n=>zu (Me.jFV m.tick) (Jt (Me.jFV m.tick) (n,Me.live a n.addr,false,fr0)))).map (fun s=>(s.2.2.2,s.2.2.1))=(Me.spoken m a).map (·.2):=by
 unfold Me.spoken;rw[List.map_map,List.map_map];refine List.map_congr_left fun n _=>?_
 show ((zu _ _).2.2.2,(zu _ _).2.2.1)=_;rw[phases];rfl
theorem jQB {now:Int} {s:Nd×Bool×Bool×Fr} (h:GdN s.1):GdN (Jt now s).1:=by
 unfold Jt;simp only;split
 ·exact h.tick now
 ·exact h
theorem jRY {now:Int} {s:Nd×Bool×Bool×Fr} (h:GdN s.1) (hf:s.2.2.2.da.length<=9223372036854775807):GdN (zu now s).1/\(zu now s).2.2.2.da.length<=9223372036854775807:=by
 unfold zu;split
 ·exact h.talk now
 ·exact ⟨h,hf⟩
theorem jDm {a:Me.Air} {now:Int} {fs:List (Fr×Bool)} {k:Nat} {l:List Nd} {f:Fr} {tk:Bool} (h:fs[k]? =some (f,tk)):Me.tells a now fs (k+1) l=if tk then Me.told a now (Me.tells a now fs k l) k f else Me.tells a now fs k l:=by
 show Me.jPP a now (Me.tells a now fs k l) k fs[k]? =_;rw[h];cases tk<;>rfl
theorem jGV (t:Int) (v:Value) (xs:List (NV×Nd)) (a:Me.Air) (ve vo vn:Value) (w:World) (h:OkL w v xs) (hg:∀x∈xs,GdN x.2) (hl:xs.length<=1000) (hA:OkA w a ve vo vn):
  Calls Tryz.prog 15 #[meV t v,jAt ve vo vn] w fun e w'=>∃x:SV×List (NV×Nd)×List Chunk,e= .returned (meV (Me.jFV t) (sv x.1 x.2.1.length))/\(MkL x (Me.jLD ⟨t,nds xs⟩ a).nodes/\∀y∈x.2.1,GdN y.2)/\Sat (base w) [cNd (sv x.1 x.2.1.length) x.2.1,jC x.2.2] w':=by
 obtain ⟨nw,hnw⟩:∃z,z=Me.jFV t:=⟨_,rfl⟩;refine zE Tryz.func15 I [(0,meV t v),(1,jAt ve vo vn)] ?_;refine HR.ctl I (HR.region ?_);refine HL.box I I ?_;intro b2;refine HL.box I I ?_;intro b3;refine HL.alloc I I ?_;intro b4;refine HL.nil (HR.ctl I ?_);refine HR.region ?_;refine zn ?_;refine QC 5 (v':= .int .i64 nw) I (by rw[jSW,hnw];rfl) ?_;refine zh ?_;refine qL (r:=fun x:SV×List StX×List Chunk=>sv x.1 x.2.1.length) (Q:=fun x=>x.2.1.map (fun s=>(s.1.2,s.2))=(nds xs).map (fun n=>(n,Me.live a n.addr,false,fr0))/\∀s∈x.2.1,Own s.1.1 x.2.2 s.1.2) (G:=fun x=>[cSt (sv x.1 x.2.1.length) x.2.1,jC x.2.2]) fn39 I I (fun w1 hw1=>jFe t v xs a ve vo vn w1 (h.ext hw1.jF) (fun x hx=>(hg x hx).sm) hl (hA.at hw1)) ?_
 rintro ⟨y,S0,G0⟩ ⟨hP0,hO0⟩
 have hP0:ssP S0=(nds xs).map (fun n=>(n,Me.live a n.addr,false,fr0)):=hP0;have hO0:∀s∈S0,Own s.1.1 G0 s.1.2:=hO0;have hS0:S0.length=xs.length:=by rw[<- kT,hP0,List.length_map,JW]
 have hgd0:∀s∈S0,GdN s.1.2/\s.2.2.2.da.length<=9223372036854775807:=fun s hs=>by
  have hm:(s.1.2,s.2)∈ssP S0:=List.mem_map.2 ⟨s,hs,rfl⟩;rw[hP0]at hm;obtain ⟨n,hn,e⟩:=List.mem_map.1 hm;obtain ⟨x,hx,rfl⟩:=List.mem_map.1 hn;have e1:x.2=s.1.2:=congrArg (·.1) e;have e2:(Me.live a x.2.addr,false,fr0)=s.2:=congrArg (·.2) e;exact ⟨by rw[<- e1];exact hg x hx,by rw[<- e2];exact Nat.zero_le _⟩
 have y_sv:∀(S:List StX),S.length=S0.length->sv y S0.length=sv y S.length:=fun S e=>by rw[e]
 refine zh ?_;refine HR.loop (ι:=Nat×List StX×List Chunk) (fun x=>x.1<=S0.length/\ssP x.2.1=((ssP S0).take x.1).map (Jt nw)++(ssP S0).drop x.1/\(∀ s∈x.2.1,Own s.1.1 x.2.2 s.1.2)/\∀s∈x.2.1,GdN s.1.2/\s.2.2.2.da.length<=9223372036854775807) (fun x=>[(3,ptr b3),(4,ptr b4),(5,.int .i64 nw),(6,sv y S0.length),(7,.func (.func 40) #[] #[]),(27,.int .i64 (S0.length:Int)),(28,.int .i64 (x.1:Int))]) (fun x=>[jS b3 [ve,vo,vn] 34,jS b4 meZ 26,jM (sv y S0.length) 77 24 S0.length (cellsOf stE x.2.1),jC x.2.2]) (fun x=>S0.length-x.1) (0,S0,G0) ⟨Nat.zero_le _,rfl,hO0,hgd0⟩ ⟨I,I,I,I,I,I,I,trivial⟩ (Ent.pick [3,2,0,1] I I) ?_
 rintro ⟨k,S,G⟩ ⟨hk,hP,hO,hgd⟩ ih
 have hk:k<=S0.length:=hk;have hP:ssP S=((ssP S0).take k).map (Jt nw)++(ssP S0).drop k:=hP;have hO:∀s∈S,Own s.1.1 G s.1.2:=hO;have hgd:∀s∈S,GdN s.1.2/\s.2.2.2.da.length<=9223372036854775807:=hgd;have hSl:S.length=S0.length:=by rw[<- kT,hP,List.length_append,List.length_map,<- List.length_append,List.take_append_drop,kT]
 have cS:(cellsOf stE S).length=S.length*24:=jA Jd _;refine zh ?_;refine HR.cond I (fun h2=>?_) (fun h2=>?_)
 ·have hlt:k<S0.length:=by have:(k:Int)<(S0.length:Int):=of_decide_eq_true h2;omega
  obtain ⟨⟨⟨V,n⟩,on,tk,fr⟩,hs⟩:=jG (show k<S.length by omega);have hsm:=List.mem_of_getElem? hs;have hOn:Own V G n:=hO _ hsm;have hGn:GdN n:=(hgd _ hsm).1;have hfn:fr.da.length<=9223372036854775807:=(hgd _ hsm).2;have hs0:(ssP S0)[k]? =some (n,on,tk,fr):=by
   obtain ⟨z,hz⟩:=jG (show k<(ssP S0).length by rw[kT];exact hlt);have e:=zC (Jt nw) hz;rw[<- hP,jL4 hs]at e;rw[hz];exact e.symm
  refine zh ?_;refine qE (n:=S0.length) (cs:=cellsOf stE S) (Rd.own 2 I) Jz k I I I I hlt ?_;refine qN (us:=stE ((V,n),on,tk,fr)) (cs:=cellsOf stE S) (Rd.own 2 I) I I I I (by simp) I (jD Jd hs) (zh ?_);refine yX (caps:=[]) (r:=fun x:NV×List Chunk=> .agg ⟨stE ((x.1,(Jt nw (n,on,tk,fr)).1),(Jt nw (n,on,tk,fr)).2)⟩) (Q:=fun x=>jSD V n x.1 x.2 (Jt nw (n,on,tk,fr)).1) (G:=fun x=>[jC x.2]) fn40 I I I (fun w1 hw1=>jPB V n on tk fr nw w1 (hOn w1 (QF 3 hw1 I)) hGn) ?_
  rintro ⟨V2,G2⟩ hI
  have hI:jSD V n V2 G2 (Jt nw (n,on,tk,fr)).1:=hI;obtain ⟨s2,hs2⟩:∃s2:StX,s2=((V2,(Jt nw (n,on,tk,fr)).1),(Jt nw (n,on,tk,fr)).2):=⟨_,rfl⟩;refine qE (n:=S0.length) (cs:=cellsOf stE S) (Rd.own 3 I) Jz k I I I I hlt ?_;refine ql (us:=stE ((V2,(Jt nw (n,on,tk,fr)).1),(Jt nw (n,on,tk,fr)).2)) (j:=k*24) 3 I I I I I I I (by rw[cS];show k*24+24<=_;omega) (by simp) ?_;refine zh ?_;have hSet:∀z∈S.set k s2,z∈S\/z=s2:=fun z hz=>List.mem_or_eq_of_mem_set hz
  refine ih (k+1,S.set k s2,[jC G2,jC G]) _ _ ⟨hlt,?_,?_,?_⟩ (by show S0.length-(k+1)<S0.length-k;omega) ⟨I,I,I,I,I,I,I,trivial⟩ ?_
  ·show ssP (S.set k s2)=_;rw[jL3,hP,hs2];exact K9 (Jt nw) hs0
  ·intro z hz;rcases hSet z hz with hz|rfl
   ·exact fun w2 hg2=>hO z hz w2 (jK hg2 (by simp))
   ·rw [hs2];exact fun w2 hg2=>hI w2 (hOn w2 (jK hg2 (by simp))) (jK hg2 (by simp))
  ·intro z hz;rcases hSet z hz with hz|rfl
   ·exact hgd z hz
   ·rw [hs2];exact ⟨jQB hGn,hfn⟩
  ·show Ent _ _ [jS b3 [ve,vo,vn] 34,jS b4 meZ 26,jM (sv y S0.length) 77 24 S0.length (cellsOf stE (S.set k s2)),jC [jC G2,jC G]];refine Ent.trans (Ent.pick (H':=[jC G2,jC G]++[jS b3 [ve,vo,vn] 34,jS b4 meZ 26,_]) [0,4,1,2,3] I I) (Ent.trans Ent.group (Ent.trans (Ent.pick [3,1,2,0] I I) (Ent.trans (qC I ?_) (Ent.pick [1,2,0,3] I I))));rw[hs2];exact j6 (i:=0) Jd hs I (show 0+24<=24 by decide)
 have hke:k=S0.length:=by have:¬(k:Int)<(S0.length:Int):=of_decide_eq_false h2;omega
 rw[hke,<- kT S0,List.take_length,List.drop_length,List.append_nil]at hP;have hP1:ssP S=(ssP S0).map (Jt nw):=hP;have hO1:=hO;have hgd1:=hgd;obtain ⟨S1,hS1⟩:∃S1,S1=S:=⟨_,rfl⟩;obtain ⟨G1,hG1⟩:∃G1,G1=G:=⟨_,rfl⟩;subst hS1;subst hG1;have hSl1:S1.length=S0.length:=hSl;rw[<- hSl];rw[<- hSl]at y_sv;clear hO hgd hP ih hk cS;refine zh ?_;refine HR.loop (ι:=Nat×List StX×List Chunk) (fun x=>x.1<=S1.length/\ssP x.2.1=((ssP S1).take x.1).map (zu nw)++(ssP S1).drop x.1/\(∀ s∈x.2.1,Own s.1.1 x.2.2 s.1.2)/\∀s∈x.2.1,GdN s.1.2/\s.2.2.2.da.length<=9223372036854775807) (fun x=>[(3,ptr b3),(4,ptr b4),(5,.int .i64 nw),(6,sv y S1.length),(7,.func (.func 41) #[] #[]),(43,.int .i64 (S1.length:Int)),(44,.int .i64 (x.1:Int))]) (fun x=>[jS b3 [ve,vo,vn] 34,jS b4 meZ 26,jM (sv y S1.length) 77 24 S1.length (cellsOf stE x.2.1),jC x.2.2]) (fun x=>S1.length-x.1) (0,S1,G1) ⟨Nat.zero_le _,rfl,hO1,hgd1⟩ ⟨I,I,I,I,I,I,I,trivial⟩ Ent.refl ?_
 rintro ⟨k,S,G⟩ ⟨hk,hP,hO,hgd⟩ ih
 have hk:k<=S1.length:=hk;have hP:ssP S=((ssP S1).take k).map (zu nw)++(ssP S1).drop k:=hP;have hO:∀s∈S,Own s.1.1 G s.1.2:=hO;have hgd:∀s∈S,GdN s.1.2/\s.2.2.2.da.length<=9223372036854775807:=hgd;have hSl:S.length=S1.length:=by rw[<- kT,hP,List.length_append,List.length_map,<- List.length_append,List.take_append_drop,kT]
 have cS:(cellsOf stE S).length=S.length*24:=jA Jd _;refine zh ?_;refine HR.cond I (fun h2=>?_) (fun h2=>?_)
 ·have hlt:k<S1.length:=by have:(k:Int)<(S1.length:Int):=of_decide_eq_true h2;omega
  obtain ⟨⟨⟨V,n⟩,on,tk,fr⟩,hs⟩:=jG (show k<S.length by omega);have hsm:=List.mem_of_getElem? hs;have hOn:Own V G n:=hO _ hsm;have hGn:GdN n:=(hgd _ hsm).1;have hfn:fr.da.length<=9223372036854775807:=(hgd _ hsm).2;have hs0:(ssP S1)[k]? =some (n,on,tk,fr):=by
   obtain ⟨z,hz⟩:=jG (show k<(ssP S1).length by rw[kT];exact hlt);have e:=zC (zu nw) hz;rw[<- hP,jL4 hs]at e;rw[hz];exact e.symm
  refine zh ?_;refine qE (n:=S1.length) (cs:=cellsOf stE S) (Rd.own 2 I) Jz k I I I I hlt ?_;refine qN (us:=stE ((V,n),on,tk,fr)) (cs:=cellsOf stE S) (Rd.own 2 I) I I I I (by simp) I (jD Jd hs) (zh ?_);refine yX (caps:=[]) (r:=fun x:NV×List Chunk=> .agg ⟨stE ((x.1,(zu nw (n,on,tk,fr)).1),(zu nw (n,on,tk,fr)).2)⟩) (Q:=fun x=>jSD V n x.1 x.2 (zu nw (n,on,tk,fr)).1) (G:=fun x=>[jC x.2]) fn41 I I I (fun w1 hw1=>jHR V n on tk fr nw w1 (hOn w1 (QF 3 hw1 I)) hGn) ?_
  rintro ⟨V2,G2⟩ hI
  have hI:jSD V n V2 G2 (zu nw (n,on,tk,fr)).1:=hI;obtain ⟨s2,hs2⟩:∃s2:StX,s2=((V2,(zu nw (n,on,tk,fr)).1),(zu nw (n,on,tk,fr)).2):=⟨_,rfl⟩;refine qE (n:=S1.length) (cs:=cellsOf stE S) (Rd.own 3 I) Jz k I I I I hlt ?_;refine ql (us:=stE ((V2,(zu nw (n,on,tk,fr)).1),(zu nw (n,on,tk,fr)).2)) (j:=k*24) 3 I I I I I I I (by rw[cS];show k*24+24<=_;omega) (by simp) ?_;refine zh ?_;have hSet:∀z∈S.set k s2,z∈S\/z=s2:=fun z hz=>List.mem_or_eq_of_mem_set hz
  refine ih (k+1,S.set k s2,[jC G2,jC G]) _ _ ⟨hlt,?_,?_,?_⟩ (by show S1.length-(k+1)<S1.length-k;omega) ⟨I,I,I,I,I,I,I,trivial⟩ ?_
  ·show ssP (S.set k s2)=_;rw[jL3,hP,hs2];exact K9 (zu nw) hs0
  ·intro z hz;rcases hSet z hz with hz|rfl
   ·exact fun w2 hg2=>hO z hz w2 (jK hg2 (by simp))
   ·rw [hs2];exact fun w2 hg2=>hI w2 (hOn w2 (jK hg2 (by simp))) (jK hg2 (by simp))
  ·intro z hz;rcases hSet z hz with hz|rfl
   ·exact hgd z hz
   ·rw [hs2];exact jRY (s:=(n,on,tk,fr)) hGn hfn
  ·show Ent _ _ [jS b3 [ve,vo,vn] 34,jS b4 meZ 26,jM (sv y S1.length) 77 24 S1.length (cellsOf stE (S.set k s2)),jC [jC G2,jC G]];refine Ent.trans (Ent.pick (H':=[jC G2,jC G]++[jS b3 [ve,vo,vn] 34,jS b4 meZ 26,_]) [0,4,1,2,3] I I) (Ent.trans Ent.group (Ent.trans (Ent.pick [3,1,2,0] I I) (Ent.trans (qC I ?_) (Ent.pick [1,2,0,3] I I))));rw[hs2];exact j6 (i:=0) Jd hs I (show 0+24<=24 by decide)
 have hke:k=S1.length:=by have:¬(k:Int)<(S1.length:Int):=of_decide_eq_false h2;omega
 rw[hke,<- kT S1,List.take_length,List.drop_length,List.append_nil]at hP;have hP2:ssP S=(nds xs).map (fun n=>zu nw (Jt nw (n,Me.live a n.addr,false,fr0))):=by rw[hP,hP1,hP0,List.map_map,List.map_map];rfl
 obtain ⟨fs,hfs⟩:∃fs,fs=(Me.spoken ⟨t,nds xs⟩ a).map (·.2):=⟨_,rfl⟩;have hF:S.map (fun s=>(s.2.2.2,s.2.2.1))=fs:=by
  have:=jPn ⟨t,nds xs⟩ a;rw[hfs,<- this,<- hnw,<- hP2,List.map_map];rfl
 have hN:ssN S=(Me.spoken ⟨t,nds xs⟩ a).map (·.1):=by
  have:=jPm ⟨t,nds xs⟩ a;rw[<- this,<- hnw,<- hP2,List.map_map];rfl
 obtain ⟨l2,hl2⟩:∃l2,l2=ssN S:=⟨_,rfl⟩;have hO2:=hO;have hgd2:=hgd;obtain ⟨S2,hS2⟩:∃S2,S2=S:=⟨_,rfl⟩;obtain ⟨G2,hG2⟩:∃G2,G2=G:=⟨_,rfl⟩;subst hS2;subst hG2;have hL2:S2.length=xs.length:=by rw[hSl,hSl1,hS0]
 rw[<- hSl];clear hO hgd hP ih hk cS y_sv hP1 hP0 hO1 hgd1 hO0 hgd0;refine zh ?_;refine HR.loop (ι:=Nat×List StX×List Chunk) (fun x=>x.1<=S2.length/\ssN x.2.1=Me.tells a nw fs x.1 l2/\x.2.1.map (·.2)=S2.map (·.2)/\(∀ s∈x.2.1,Own s.1.1 x.2.2 s.1.2)/\∀s∈x.2.1,GdN s.1.2) (fun x=>[(3,ptr b3),(4,ptr b4),(5,.int .i64 nw),(6,sv y S2.length),(59,.int .i64 (S2.length:Int)),(60,.int .i64 (x.1:Int))]) (fun x=>[jS b3 [ve,vo,vn] 34,jS b4 meZ 26,cSt (sv y S2.length) x.2.1,jC x.2.2]) (fun x=>S2.length-x.1) (0,S2,G2) ⟨Nat.zero_le _,hl2.symm,rfl,hO2,fun s hs=>(hgd2 s hs).1⟩ ⟨I,I,I,I,I,I,trivial⟩ (Ent.pick [0,1,2,3] I I) ?_
 rintro ⟨k,S,G⟩ ⟨hk,hT,hS2m,hO,hgd⟩ ih
 have hk:k<=S2.length:=hk;have hT:ssN S=Me.tells a nw fs k l2:=hT;have hS2m:S.map (·.2)=S2.map (·.2):=hS2m;have hO:∀s∈S,Own s.1.1 G s.1.2:=hO;have hgd:∀s∈S,GdN s.1.2:=hgd;have hSl:S.length=S2.length:=by have:=congrArg List.length hS2m;rwa[List.length_map,List.length_map]at this
 have cS:(cellsOf stE S).length=S.length*24:=jA Jd _;refine zh ?_;refine HR.cond I (fun h2=>?_) (fun h2=>?_)
 ·have hlt:k<S2.length:=by have:(k:Int)<(S2.length:Int):=of_decide_eq_true h2;omega
  have hlt':k<S.length:=by omega
  obtain ⟨⟨⟨V,n⟩,on,tk,fr⟩,hs⟩:=jG hlt';have hs2:(S2.map (·.2))[k]? =some (on,tk,fr):=by rw[<- hS2m,List.getElem?_map,hs];rfl
  have hfk:fs[k]? =some (fr,tk):=by
   rw[<- hF,List.getElem?_map];rw[List.getElem?_map]at hs2;cases hz:S2[k]? with
   |none=>rw[hz]at hs2;cases hs2
   |some z=>rw[hz]at hs2;cases z with|mk z1 z2=>cases hs2;rfl
  have hfd:fr.da.length<=9223372036854775807:=by
   obtain ⟨z,hz,e⟩:=List.mem_map.1 (List.mem_of_getElem? hs2);have:=(hgd2 z hz).2;rw[e]at this;exact this
  have hstep:=jDm (a:=a) (now:=nw) (l:=l2) hfk;rw[<- hT]at hstep;refine zh ?_;refine qE (Rd.own 2 I) Jz k I I I I hlt' ?_;refine qP 14 (Rd.own 2 I) (by rw[cS];omega) I I I I I I I ?_;refine qF (Rd.own 2 I) I I I I (jJ Jd hs (i:=14) I) (zh ?_);refine HR.cond I (fun h3=>?_) (fun h3=>?_)
  ·have h3:tk=false:=by have h3:(!tk)=true:=h3;simpa using h3
   rw[h3,if_neg (by decide)]at hstep;refine zh ?_;exact ih (k+1,S,G) _ _ ⟨hlt,hstep.symm,hS2m,hO,hgd⟩ (by show S2.length-(k+1)<S2.length-k;omega) ⟨I,I,I,I,I,I,trivial⟩ Ent.refl
  have h3:tk=true:=by have h3:(!tk)=false:=h3;simpa using h3
  rw[h3,if_pos rfl]at hstep;obtain ⟨rs,hrs⟩:∃rs,rs=Ra.recv (Ra.san a) fr:=⟨_,rfl⟩;obtain ⟨ac,hac⟩:∃ac,ac=Ra.jCC (Ra.san a) fr:=⟨_,rfl⟩;have hrl:rs.length<=251:=by rw[hrs];exact Ra.jJh _ _
  repeat' (first|refine zh ?_|refine qE (Rd.own 2 I) Jz k I I I I hlt' ?_|refine qP 15 (Rd.own 2 I) (by rw[cS];omega) I I I I I I I ?_|refine qN (us:=frC fr) (Rd.own 2 I) I I I I (by simp) I (jPS hs) ?_|intro (bk:Nat))
  refine qL (r:=fun x:Value=> .tuple ⟨[x,.bool ac]⟩) (Q:=fun _=>True) (G:=fun x=>[cIr x rs]) fn42 I I (fun w1 hw1=>by rw[hrs,hac];exact (jJE a fr ve vo vn w1 (hA.at hw1)).mono fun e w' ⟨x,e1,e2⟩=>⟨x,e1,trivial,e2⟩) ?_;intro vr _;refine zh ?_;refine qM (H':=[cSt (sv y S2.length) S,cIr vr rs,jC G]++[jS bk (frC fr) 75,jS b3 [ve,vo,vn] 34,jS b4 meZ 26]) (Ent.pick [4,0,5,1,2,3] I I) (qQ (r:=fun _=> .bool (Me.hears fr nw (ssN S) rs).2) (Q:=fun x:List StX×List Chunk=>ssN x.1=(Me.hears fr nw (ssN S) rs).1/\x.1.map (·.2)=S.map (·.2)/\(∀ s∈x.1,Own s.1.1 x.2 s.1.2)/\∀s∈x.1,GdN s.1.2) (G:=fun x=>[cSt (sv y S2.length) x.1,cIr vr rs,jC x.2]) fn43 I I I (fun w1 hw1=>jNA S fr rs nw (sv y S2.length) vr G _ w1 (hw1.pick [0,1,2] I I) hO hgd hfd (by omega) (by omega)) ?_)
  rintro ⟨S',G'⟩ ⟨hN',hM',hO',hgd'⟩
  have hN':ssN S'=(Me.hears fr nw (ssN S) rs).1:=hN';have hM':S'.map (·.2)=S.map (·.2):=hM';have hO':∀s∈S',Own s.1.1 G' s.1.2:=hO';have hgd':∀s∈S',GdN s.1.2:=hgd';obtain ⟨rc,hrc⟩:∃rc,rc=(Me.hears fr nw (ssN S) rs).2:=⟨_,rfl⟩;rw[<- hrc];have hSl':S'.length=S.length:=by have:=congrArg List.length hM';rwa[List.length_map,List.length_map]at this
  have cS':(cellsOf stE S').length=S'.length*24:=jA Jd _;have hlt2:k<S'.length:=by omega
  obtain ⟨⟨⟨V1,n1⟩,on1,tk1,fr1⟩,hs1⟩:=jG hlt2;have hsm1:=List.mem_of_getElem? hs1;have hOn1:Own V1 G' n1:=hO' _ hsm1;have hGn1:GdN n1:=hgd' _ hsm1;have hnth:Me.nth (Me.hears fr nw (ssN S) rs).1 k=n1:=by rw[<- hN'];exact jL6 hs1
  obtain ⟨okk,hokk⟩:∃okk,okk=(ac&&(rc||(fr.dst==255))):=⟨_,rfl⟩;have hstep2:Me.tells a nw fs (k+1) l2=(ssN S').set k (result n1 fr okk):=by
   rw[hstep];show (Me.hears fr nw (ssN S) (Ra.recv (Ra.san a) fr)).1.set k (result (Me.nth (Me.hears fr nw (ssN S) (Ra.recv (Ra.san a) fr)).1 k) fr (Ra.jCC (Ra.san a) fr&&((Me.hears fr nw (ssN S) (Ra.recv (Ra.san a) fr)).2||(fr.dst==255))))=_;rw[<- hrs,<- hac,<- hrc,hnth,<- hokk,hN']
  refine zh ?_;refine HR.join (ι:=NV×List Chunk) (fun x=>Own x.1 x.2 (result n1 fr okk)) (fun x=>[(3,ptr b3),(4,ptr b4),(5,.int .i64 nw),(6,sv y S2.length),(59,.int .i64 (S2.length:Int)),(60,.int .i64 (k:Int))]) (fun x=>[jM (sv y S2.length) 77 24 S'.length (cellsOf stE (S'.set k ((x.1,result n1 fr okk),on1,tk1,fr1))),jC x.2,jC G',jS b3 [ve,vo,vn] 34,jS b4 meZ 26]) ?_ (fun hj=>?_)
  rotate_left
  ·clear hstep hac;cases ac with
   |false=>
    cases rc with
    |false=>
     refine qU [(0,true),(1,true),(2,true),(3,true),(4,true),(5,true),(6,true),(7,true),(8,true),(9,true),(10,true),(11,true),(12,true),(13,true),(14,true),(15,true),(16,true),(17,false),(18,true),(19,true)] 20 [0,3] I I j3 (by kernel_rfl) (zd ?_);refine qc (Rd.own 0 I) Jz k I I I I I hlt2 ?_;refine QA 0 (Rd.own 0 I) (by rw[cS'];omega) I I I I I I I I ?_;refine QI (us:=ndC V1 n1) (Rd.own 0 I) I I I I I (by simp) I (K4 hs1) (zd ?_);refine HD.one I (qL (r:=fun x:NV×List Chunk=> .agg ⟨ndC x.1 (result n1 fr okk)⟩) (Q:=fun x=>Own x.1 x.2 (result n1 fr okk)) (G:=fun x=>[jC x.2]) fn44 I I (fun w1 hw1=>by rw[hokk];exact kY V1 n1 fr _ w1 (hOn1 w1 (QF 2 hw1 I)) hGn1.sm) ?_)
     rintro ⟨V3,G3⟩ hO3
     have hO3:Own V3 G3 (result n1 fr okk):=hO3;refine HL.back [1,4] I I (qc (Rd.own 0 I) Jz k I I I I I hlt2 ?_);refine QA 0 (Rd.own 0 I) (by rw[cS'];omega) I I I I I I I I ?_;refine qo I (ql (us:=ndC V3 (result n1 fr okk)) (j:=k*24+0) 1 I I I I I I I (by rw[cS'];show k*24+0+13<=_;omega) (by simp) ?_);refine zn ?_;exact hj (V3,G3) _ _ hO3 ⟨I,I,I,I,I,I,trivial⟩ (Ent.trans (Ent.pick [1,0,3,5,6] I I) (qC I (j6 (i:=0) Jd hs1 I (show 0+13<=24 by decide))))
    |true=>
     refine qU [(0,true),(1,true),(2,true),(3,true),(4,true),(5,true),(6,true),(7,true),(8,true),(9,true),(10,true),(11,true),(12,true),(13,true),(14,true),(15,true),(16,true),(17,false),(18,true),(19,true)] 20 [0,3] I I j3 (by kernel_rfl) (zd ?_);refine qc (Rd.own 0 I) Jz k I I I I I hlt2 ?_;refine QA 0 (Rd.own 0 I) (by rw[cS'];omega) I I I I I I I I ?_;refine QI (us:=ndC V1 n1) (Rd.own 0 I) I I I I I (by simp) I (K4 hs1) (zd ?_);refine HD.one I (qL (r:=fun x:NV×List Chunk=> .agg ⟨ndC x.1 (result n1 fr okk)⟩) (Q:=fun x=>Own x.1 x.2 (result n1 fr okk)) (G:=fun x=>[jC x.2]) fn44 I I (fun w1 hw1=>by rw[hokk];exact kY V1 n1 fr _ w1 (hOn1 w1 (QF 2 hw1 I)) hGn1.sm) ?_)
     rintro ⟨V3,G3⟩ hO3
     have hO3:Own V3 G3 (result n1 fr okk):=hO3;refine HL.back [1,4] I I (qc (Rd.own 0 I) Jz k I I I I I hlt2 ?_);refine QA 0 (Rd.own 0 I) (by rw[cS'];omega) I I I I I I I I ?_;refine qo I (ql (us:=ndC V3 (result n1 fr okk)) (j:=k*24+0) 1 I I I I I I I (by rw[cS'];show k*24+0+13<=_;omega) (by simp) ?_);refine zn ?_;exact hj (V3,G3) _ _ hO3 ⟨I,I,I,I,I,I,trivial⟩ (Ent.trans (Ent.pick [1,0,3,5,6] I I) (qC I (j6 (i:=0) Jd hs1 I (show 0+13<=24 by decide))))
   |true=>
    cases rc with
    |false=>
     refine qU [(0,true),(1,true),(2,true),(3,true),(4,true),(5,true),(6,true),(7,true),(8,true),(9,true),(10,true),(11,true),(12,true),(13,true),(14,true),(15,true),(16,true),(17,false),(18,true),(19,true)] 20 [0,3] I I j3 (by kernel_rfl) (zd ?_);refine qc (Rd.own 0 I) Jz k I I I I I hlt2 ?_;refine QA 0 (Rd.own 0 I) (by rw[cS'];omega) I I I I I I I I ?_;refine QI (us:=ndC V1 n1) (Rd.own 0 I) I I I I I (by simp) I (K4 hs1) (zd ?_);refine HD.one I (qL (r:=fun x:NV×List Chunk=> .agg ⟨ndC x.1 (result n1 fr okk)⟩) (Q:=fun x=>Own x.1 x.2 (result n1 fr okk)) (G:=fun x=>[jC x.2]) fn44 I I (fun w1 hw1=>by rw[hokk];exact kY V1 n1 fr _ w1 (hOn1 w1 (QF 2 hw1 I)) hGn1.sm) ?_)
     rintro ⟨V3,G3⟩ hO3
     have hO3:Own V3 G3 (result n1 fr okk):=hO3;refine HL.back [1,4] I I (qc (Rd.own 0 I) Jz k I I I I I hlt2 ?_);refine QA 0 (Rd.own 0 I) (by rw[cS'];omega) I I I I I I I I ?_;refine qo I (ql (us:=ndC V3 (result n1 fr okk)) (j:=k*24+0) 1 I I I I I I I (by rw[cS'];show k*24+0+13<=_;omega) (by simp) ?_);refine zn ?_;exact hj (V3,G3) _ _ hO3 ⟨I,I,I,I,I,I,trivial⟩ (Ent.trans (Ent.pick [1,0,3,5,6] I I) (qC I (j6 (i:=0) Jd hs1 I (show 0+13<=24 by decide))))
    |true=>
     refine qU [(0,true),(1,true),(2,true),(3,true),(4,true),(5,true),(6,true),(7,true),(8,true),(9,true),(10,true),(11,true),(12,true),(13,true),(14,true),(15,true),(16,true),(17,false),(18,true),(19,true)] 20 [0,3] I I j3 (by kernel_rfl) (zd ?_);refine qc (Rd.own 0 I) Jz k I I I I I hlt2 ?_;refine QA 0 (Rd.own 0 I) (by rw[cS'];omega) I I I I I I I I ?_;refine QI (us:=ndC V1 n1) (Rd.own 0 I) I I I I I (by simp) I (K4 hs1) (zd ?_);refine HD.one I (qL (r:=fun x:NV×List Chunk=> .agg ⟨ndC x.1 (result n1 fr okk)⟩) (Q:=fun x=>Own x.1 x.2 (result n1 fr okk)) (G:=fun x=>[jC x.2]) fn44 I I (fun w1 hw1=>by rw[hokk];exact kY V1 n1 fr _ w1 (hOn1 w1 (QF 2 hw1 I)) hGn1.sm) ?_)
     rintro ⟨V3,G3⟩ hO3
     have hO3:Own V3 G3 (result n1 fr okk):=hO3;refine HL.back [1,4] I I (qc (Rd.own 0 I) Jz k I I I I I hlt2 ?_);refine QA 0 (Rd.own 0 I) (by rw[cS'];omega) I I I I I I I I ?_;refine qo I (ql (us:=ndC V3 (result n1 fr okk)) (j:=k*24+0) 1 I I I I I I I (by rw[cS'];show k*24+0+13<=_;omega) (by simp) ?_);refine zn ?_;exact hj (V3,G3) _ _ hO3 ⟨I,I,I,I,I,I,trivial⟩ (Ent.trans (Ent.pick [1,0,3,5,6] I I) (qC I (j6 (i:=0) Jd hs1 I (show 0+13<=24 by decide))))
  rintro ⟨V3,G3⟩ hO3
  have hO3:Own V3 G3 (result n1 fr okk):=hO3;obtain ⟨s3,hs3⟩:∃s3:StX,s3=((V3,result n1 fr okk),on1,tk1,fr1):=⟨_,rfl⟩;have hSet:∀z∈S'.set k s3,z∈S'\/z=s3:=fun z hz=>List.mem_or_eq_of_mem_set hz
  refine zh ?_;refine ih (k+1,S'.set k s3,[jC G3,jC G']) _ _ ⟨hlt,?_,?_,?_,?_⟩ (by show S2.length-(k+1)<S2.length-k;omega) ⟨I,I,I,I,I,I,trivial⟩ ?_
  ·show ssN (S'.set k s3)=_;rw[jL5,hstep2,hs3]
  ·show (S'.set k s3).map (·.2)=_;rw[List.map_set,jCF (by rw[List.getElem?_map,hs1,hs3];rfl),hM',hS2m]
  ·intro z hz;rcases hSet z hz with hz|rfl
   ·exact fun w2 hg2=>hO' z hz w2 (jK hg2 (by simp))
   ·rw [hs3];exact fun w2 hg2=>hO3 w2 (jK hg2 (by simp))
  ·intro z hz;rcases hSet z hz with hz|rfl
   ·exact hgd' z hz
   ·rw [hs3];exact hGn1.result fr okk
  ·show Ent _ _ [jS b3 [ve,vo,vn] 34,jS b4 meZ 26,jM (sv y S2.length) 77 24 (S'.set k s3).length (cellsOf stE (S'.set k s3)),jC [jC G3,jC G']];refine Ent.trans (Ent.pick (H':=[jC G3,jC G']++[jS b3 [ve,vo,vn] 34,jS b4 meZ 26,_]) [1,2,3,4,0] I I) (Ent.trans Ent.group (Ent.trans (Ent.pick [3,1,2,0] I I) (Ent.trans (qC List.length_set.symm (by rw[hs3])) (Ent.pick [1,2,0,3] I I))))
 have hke:k=S2.length:=by have:¬(k:Int)<(S2.length:Int):=of_decide_eq_false h2;omega
 rw[hke]at hT;have hfin:ssN S=(Me.jLD ⟨t,nds xs⟩ a).nodes:=by
  rw[hT];show _=Me.tells a (Me.jFV t) ((Me.spoken ⟨t,nds xs⟩ a).map (·.2)) (nds xs).length ((Me.spoken ⟨t,nds xs⟩ a).map (·.1));rw[<- hnw,<- hfs,<- hN,<- hl2,JW,hL2]
 refine zh ?_;intro (bk:Nat);refine zh ?_;generalize bk=b15;refine HR.J6 62 13 (HR.loop (ι:=Nat×SV×List (NV×Nd)) (fun x=>x.1<=S.length/\x.2.2=(S.take x.1).map (·.1)) (fun x=>[(4,ptr b4),(15,ptr b15),(108,sv y S2.length),(109,.int .i64 (S2.length:Int)),(110,.int .i64 (x.1:Int))]) (fun x=>[meB b15 nw (sv x.2.1 x.2.2.length),jS b4 meZ 26,cSt (sv y S2.length) S,cNd (sv x.2.1 x.2.2.length) x.2.2,jC G]) (fun x=>S.length-x.1) (0,(none,0),[]) ⟨Nat.zero_le _,rfl⟩ ⟨I,I,I,I,I,trivial⟩ (Ent.pick [1,3,4,0,5] I I) ?_)
 rintro ⟨j,z,zs⟩ ⟨hj,hzs⟩ ih4
 have hj:j<=S.length:=hj;have hzs:zs=(S.take j).map (·.1):=hzs;have hzl:zs.length=j:=by rw[hzs];simp;omega
 refine zh ?_;refine HR.cond I (fun h4=>?_) (fun h4=>?_)
 rotate_left
 ·have hje:j=S.length:=by have:¬(j:Int)<(S2.length:Int):=of_decide_eq_false h4;omega
  rw[hje,List.take_length]at hzs;refine zh ?_;refine HR.ret Tryz.func15 I [_] (fun w hw=>⟨⟨_,rfl,jQ hw 1 I I I I rfl⟩,trivial⟩) ?_;refine fun w' hw=>⟨(z,zs,G),by rw[<- hnw];rfl,⟨⟨?_,?_⟩,?_⟩,hw.pick [3,4] I rfl⟩
  ·show nds zs=_;rw[hzs,<- hfin];unfold nds ssN;rw[List.map_map];rfl
  ·intro q hq;have hq:q∈zs:=hq;rw[hzs]at hq;obtain ⟨s,hs,rfl⟩:=List.mem_map.1 hq;exact hO s hs
  ·intro q hq;have hq:q∈zs:=hq;rw[hzs]at hq;obtain ⟨s,hs,rfl⟩:=List.mem_map.1 hq;exact hgd s hs
 have hlt:j<S.length:=by have:(j:Int)<(S2.length:Int):=of_decide_eq_true h4;omega
 obtain ⟨⟨⟨V,n⟩,on,tk,fr⟩,hs⟩:=jG hlt
 repeat' (first|refine zh ?_|refine qE (Rd.own 2 I) Jz j I I I I hlt ?_|refine qN (us:=stE ((V,n),on,tk,fr)) (Rd.own 2 I) I I I I (by simp) I (jD Jd hs) ?_|intro (bk:Nat))
 refine qH JQ I I I I I (by decide) (by decide) ?_;intro va;refine qJ 5 I JQ (Rd.own 0 I) I I I I (jH I) (by show (zs.length+1)*232<=_;omega) (by show zs.length+1<=_;omega) ?_;intro vc;refine HL.shape 5 I fun ac2 cc2 hv=>?_
 subst hv;refine zh ?_;refine ih4 (j+1,(ac2,cc2),zs++[(V,n)]) _ _ ⟨hlt,?_⟩ (by show S.length-(j+1)<S.length-j;omega) ⟨I,I,I,I,I,trivial⟩ ?_
 ·show zs++[(V,n)]=(S.take (j+1)).map (·.1);rw[jE hs,List.map_append,<- hzs];rfl
 ·show Ent _ _ [meB b15 nw (sv (ac2,cc2) (zs++[(V,n)]).length),jS b4 meZ 26,cSt (sv y S2.length) S,cNd (sv (ac2,cc2) (zs++[(V,n)]).length) (zs++[(V,n)]),jC G];rw[jR7,show (zs++[((V,n):NV×Nd)]).length=zs.length+1 by simp];exact Ent.pick [2,3,4,5,6] I I
end Go.Proofs.YtgfdoognildoeaaGreat
namespace Me
open Go.GX Nd Tp
section
variable {addrs polls : List Int}
theorem jG7 {k:Nat} {x:Nd.Nd}:x∈build addrs polls k↔∃i,i<k/\nodeAt addrs polls i=x:=by
 rw[(jAM addrs polls k).mem_iff,List.mem_map]
 constructor
 ·rintro ⟨i,hi,e⟩;exact ⟨i,List.mem_range.1 hi,e⟩
 ·rintro ⟨i,hi,e⟩;exact ⟨i,List.mem_range.2 hi,e⟩
theorem jN5 (k:Nat):(build addrs polls k).length=k:=by rw[(jAM addrs polls k).length_eq];simp
theorem jKM {k:Nat} (h:jf (Jg addrs) k=0) {i:Nat} (hi:i<k) (hl:k<=addrs.length):okN (addrs.getD i 0)=true/\∀j,j<i->addrs.getD j 0≠addrs.getD i 0:=by
 have h1:=zX h i hi;unfold Jg at h1;have hil:i<addrs.length:=by omega
 rw[List.getElem?_eq_getElem hil]at h1;have e:addrs.getD i 0=addrs[i]:=by rw[List.getD_eq_getElem?_getD,List.getElem?_eq_getElem hil];rfl
 simp only at h1
 split at h1
 ·cases h1
 ·rename_i h2
  split at h1
  ·cases h1
  ·rename_i h3
   refine ⟨by rw[e];cases g:okN addrs[i];exact absurd g h2;rfl,fun j hj e2=>h3 ?_⟩;rw[e,List.getD_eq_getElem?_getD,List.getElem?_eq_getElem (show j<addrs.length by omega)]at e2;rw[<- e2];exact List.mem_of_getElem? (i:=j) (by rw[List.getElem?_take_of_lt hj,List.getElem?_eq_getElem (show j<addrs.length by omega)];rfl)
theorem jLd {k:Nat} (h:jf (Jg addrs) k=0) (hl:k<=addrs.length) {x:Nd.Nd} (hx:x∈build addrs polls k):∃i,i<k/\x.addr=addrs.getD i 0:=by
 obtain ⟨i,hi,rfl⟩:=jG7.1 hx;refine ⟨i,hi,?_⟩;unfold nodeAt;exact (ko (jKM h hi hl).1).1
theorem jN7 {k:Nat} (h:jf (Jg addrs) k=0) (hl:k<=addrs.length) (a:Int):(idx (build addrs polls k) a).isSome=decide (a∈addrs.take k):=by
 have hiff:(∃ x∈build addrs polls k,x.addr=a)↔a∈addrs.take k:=by
  constructor
  ·rintro ⟨x,hx,e⟩
   obtain ⟨i,hi,e2⟩:=jLd h hl hx;refine List.mem_of_getElem? (i:=i) ?_;rw[List.getElem?_take_of_lt hi,List.getElem?_eq_getElem (show i<addrs.length by omega),<- e,e2,List.getD_eq_getElem?_getD,List.getElem?_eq_getElem (show i<addrs.length by omega)];rfl
  ·intro ha;obtain ⟨i,hi⟩:=List.getElem?_of_mem ha;have hik:i<k:=by have:=(List.getElem?_eq_some_iff.1 hi).1;simp at this;omega
   rw[List.getElem?_take_of_lt hik]at hi;refine ⟨nodeAt addrs polls i,jG7.2 ⟨i,hik,rfl⟩,?_⟩;unfold nodeAt;rw[(ko (jKM h hik hl).1).1,List.getD_eq_getElem?_getD,hi];rfl
 by_cases ha:a∈addrs.take k
 ·rw [decide_eq_true ha];obtain ⟨x,hx,e⟩:=hiff.2 ha;obtain ⟨i,hi⟩:=jNY hx;rw[e]at hi;rw[hi];rfl
 ·rw [decide_eq_false ha];cases hi:idx (build addrs polls k) a with
  |none=>rfl
  |some i=>
   obtain ⟨h1,h2⟩:=jCU hi;exact absurd (hiff.1 ⟨_,List.mem_of_getElem? h1,h2⟩) ha
end
end Me
namespace Go.Proofs.YtgfdoognildoeaaGreat
open Go.GX Go.RowKit
attribute [local irreducible] Calls Run JH JL zU HR HL HD jS jM ZN Rd jg Jf
open Nd
theorem fn10:IsFn Tryz.prog 10:=zF Tryz.func10 I
theorem jQr {l:List Nd} {n:Nd} {j:Nat} (hj:j<=l.length) (h1:∀i x,i<j->l[i]? =some x->x.addr<n.addr) (h2:∀x,l[j]? =some x->¬x.addr<n.addr):Me.put l n=l.take j++n::l.drop j:=by
 obtain ⟨e1,e2⟩:=Nd.jKP (p:=fun x:Nd=>decide (x.addr<n.addr)) hj (fun i x hi hx=>decide_eq_true (h1 i x hi hx)) (fun x hx=>decide_eq_false (h2 x hx));unfold Me.put Nd.ins;rw[e1,e2]
theorem jGn {xs:List (NV×Nd)} {a:Int}:(Me.idx (nds xs) a).isSome=decide (jNZ (nds xs) a>=0):=by
 unfold jNZ;cases Me.idx (nds xs) a with
 |none=>rfl
 |some i=>simp
theorem jLo {l:List Int} {k:Nat} {a:Int} (h:l[k]? =some a):Me.Jg l k=if Tp.okN a=false then 2 else if a∈l.take k then 9 else 0:=by unfold Me.Jg;rw[h]
theorem jFG {addrs polls:List Int} {k:Nat} (hl:addrs.length<=24) (h0:jf (Me.Jg addrs) k=0) (hk:k<addrs.length) (h1:Me.Jg addrs k≠0):Me.jHK addrs polls=(Me.jNB,Me.Jg addrs k):=by
 have e:=Ku h0 h1 hk;unfold Me.jHK;rw[if_neg (by omega),if_pos (by rw[e];exact h1),e]
theorem jNF {addrs polls:List Int} (hl:addrs.length<=24) (h0:jf (Me.Jg addrs) addrs.length=0):Me.jHK addrs polls=(⟨0,Me.build addrs polls addrs.length⟩,0):=by
 unfold Me.jHK;rw[if_neg (by omega),if_neg (by rw[h0];decide)]
theorem jNG {addrs polls:List Int} (hl:addrs.length>24):Me.jHK addrs polls=(Me.jNB,3):=by unfold Me.jHK;rw[if_pos hl]
theorem jHu {polls:List Int} {k:Nat} {p:Int} (h:polls[k]? =some p):Me.jCy polls k=p:=by unfold Me.jCy;rw[List.getD_eq_getElem?_getD,h];rfl
theorem jHv {polls:List Int} {k:Nat} (h:polls.length<=k):Me.jCy polls k=0:=by unfold Me.jCy;rw[List.getD_eq_getElem?_getD,List.getElem?_eq_none h];rfl
theorem jQs {a:Int}:(decide (a<0)||decide (a>250))=!Tp.okN a:=by
 cases h:Tp.okN a with
 |true=>rw[Nd.zL]at h;simp;omega
 |false=>
  have:¬Tp.okN a=true:=by rw[h];decide
  rw[Nd.zL]at this;simp;omega
abbrev jSC (x:SV×List (NV×Nd)×List Chunk) (l:List Nd):Prop:=MkL x l/\∀y∈x.2.1,GdN y.2
theorem mk_zero:jSC ((none,0),[],[]) []:=⟨⟨rfl,fun y hy=>(List.not_mem_nil hy).elim⟩,fun y hy=>(List.not_mem_nil hy).elim⟩
theorem jEq {B:Base} {H:List Chunk} {w:World} (h:Sat B H w):Sat B [cNd (sv (none,0) 0) [],jC []] w:=
 Ent.trans (QJ (H:=[cNd (sv (none,0) 0) []])) (Ent.pick [1,0] I I) w (Sat.J6 (h.pick [] I I) 62 13)
theorem jJ1 (addrs polls:List Int) (va vp:Value) (w:World) (ha:Sl w va (cellsOf iC addrs) addrs.length) (hp:Sl w vp (cellsOf iC polls) polls.length) (hla:addrs.length<=1000000) (hlp:polls.length<=1000000):
  Calls Tryz.prog 10 #[va,vp] w fun e w'=>∃x:SV×List (NV×Nd)×List Chunk,e= .returned (.tuple ⟨[meV 0 (sv x.1 x.2.1.length),.int .i64 (Me.jHK addrs polls).2]⟩)/\jSC x (Me.jHK addrs polls).1.nodes/\Sat (base w) [cNd (sv x.1 x.2.1.length) x.2.1,jC x.2.2] w':=by
 refine zE Tryz.func10 I [(0,va),(1,vp)] ?_;refine HR.ctl I (HR.region ?_);refine HL.alloc I I ?_;intro b4;refine zh ?_;refine qD (qA ha) I I I (zh ?_);refine HR.cond I (fun h1=>?_) (fun h1=>?_)
 ·have h1:addrs.length>24:=by have:(addrs.length:Int)>24:=of_decide_eq_true h1;omega
  rw[jNG h1];refine zh ?_;refine HR.ret Tryz.func10 I [_,_] (fun w hw=>⟨⟨_,rfl,jQ hw 0 I I I I rfl⟩,rfl,trivial⟩) ?_
  exact fun w' hw=>⟨((none,0),[],[]),rfl,mk_zero,jEq hw⟩
 have h24:addrs.length<=24:=by have:¬(addrs.length:Int)>24:=of_decide_eq_false h1;omega
 refine HR.ctl I (HR.region ?_);refine HL.alloc I I ?_;intro b6;refine zh ?_;refine qD (qA ha) I I I (zh ?_);refine HR.J6 62 13 (HR.loop (ι:=Nat×SV×List (NV×Nd)×List Chunk) (fun x=>x.1<=addrs.length/\jf (Me.Jg addrs) x.1=0/\jSC x.2 (Me.build addrs polls x.1)) (fun x=>[(0,va),(1,vp),(4,ptr b4),(6,ptr b6),(15,va),(16,.int .i64 (addrs.length:Int)),(17,.int .i64 (x.1:Int))]) (fun x=>[meB b6 0 (sv x.2.1 x.2.2.1.length),jS b4 meZ 26,cNd (sv x.2.1 x.2.2.1.length) x.2.2.1,jC x.2.2.2]) (fun x=>addrs.length-x.1) (0,(none,0),[],[]) ⟨Nat.zero_le _,rfl,mk_zero⟩ ⟨I,I,I,I,I,I,I,trivial⟩ (Ent.trans QJ (Ent.pick [2,3,1,0] I I)) ?_)
 rintro ⟨k,y,ys,G⟩ ⟨hk,hE,⟨hN,hO⟩,hG⟩ ih
 have hk:k<=addrs.length:=hk;have hE:jf (Me.Jg addrs) k=0:=hE;have hN:nds ys=Me.build addrs polls k:=hN;have hO:∀z∈ys,Own z.1 G z.2:=hO;have hG:∀z∈ys,GdN z.2:=hG;have hyl:ys.length=k:=by rw[<- JW,hN,Me.jN5]
 have cy:(cellsOf ZF ys).length=ys.length*13:=jA jh _;refine zh ?_;refine HR.cond I (fun h2=>?_) (fun h2=>?_)
 rotate_left
 ·have hke:k=addrs.length:=by have:¬(k:Int)<(addrs.length:Int):=of_decide_eq_false h2;omega
  subst hke;rw[jNF h24 hE];refine zh ?_;refine HR.ret Tryz.func10 I [_,_] (fun w hw=>⟨⟨_,rfl,jQ hw 1 I I I I rfl⟩,rfl,trivial⟩) ?_
  exact fun w' hw=>⟨(y,ys,G),rfl,⟨⟨hN,hO⟩,hG⟩,hw.pick [2,3] I rfl⟩
 have hlt:k<addrs.length:=by have:(k:Int)<(addrs.length:Int):=of_decide_eq_true h2;omega
 obtain ⟨a,hak⟩:=jG hlt;have hbad:=jLo hak
 repeat' (first|refine zh ?_|refine qE (qA ha) j5 k I I I I hlt ?_|refine qF (qA ha) I I I I (jN hak) ?_|apply zb ?_ ?_|exact zc|(refine zi fun hb=>?_;try simp at hb)|fail)
 refine HR.cond I (fun h3=>?_) (fun h3=>?_)
 ·have h3:Tp.okN a=false:=by have h3:(decide (a<0)||decide (a>250))=true:=h3;rw[jQs]at h3;simpa using h3
  rw[if_pos h3]at hbad;rw[jFG h24 hE hlt (by rw[hbad];decide),hbad];refine zh ?_;refine HR.ret Tryz.func10 I [_,_] (fun w hw=>⟨⟨_,rfl,jQ hw 1 I I I I rfl⟩,rfl,trivial⟩) ?_
  exact fun w' hw=>⟨((none,0),[],[]),rfl,mk_zero,jEq hw⟩
 have hok:Tp.okN a=true:=by have h3:(decide (a<0)||decide (a>250))=false:=h3;rw[jQs]at h3;simpa using h3
 rw[if_neg (by rw[hok];decide)]at hbad;have hhas:=Me.jN7 (polls:=polls) hE hk a;rw[<- hN,jGn]at hhas;refine zh ?_;refine qB jSg I I (fun w1 hw1=>kK ys a _ w1 ((Rd.own 2 rfl).at hw1) (by omega)) (zh ?_);refine HR.cond I (fun h4=>?_) (fun h4=>?_)
 ·have h4:decide (jNZ (nds ys) a>=0)=true:=h4;rw[h4]at hhas;rw[if_pos (of_decide_eq_true hhas.symm)]at hbad;rw[jFG h24 hE hlt (by rw[hbad];decide),hbad];refine zh ?_;refine HR.ret Tryz.func10 I [_,_] (fun w hw=>⟨⟨_,rfl,jQ hw 1 I I I I rfl⟩,rfl,trivial⟩) ?_
  exact fun w' hw=>⟨((none,0),[],[]),rfl,mk_zero,jEq hw⟩
 have h4:decide (jNZ (nds ys) a>=0)=false:=h4;rw[h4]at hhas;rw[if_neg (of_decide_eq_false hhas.symm)]at hbad;have hE1:jf (Me.Jg addrs) (k+1)=0:=Jo hE hbad;obtain ⟨P,hP⟩:∃P,P=Me.jCy polls k:=⟨_,rfl⟩;have hna:Me.nodeAt addrs polls k=new a P:=by unfold Me.nodeAt;rw[List.getD_eq_getElem?_getD,hak,<- hP];rfl
 have hnaa:(new a P).addr=a:=(Me.ko hok).1;refine zh ?_;refine qD (qA hp) I I I (zh ?_);refine HR.join (ι:=Unit) (fun _=>True) (fun _=>[(0,va),(1,vp),(4,ptr b4),(6,ptr b6),(8,.int .i64 a),(9,.int .i64 P),(15,va),(16,.int .i64 (addrs.length:Int)),(17,.int .i64 (k:Int))]) (fun _=>[meB b6 0 (sv y ys.length),jS b4 meZ 26,cNd (sv y ys.length) ys,jC G]) ?_ (fun hj=>?_)
 rotate_left
 ·refine HR.cond I (fun h5=>?_) (fun h5=>?_)
  ·have hlt5:k<polls.length:=by have:(k:Int)<(polls.length:Int):=of_decide_eq_true h5;omega
   obtain ⟨p,hpk⟩:=jG hlt5;rw[jHu hpk]at hP;subst hP;refine HR.region (zn ?_);refine qE (qA hp) j5 k I I I I hlt5 ?_;refine qF (qA hp) I I I I (jN hpk) (zn ?_);exact hj () _ _ trivial ⟨I,I,I,I,I,I,I,I,I,trivial⟩ Ent.refl
  ·have hlt5:polls.length<=k:=by have:¬(k:Int)<(polls.length:Int):=of_decide_eq_false h5;omega
   rw[jHv hlt5]at hP;subst hP;refine HR.skip ?_;exact hj () _ _ trivial ⟨I,I,I,I,I,I,I,I,I,trivial⟩ Ent.refl
 rintro _ _
 refine HR.ctl I (HR.region (zn ?_));refine HR.seq (HR.join (ι:=Nat) (fun j=>j<=ys.length/\(∀ i x,i<j->ys[i]? =some x->x.2.addr<a)/\∀x,ys[j]? =some x->¬x.2.addr<a) (fun j=>[(0,va),(1,vp),(4,ptr b4),(6,ptr b6),(8,.int .i64 a),(9,.int .i64 P),(10,.int .i64 (j:Int)),(15,va),(16,.int .i64 (addrs.length:Int)),(17,.int .i64 (k:Int))]) (fun _=>[meB b6 0 (sv y ys.length),jS b4 meZ 26,cNd (sv y ys.length) ys,jC G]) ?_ (fun hjn=>?_))
 rotate_left
 ·refine HR.ctl I (HR.loop (ι:=Nat) (fun j=>j<=ys.length/\∀i x,i<j->ys[i]? =some x->x.2.addr<a) (fun j=>[(0,va),(1,vp),(4,ptr b4),(6,ptr b6),(8,.int .i64 a),(9,.int .i64 P),(10,.int .i64 (j:Int)),(15,va),(16,.int .i64 (addrs.length:Int)),(17,.int .i64 (k:Int))]) (fun _=>[meB b6 0 (sv y ys.length),jS b4 meZ 26,cNd (sv y ys.length) ys,jC G]) (fun j=>ys.length-j) 0 ⟨Nat.zero_le _,fun i x hi=>absurd hi (Nat.not_lt_zero _)⟩ ⟨I,I,I,I,I,I,I,I,I,I,trivial⟩ Ent.refl ?_)
  rintro j ⟨hj,hlo⟩ ih2
  have hj:j<=ys.length:=hj;have hlo:∀i x,i<j->ys[i]? =some x->x.2.addr<a:=hlo;refine zh ?_
  by_cases hjl:j<ys.length
  ·obtain ⟨x,hx⟩:=jG hjl;refine Qc 48 true I (decide_eq_true (by omega)) (zh ?_);refine qE (Rd.own 2 I) JQ j I I I I hjl ?_;refine qP 0 (Rd.own 2 I) (by rw[cy];omega) I I I I I I I ?_;refine qF (Rd.own 2 I) I I I I (jJ jh hx (i:=0) I) (zh ?_);refine HR.cond I (fun h6=>?_) (fun h6=>?_)
   ·have h6:x.2.addr<a:=of_decide_eq_true h6;refine zh ?_;refine ih2 (j+1) _ _ ⟨hjl,fun i z hi hz=>?_⟩ (by show ys.length-(j+1)<ys.length-j;omega) ⟨I,I,I,I,I,I,I,I,I,I,trivial⟩ Ent.refl
    by_cases e:i=j
    ·subst e;rw[hx]at hz;cases hz;exact h6
    ·exact hlo i z (by omega) hz
   ·have h6:¬x.2.addr<a:=of_decide_eq_false h6;refine HR.exit I ?_;exact hjn j _ _ ⟨hj,hlo,fun z hz=>by rw[hx]at hz;cases hz;exact h6⟩ ⟨I,I,I,I,I,I,I,I,I,I,trivial⟩ Ent.refl
  ·refine Qc 48 false I (decide_eq_false (by omega)) ?_;refine zn ?_;refine QY I (HR.exit I ?_);exact hjn j _ _ ⟨hj,hlo,fun z hz=>by rw[List.getElem?_eq_none (by omega)]at hz;cases hz⟩ ⟨I,I,I,I,I,I,I,I,I,I,trivial⟩ Ent.refl
 rintro j ⟨hj,hlo,hhi⟩
 have hj:j<=ys.length:=hj;have hput:Me.put (nds ys) (new a P)=(nds ys).take j++new a P::(nds ys).drop j:=by
  refine jQr (by rw[JW];exact hj) (fun i x hi hx=>?_) (fun x hx=>?_)
  ·rw [hnaa];obtain ⟨z,hz⟩:=jG (show i<ys.length by omega);rw[Je hz]at hx;cases hx;exact hlo i z hi hz
  ·rw [hnaa];have hjl:j<ys.length:=by have:=(List.getElem?_eq_some_iff.1 hx).1;rwa[JW]at this
   obtain ⟨z,hz⟩:=jG hjl;rw[Je hz]at hx;cases hx;exact hhi z hz
 refine qU [(0,true),(1,true),(2,true),(3,true),(4,true),(5,false),(6,false),(7,false),(8,true)] 9 [0] I I j3 (by kernel_rfl) (zd ?_);refine HD.one I (qL (r:=fun x:NV×List Chunk=> .agg ⟨ndC x.1 (new a P)⟩) (Q:=fun x=>Own x.1 x.2 (new a P)) (G:=fun x=>[jC x.2]) fn36 I I (fun w1 hw1=>jPi a P w1) ?_)
 rintro ⟨V2,G2⟩ hO2
 have hO2:Own V2 G2 (new a P):=hO2;refine HL.back [1] I I (HD.one I ?_);refine qH JQ I I I I I (by decide) (by decide) ?_;intro vx;refine HL.back [2] I I (HD.one I ?_);obtain ⟨zs,hzs⟩:∃zs,zs=ys.take j++(V2,new a P)::ys.drop j:=⟨_,rfl⟩;refine qM (H':=[jM vx 62 13 1 (ZF (V2,new a P)),cNd (sv y ys.length) ys]++[jC G2,meB b6 0 (sv y ys.length),jS b4 meZ 26,jC G]) (Ent.pick [0,4,1,2,3,5] I I) (qQ (r:=fun x:Value=>x) (Q:=fun _=>True) (G:=fun r=>[jM r 62 13 zs.length (cellsOf ZF zs)]) fn35 I I I (fun w1 hw1=>by rw[hzs];exact jNV ys (V2,new a P) j _ vx _ w1 (hw1.pick [0,1] I I) hj (by omega)) ?_);intro r _;refine HL.back [2] I I (zd ?_);refine qo I ?_;refine HL.shape 0 I fun ar cr hv=>?_
 subst hv;refine zn ?_;refine zh ?_;have hmem:∀z∈zs,z∈ys\/z=(V2,new a P):=fun z hz=>by
  rw[hzs]at hz;rcases List.mem_append.1 hz with hz|hz
  ·exact .inl (List.mem_of_mem_take hz)
  ·rcases List.mem_cons.1 hz with hz|hz
   ·exact .inr hz
   ·exact .inl (List.mem_of_mem_drop hz)
 refine ih (k+1,(ar,cr),zs,[jC G2,jC G]) _ _ ⟨hlt,hE1,⟨?_,?_⟩,?_⟩ (by show addrs.length-(k+1)<addrs.length-k;omega) ⟨I,I,I,I,I,I,I,trivial⟩ ?_
 ·show nds zs=Me.put (Me.build addrs polls k) (Me.nodeAt addrs polls k);rw[hna,<- hN,hput,hzs];unfold nds;rw[List.map_append,List.map_cons,List.map_take,List.map_drop]
 ·intro z hz;rcases hmem z hz with hz|rfl
  ·exact fun w2 hg2=>hO z hz w2 (jK hg2 (by simp))
  ·exact fun w2 hg2=>hO2 w2 (jK hg2 (by simp))
 ·intro z hz;rcases hmem z hz with hz|rfl
  ·exact hG z hz
  ·exact GdN.new a P
 ·show Ent _ _ [meB b6 0 (sv (ar,cr) zs.length),jS b4 meZ 26,cNd (sv (ar,cr) zs.length) zs,jC [jC G2,jC G]];exact Ent.trans (Ent.pick (H':=[jC G2,jC G]++[meB b6 0 (sv (ar,cr) zs.length),jS b4 meZ 26,cNd (sv (ar,cr) zs.length) zs]) [1,4,2,3,0] I I) (Ent.trans Ent.group (Ent.pick [1,2,3,0] I I))
end Go.Proofs.YtgfdoognildoeaaGreat
namespace Me
open Go.GX Nd Tp
theorem jGQ:∀ {l m:List Int},l.Nodup->(∀ a∈l,a∈m)->l.length<=m.length
 |[],m,_,_=>Nat.zero_le _
 |a::l,m,hn,hs=>by
  rw[List.nodup_cons]at hn;have ha:a∈m:=hs a (List.mem_cons_self ..);have h1:=jGQ (l:=l) (m:=m.erase a) hn.2 fun b hb=>by
   have hne:b≠a:=fun e=>hn.1 (e▸hb)
   exact (List.mem_erase_of_ne hne).2 (hs b (List.mem_cons_of_mem _ hb))
  rw[List.length_erase_of_mem ha]at h1;have:=List.length_pos_of_mem ha;simp only[List.length_cons];omega
theorem jSb {l:List Nd.Nd} {a:Int} {i:Nat} (h:idx l a=some i):a∈l.map (·.addr):=by
 obtain ⟨h1,h2⟩:=jCU h;exact List.mem_map.2 ⟨_,List.mem_of_getElem? h1,h2⟩
structure Fol (l:List Nd.Nd) (src to:Int) (k:Nat) (p:List Int) (now:Int):Prop where
 eq:jPG l to k p now=follow l src to
 nod:p.Nodup
 sub:∀a∈p,a∈l.map (·.addr)
 dst:to ∉ p
 len:p.length+k=l.length+2
theorem Fol.start (l:List Nd.Nd) (src to:Int):Fol l src to (l.length+2) [] src:=⟨rfl,List.nodup_nil,fun a h=>(List.not_mem_nil h).elim,List.not_mem_nil,by simp⟩
section
variable {l : List Nd.Nd} {src to now : Int} {k : Nat} {p : List Int}
theorem Fol.le (h:Fol l src to k p now):p.length<=l.length:=by have:=jGQ h.nod h.sub;simpa using this
theorem Fol.pos (h:Fol l src to k p now):∃j,k=j+1:=⟨k-1,by have:=h.le;have:=h.len;omega⟩
theorem Fol.none (h:Fol l src to k p now) (hi:idx l now=none):follow l src to=(p,1):=by
 obtain ⟨j,rfl⟩:=h.pos;rw[<- h.eq];unfold jPG;rw[hi]
theorem Fol.again (h:Fol l src to k p now) {i:Nat} (hi:idx l now=some i) (hp:now∈p):follow l src to=(p,2):=by
 obtain ⟨j,rfl⟩:=h.pos;rw[<- h.eq];unfold jPG;rw[hi];simp only;rw[if_pos hp]
theorem Fol.done (h:Fol l src to k p now) {i:Nat} (hi:idx l now=some i) (hp:now ∉ p) (he:now=to):follow l src to=(p++[now],0):=by
 obtain ⟨j,rfl⟩:=h.pos;rw[<- h.eq];unfold jPG;rw[hi];simp only;rw[if_neg hp,if_pos he]
theorem Fol.stop (h:Fol l src to k p now) {i:Nat} (hi:idx l now=some i) (hp:now ∉ p) (he:now≠to) (hh:(zy (nth l i).table to).2=false):follow l src to=(p++[now],1):=by
 obtain ⟨j,rfl⟩:=h.pos;rw[<- h.eq];unfold jPG;rw[hi];simp only;rw[if_neg hp,if_neg he,if_neg (by rw[hh];decide)]
theorem Fol.step (h:Fol l src to k p now) {i:Nat} (hi:idx l now=some i) (hp:now ∉ p) (he:now≠to) (hh:(zy (nth l i).table to).2=true):Fol l src to (k-1) (p++[now]) (zy (nth l i).table to).1:=by
 have hl:=h.len;obtain ⟨j,rfl⟩:=h.pos;refine ⟨?_,?_,fun a ha=>?_,?_,by simp;omega⟩
 ·rw [<- h.eq]
  conv=>rhs;unfold jPG
  rw[hi];simp only;rw[if_neg hp,if_neg he,if_pos hh];rfl
 ·rw [List.nodup_append];exact ⟨h.nod,by simp,fun a ha b hb=>by rw[List.mem_singleton.1 hb];exact fun e=>hp (e▸ha)⟩
 ·rcases List.mem_append.1 ha with ha|ha
  ·exact h.sub a ha
  ·rw [List.mem_singleton.1 ha];exact jSb hi
 ·rw [List.mem_append,List.mem_singleton]
  rintro (h1|h1)
  ·exact h.dst h1
  ·exact he h1.symm
theorem Fol.back (h:Fol l src to k p now) (hp:now∈p):∃i,idx l now=some i:=by
 obtain ⟨x,hx,e⟩:=List.mem_map.1 (h.sub now hp);rw[<- e];exact jNY hx
theorem Fol.two (h:Fol l src to k p now) (hp:now∈p):(follow l src to).2=2:=by
 obtain ⟨i,hi⟩:=h.back hp;rw[h.again hi hp]
theorem Fol.at_end (h:Fol l src to k p now) (he:now=to):(follow l src to).2≠2:=by
 have hp:now ∉ p:=by rw[he];exact h.dst
 cases hi:idx l now with
 |none=>rw[h.none hi];exact show (1:Int)≠2 by decide
 |some i=>rw[h.done hi hp he];exact show (0:Int)≠2 by decide
end
theorem jMx {l:List Nd.Nd} {src to:Int} {p:List Int} {e:Int} (h:follow l src to=(p,e)):path l src to=if e=0 then (p,true)else ([],false):=by
 unfold path;rw[h]
end Me
namespace Go.Proofs.YtgfdoognildoeaaGreat
open Go.GX Go.RowKit
attribute [local irreducible] Calls Run JH JL zU HR HL HD jS jM ZN Rd jg Jf
open Nd
theorem fn17:IsFn Tryz.prog 17:=zF Tryz.func17 I
theorem fn52:IsFn Tryz.prog 52:=zF Tryz.func52 I
theorem fn20:IsFn Tryz.prog 20:=zF Tryz.func20 I
theorem jE7 {l:List Nd} {src to:Int} {p:List Int} {e:Int} (h:Me.follow l src to=(p,e)) (he:e≠0):Me.path l src to=([],false):=by rw[Me.jMx h,if_neg he]
theorem jMw {l:List Nd} {src to:Int} {p:List Int} (h:Me.follow l src to=(p,0)):Me.path l src to=(p,true):=by rw[Me.jMx h,if_pos rfl]
theorem jM9 (xs:List (NV×Nd)) (t src to:Int) (v:Value) (w:World) (h:OkL w v xs) (hg:∀x∈xs,SmN x.2) (hl:xs.length<=1000):
  Calls Tryz.prog 17 #[meV t v,.int .i64 src,.int .i64 to] w fun e w'=>∃v',e= .returned (.tuple ⟨[v',.bool (Me.path (nds xs) src to).2]⟩)/\Sat (base w) [jM v' 3 1 (Me.path (nds xs) src to).1.length (cellsOf iC (Me.path (nds xs) src to).1)] w':=by
 have cx:(cellsOf ZF xs).length=xs.length*13:=jA jh _;refine zE Tryz.func17 I [(0,meV t v),(1,.int .i64 src),(2,.int .i64 to)] ?_;refine HR.ctl I (HR.region ?_);refine HL.box I I ?_;intro b3;refine zh ?_;refine HR.J6 3 1 (HR.loop (ι:=Nat×List Int×Int×Value) (fun x=>Me.Fol (nds xs) src to x.1 x.2.1 x.2.2.1) (fun x=>[(2,.int .i64 to),(3,ptr b3),(8,x.2.2.2),(9,.int .i64 x.2.2.1)]) (fun x=>[jM x.2.2.2 3 1 x.2.1.length (cellsOf iC x.2.1),meB b3 t v]) (fun x=>x.1) ((nds xs).length+2,[],src,.slice none 0 0) (Me.Fol.start _ _ _) ⟨I,I,I,I,trivial⟩ Ent.refl ?_)
 rintro ⟨k,p,now,vp⟩ hF ih
 have hF:Me.Fol (nds xs) src to k p now:=hF;have hpl:p.length<=1000:=by have:=hF.le;rw[JW]at this;omega
 obtain ⟨k',hk'⟩:=hF.pos;refine zh ?_;rcases jBe xs now with ⟨e1,e2⟩|⟨i,⟨V,n⟩,e1,e2,hx,hxa⟩
 ·rw [jE7 (hF.none e2) (by decide)];refine qB (r:= .int .i64 (-1)) jSg I I (fun w1 hw1=>by rw[<- e1];exact kK xs now v w1 (h.s.ext hw1.jF) (by omega)) ?_;refine zh ?_;refine HR.ret Tryz.func17 I [_,_] (fun _ _=>⟨I,I,trivial⟩) ?_
  exact fun w' hw=>⟨.slice none 0 0,rfl,Sat.J6 (hw.pick [] I I) 3 1⟩
 have hil:i<xs.length:=(List.getElem?_eq_some_iff.1 hx).1;have hxm:=List.mem_of_getElem? hx;have hok:OkN w V n:=h.r _ hxm;have hsn:SmN n:=hg _ hxm;have hnt:Me.nth (nds xs) i=n:=jC2 hx;refine qB (r:= .int .i64 (i:Int)) jSg I I (fun w1 hw1=>by rw[<- e1];exact kK xs now v w1 (h.s.ext hw1.jF) (by omega)) ?_;refine zh ?_;refine qB jQy I I (fun w1 hw1=>ZC p now vp w1 ((Rd.own 0 rfl).at hw1) (by omega)) (zh ?_);refine HR.cond I (fun h2=>?_) (fun h2=>?_)
 ·have h2:now∈p:=of_decide_eq_true h2;rw[jE7 (hF.again e2 h2) (by decide)];refine zh ?_;refine HR.ret Tryz.func17 I [_,_] (fun _ _=>⟨I,I,trivial⟩) ?_
  exact fun w' hw=>⟨.slice none 0 0,rfl,Sat.J6 (hw.pick [] I I) 3 1⟩
 have h2:now ∉ p:=of_decide_eq_false h2;refine zh ?_;refine qH j5 I I I I I (by decide) (by decide) ?_;intro va;refine qJ 1 I j5 (Rd.own 0 I) I I I I (jH I) (by show (p.length+1)*8<=_;omega) (by show p.length+1<=_;omega) ?_;intro vc;refine qM (H':=[jM vc 3 1 (p++[now]).length (cellsOf iC (p++[now])),meB b3 t v]) (Ent.trans (Ent.pick [1,2] I I) (qC (by simp) (by rw[jL];rfl))) ?_;refine zh ?_;refine HR.cond I (fun h3=>?_) (fun h3=>?_)
 ·have h3:now=to:=eq_of_beq h3;rw[jMw (hF.done e2 h2 h3)];refine zh ?_;refine HR.ret Tryz.func17 I [_,_] (fun _ _=>⟨I,I,trivial⟩) ?_
  exact fun w' hw=>⟨vc,rfl,hw.pick [0] I rfl⟩
 have h3:now≠to:=by have h3:(now==to)=false:=h3;simpa using h3
 refine zh ?_;refine qE (qA h.s) JQ i I I I I hil ?_;refine qP 3 (qA h.s) (by rw[cx];omega) I I I I I I I ?_;refine qF (qA h.s) I I I I (jJ jh hx (i:=3) I) (zh ?_);refine qB fn50 I I (fun w1 hw1=>jCL n.table to _ w1 (hok.ta.ext hw1.jF) hsn.ta) (zh ?_);refine HR.cond I (fun h4=>?_) (fun h4=>?_)
 ·have h4:(zy n.table to).2=false:=by have h4:(!(zy n.table to).2)=true:=h4;simpa using h4
  rw[jE7 (hF.stop e2 h2 h3 (by rw[hnt];exact h4)) (by decide)];refine zh ?_;refine HR.ret Tryz.func17 I [_,_] (fun _ _=>⟨I,I,trivial⟩) ?_
  exact fun w' hw=>⟨.slice none 0 0,rfl,Sat.J6 (hw.pick [] I I) 3 1⟩
 have h4:(zy n.table to).2=true:=by have h4:(!(zy n.table to).2)=false:=h4;simpa using h4
 have hstep:=hF.step e2 h2 h3 (by rw[hnt];exact h4);rw[hnt]at hstep;refine zh ?_;exact ih (k-1,p++[now],(zy n.table to).1,vc) _ _ hstep (by show k-1<k;omega) ⟨I,I,I,I,trivial⟩ Ent.refl
theorem jGW (xs:List (NV×Nd)) (t src to:Int) (v:Value) (w:World) (h:OkL w v xs) (hg:∀x∈xs,SmN x.2) (hl:xs.length<=1000):
  Calls Tryz.prog 52 #[meV t v,.int .i64 src,.int .i64 to] w fun e w'=>e= .returned (.bool ((Me.follow (nds xs) src to).2==2))/\Below w.heap.size w w':=by
 have cx:(cellsOf ZF xs).length=xs.length*13:=jA jh _;have no2:∀ {p:List Int} {e:Int},Me.follow (nds xs) src to=(p,e)->e≠2->((Me.follow (nds xs) src to).2==2)=false:=fun h1 h2=>by rw[h1];simpa using h2
 refine zE Tryz.func52 I [(0,meV t v),(1,.int .i64 src),(2,.int .i64 to)] ?_;refine HR.ctl I (HR.region ?_);refine HL.box I I ?_;intro b3;refine zh ?_;refine HR.J6 3 1 (HR.loop (ι:=Nat×List Int×Int×Value) (fun x=>Me.Fol (nds xs) src to x.1 x.2.1 x.2.2.1) (fun x=>[(2,.int .i64 to),(3,ptr b3),(7,x.2.2.2),(8,.int .i64 x.2.2.1)]) (fun x=>[jM x.2.2.2 3 1 x.2.1.length (cellsOf iC x.2.1),meB b3 t v]) (fun x=>x.1) ((nds xs).length+2,[],src,.slice none 0 0) (Me.Fol.start _ _ _) ⟨I,I,I,I,trivial⟩ Ent.refl ?_)
 rintro ⟨k,p,now,vp⟩ hF ih
 have hF:Me.Fol (nds xs) src to k p now:=hF;have hpl:p.length<=1000:=by have:=hF.le;rw[JW]at this;omega
 obtain ⟨k',hk'⟩:=hF.pos;refine zh ?_;refine HR.cond I (fun h3=>?_) (fun h3=>?_)
 rotate_left
 ·have h3:now=to:=by have h3:(now != to)=false:=h3;simpa using h3
  have e:((Me.follow (nds xs) src to).2==2)=false:=by have:=hF.at_end h3;simpa using this
  rw[e];refine zh ?_;exact zR Tryz.func52
 have h3:now≠to:=by have h3:(now != to)=true:=h3;simpa using h3
 refine zh ?_;refine qB jQy I I (fun w1 hw1=>ZC p now vp w1 ((Rd.own 0 rfl).at hw1) (by omega)) (zh ?_);refine HR.cond I (fun h2=>?_) (fun h2=>?_)
 ·have h2:now∈p:=of_decide_eq_true h2;have e:((Me.follow (nds xs) src to).2==2)=true:=by rw[hF.two h2];rfl
  rw[e];refine zh ?_;exact zR Tryz.func52
 have h2:now ∉ p:=of_decide_eq_false h2;refine zh ?_;refine qH j5 I I I I I (by decide) (by decide) ?_;intro va;refine qJ 1 I j5 (Rd.own 0 I) I I I I (jH I) (by show (p.length+1)*8<=_;omega) (by show p.length+1<=_;omega) ?_;intro vc;refine qM (H':=[jM vc 3 1 (p++[now]).length (cellsOf iC (p++[now])),meB b3 t v]) (Ent.trans (Ent.pick [1,2] I I) (qC (by simp) (by rw[jL];rfl))) ?_;refine zh ?_;rcases jBe xs now with ⟨e1,e2⟩|⟨i,⟨V,n⟩,e1,e2,hx,hxa⟩
 ·rw [no2 (hF.none e2) (by decide)];refine qB (r:= .int .i64 (-1)) jSg I I (fun w1 hw1=>by rw[<- e1];exact kK xs now v w1 (h.s.ext hw1.jF) (by omega)) ?_;refine zh ?_;exact zR Tryz.func52
 have hil:i<xs.length:=(List.getElem?_eq_some_iff.1 hx).1;have hxm:=List.mem_of_getElem? hx;have hok:OkN w V n:=h.r _ hxm;have hsn:SmN n:=hg _ hxm;have hnt:Me.nth (nds xs) i=n:=jC2 hx;refine qB (r:= .int .i64 (i:Int)) jSg I I (fun w1 hw1=>by rw[<- e1];exact kK xs now v w1 (h.s.ext hw1.jF) (by omega)) ?_;refine zh ?_;refine qE (qA h.s) JQ i I I I I hil ?_;refine qP 3 (qA h.s) (by rw[cx];omega) I I I I I I I ?_;refine qF (qA h.s) I I I I (jJ jh hx (i:=3) I) (zh ?_);refine qB fn50 I I (fun w1 hw1=>jCL n.table to _ w1 (hok.ta.ext hw1.jF) hsn.ta) (zh ?_);refine HR.cond I (fun h4=>?_) (fun h4=>?_)
 ·have h4:(zy n.table to).2=false:=by have h4:(!(zy n.table to).2)=true:=h4;simpa using h4
  rw[no2 (hF.stop e2 h2 h3 (by rw[hnt];exact h4)) (by decide)];refine zh ?_;exact zR Tryz.func52
 have h4:(zy n.table to).2=true:=by have h4:(!(zy n.table to).2)=false:=h4;simpa using h4
 have hstep:=hF.step e2 h2 h3 (by rw[hnt];exact h4);rw[hnt]at hstep;refine zh ?_;exact ih (k-1,p++[now],(zy n.table to).1,vc) _ _ hstep (by show k-1<k;omega) ⟨I,I,I,I,trivial⟩ Ent.refl
theorem jQ1 {α:Type} {p:α->Bool} {l:List α} {k:Nat} {x:α} (hx:l[k]? =some x):(l.take (k+1)).any p=((l.take k).any p||p x):=by rw[jE hx];simp
theorem jPE {α:Type} {p:α->Bool} {l:List α} {k:Nat} {x:α} (hx:l[k]? =some x) (h:p x=true):l.any p=true:=List.any_eq_true.2 ⟨x,List.mem_of_getElem? hx,h⟩
theorem jK9 (xs:List (NV×Nd)) (t:Int) (v:Value) (w:World) (h:OkL w v xs) (hg:∀x∈xs,SmN x.2) (hl:xs.length<=1000):
  Calls Tryz.prog 20 #[meV t v] w fun e w'=>e= .returned (.bool (Me.loops (nds xs)))/\Below w.heap.size w w':=by
 refine zE Tryz.func20 I [(0,meV t v)] ?_;refine HR.ctl I (HR.region ?_);refine HL.box I I ?_;intro b1;refine zh ?_;refine qD (qA h.s) I I I (zh ?_);obtain ⟨g,hgd⟩:∃g:Nd->Ro->Bool,g=fun n r=>(Me.follow (nds xs) n.addr r.dest).2==2:=⟨_,rfl⟩
 have hlo:Me.loops (nds xs)=(nds xs).any fun n=>n.table.any (g n):=by rw[hgd];rfl
 refine HR.loop (ι:=Nat) (fun k=>k<=xs.length/\((nds xs).take k).any (fun n=>n.table.any (g n))=false) (fun k=>[(1,ptr b1),(8,v),(9,.int .i64 (xs.length:Int)),(10,.int .i64 (k:Int))]) (fun _=>[meB b1 t v]) (fun k=>xs.length-k) 0 ⟨Nat.zero_le _,rfl⟩ ⟨I,I,I,I,trivial⟩ Ent.refl ?_
 rintro k ⟨hk,hno⟩ ih
 have hk:k<=xs.length:=hk;refine zh ?_;refine HR.cond I (fun h2=>?_) (fun h2=>?_)
 rotate_left
 ·have hke:k=xs.length:=by have:¬(k:Int)<(xs.length:Int):=of_decide_eq_false h2;omega
  rw[hke,<- JW,List.take_length]at hno;rw[hlo,hno];refine zh ?_;exact zR Tryz.func20
 have hlt:k<xs.length:=by have:(k:Int)<(xs.length:Int):=of_decide_eq_true h2;omega
 obtain ⟨⟨V,n⟩,hx⟩:=jG hlt;have hok:OkN w V n:=h.r _ (List.mem_of_getElem? hx);have hsn:SmN n:=hg _ (List.mem_of_getElem? hx);have hta:n.table.length<=1000:=hsn.ta;have hat:=jQ1 (p:=fun n:Nd=>n.table.any (g n)) (Je hx);rw[hno,Bool.false_or]at hat
 repeat' (first|refine zh ?_|refine qE (qA h.s) JQ k I I I I hlt ?_|refine qN (us:=ndC V n) (qA h.s) I I I I (by simp) I (jD jh hx) ?_|intro (bk:Nat))
 refine HR.loop (ι:=Nat) (fun j=>j<=n.table.length/\(n.table.take j).any (g n)=false) (fun j=>[(1,ptr b1),(4,ptr bk),(8,v),(9,.int .i64 (xs.length:Int)),(10,.int .i64 (k:Int)),(15,sv V.ta n.table.length),(16,.int .i64 (n.table.length:Int)),(17,.int .i64 (j:Int))]) (fun _=>[jS bk (ndC V n) 62,meB b1 t v]) (fun j=>n.table.length-j) 0 ⟨Nat.zero_le _,rfl⟩ ⟨I,I,I,I,I,I,I,I,trivial⟩ Ent.refl ?_
 rintro j ⟨hj,hno2⟩ ih2
 have hj:j<=n.table.length:=hj;refine zh ?_;refine HR.cond I (fun h3=>?_) (fun h3=>?_)
 rotate_left
 ·have hje:j=n.table.length:=by have:¬(j:Int)<(n.table.length:Int):=of_decide_eq_false h3;omega
  rw[hje,List.take_length]at hno2;rw[hno2]at hat;refine zh ?_;exact ih (k+1) _ _ ⟨hlt,hat⟩ (by show xs.length-(k+1)<xs.length-k;omega) ⟨I,I,I,I,trivial⟩ (Ent.pick [1] I I)
 have hlt3:j<n.table.length:=by have:(j:Int)<(n.table.length:Int):=of_decide_eq_true h3;omega
 obtain ⟨r,hr⟩:=jG hlt3;have hat2:=jQ1 (p:=g n) hr;rw[hno2,Bool.false_or]at hat2;have hgr:g n r=((Me.follow (nds xs) n.addr r.dest).2==2):=by rw[hgd]
 repeat' (first|refine zh ?_|refine qE (qA hok.ta) jZ j I I I I hlt3 ?_|refine qN (us:=roC r) (qA hok.ta) I I I I (by simp) I (jD jP hr) ?_|refine qB fn52 I I (fun w1 hw1=>jGW xs t n.addr r.dest v w1 (h.ext hw1.jF) hg hl) ?_|intro (bk:Nat))
 refine HR.cond I (fun h4=>?_) (fun h4=>?_)
 ·have h4:g n r=true:=by rw[hgr];exact h4
  rw[hlo,jPE (Je hx) (jPE hr h4)];refine zh ?_;exact zR Tryz.func20
 have h4:g n r=false:=by rw[hgr];exact h4
 rw[h4]at hat2;refine zh ?_;exact ih2 (j+1) _ _ ⟨hlt3,hat2⟩ (by show n.table.length-(j+1)<n.table.length-j;omega) ⟨I,I,I,I,I,I,I,I,trivial⟩ (Ent.pick [1,2] I I)
theorem fn9:IsFn Tryz.prog 9:=zF Tryz.func9 I
theorem jJy {B:Base} {H:List Chunk} {w:World} {v:Value} {ys:List (NV×Nd)} {G:List Chunk} (i j:Nat) (hw:Sat B H w) (hi:J5 H i=some (cNd v ys)) (hj:J5 H j=some (jC G)) (hO:∀y∈ys,Own y.1 G y.2):OkL w v ys:=
 ⟨(Rd.own i hi).at hw,fun y hy=>hO y hy w (QF j hw hj)⟩
theorem jRB (a b:Nd) (h:¬a.addr<b.addr):Me.put (Me.put [] a) b=[b,a]:=by
 have h1:Me.put [] a=[a]:=rfl;rw[h1,jQr (l:=[a]) (n:=b) (j:=0) (Nat.zero_le _) (fun i x hi=>absurd hi (Nat.not_lt_zero _)) (fun x hx=>by simp at hx;subst hx;exact h)];rfl
theorem new3:(new 3 8).addr=3:=(Me.ko (a:=3) (by decide)).1
theorem new0:(new 0 0).addr=0:=(Me.ko (a:=0) (by decide)).1
theorem at0:Me.nodeAt [3,0] [8] 0=new 3 8:=rfl
theorem at1:Me.nodeAt [3,0] [8] 1=new 0 0:=rfl
theorem jN4:Me.build [3,0] [8] 2=Me.put (Me.put [] (Me.nodeAt [3,0] [8] 0)) (Me.nodeAt [3,0] [8] 1):=by simp only[Me.build]
theorem jNE:Me.jHK [3,0] [8]=(⟨0,Me.build [3,0] [8] 2⟩,0):=jNF (by decide) (by decide)
theorem jFF:Me.jHK [3,0] [8]=(⟨0,[new 0 0,new 3 8]⟩,0):=by
 rw[jNE,jN4,at0,at1,jRB _ _ (by rw[new3,new0];decide)]
theorem jPq {l:List Nd} {a:Int} {i:Nat} (h:Me.idx l a=some i):Me.path l a a=([a],true):=jMw ((Me.Fol.start l a a).done h List.not_mem_nil I)
theorem jRP (a b:Nd) (x:Int) (ha:a.addr≠x) (hb:b.addr=x):Me.idx [a,b] x=some 1:=by
 unfold Me.idx;rw[List.findIdx?_cons,List.findIdx?_cons]
 simp[ha,hb]
theorem jNH:Me.jHK [1,251] []=(Me.jNB,2):=by
 have e:Me.Jg [1,251] 1=2:=by decide
 rw[jFG (addrs:=[1,251]) (k:=1) (by decide) (by decide) (by decide) (by decide),e]
theorem jQ5 {ys:List (NV×Nd)} {a b:Nd} (h:nds ys=[a,b]):∃V W,ys=[(V,a),(W,b)]:=by
 obtain ⟨p,q,rfl⟩:∃p q,ys=[p,q]:=by
  have hl:ys.length=2:=by rw[<- JW,h];rfl
  rcases ys with _|⟨p,_|⟨q,_|⟨r,l⟩⟩⟩
  ·simp at hl
  ·simp at hl
  ·exact ⟨p,q,rfl⟩
  ·simp at hl
 have h:[p.2,q.2]=[a,b]:=h;simp only[List.cons.injEq,and_true]at h;exact ⟨p.1,q.1,by rw[<- h.1,<- h.2]⟩
theorem jNL (w:World):Calls Tryz.prog 9 #[] w fun e w'=>e= .returned (.bool true)/\Below w.heap.size w w':=by
 refine zE Tryz.func9 I [] ?_;refine HR.ctl I (HR.region (zh ?_));refine qH j5 I I I I I (by decide) (by decide) ?_;intro va;refine qH j5 I I I I I (by decide) (by decide) ?_;intro vb;refine qL (r:=fun x:SV×List (NV×Nd)×List Chunk=> .tuple ⟨[meV 0 (sv x.1 x.2.1.length),.int .i64 0]⟩) (Q:=fun x=>jSC x [new 0 0,new 3 8]) (G:=fun x=>[cNd (sv x.1 x.2.1.length) x.2.1,jC x.2.2]) fn10 I I (fun w1 hw1=>by have:=jJ1 [3,0] [8] va vb w1 ((Rd.own 1 rfl).at hw1) ((Rd.own 0 rfl).at hw1) (by decide) (by decide);rw[jFF]at this;exact this) ?_
 rintro ⟨y,ys,G⟩ ⟨⟨hN,hO⟩,hG⟩
 have hN:nds ys=[new 0 0,new 3 8]:=hN;have hO:∀z∈ys,Own z.1 G z.2:=hO;have hG:∀z∈ys,GdN z.2:=hG;have hlp:Me.loops (nds ys)=false:=by
  have:=(Me.Inv.new (C:=ctx0) (addrs:=[3,0]) (polls:=[8]) (by rw[jFF])).1.jPu;rw[jFF]at this;rw[hN];exact this
 have hpa:Me.path (nds ys) 3 3=([3],true):=by
  rw[hN];exact jPq (jRP _ _ 3 (by rw[new0];decide) new3)
 obtain ⟨A,hA⟩:∃A,A=new 0 0:=⟨_,rfl⟩;obtain ⟨Bn,hBn⟩:∃A,A=new 3 8:=⟨_,rfl⟩;have hA0:A.addr=0:=by rw[hA];exact new0
 have hB0:Bn.addr=3:=by rw[hBn];exact new3
 have hB1:Bn.poll=8:=by rw[hBn];rfl
 rw[<- hA,<- hBn]at hN;clear hA hBn;obtain ⟨V,W,hys⟩:=jQ5 hN;subst hys;have cy:(cellsOf ZF [(V,A),(W,Bn)]).length=26:=rfl;refine qM (H':=[cNd (sv y 2) [(V,A),(W,Bn)],jC G]) (Ent.pick [0,1] I I) (zh ?_);intro (bk:Nat);refine zh ?_;refine qH j5 I I I I I (by decide) (by decide) ?_;intro vc;refine qL (r:=fun x:SV×List (NV×Nd)×List Chunk=> .tuple ⟨[meV 0 (sv x.1 x.2.1.length),.int .i64 2]⟩) (Q:=fun x=>jSC x []) (G:=fun x=>[cNd (sv x.1 x.2.1.length) x.2.1,jC x.2.2]) fn10 I I (fun w1 hw1=>by have:=jJ1 [1,251] [] vc (.slice none 0 0) w1 ((Rd.own 0 rfl).at hw1) (Sl.nil w1) (by decide) (by decide);rw[jNH]at this;exact this) ?_
 rintro ⟨y2,ys2,G2⟩ _
 refine zh ?_;intro (bk:Nat);refine zh ?_;refine qL (r:=fun x:Value=> .tuple ⟨[x,.bool true]⟩) (Q:=fun _=>True) (G:=fun x=>[jM x 3 1 1 (cellsOf iC [3])]) fn17 I I (fun w1 hw1=>by have:=jM9 [(V,A),(W,Bn)] 0 3 3 (sv y 2) w1 (jJy 5 6 hw1 I I hO) (fun z hz=>(hG z hz).sm) (Nat.le_of_ble_eq_true rfl);rw[hpa]at this;exact this.mono fun e w' ⟨x,e1,e2⟩=>⟨x,e1,trivial,e2⟩) ?_;intro vp _;refine zh ?_;refine qE (Rd.own 6 I) JQ 0 I I I I (Nat.le_of_ble_eq_true I) ?_;refine qP 0 (Rd.own 6 I) (by rw[cy];decide) I I I I I I I ?_;refine qF (Rd.own 6 I) I I I I (jJ jh (l:=[(V,A),(W,Bn)]) (j:=0) I (i:=0) I) (zh ?_);refine Qc 43 true I (by rw[hA0];rfl) ?_;refine zh ?_;refine qE (Rd.own 6 I) JQ 1 I I I I (Nat.le_of_ble_eq_true I) ?_;refine qP 0 (Rd.own 6 I) (by rw[cy];decide) I I I I I I I ?_;refine qF (Rd.own 6 I) I I I I (jJ jh (l:=[(V,A),(W,Bn)]) (j:=1) I (i:=0) I) (zh ?_);refine Qc 51 true I (by rw[hB0];rfl) ?_;refine zh ?_;refine qE (Rd.own 6 I) JQ 1 I I I I (Nat.le_of_ble_eq_true I) ?_;refine qP 1 (Rd.own 6 I) (by rw[cy];decide) I I I I I I I ?_;refine qF (Rd.own 6 I) I I I I (jJ jh (l:=[(V,A),(W,Bn)]) (j:=1) I (i:=1) I) (zh ?_);refine Qc 59 true I (by rw[hB1];rfl) ?_;refine zh ?_;refine qH j5 I I I I I (by decide) (by decide) ?_;intro v7;refine qB (r:= .bool true) fn19 I I (fun w1 hw1=>by have:=jCf [3] [3] vp v7 w1 ((Rd.own 1 rfl).at hw1) ((Rd.own 0 rfl).at hw1) (by decide);simpa using this) ?_;refine zh ?_;refine qB (r:= .bool false) fn20 I I (fun w1 hw1=>by have:=jK9 [(V,A),(W,Bn)] 0 (sv y 2) w1 (jJy 7 8 hw1 I I hO) (fun z hz=>(hG z hz).sm) (Nat.le_of_ble_eq_true rfl);rw[hlp]at this;exact this) ?_;refine zh ?_;refine qL (r:=fun x:SV×List (NV×Nd)×List Chunk=>meV 1 (sv x.1 x.2.1.length)) (Q:=fun _=>True) (G:=fun x=>[cNd (sv x.1 x.2.1.length) x.2.1,jC x.2.2]) fn15 I I (fun w1 hw1=>(jGV 0 (sv y 2) [(V,A),(W,Bn)] ⟨[],[],[]⟩ (.slice none 0 0) (.slice none 0 0) (.slice none 0 0) w1 (jJy 7 8 hw1 I I hO) hG (Nat.le_of_ble_eq_true I) (OkA.none w1)).mono fun e w' ⟨x,e1,e2,e3⟩=>⟨x,e1,trivial,e3⟩) ?_;intro x3 _;refine zh ?_;exact zR Tryz.func9
theorem fn13:IsFn Tryz.prog 13:=zF Tryz.func13 I
structure FitG (n:Nd):Prop where
 ta:n.table.length<=30
 li:n.links.length<=30
 ou:n.out.length<=30
 ch:n.children.length<=30
 bo:n.boxes.length<=30
 se:n.seen.length<=60
 pa:n.parts.length<=20
 ib:n.inbox.length<=60
structure FitL (xs:List (NV×Nd)):Prop where
 len:xs.length<=12
 fit:∀x∈xs,FitG x.2
theorem FitG.sm {n:Nd} (h:FitG n) (hp:∀p∈n.parts,jAS p):SmN n:=
 ⟨Nat.le_trans h.ta (by decide),Nat.le_trans h.li (by decide),Nat.le_trans h.ou (by decide),Nat.le_trans h.ch (by decide),Nat.le_trans h.bo (by decide),Nat.le_trans h.se (by decide),Nat.le_trans h.pa (by decide),Nat.le_trans h.ib (by decide),hp⟩
theorem jNi (xs:List (NV×Nd)) (t:Int) (v:Value) (w:World) (h:OkL w v xs):
  Calls Tryz.prog 13 #[meV t v] w fun e w'=>∃b:Bool,e= .returned (.bool b)/\(b=false->FitL xs)/\Sat (base w) [] w':=by
 refine zE Tryz.func13 I [(0,meV t v)] ?_;refine HR.ctl I (HR.region ?_);refine HL.box I I ?_;intro b1;refine zh ?_;refine HR.loop (ι:=Nat) (fun i=>i<=12/\∀j x,j<i->xs[j]? =some x->FitG x.2) (fun i=>[(1,ptr b1),(3,.int .i64 (i:Int))]) (fun _=>[meB b1 t v]) (fun i=>12-i) 0 ⟨Nat.zero_le _,fun j x hj=>absurd hj (Nat.not_lt_zero _)⟩ ⟨I,I,trivial⟩ Ent.refl ?_
 rintro i ⟨hi,hfit⟩ ih
 have hi:i<=12:=hi;have hfit:∀j x,j<i->xs[j]? =some x->FitG x.2:=hfit
 repeat' (first|refine zh ?_|refine qD (qA h.s) I I I ?_|apply zb ?_ ?_|exact zc|(refine zi fun hb=>?_;try simp at hb)|fail)
 refine HR.cond I (fun h2=>?_) (fun h2=>?_)
 rotate_left
 ·have h2:(decide ((i:Int)<(xs.length:Int))&&decide ((xs.length:Int)<=12))=false:=h2;refine zh ?_;refine qD (qA h.s) I I I (zh ?_);refine HR.ret Tryz.func13 I [_] (fun _ _=>⟨I,trivial⟩) ?_;refine fun w' hw=>⟨_,rfl,fun hb=>?_,hw.pick [] I rfl⟩
  have hb:decide ((xs.length:Int)>12)=false:=hb;have hb:=of_decide_eq_false hb;have hil:¬i<xs.length:=fun hl=>by
   rw[decide_eq_true (show (i:Int)<(xs.length:Int) by omega),decide_eq_true (show (xs.length:Int)<=12 by omega)]at h2;cases h2
  refine ⟨by omega,fun x hx=>?_⟩;obtain ⟨j,hj⟩:=List.getElem?_of_mem hx;exact hfit j x (by have:=(List.getElem?_eq_some_iff.1 hj).1;omega) hj
 have h2:(decide ((i:Int)<(xs.length:Int))&&decide ((xs.length:Int)<=12))=true:=h2;rw[Bool.and_eq_true,decide_eq_true_eq,decide_eq_true_eq]at h2;have hlt:i<xs.length:=by omega
 have hl12:xs.length<=12:=by omega
 obtain ⟨⟨V,n⟩,hx⟩:=jG hlt;have hok:OkN w V n:=h.r _ (List.mem_of_getElem? hx);have hps:V.ps.length=n.parts.length:=by rw[<- jW,hok.eq]
 repeat' (first|refine zh ?_|refine qE (qA h.s) JQ i I I I I hlt ?_|refine qN (us:=ndC V n) (qA h.s) I I I I (by simp) I (jD jh hx) ?_|intro (bk:Nat))
 repeat' (first|refine zh ?_|apply zb ?_ ?_|exact zc|(refine zi fun hb=>?_;try simp at hb)|fail)
 refine HR.cond I (fun h3=>?_) (fun h3=>?_)
 ·refine zh ?_;refine HR.ret Tryz.func13 I [_] (fun _ _=>⟨I,trivial⟩) ?_
  exact fun w' hw=>⟨_,rfl,fun hb=>Bool.noConfusion hb,hw.pick [] I rfl⟩
 have h3:(decide ((n.table.length:Int)>30)||decide ((n.links.length:Int)>30)||decide ((n.out.length:Int)>30)||decide ((n.children.length:Int)>30)||decide ((n.boxes.length:Int)>30)||decide ((n.seen.length:Int)>60)||decide ((V.ps.length:Int)>20)||decide ((n.inbox.length:Int)>60))=false:=h3;simp only[Bool.or_eq_false_iff,decide_eq_false_iff_not]at h3;obtain ⟨⟨⟨⟨⟨⟨⟨g1,g2⟩,g3⟩,g4⟩,g5⟩,g6⟩,g7⟩,g8⟩:=h3;refine zh ?_;refine ih (i+1) _ _ ⟨by show i+1<=12;omega,fun j x hj hjx=>?_⟩ (by show 12-(i+1)<12-i;omega) ⟨I,I,trivial⟩ (Ent.pick [1] I I)
 by_cases e:j=i
 ·subst e;rw[hx]at hjx;cases hjx;exact ⟨by show n.table.length<=30;omega,by show n.links.length<=30;omega,by show n.out.length<=30;omega,by show n.children.length<=30;omega,by show n.boxes.length<=30;omega,by show n.seen.length<=60;omega,by show n.parts.length<=20;omega,by show n.inbox.length<=60;omega⟩
 ·exact hfit j x (by omega) hjx
end Go.Proofs.YtgfdoognildoeaaGreat
namespace Go.GX
open Go.RowKit Go.ChangeShapes Go.WideShapes
section
variable {H : Type} {enc : TypeId × Value -> H} {P : Program} {w : World}
def Opens (enc:TypeId×Value->H) (P:Program) (w:World) (t:TypeId) {α:Type} (E:α->List Value) (good:α->Prop):Prop:=
 ∀(fuel:Nat) (cs:List Value) (x:DataW H×List MemPlace),DataW.trod enc P w 0 (fun _=>true) true fuel t cs=some x->∃a,cs=E a/\good a
theorem Opens.int {t:TypeId} {k:IntKind} (ht:P.underlying t=some (.int k)):Opens enc P w t (fun n:Int=>[Value.int k n]) (fun n=>(Lit.int k n).wf=true):=by
 intro fuel cs x h;cases fuel with
 |zero=>cases h
 |succ fuel=>
  unfold DataW.trod at h;rw[ht]at h
  split at h
  all_goals first
   |cases h;done
   |(rename_i h1;cases h1;done)
   |skip
  rename_i k0 k' n h1
  cases h1
  split at h
  ·rename_i hk;obtain ⟨rfl,hw⟩:=hk;exact ⟨n,rfl,hw⟩
  ·cases h
theorem Q8 {t:TypeId} (ht:P.underlying t=some .string):Opens enc P w t (fun s:List UInt8=>[str s]) (fun s=>s.length<=9223372036854775807):=by
 intro fuel cs x h;cases fuel with
 |zero=>cases h
 |succ fuel=>
  unfold DataW.trod at h;rw[ht]at h
  split at h
  all_goals first
   |cases h;done
   |(rename_i h1;cases h1;done)
   |skip
  rename_i s h1
  split at h
  ·rename_i hs;exact ⟨s.data.toList,rfl,by unfold maxLen at hs;have:s.data.toList.length=s.size:=rfl;omega⟩
  ·cases h
theorem Opens.bool {t:TypeId} (ht:P.underlying t=some .bool):Opens enc P w t (fun b:Bool=>[Value.bool b]) (fun _=>True):=by
 intro fuel cs x h;cases fuel with
 |zero=>cases h
 |succ fuel=>
  unfold DataW.trod at h;rw[ht]at h
  split at h
  all_goals first
   |cases h;done
   |(rename_i h1;cases h1;done)
   |skip
  rename_i b h1
  exact ⟨b,rfl,trivial⟩
theorem jLc {base n:Nat} {a:Addr} {cs:List Value} (h:w.cells? base a n=some cs):cs.length=n/\∀(j:Nat) u,cs[j]? =some u->w.cell? (a.add j)=some u:=by
 unfold World.cells? at h
 split at h
 ·have key:∀(l:List Nat) (r:List Value),l.mapM (fun i=>w.cell? (a.add i))=some r->r.length=l.length/\∀(j:Nat) u,r[j]? =some u->∃i,l[j]? =some i/\w.cell? (a.add i)=some u:=by
   intro l
   induction l with
   |nil=>intro r h;simp at h;subst h;exact ⟨rfl,fun j u hu=>by simp at hu⟩
   |cons i l ih=>
    intro r h;simp only[List.mapM_cons,Option.bind_eq_bind,Option.pure_def]at h;cases hx:w.cell? (a.add i)with
    |none=>rw[hx]at h;cases h
    |some b=>
     rw[hx]at h;simp only[Option.bind_some]at h;cases hl:l.mapM (fun i=>w.cell? (a.add i))with
     |none=>rw[hl]at h;cases h
     |some r'=>
      rw[hl]at h;simp only[Option.bind_some,Option.some.injEq]at h;subst h;obtain ⟨h1,h2⟩:=ih r' hl;refine ⟨by simp[h1],fun j u hu=>?_⟩;cases j with
      |zero=>simp at hu;subst hu;exact ⟨i,rfl,hx⟩
      |succ j=>simp at hu;simpa using h2 j u hu
  obtain ⟨h1,h2⟩:=key _ _ h;refine ⟨by simpa using h1,fun j u hu=>?_⟩;obtain ⟨i,hi,hc⟩:=h2 j u hu;have hj:j<n:=by
   have:=(List.getElem?_eq_some_iff.1 hi).1;simpa using this
  simp[hj]at hi
  subst hi;exact hc
 ·cases h
theorem parts_eq {cs p:List Value} {o n m:Nat} (h:(cs.drop o).take n=p) (hp:p.length=n) (ho:o+n=m):cs.drop o=p++cs.drop m:=by
 rw[<- h,<- ho,<- List.drop_drop,List.take_append_drop]
end
section
variable {H : Type} {enc : TypeId × Value -> H} {P : Program} {w : World}
def Sized (P:Program) (t:TypeId) (d:DataW H):Prop:=∀n∈d.weights P t,n<=reachBytes
def JA (enc:TypeId×Value->H) (P:Program) (w:World) (t:TypeId) {α:Type} (E:α->List Value) (good:α->Prop):Prop:=
 ∀(fuel:Nat) (cs:List Value) (x:DataW H×List MemPlace),DataW.trod enc P w 0 (fun _=>true) true fuel t cs=some x->Sized P t x.1->∃a,cs=E a/\good a
theorem Opens.z {t:TypeId} {α:Type} {E:α->List Value} {good:α->Prop} (h:Opens enc P w t E good):JA enc P w t E good:=fun f cs x hx _=>h f cs x hx
theorem jCR {α β:Type} {f:α->Option β}:∀ {l:List α} {r:List β},l.mapM f=some r->∀(i:Nat) (a:α),l[i]? =some a->∃b,r[i]? =some b/\f a=some b
 |[],r,h,i,a,ha=>by simp at ha
 |x::l,r,h,i,a,ha=>by
  simp only[List.mapM_cons,Option.bind_eq_bind,Option.pure_def]at h;cases hx:f x with
  |none=>rw[hx]at h;cases h
  |some b=>
   rw[hx]at h;simp only[Option.bind_some]at h;cases hl:l.mapM f with
   |none=>rw[hl]at h;cases h
   |some r'=>
    rw[hl]at h;simp only[Option.bind_some,Option.some.injEq]at h;subst h;cases i with
    |zero=>simp at ha;subst ha;exact ⟨b,rfl,hx⟩
    |succ i=>
     simp at ha
     obtain ⟨c,h1,h2⟩:=jCR hl i a ha;exact ⟨c,by simpa using h1,h2⟩
theorem jAY {e:TypeId} {n:Nat}:∀ {l:List (DataW H)} {d:DataW H},d∈l->n∈d.weights P e->n∈DataW.weightsAll P e l
 |[],d,h,_=>by cases h
 |x::l,d,h,hn=>by
  unfold DataW.weightsAll;rcases List.mem_cons.1 h with rfl|h
  ·exact List.mem_append_left _ hn
  ·exact List.mem_append_right _ (jAY h hn)
theorem Sized.slice {t e:TypeId} {elems spare:List (DataW H)} (h:Sized P t (.slice elems spare)) (ht:P.underlying t=some (.slice e)):elems.length*P.bytesOf e<=reachBytes/\∀d∈elems,Sized P e d:=by
 unfold Sized at h;simp only[DataW.weights,ht]at h
 constructor
 ·have h1:=h _ (List.mem_cons_self ..);exact Nat.le_trans (Nat.mul_le_mul_right _ (Nat.le_add_right _ _)) h1
 ·exact fun d hd n hn=>h n (List.mem_cons_of_mem _ (List.mem_append_left _ (jAY hd hn)))
theorem JA.slice {t e:TypeId} {α:Type} {E:α->List Value} {good:α->Prop} {sz:Nat} (ht:P.underlying t=some (.slice e)) (hc:P.cellsOf e=sz) (hpos:0<sz) (hE:∀a,(E a).length=sz) (he:JA enc P w e E good):
  JA enc P w t (fun p:Value×List α=>[p.1]) (fun p=>Sl w p.1 (cellsOf E p.2) p.2.length/\p.2.length*P.bytesOf e<=reachBytes/\∀a∈p.2,good a):=by
 intro fuel cs x h hz;cases fuel with
 |zero=>cases h
 |succ fuel=>
  unfold DataW.trod at h;simp only[ht]at h
  split at h
  all_goals first
   |cases h;done
   |(rename_i h1;cases h1;done)
   |skip
  ·exact ⟨(.slice none 0 0,[]),rfl,Sl.nil w,by simp,fun a ha=>by cases ha⟩
  ·rename_i e0 a len cap h1
   cases h1
   split at h
   ·rename_i hb
    rw[hc]at h;cases hm:(List.range len).mapM (fun i=>(w.cells? 0 (a.add (i*sz)) sz).bind (DataW.trod enc P w 0 (fun _=>true) true fuel e))with
    |none=>rw[hm]at h;cases h
    |some r=>
     rw[hm]at h;simp only[Option.bind_some,if_true]at h;cases hm2:(List.range (cap-len)).mapM (fun j=>(w.cells? 0 (a.add ((len+j)*sz)) sz).bind (DataW.trod enc P w 0 (fun _=>true) true fuel e))with
     |none=>rw[hm2]at h;cases h
     |some r2=>
     rw[hm2]at h;simp only[Option.map_some,Option.some.injEq]at h;subst h;obtain ⟨hz1,hz2⟩:=Sized.slice hz ht;have hrl:r.length=len:=by
      have:=jCR hm;have key:∀ {α β:Type} {f:α->Option β} {l:List α} {r:List β},l.mapM f=some r->r.length=l.length:=by
       intro α β f l
       induction l with
       |nil=>intro r h;simp at h;subst h;rfl
       |cons x l ih=>
        intro r h;simp only[List.mapM_cons,Option.bind_eq_bind,Option.pure_def]at h;cases hx:f x with
        |none=>rw[hx]at h;cases h
        |some b=>
         rw[hx]at h;simp only[Option.bind_some]at h;cases hl:l.mapM f with
         |none=>rw[hl]at h;cases h
         |some r'=>
          rw[hl]at h;simp only[Option.bind_some,Option.some.injEq]at h;subst h
          simp[ih hl]
      rw[key hm];simp
     rw[List.length_map,hrl]at hz1;have:∀i,i<len->∃b:α,good b/\∀(j:Nat) u,(E b)[j]? =some u->w.cell? ((a.add (i*sz)).add j)=some u:=by
      intro i hi;obtain ⟨y,hy1,hy⟩:=jCR hm i i (by simp[hi]);have hzy:Sized P e y.1:=hz2 _ (List.mem_map.2 ⟨y,List.mem_of_getElem? hy1,rfl⟩);cases hcs:w.cells? 0 (a.add (i*sz)) sz with
      |none=>rw[hcs]at hy;cases hy
      |some cs=>
       rw[hcs]at hy;obtain ⟨b,rfl,hg⟩:=he fuel cs y hy hzy;exact ⟨b,hg,(jLc hcs).2⟩
     have hlist:∀n,n<=len->∃l:List α,l.length=n/\(∀ b∈l,good b)/\∀(i:Nat) b,l[i]? =some b->∀(j:Nat) u,(E b)[j]? =some u->w.cell? ((a.add (i*sz)).add j)=some u:=by
      intro n
      induction n with
      |zero=>intro _;exact ⟨[],rfl,(fun b hb=>by cases hb),fun i b hb=>by simp at hb⟩
      |succ n ih=>
       intro hn;obtain ⟨l,h1,h2,h3⟩:=ih (by omega);obtain ⟨b,g1,g2⟩:=this n (by omega);refine ⟨l++[b],by simp[h1],fun c hc=>?_,fun i c hc=>?_⟩
       ·rcases List.mem_append.1 hc with hc|hc
        ·exact h2 c hc
        ·simp at hc;subst hc;exact g1
       ·by_cases hi:i<l.length
        ·rw [List.getElem?_append_left hi]at hc;exact h3 i c hc
        ·have:i=n:=by have:=(List.getElem?_eq_some_iff.1 hc).1;simp at this;omega
         subst this;rw[List.getElem?_append_right (by omega),h1]at hc
         simp at hc;subst hc;exact g2
     obtain ⟨l,h1,h2,h3⟩:=hlist len (Nat.le_refl _);refine ⟨(.slice (some a) len cap,l),rfl,⟨?_,some a,cap,by simp[h1],by rw[h1];exact hb.2.1⟩,by rw[h1];exact hz1,h2⟩
     by_cases h0:len=0
     ·subst h0;have:l=[]:=List.eq_nil_of_length_eq_zero h1;subst this;exact .inl ⟨.inr ⟨a,cap,rfl⟩,rfl,rfl⟩
     ·obtain ⟨b,off,spot⟩:=a;obtain ⟨b0,hb0⟩:=jG (show 0<l.length by omega);obtain ⟨u0,hu0⟩:=jG (show 0<(E b0).length by rw[hE];exact hpos);have hc0:=h3 0 b0 hb0 0 u0 hu0;have hspot:spot=none:=by simpa[Addr.add]using World.cell?_spot hc0
      subst hspot;have hadd:∀b off j,(⟨b,off,none⟩:Addr).add j=⟨b,off+j,none⟩:=fun b off j=>by unfold Addr.add;split<;>simp_all
      refine .inr ⟨b,off,cap,by simp[h1],fun j u hu=>?_⟩;have hjl:j<(cellsOf E l).length:=(List.getElem?_eq_some_iff.1 hu).1;rw[jA hE,h1]at hjl;have hdiv:j / sz<len:=Nat.div_lt_of_lt_mul (by rw[Nat.mul_comm];exact hjl);have hmod:j%sz<sz:=Nat.mod_lt _ hpos;obtain ⟨c,hc⟩:=jG (show j / sz<l.length by omega);obtain ⟨u',hu'⟩:=jG (show j%sz<(E c).length by rw[hE];exact hmod);have hj:j / sz*sz+j%sz=j:=by rw[Nat.mul_comm];exact Nat.div_add_mod j sz
      have hg:=jD hE hc (j%sz) u' hu';rw[hj,hu]at hg;cases hg;have:=h3 _ c hc _ u hu';rw[hadd,hadd,Nat.add_assoc,hj]at this;exact this
   ·cases h
theorem Sized.of_each {ts:List TypeId} {ds:List (DataW H)} {j:Nat} {t:TypeId} {d:DataW H} (h:(DataW.weightsEach P ts ds).all (·<=reachBytes)=true) (ht:ts[j]? =some t) (hd:ds[j]? =some d):Sized P t d:=fun n hn=>by
 have:=List.all_eq_true.1 h _ (DataW.weights_mem_each ht hd n hn)
 simpa using this
theorem qp {t:TypeId} {fs:Array Field} (ht:P.underlying t=some (.struct fs)) {fuel:Nat} {cs:List Value} {x:DataW H×List MemPlace} (h:DataW.trod enc P w 0 (fun _=>true) true fuel t cs=some x) (hz:Sized P t x.1):
  cs.length=P.cellsOf t/\∀f∈fs.toList,∃fuel' y,DataW.trod enc P w 0 (fun _=>true) true fuel' f.type ((cs.drop f.offset).take (P.cellsOf f.type))=some y/\Sized P f.type y.1:=by
 cases fuel with
 |zero=>cases h
 |succ fuel=>
  unfold DataW.trod at h;simp only[ht]at h
  split at h
  ·rename_i hl
   refine ⟨hl,fun f hf=>?_⟩;cases hm:fs.toList.mapM (fun f=>DataW.trod enc P w 0 (fun _=>true) true fuel f.type ((cs.drop f.offset).take (P.cellsOf f.type)))with
   |none=>rw[hm]at h;cases h
   |some r=>
    rw[hm]at h;simp only[Option.map_some,Option.some.injEq]at h;subst h;obtain ⟨i,hi⟩:=List.getElem?_of_mem hf;obtain ⟨y,hy1,hy⟩:=jCR hm i f hi;refine ⟨fuel,y,hy,fun n hn=>hz n ?_⟩;simp only[DataW.weights,ht];exact DataW.weights_mem_each (j:=i) (by rw[List.getElem?_map,hi];rfl) (by rw[List.getElem?_map,hy1];rfl) n hn
  ·cases h
end
end Go.GX
