/- Part of a proof. Conditions: none. -/
import Derived.Test.YtgfdoognildoeaaGreatSB6
set_option linter.unusedVariables false
set_option linter.unusedSectionVars false
set_option linter.unusedSimpArgs false
set_option maxRecDepth 100000
set_option maxHeartbeats 4000000
namespace Go.GX
open Go.RowKit
section
variable {P : Program} {f : FuncId} {N : Nat} {k : List Item} {σ : Store} {B : Base} {H H0 : List Chunk} {R : Ending -> World -> Prop} {ops l : List Oper} {o : Oper} {K : Act -> World -> Prop}
variable {d : Nat} {d' : Option Nat} {ty : TypeId} {pos : String} {af : Array Edge} {gd : Option (Nat × Bool)} {u v : Value}
theorem jRU {x:Operand} {n j:Nat} {cs:List Value} (hv:Rd B H v cs n) (hj:j<cs.length) (hx:lookO σ x=some (jv v j)):
  ∀w,Sat B H w->(execOp (evO σ) ⟨some d,.nilCheck x,ty,pos,af,gd⟩).run P w= .ok (.value (jv v j)) w:=by
 intro w hw;rcases (hv.is hw)with ⟨_,_,rfl⟩|⟨b,off,cap,rfl,_⟩
 ·simp at hj
 ·have hx':lookO σ x=some (.pointer (some ⟨b,off+j,none⟩)):=hx;have hc:jLr P σ (.nilCheck x)=some (.pointer (some ⟨b,off+j,none⟩)):=by simp only[jLr,hx']
  exact jAH hc
theorem Qz {x:Operand} {n j:Nat} {cs:List Value} (hv:Rd B H v cs n) (hj:j<cs.length) (hs:stat N ops ⟨some d,.nilCheck x,ty,pos,af,gd⟩ σ=true) (hx:lookO σ x=some (jv v j))
  (h:HL P N ops l ((d,jv v j)::σ) B H K):HL P N ops (⟨some d,.nilCheck x,ty,pos,af,gd⟩::l) σ B H K:=
 QL hs (jRU hv hj hx) h
theorem qP (o:Nat) {s:TypeId} {x:Operand} {fl:List Field} {fi j n:Nat} {fd:Field} {ti:TypeInfo} {cs:List Value} (hv:Rd B H v cs n) (hj:j<cs.length) (hs:stat N ops ⟨some d,.fieldAddr s x fi,ty,pos,af,gd⟩ σ=true) (hT:P.underlying s=some (.struct ⟨fl⟩)) (hf:jK4 fl fi=some fd) (hti:P.info? fd.type=some ti) (hz:Nat.ble 1 ti.size=true) (hx:lookO σ x=some (jv v j)) (ho:fd.offset=o)
  (h:HL P N ops l ((d,jv v (j+o))::σ) B H K):HL P N ops (⟨some d,.fieldAddr s x fi,ty,pos,af,gd⟩::l) σ B H K:=by
 subst ho;exact qY hv hj hs hT hf hti hz hx h
theorem Yi {KQ:Act->Prop} (o:Nat) {s:TypeId} {x:Operand} {fl:List Field} {fi j n:Nat} {fd:Field} {ti:TypeInfo} {cs:List Value} (hv:Rd B H v cs n) (hj:j<cs.length) (hs:stat N ops ⟨some d,.fieldAddr s x fi,ty,pos,af,gd⟩ σ=true) (hT:P.underlying s=some (.struct ⟨fl⟩)) (hf:jK4 fl fi=some fd) (hti:P.info? fd.type=some ti) (hz:Nat.ble 1 ti.size=true) (hx:lookO σ x=some (jv v j)) (ho:fd.offset=o)
  (h:HQ P N ops l ((d,jv v (j+o))::σ) B H KQ):HQ P N ops (⟨some d,.fieldAddr s x fi,ty,pos,af,gd⟩::l) σ B H KQ:=by
 subst ho;exact QE hv hj hs hT hf hti hz hx h
theorem QA {F:List Chunk} (o:Nat) {i:Nat} {p:List (Nat×Bool)} {s:TypeId} {x:Operand} {fl:List Field} {fi j n:Nat} {fd:Field} {ti:TypeInfo} {cs:List Value} (hv:Rd B F v cs n) (hj:j<cs.length) (ho':ops[i]? =some ⟨some d,.fieldAddr s x fi,ty,pos,af,gd⟩) (hs:stat N ops ⟨some d,.fieldAddr s x fi,ty,pos,af,gd⟩ σ=true) (hT:P.underlying s=some (.struct ⟨fl⟩)) (hf:jK4 fl fi=some fd) (hti:P.info? fd.type=some ti) (hz:Nat.ble 1 ti.size=true) (hx:lookO σ x=some (jv v j)) (ho:fd.offset=o)
  (h:HD P N ops p ((d,jv v (j+o))::σ) B H F K):HD P N ops ((i,true)::p) σ B H F K:=by
 subst ho;exact Q9 hv hj ho' hs hT hf hti hz hx h
theorem Q6 {g:FuncId} {args:List Operand} {a1:List Value} {tys:Array TypeId} {e sz n e' sz' n':Nat} {xs xs':List Value} (hg:IsFn P g)
  (hs:stat N ops ⟨some d,.call ⟨.value (.func g),args.toArray,tys⟩,ty,pos,af,gd⟩ σ=true) (ha:vals σ args=some a1)
  (hc:∀w,Sat B (jM v e sz n xs::H0) w->Calls P g a1.toArray w fun e0 w'=>∃r,e0= .returned r/\True/\Sat ⟨w,zN [jM v e sz n xs]⟩ [jM r e' sz' n' xs'] w')
  (h:∀r,HL P N ops l ((d,r)::σ) B (jM r e' sz' n' xs'::H0) K):HL P N ops (⟨some d,.call ⟨.value (.func g),args.toArray,tys⟩,ty,pos,af,gd⟩::l) σ B (jM v e sz n xs::H0) K:=
 qQ (r:=fun r:Value=>r) (Q:=fun _=>True) (G0:=[jM v e sz n xs]) (G:=fun r=>[jM r e' sz' n' xs']) hg hs ha I hc fun r _=>h r
theorem yY {c2:Chunk} {g:FuncId} {args:List Operand} {a1:List Value} {tys:Array TypeId} {e sz n e' sz' n':Nat} {xs xs':List Value} (hg:IsFn P g)
  (hs:stat N ops ⟨some d,.call ⟨.value (.func g),args.toArray,tys⟩,ty,pos,af,gd⟩ σ=true) (ha:vals σ args=some a1)
  (hc:∀w,Sat B (jM v e sz n xs::c2::H0) w->Calls P g a1.toArray w fun e0 w'=>∃r,e0= .returned r/\True/\Sat ⟨w,zN [jM v e sz n xs,c2]⟩ [jM r e' sz' n' xs'] w')
  (h:∀r,HL P N ops l ((d,r)::σ) B (jM r e' sz' n' xs'::H0) K):HL P N ops (⟨some d,.call ⟨.value (.func g),args.toArray,tys⟩,ty,pos,af,gd⟩::l) σ B (jM v e sz n xs::c2::H0) K:=
 qQ (r:=fun r:Value=>r) (Q:=fun _=>True) (G0:=[jM v e sz n xs,c2]) (G:=fun r=>[jM r e' sz' n' xs']) hg hs ha I hc fun r _=>h r
theorem HR.scope {c:Code} (h:HR P f N (.code c:: .inScope c::k) σ B H R):HR P f N (.code (.scope c)::k) σ B H R:=
 fun w hw a ha=> .of_steps (fun _ _=> .one step_scope) (h w hw a ha)
theorem HR.inScope {c:Code} (h:HR P f N k σ B H R):HR P f N (.inScope c::k) σ B H R:=
 fun w hw a ha=> .of_steps (fun _ _=> .one step_inScope) (h w hw a ha)
theorem HR.label {n:Nat} (h:HR P f N k σ B H R):HR P f N (.code (.label n)::k) σ B H R:=
 fun w hw a ha=> .of_steps (fun _ _=> .one step_label) (h w hw a ha)
theorem yN {id:Nat} {x:Code} {ι:Type} (Inv:ι->Prop) (st:ι->Store) (hp:ι->List Chunk) (hj:∀i,Inv i->HR P f N k (st i) B (hp i) R)
  (h:(∀ i σ' H',Inv i->Sub (st i) σ'->Ent B H' (hp i)->HR P f N k σ' B H' R)->HR P f N (.code x:: .inBlock id::k) σ B H R):HR P f N (.code x:: .inBlock id::k) σ B H R:=
 h fun i σ' H' hi hs he=>HR.sub hs (qR he (hj i hi))
theorem YH {F:List Chunk} {n:Nat} {L:Array Bool} {o2 o3:Oper} (i j m:Nat) (hr:decide (Region.ready .any ops.toArray L=[i,j,m])=true) (ho:ops[i]? =some o) (ho2:ops[j]? =some o2) (ho3:ops[m]? =some o3) (h:HL P N ops [o] σ B H (AK P B F ops n (L.setIfInBounds i true) K)) (h2:HL P N ops [o2] σ B H (AK P B F ops n (L.setIfInBounds j true) K)) (h3:HL P N ops [o3] σ B H (AK P B F ops n (L.setIfInBounds m true) K)):HA P N ops (n+1) L σ B H F K:=by
 intro w hw hF a ha;refine wpAnyH_all (of_decide_eq_true hr) (by simp) fun q hq=>?_
 simp only[List.mem_cons,List.not_mem_nil,or_false]at hq;rcases hq with rfl|rfl|rfl
 ·exact yA q ho h w hw a ha
 ·exact yA q ho2 h2 w hw a ha
 ·exact yA q ho3 h3 w hw a ha
theorem jSd {g:FuncId} {caps:List Operand} {vs:List Value} (hv:vals σ caps=some vs) (w:World):
  (execOp (evO σ) ⟨d',.makeFunc (.func g) #[] caps.toArray,ty,pos,af,gd⟩).run P w= .ok (.value (.func (.func g) #[] vs.toArray)) w:=by
 have:=jCY hv;simp only[execOp,List.map_toArray];rw[this]
 simp[Instr.makeFunc]
theorem yP {g:FuncId} {caps:List Operand} {vs:List Value} (hs:stat N ops ⟨some d,.makeFunc (.func g) #[] caps.toArray,ty,pos,af,gd⟩ σ=true) (hv:vals σ caps=some vs)
  (h:HL P N ops l ((d,.func (.func g) #[] vs.toArray)::σ) B H K):HL P N ops (⟨some d,.makeFunc (.func g) #[] caps.toArray,ty,pos,af,gd⟩::l) σ B H K:=
 QL hs (fun w _=>jSd hv w) h
end
end Go.GX
namespace Go.Proofs.YtgfdoognildoeaaGreat
open Go.GX Go.RowKit
attribute [local irreducible] Calls Run JH JL zU HR HL HD jS jM ZN Rd jg Jf
open Nd
theorem fn90:IsFn Tryz.prog 90:=zF Tryz.func90 I
theorem fn196:IsFn Tryz.prog 196:=zF Tryz.func196 I
theorem fn222:IsFn Tryz.prog 222:=zF Tryz.func222 I
theorem fn182:IsFn Tryz.prog 182:=zF Tryz.func182 I
theorem fn242:IsFn Tryz.prog 242:=zF Tryz.func242 I
theorem jTS:IsFn Tryz.prog 108:=zF Tryz.func108 I
theorem fn274:IsFn Tryz.prog 274:=zF Tryz.func274 I
theorem fn302:IsFn Tryz.prog 302:=zF Tryz.func302 I
theorem jK5 {q:List Sn} {f:Fr} (h:f.ur=false):jDf q f=if (q.take 16).length=16 then (q.take 16,false)else (q.take 16++[⟨f,0,0⟩],true):=by unfold jDf jHJ;rw[if_pos (show sur ⟨f,0,0⟩=false from h)]
def jGZ (T:List Sn) (f:Fr):List Sn×Bool:=if T.length=16 then (match lastIdx sdr T with
  |none=>(T,false)
  |some i=>(ins sur (T.eraseIdx i) ⟨f,0,0⟩,true))else (ins sur T ⟨f,0,0⟩,true)
theorem jH1 {q:List Sn} {f:Fr} (h:f.ur=true):jDf q f=jGZ (q.take 16) f:=by unfold jDf jHJ;rw[if_neg (show ¬sur ⟨f,0,0⟩=false by rw[show sur ⟨f,0,0⟩=f.ur from rfl,h];decide)];rfl
theorem jK7 {T:List Sn} {f:Fr} (h:T.length<=15):jGZ T f=(ins sur T ⟨f,0,0⟩,true):=if_neg (by omega)
theorem jK8 {T:List Sn} {f:Fr} (h:T.length=16) (h2:∀a∈T,sdr a=false):jGZ T f=(T,false):=by unfold jGZ;rw[if_pos h,Z4 h2]
theorem jK6 {T:List Sn} {f:Fr} {i:Nat} {a:Sn} (h:T.length=16) (ha:T[i]? =some a) (hp:sdr a=true) (hj:∀j b,i<j->T[j]? =some b->sdr b=false):jGZ T f=(ins sur (T.eraseIdx i) ⟨f,0,0⟩,true):=by unfold jGZ;rw[if_pos h,jAC ha hp hj]
theorem jC5 (l:List Sn) (n:Nat) (ok:Bool) (v:Value) (w:World) (hv:Sl w v (cellsOf snC l) l.length) (hl:l.length<=1000):
  Calls Tryz.prog 90 #[v,.int .i64 (n:Int),.bool ok] w fun e w'=>∃v',e= .returned (.tuple ⟨[v',.bool (ZU l n ok).2]⟩)/\True/\Sat (base w) [jM v' 131 11 (ZU l n ok).1.length (cellsOf snC (ZU l n ok).1)] w':=by
 have h16:(l.take 16).length<=16:=by simp;omega
 refine zE Tryz.func90 I [(0,v),(1,.int .i64 (n:Int)),(2,.bool ok)] (zh ?_);refine qI jRj I I (fun w hw=>jBX l v w ((qA hv).at hw) hl) ?_;intro v1;refine zh ?_;refine qD (Rd.own 0 I) I I I (zh ?_);refine HR.cond I (fun h2=>?_) (fun h2=>?_)
 ·have h2:(l.take 16).length<=n:=by have:=of_decide_eq_true h2;omega
  rw[jGY h2];refine zh ?_;refine HR.ret Tryz.func90 I [_,_] (fun _ _=>⟨I,I,trivial⟩) ?_
  exact fun w' hw=>⟨v1,rfl,trivial,hw⟩
 have h2:n<(l.take 16).length:=by have:=of_decide_eq_false h2;omega
 obtain ⟨s,hs⟩:=jG h2;rw[jGX hs];obtain ⟨T,hT⟩:∃T,T=l.take 16:=⟨_,rfl⟩;rw[<- hT]at h16 h2 hs ⊢;have hcl:∀T:List Sn,(cellsOf snC T).length=T.length*11:=jA jU;refine zh ?_;refine HR.cond I (fun h3=>?_) (fun h3=>?_)
 ·have h3:ok=true:=h3;subst h3;refine zh ?_;refine Q6 jQK I I (fun w hw=>jBC T n v1 _ w hw h2 (by omega)) ?_;intro r;refine zh ?_;refine HR.ret Tryz.func90 I [_,_] (fun _ _=>⟨I,I,trivial⟩) ?_
  exact fun w' hw=>⟨r,rfl,trivial,hw⟩
 have h3:ok=false:=h3;subst h3;rw[if_neg (show ¬false=true by decide)];have hm:jm s=min (max s.tr 0) 7+1:=rfl;have hs2:(T.set n ⟨s.f,jm s,s.wt⟩)[n]? =some ⟨s.f,jm s,s.wt⟩:=List.getElem?_set_self h2;have hl2:(T.set n ⟨s.f,jm s,s.wt⟩).length=T.length:=List.length_set;have hmt:(if 7<(if 0>s.tr then (0:Int)else s.tr)then (7:Int)else if 0>s.tr then (0:Int)else s.tr)+1=jm s:=by rw[hm];split<;>split<;>omega
 repeat' (first|refine zh ?_|refine qE (Rd.own 0 I) jy n I I I I h2 ?_|refine Qz (Rd.own 0 I) (by rw[hcl];omega) I I ?_|refine qY (Rd.own 0 I) (by rw[hcl];omega) I I I I I I ?_|refine qF (Rd.own 0 I) I I I I (jJ jU hs (i:=9) I) ?_|fail)
 refine QB 37 (v':= .int .i64 (jm s)) I (by rw[hmt]) (qw (j:=n*11+9) 0 I I I I I I I (by rw[hcl];omega) ?_);refine qM (H':=[jM v1 131 11 (T.set n ⟨s.f,jm s,s.wt⟩).length (cellsOf snC (T.set n ⟨s.f,jm s,s.wt⟩))]) (qC hl2.symm (JR (i:=9) jU hs I (by decide))) ?_;obtain ⟨U,hU⟩:∃U,U=T.set n ⟨s.f,jm s,s.wt⟩:=⟨_,rfl⟩;rw[<- hU]at hs2 hl2 ⊢;have h2u:n<U.length:=by omega
 repeat' (first|refine zh ?_|refine Qz (Rd.own 0 I) (by rw[hcl];omega) I I ?_|refine qY (Rd.own 0 I) (by rw[hcl];omega) I I I I I I ?_|refine qF (Rd.own 0 I) I I I I (jJ jU hs2 (i:=9) I) ?_|fail)
 refine HR.cond I (fun h4=>?_) (fun h4=>?_)
 ·have h4:jm s=8:=eq_of_beq h4;rw[if_pos h4]
  repeat' (first|refine zh ?_|refine Q6 jQK I I (fun w hw=>jBC U n v1 _ w hw h2u (by omega)) ?_|fail)
  intro r
  repeat' (first|refine zh ?_|fail)
  refine HR.ret Tryz.func90 I [_,_] (fun _ _=>⟨I,I,trivial⟩) ?_;refine fun w' hw=>⟨r,rfl,trivial,?_⟩
  have e:U.eraseIdx n=T.eraseIdx n:=by
   rw[hU,List.eraseIdx_set_eq]
  rw[<- e];exact hw
 have h4:¬jm s=8:=by intro e;have h4:(jm s==8)=false:=h4;rw[e]at h4;cases h4
 rw[if_neg h4];have hmn:(if 4<jm s then (4:Int)else jm s)=min (jm s) 4:=by split<;>omega
 have hs3:(U.set n ⟨s.f,jm s,min (jm s) 4⟩)[n]? =some ⟨s.f,jm s,min (jm s) 4⟩:=List.getElem?_set_self h2u;have hl3:(U.set n ⟨s.f,jm s,min (jm s) 4⟩).length=U.length:=List.length_set
 repeat' (first|refine zh ?_|refine Qz (Rd.own 0 I) (by rw[hcl];omega) I I ?_|refine qY (Rd.own 0 I) (by rw[hcl];omega) I I I I I I ?_|refine qF (Rd.own 0 I) I I I I (jJ jU hs2 (i:=9) I) ?_|fail)
 refine QB 55 (v':= .int .i64 (min (jm s) 4)) I (by rw[hmn]) (qw (j:=n*11+10) 0 I I I I I I I (by rw[hcl];omega) ?_);refine qM (H':=[jM v1 131 11 (U.set n ⟨s.f,jm s,min (jm s) 4⟩).length (cellsOf snC (U.set n ⟨s.f,jm s,min (jm s) 4⟩))]) (qC hl3.symm (JR (i:=10) jU hs2 I (by decide))) ?_;obtain ⟨V,hV⟩:∃V,V=U.set n ⟨s.f,jm s,min (jm s) 4⟩:=⟨_,rfl⟩;rw[<- hV]at hs3 hl3 ⊢;have h2v:n<V.length:=by omega
 have hVT:V=T.set n ⟨s.f,jm s,min (jm s) 4⟩:=by rw[hV,hU,List.set_set]
 repeat' (first|refine zh ?_|refine Qz (Rd.own 0 I) (by rw[hcl];omega) I I ?_|refine qY (Rd.own 0 I) (by rw[hcl];omega) I I I I I I ?_|fail)
 refine QB 60 (v':=jv v1 (n*11)) I I ?_
 repeat' (first|refine zh ?_|refine qY (Rd.own 0 I) (by rw[hcl];omega) I I I I I I ?_|refine qF (Rd.own 0 I) I I I I (jJ jU hs3 (i:=7) I) ?_|fail)
 refine HR.cond I (fun h5=>?_) (fun h5=>?_)
 ·have h5:s.f.ur=true:=h5
  repeat' (first|refine zh ?_|refine Qz (Rd.own 0 I) (by rw[hcl];omega) I I ?_|refine qY (Rd.own 0 I) (by rw[hcl];omega) I I I I I I ?_|refine qw (j:=n*11+10) 0 I I I I I I I (by rw[hcl];omega) ?_|fail)
  refine HR.ret Tryz.func90 I [_,_] (fun _ _=>⟨I,I,trivial⟩) ?_;refine fun w' hw=>⟨v1,rfl,trivial,qC (by rw[List.length_set];omega) ?_ w' hw⟩
  rw[h5,if_pos rfl,JR (i:=10) (b:=⟨s.f,jm s,0⟩) jU hs3 I (by decide),hVT,List.set_set]
 ·have h5:s.f.ur=false:=h5
  repeat' (first|refine zh ?_|fail)
  refine HR.ret Tryz.func90 I [_,_] (fun _ _=>⟨I,I,trivial⟩) ?_;refine fun w' hw=>⟨v1,rfl,trivial,qC (by rw[List.length_set];omega) ?_ w' hw⟩
  rw[h5,if_neg (by decide),hVT]
theorem jPg {n:Nat} (h:n<=16) (h2:((n:Int)==16)=false):n<=15:=by
 have h2:(n:Int)≠16:=by simpa using h2
 omega
theorem jPy (l:List Sn) (f:Fr) (v:Value) (w:World) (hv:Sl w v (cellsOf snC l) l.length) (hl:l.length<=1000):
  Calls Tryz.prog 196 #[v,.agg ⟨frC f⟩] w fun e w'=>∃v',e= .returned (.tuple ⟨[v',.bool (jDf l f).2]⟩)/\True/\Sat (base w) [jM v' 131 11 (jDf l f).1.length (cellsOf snC (jDf l f).1)] w':=by
 have h16:(l.take 16).length<=16:=by simp;omega
 have hcl:∀T:List Sn,(cellsOf snC T).length=T.length*11:=jA jU;refine zE Tryz.func196 I [(0,v),(1,.agg ⟨frC f⟩)] (zh ?_);intro (bk:Nat);refine zh ?_;refine qI jRj I I (fun w hw=>jBX l v w ((qA hv).at hw) hl) ?_;intro v1;refine zh ?_;refine HR.cond I (fun h0=>?_) (fun h0=>?_)
 ·have h0:f.ur=false:=by have h0:(!f.ur)=true:=h0;simpa using h0
  rw[jK5 h0];obtain ⟨T,hT⟩:∃T,T=l.take 16:=⟨_,rfl⟩;rw[<- hT]at h16 ⊢;refine zh ?_;refine qD (Rd.own 0 I) I I I (zh ?_);refine HR.cond I (fun h2=>?_) (fun h2=>?_)
  ·have h2:T.length=16:=by have h2:((T.length:Int)==16)=true:=h2;simp at h2;omega
   rw[if_pos h2];refine zh ?_;refine HR.ret Tryz.func196 I [_,_] (fun _ _=>⟨I,I,trivial⟩) ?_
   exact fun w' hw=>⟨v1,rfl,trivial,hw.pick [0] I rfl⟩
  ·have h2:T.length<=15:=jPg h16 h2;rw[if_neg (by omega)];refine zh ?_;refine qH jy I I I I I (by decide) (by decide) ?_;intro va;refine qJ 1 I jy (Rd.own 0 I) I I I I (jH I) (by omega) (by omega) ?_;intro v2;refine zh ?_;refine HR.ret Tryz.func196 I [_,_] (fun _ _=>⟨I,I,trivial⟩) ?_;refine fun w' hw=>⟨v2,rfl,trivial,qC (by simp) ?_ w' (hw.pick [1] I rfl)⟩
   rw[jL];rfl
 have h0:f.ur=true:=by have h0:(!f.ur)=false:=h0;simpa using h0
 rw[jH1 h0];obtain ⟨T,hT⟩:∃T,T=l.take 16:=⟨_,rfl⟩;rw[<- hT]at h16 ⊢;refine zh ?_;refine qD (Rd.own 0 I) I I I (zh ?_);refine HR.join (ι:=Value×List Sn) (fun i=>i.2.length<=15/\jGZ T f=(ins sur i.2 ⟨f,0,0⟩,true)) (fun i=>[(3,.pointer (some ⟨bk,0,none⟩)),(6,i.1)]) (fun i=>[jM i.1 131 11 i.2.length (cellsOf snC i.2),jS bk (frC f) 75]) (fun i=>?_) (fun hj=>?_)
 ·obtain ⟨u,L⟩:=i
  rintro ⟨hL,e⟩
  have hL:L.length<=15:=hL;have e:jGZ T f=(ins sur L ⟨f,0,0⟩,true):=e;rw[e];refine zh ?_;refine HR.loop (ι:=Nat) (fun b=>b<=L.length/\∀k a,k<b->L[k]? =some a->sur a=true) (fun b=>[(3,.pointer (some ⟨bk,0,none⟩)),(6,u),(8,.int .i64 (b:Int))]) (fun _=>[jM u 131 11 L.length (cellsOf snC L),jS bk (frC f) 75]) (fun b=>L.length-b) 0 ⟨Nat.zero_le _,fun k a hk=>absurd hk (Nat.not_lt_zero _)⟩ ⟨I,I,I,trivial⟩ Ent.refl ?_
  rintro b ⟨hb,hg⟩ ih
  repeat' (first|refine zh ?_|refine qD (Rd.own 0 I) I I I ?_|refine qE (Rd.own 0 I) jy b I I I I (by omega) ?_|refine qP 0 (Rd.own 0 I) (by rw[hcl];omega) I I I I I I I ?_|refine qP 7 (Rd.own 0 I) (by rw[hcl];omega) I I I I I I I ?_|refine qF (Rd.own 0 I) I I I I (jJ jU (Jb (by omega) sn0) (i:=7) I) ?_|apply zb ?_ ?_|exact zc|(refine zi fun hb=>?_;try simp at hb)|fail)
  refine HR.cond I (fun h3=>?_) (fun h3=>?_)
  ·have h3:(decide ((b:Int)<L.length)&&(L.getD b sn0).f.ur)=true:=h3;simp only[Bool.and_eq_true,decide_eq_true_eq]at h3;refine zh ?_;refine ih (b+1) _ _ ⟨by omega,fun k a hk ha=>?_⟩ (by omega) ⟨I,I,I,trivial⟩ Ent.refl
   by_cases e2:k=b
   ·subst e2;rw[Jb (by omega) sn0]at ha;cases ha;exact h3.2
   ·exact hg k a (by omega) ha
  ·have h3:(decide ((b:Int)<L.length)&&(L.getD b sn0).f.ur)=false:=h3;have hi:ins sur L ⟨f,0,0⟩=L.take b++⟨f,0,0⟩::L.drop b:=by
    refine jGi hb hg fun a ha=>?_
    have hbl:=(List.getElem?_eq_some_iff.1 ha).1;rw[Jb hbl sn0]at ha;cases ha;rw[decide_eq_true (show (b:Int)<L.length by omega),Bool.true_and]at h3;exact h3
   rw[hi];refine zh ?_;refine qH jy I I I I I (by decide) (by decide) ?_;intro va;refine yY fn246 I I (fun w hw=>jNT L ⟨f,0,0⟩ b u va _ w (hw.pick [0,1] I I) hb (by omega)) ?_;intro r;refine zh ?_;refine HR.ret Tryz.func196 I [_,_] (fun _ _=>⟨I,I,trivial⟩) ?_
   exact fun w' hw=>⟨r,rfl,trivial,hw.pick [0] I rfl⟩
 ·refine HR.cond I (fun h2=>?_) (fun h2=>?_)
  ·have h2:T.length=16:=by have h2:((T.length:Int)==16)=true:=h2;simp at h2;omega
   refine HR.scope (zh ?_);refine qD (Rd.own 0 I) I I I (zh ?_);refine HR.label (zh ?_);refine HR.loop (ι:=Nat) (fun a=>a<=16/\∀j x,a<=j->T[j]? =some x->sdr x=false) (fun a=>[(3,.pointer (some ⟨bk,0,none⟩)),(6,v1),(7,.int .i64 ((a:Int)-1))]) (fun _=>[jM v1 131 11 T.length (cellsOf snC T),jS bk (frC f) 75]) (fun a=>a) 16 ⟨Nat.le_refl _,fun j x hj hx=>by have:=(List.getElem?_eq_some_iff.1 hx).1;omega⟩ ⟨rfl,rfl,by show some (Value.int IntKind.i64 ((T.length:Int)-1))=_;rw[h2],trivial⟩ Ent.refl ?_
   rintro a ⟨ha,hg⟩ ih
   refine zh ?_;refine HR.cond I (fun h3=>?_) (fun h3=>?_)
   ·have h3:((a:Int)-1)>=0:=of_decide_eq_true h3;obtain ⟨m,rfl⟩:∃m,a=m+1:=⟨a-1,by omega⟩;have hml:m<T.length:=by omega
    obtain ⟨x,hx⟩:=jG hml
    repeat' (first|refine zh ?_|refine qE (Rd.own 0 I) jy m I I I (by omega) hml ?_|refine qP 0 (Rd.own 0 I) (by rw[hcl];omega) I I I I I I I ?_|refine qP 7 (Rd.own 0 I) (by rw[hcl];omega) I I I I I I I ?_|refine qP 9 (Rd.own 0 I) (by rw[hcl];omega) I I I I I I I ?_|refine qF (Rd.own 0 I) I I I I (jJ jU hx (i:=7) I) ?_|refine qF (Rd.own 0 I) I I I I (jJ jU hx (i:=9) I) ?_|apply zb ?_ ?_|exact zc|(refine zi fun hb=>?_;try simp at hb)|fail)
    refine HR.cond I (fun h4=>?_) (fun h4=>?_)
    ·have h4:(x.f.ur||decide (x.tr>0))=true:=h4;refine zh ?_;refine ih m _ _ ⟨by omega,fun j y hj hy=>?_⟩ (by omega) ⟨rfl,rfl,by show some (Value.int IntKind.i64 _)=some (Value.int IntKind.i64 _);congr 2;omega,trivial⟩ Ent.refl
     by_cases e:j=m
     ·subst e;rw[hx]at hy;cases hy;unfold sdr;rw[Bool.or_eq_true]at h4;rcases h4 with h4|h4
      ·rw [h4];rfl
      ·rw [decide_eq_false (by have:=of_decide_eq_true h4;omega),Bool.and_false]
     ·exact hg j y (by omega) hy
    ·have h4:(x.f.ur||decide (x.tr>0))=false:=h4;rw[Bool.or_eq_false_iff]at h4;have hd:sdr x=true:=by
      unfold sdr;rw[h4.1,decide_eq_true (by have:=of_decide_eq_false h4.2;omega)];rfl
     have e:=jK6 (f:=f) h2 hx hd (fun j b hj hb=>hg j b (by omega) hb);refine QC 7 (v':= .int .i64 (m:Int)) I (by congr 1;omega) ?_;refine zh ?_;refine Q6 jQK I I (fun w hw=>jBC T m v1 _ w (hw.pick [0] I I) hml (by omega)) ?_;intro r;refine zh ?_;refine HR.inScope ?_;exact hj (r,T.eraseIdx m) _ _ ⟨by show (T.eraseIdx m).length<=15;rw[List.length_eraseIdx_of_lt hml];omega,e⟩ ⟨I,I,trivial⟩ Ent.refl
   ·have h3:¬((a:Int)-1)>=0:=of_decide_eq_false h3;have ha0:a=0:=by omega
    subst ha0;rw[jK8 h2 fun x hx=>by
     obtain ⟨j,hj⟩:=List.getElem?_of_mem hx;exact hg j x (Nat.zero_le _) hj]
    refine zh ?_;refine HR.ret Tryz.func196 I [_,_] (fun _ _=>⟨I,I,trivial⟩) ?_
    exact fun w' hw=>⟨v1,rfl,trivial,hw.pick [0] I rfl⟩
  ·have h2:T.length<=15:=jPg h16 h2;refine HR.skip ?_;exact hj (v1,T) _ _ ⟨h2,jK7 h2⟩ ⟨I,I,trivial⟩ Ent.refl
theorem fn88:IsFn Tryz.prog 88:=zF Tryz.func88 I
theorem fn267:IsFn Tryz.prog 267:=zF Tryz.func267 I
theorem fn273:IsFn Tryz.prog 273:=zF Tryz.func273 I
theorem fn227:IsFn Tryz.prog 227:=zF Tryz.func227 I
theorem fn264:IsFn Tryz.prog 264:=zF Tryz.func264 I
theorem fn219:IsFn Tryz.prog 219:=zF Tryz.func219 I
def fidx {α:Type} (p:α->Bool) (l:List α):Int:=match l.findIdx? p with
 |some i=>(i:Int)
 |none=>-1
theorem JF {α:Type} (p:α->Bool) (l:List α):(fidx p l= -1/\l.findIdx? p=none/\∀a∈l,p a=false)\/∃(i:Nat) (a:α),fidx p l=(i:Int)/\l.findIdx? p=some i/\l[i]? =some a/\p a=true/\∀j b,j<i->l[j]? =some b->p b=false:=by
 unfold fidx;cases h:l.findIdx? p with
 |none=>exact .inl ⟨rfl,rfl,fun a ha=>by have:=List.findIdx?_eq_none_iff.1 h a ha;simpa using this⟩
 |some i=>
  obtain ⟨h1,h2,h3⟩:=List.findIdx?_eq_some_iff_getElem.1 h;refine .inr ⟨i,l[i],rfl,rfl,List.getElem?_eq_getElem h1,h2,fun j b hj hb=>?_⟩;obtain ⟨hjl,rfl⟩:=List.getElem?_eq_some_iff.1 hb;have:=h3 j hj
  simpa using this
theorem Zk {α:Type} {p:α->Bool} {l:List α} {i:Nat} {a:α} (ha:l[i]? =some a) (hp:p a=true) (hno:∀j b,j<i->l[j]? =some b->p b=false):fidx p l=(i:Int):=by
 rcases JF p l with ⟨_,_,h⟩|⟨k,b,e,_,hb,hpb,hk⟩
 ·rw [h a (List.mem_of_getElem? ha)]at hp;cases hp
 ·rw [e];rcases Nat.lt_trichotomy k i with h|h|h
  ·rw [hno k b h hb]at hpb;cases hpb
  ·rw [h]
  ·rw [hk i a h ha]at hp;cases hp
theorem Jq {α:Type} {p:α->Bool} {l:List α} (hno:∀j b,j<l.length->l[j]? =some b->p b=false):fidx p l= -1:=by
 rcases JF p l with ⟨h,_⟩|⟨k,b,e,_,hb,hpb,hk⟩
 ·exact h
 ·rw [hno k b (List.getElem?_eq_some_iff.1 hb).1 hb]at hpb;cases hpb
theorem jCW {α:Type} (p:α->Bool) (l:List α):decide (fidx p l>=0)=l.any p:=by
 rcases JF p l with ⟨h,_,h2⟩|⟨k,b,e,_,hb,hpb,hk⟩
 ·rw [h,decide_eq_false (by decide)]
  symm
  rw[<- Bool.not_eq_true,List.any_eq_true]
  rintro ⟨a,ha,hp⟩
  rw[h2 a ha]at hp;cases hp
 ·rw [e,decide_eq_true (by omega)];exact (List.any_eq_true.2 ⟨b,List.mem_of_getElem? hb,hpb⟩).symm
def jQ4 (P:Program) (g:FuncId) (caps:List Value) {α:Type} (E:α->Value) (p:α->Bool) (l:List α) (w:World):Prop:=
 ∀a∈l,∀w',Below w.heap.size w w'->Calls P g ((E a::caps).toArray) w' fun e w''=>e= .returned (.bool (p a))/\Below w'.heap.size w' w''
theorem jBv (l:List Sn) (p:Sn->Bool) (g:FuncId) (caps:List Value) (v:Value) (w:World) (hg:IsFn Tryz.prog g) (hp:jQ4 Tryz.prog g caps (fun a=> .agg ⟨snC a⟩) p l w) (hv:Sl w v (cellsOf snC l) l.length) (hl:l.length<=1000000):
  Calls Tryz.prog 88 #[v,.func (.func g) #[] caps.toArray] w fun e w'=>e= .returned (.int .i64 (fidx p l))/\Below w.heap.size w w':=by
 refine zE Tryz.func88 I [(0,v),(1,.func (.func g) #[] caps.toArray)] (zh ?_);refine qD (qA hv) I I I (zh ?_);refine HR.loop (ι:=Nat) (fun k=>k<=l.length/\∀j b,j<k->l[j]? =some b->p b=false) (fun k=>[(0,v),(1,.func (.func g) #[] caps.toArray),(7,.int .i64 (l.length:Int)),(8,.int .i64 (k:Int))]) (fun _=>[]) (fun k=>l.length-k) 0 ⟨Nat.zero_le _,fun j b hj=>absurd hj (Nat.not_lt_zero _)⟩ ⟨I,I,I,I,trivial⟩ Ent.refl ?_
 rintro k ⟨hk,hno⟩ ih
 refine zh ?_;refine HR.cond I (fun h2=>?_) (fun h2=>?_)
 ·have hlt:k<l.length:=by have:=of_decide_eq_true h2;omega
  obtain ⟨x,hx⟩:=jG hlt;refine zh ?_;refine qE (qA hv) jy k I I I I hlt ?_;refine qN (qA hv) I I I I (by simp) I (jD jU hx) ?_;refine Qa (caps:=caps) hg I I I (fun w' hw=>hp x (List.mem_of_getElem? hx) w' hw.jF) (zh ?_);refine HR.cond I (fun h3=>?_) (fun h3=>?_)
  ·have h3:p x=true:=h3;refine zh ?_;refine HR.ret Tryz.func88 I [_] (fun _ _=>⟨I,trivial⟩) ?_;rw[Zk hx h3 hno]
   exact fun w' hw=>⟨rfl,hw.jF⟩
  ·have h3:p x=false:=h3;refine zh ?_;refine ih (k+1) _ _ ⟨hlt,fun j b hj hb=>?_⟩ (by omega) ⟨I,I,I,I,trivial⟩ Ent.refl
   by_cases e:j=k
   ·subst e;rw[hx]at hb;cases hb;exact h3
   ·exact hno j b (by omega) hb
 ·have hke:k=l.length:=by have:=of_decide_eq_false h2;omega
  subst hke;rw[Jq hno];refine zh ?_;exact zR Tryz.func88
theorem jJF (l:List Sn) (p:Sn->Bool) (g:FuncId) (caps:List Value) (v:Value) (w:World) (hg:IsFn Tryz.prog g) (hp:jQ4 Tryz.prog g caps (fun a=> .agg ⟨snC a⟩) p l w) (hv:Sl w v (cellsOf snC l) l.length) (hl:l.length<=1000000):
  Calls Tryz.prog 264 #[v,.func (.func g) #[] caps.toArray] w fun e w'=>e= .returned (.bool (l.any p))/\Below w.heap.size w w':=by
 rw[<- jCW];refine zE Tryz.func264 I [(0,v),(1,.func (.func g) #[] caps.toArray)] (zh ?_);refine qB fn88 I I (fun w' hw=>jBv l p g caps v w' hg (fun a ha w2 hb=>hp a ha w2 (GX.Below.seq hw.jF hb)) ((qA hv).at hw) hl) (zh ?_);exact zR Tryz.func264
theorem jGm (l:List Ma) (p:Ma->Bool) (g:FuncId) (caps:List Value) (v:Value) (w:World) (hg:IsFn Tryz.prog g) (hp:jQ4 Tryz.prog g caps (fun a=> .agg ⟨maC a⟩) p l w) (hv:Sl w v (cellsOf maC l) l.length) (hl:l.length<=1000000):
  Calls Tryz.prog 267 #[v,.func (.func g) #[] caps.toArray] w fun e w'=>e= .returned (.int .i64 (fidx p l))/\Below w.heap.size w w':=by
 refine zE Tryz.func267 I [(0,v),(1,.func (.func g) #[] caps.toArray)] (zh ?_);refine qD (qA hv) I I I (zh ?_);refine HR.loop (ι:=Nat) (fun k=>k<=l.length/\∀j b,j<k->l[j]? =some b->p b=false) (fun k=>[(0,v),(1,.func (.func g) #[] caps.toArray),(7,.int .i64 (l.length:Int)),(8,.int .i64 (k:Int))]) (fun _=>[]) (fun k=>l.length-k) 0 ⟨Nat.zero_le _,fun j b hj=>absurd hj (Nat.not_lt_zero _)⟩ ⟨I,I,I,I,trivial⟩ Ent.refl ?_
 rintro k ⟨hk,hno⟩ ih
 refine zh ?_;refine HR.cond I (fun h2=>?_) (fun h2=>?_)
 ·have hlt:k<l.length:=by have:=of_decide_eq_true h2;omega
  obtain ⟨x,hx⟩:=jG hlt;refine zh ?_;refine qE (qA hv) JB k I I I I hlt ?_;refine qN (qA hv) I I I I (by simp) I (jD j4 hx) ?_;refine Qa (caps:=caps) hg I I I (fun w' hw=>hp x (List.mem_of_getElem? hx) w' hw.jF) (zh ?_);refine HR.cond I (fun h3=>?_) (fun h3=>?_)
  ·have h3:p x=true:=h3;refine zh ?_;refine HR.ret Tryz.func267 I [_] (fun _ _=>⟨I,trivial⟩) ?_;rw[Zk hx h3 hno]
   exact fun w' hw=>⟨rfl,hw.jF⟩
  ·have h3:p x=false:=h3;refine zh ?_;refine ih (k+1) _ _ ⟨hlt,fun j b hj hb=>?_⟩ (by omega) ⟨I,I,I,I,trivial⟩ Ent.refl
   by_cases e:j=k
   ·subst e;rw[hx]at hb;cases hb;exact h3
   ·exact hno j b (by omega) hb
 ·have hke:k=l.length:=by have:=of_decide_eq_false h2;omega
  subst hke;rw[Jq hno];refine zh ?_;exact zR Tryz.func267
theorem jGj (l:List Ro) (p:Ro->Bool) (g:FuncId) (caps:List Value) (v:Value) (w:World) (hg:IsFn Tryz.prog g) (hp:jQ4 Tryz.prog g caps (fun a=> .agg ⟨roC a⟩) p l w) (hv:Sl w v (cellsOf roC l) l.length) (hl:l.length<=1000000):
  Calls Tryz.prog 273 #[v,.func (.func g) #[] caps.toArray] w fun e w'=>e= .returned (.int .i64 (fidx p l))/\Below w.heap.size w w':=by
 refine zE Tryz.func273 I [(0,v),(1,.func (.func g) #[] caps.toArray)] (zh ?_);refine qD (qA hv) I I I (zh ?_);refine HR.loop (ι:=Nat) (fun k=>k<=l.length/\∀j b,j<k->l[j]? =some b->p b=false) (fun k=>[(0,v),(1,.func (.func g) #[] caps.toArray),(7,.int .i64 (l.length:Int)),(8,.int .i64 (k:Int))]) (fun _=>[]) (fun k=>l.length-k) 0 ⟨Nat.zero_le _,fun j b hj=>absurd hj (Nat.not_lt_zero _)⟩ ⟨I,I,I,I,trivial⟩ Ent.refl ?_
 rintro k ⟨hk,hno⟩ ih
 refine zh ?_;refine HR.cond I (fun h2=>?_) (fun h2=>?_)
 ·have hlt:k<l.length:=by have:=of_decide_eq_true h2;omega
  obtain ⟨x,hx⟩:=jG hlt;refine zh ?_;refine qE (qA hv) jZ k I I I I hlt ?_;refine qN (qA hv) I I I I (by simp) I (jD jP hx) ?_;refine Qa (caps:=caps) hg I I I (fun w' hw=>hp x (List.mem_of_getElem? hx) w' hw.jF) (zh ?_);refine HR.cond I (fun h3=>?_) (fun h3=>?_)
  ·have h3:p x=true:=h3;refine zh ?_;refine HR.ret Tryz.func273 I [_] (fun _ _=>⟨I,trivial⟩) ?_;rw[Zk hx h3 hno]
   exact fun w' hw=>⟨rfl,hw.jF⟩
  ·have h3:p x=false:=h3;refine zh ?_;refine ih (k+1) _ _ ⟨hlt,fun j b hj hb=>?_⟩ (by omega) ⟨I,I,I,I,trivial⟩ Ent.refl
   by_cases e:j=k
   ·subst e;rw[hx]at hb;cases hb;exact h3
   ·exact hno j b (by omega) hb
 ·have hke:k=l.length:=by have:=of_decide_eq_false h2;omega
  subst hke;rw[Jq hno];refine zh ?_;exact zR Tryz.func273
theorem jJG (l:List Ro) (p:Ro->Bool) (g:FuncId) (caps:List Value) (v:Value) (w:World) (hg:IsFn Tryz.prog g) (hp:jQ4 Tryz.prog g caps (fun a=> .agg ⟨roC a⟩) p l w) (hv:Sl w v (cellsOf roC l) l.length) (hl:l.length<=1000000):
  Calls Tryz.prog 219 #[v,.func (.func g) #[] caps.toArray] w fun e w'=>e= .returned (.bool (l.any p))/\Below w.heap.size w w':=by
 rw[<- jCW];refine zE Tryz.func219 I [(0,v),(1,.func (.func g) #[] caps.toArray)] (zh ?_);refine qB fn273 I I (fun w' hw=>jGj l p g caps v w' hg (fun a ha w2 hb=>hp a ha w2 (GX.Below.seq hw.jF hb)) ((qA hv).at hw) hl) (zh ?_);exact zR Tryz.func219
theorem jJA (l:List Int) (p:Int->Bool) (g:FuncId) (caps:List Value) (v:Value) (w:World) (hg:IsFn Tryz.prog g) (hp:jQ4 Tryz.prog g caps (fun a=> .int .i64 a) p l w) (hv:Sl w v (cellsOf iC l) l.length) (hl:l.length<=1000000):
  Calls Tryz.prog 227 #[v,.func (.func g) #[] caps.toArray] w fun e w'=>e= .returned (.int .i64 (fidx p l))/\Below w.heap.size w w':=by
 refine zE Tryz.func227 I [(0,v),(1,.func (.func g) #[] caps.toArray)] (zh ?_);refine qD (qA hv) I I I (zh ?_);refine HR.loop (ι:=Nat) (fun k=>k<=l.length/\∀j b,j<k->l[j]? =some b->p b=false) (fun k=>[(0,v),(1,.func (.func g) #[] caps.toArray),(7,.int .i64 (l.length:Int)),(8,.int .i64 (k:Int))]) (fun _=>[]) (fun k=>l.length-k) 0 ⟨Nat.zero_le _,fun j b hj=>absurd hj (Nat.not_lt_zero _)⟩ ⟨I,I,I,I,trivial⟩ Ent.refl ?_
 rintro k ⟨hk,hno⟩ ih
 refine zh ?_;refine HR.cond I (fun h2=>?_) (fun h2=>?_)
 ·have hlt:k<l.length:=by have:=of_decide_eq_true h2;omega
  obtain ⟨x,hx⟩:=jG hlt;refine zh ?_;refine qE (qA hv) j5 k I I I I hlt ?_;refine qF (qA hv) I I I I (jN hx) ?_;refine Qa (caps:=caps) hg I I I (fun w' hw=>hp x (List.mem_of_getElem? hx) w' hw.jF) (zh ?_);refine HR.cond I (fun h3=>?_) (fun h3=>?_)
  ·have h3:p x=true:=h3;refine zh ?_;refine HR.ret Tryz.func227 I [_] (fun _ _=>⟨I,trivial⟩) ?_;rw[Zk hx h3 hno]
   exact fun w' hw=>⟨rfl,hw.jF⟩
  ·have h3:p x=false:=h3;refine zh ?_;refine ih (k+1) _ _ ⟨hlt,fun j b hj hb=>?_⟩ (by omega) ⟨I,I,I,I,trivial⟩ Ent.refl
   by_cases e:j=k
   ·subst e;rw[hx]at hb;cases hb;exact h3
   ·exact hno j b (by omega) hb
 ·have hke:k=l.length:=by have:=of_decide_eq_false h2;omega
  subst hke;rw[Jq hno];refine zh ?_;exact zR Tryz.func227
theorem jRf:IsFn Tryz.prog 205:=zF Tryz.func205 I
theorem jS4:IsFn Tryz.prog 206:=zF Tryz.func206 I
theorem fn213:IsFn Tryz.prog 213:=zF Tryz.func213 I
theorem fn268:IsFn Tryz.prog 268:=zF Tryz.func268 I
theorem jSx:IsFn Tryz.prog 221:=zF Tryz.func221 I
theorem fn151:IsFn Tryz.prog 151:=zF Tryz.func151 I
def ma0:Ma:=⟨fr0,0⟩
theorem zY (n:Int):0<=tick n/\tick n<=1099511627776:=by
 have e:(1099511627776:Int)=jw:=rfl;unfold tick clamp;rw[<- e];omega
theorem jFE (l:List Ma) (v:Value) (w0 w:World) (hv:Sl w0 v (cellsOf maC l) l.length):
  Calls Tryz.prog 205 #[v] w fun e w'=>∃v',e= .returned v'/\Sl w0 v' (cellsOf maC (l.take 16)) (l.take 16).length/\Sat (base w) [] w':=by
 obtain ⟨hsl,ad,c,rfl,hc⟩:=hv;have h0:min 16 l.length<=l.length:=Nat.min_le_right _ _;refine zE Tryz.func205 I [(0,.slice ad l.length c)] (zh ?_);refine QB 8 (v':= .int .i64 ((min 16 l.length:Nat):Int)) I (by rw[jRH]) (QB 9 (v':= .int .i64 ((min 16 l.length:Nat):Int)) I (by rw[jRH]) ?_);refine HL.cut (sz:=10) 0 (min 16 l.length) (min 16 l.length) I I I I (.inl ⟨rfl,rfl⟩) (.inr ⟨_,_,rfl,rfl⟩) (.inr ⟨_,_,rfl,rfl⟩) (Nat.zero_le _) (Nat.le_refl _) (by omega) (zh ?_);refine HR.ret Tryz.func205 I [_] (fun _ _=>⟨I,trivial⟩) ?_;refine fun w' hw=>⟨_,rfl,?_,hw⟩
 have hlen:(l.take 16).length=min 16 l.length:=List.length_take;rw[hlen];show Sl w0 (cutV 10 ad 0 (min 16 l.length) (min 16 l.length)) _ _;refine ⟨?_,_,_,rfl,by simp⟩;rcases hsl with ⟨h1,h2,h3⟩|⟨b,off,cap,he,h1⟩
 ·have hz:l=[]:=List.eq_nil_of_length_eq_zero h2;subst hz;refine .inl ⟨?_,rfl,rfl⟩;rcases h1 with h1|⟨a,c',h1⟩
  ·cases h1;exact .inl I
  ·cases h1;exact .inr ⟨_,_,rfl⟩
 ·cases he;refine .inr ⟨b,off,min 16 l.length,?_,fun j u hu=>?_⟩
  ·unfold cutV;simp only[Nat.zero_mul,Nat.sub_zero,Option.map_some]
   congr 1
   split<;>rfl
  ·refine h1 j u ?_;have e:cellsOf maC (l.take 16)=(cellsOf maC l).take (16*10):=(JC j4 16 l).symm;rw[e]at hu;rw[List.getElem?_take]at hu
   split at hu
   ·exact hu
   ·cases hu
theorem jBt (m:Ma) (now life:Int) (w:World):Calls Tryz.prog 206 #[.agg ⟨maC m⟩,.int .i64 now,.int .i64 life] w fun e w'=>e= .returned (.bool (bold now life m))/\Below w.heap.size w w':=by
 have t1:=zY now;have t2:=zY m.si;have t3:=zY life;refine zE Tryz.func206 I [(0,.agg ⟨maC m⟩),(1,.int .i64 now),(2,.int .i64 life)] (zh ?_);intro (bk:Nat);refine zh ?_;refine qO [(0,true),(2,true),(3,true),(6,true),(1,false),(4,false),(5,true),(7,false),(8,true),(9,true)] [0] I I j3 (by kernel_rfl) ?_
 repeat' (first|refine zd ?_|refine Qb [0] I I jRd I I I (fun w _=>jH0 _ w) ?_|fail)
 refine HD.nil (HR.ret Tryz.func206 I [_] (fun _ _=>⟨I,trivial⟩) ?_)
 exact fun w' hw=>⟨rfl,hw.jF⟩
theorem jM8 (m:Ma) (w:World):Calls Tryz.prog 268 #[.agg ⟨maC m⟩] w fun e w'=>e= .returned (.bool (bdr m))/\Below w.heap.size w w':=by
 refine zE Tryz.func268 I [(0,.agg ⟨maC m⟩)] (zh ?_);intro (bk:Nat);refine zh ?_;exact zR Tryz.func268
theorem jLf {q:List Ma} {f:Fr} {now:Int} (h:f.ur=false):jB1 q f now=if (q.take 16).length=16 then (q.take 16,false)else (q.take 16++[⟨f,tick now⟩],true):=by unfold jB1 jHJ;rw[if_pos (show bur ⟨f,tick now⟩=false from h)]
def jHA (T:List Ma) (x:Ma):List Ma×Bool:=if T.length=16 then (match lastIdx bdr T with
  |none=>(T,false)
  |some i=>(ins bur (T.eraseIdx i) x,true))else (ins bur T x,true)
theorem jJK {q:List Ma} {f:Fr} {now:Int} (h:f.ur=true):jB1 q f now=jHA (q.take 16) ⟨f,tick now⟩:=by unfold jB1 jHJ;rw[if_neg (show ¬bur ⟨f,tick now⟩=false by rw[show bur ⟨f,tick now⟩=f.ur from rfl,h];decide)];rfl
theorem jLh {T:List Ma} {x:Ma} (h:T.length<=15):jHA T x=(ins bur T x,true):=if_neg (by omega)
theorem jLi {T:List Ma} {x:Ma} (h:T.length=16) (h2:∀a∈T,bdr a=false):jHA T x=(T,false):=by unfold jHA;rw[if_pos h,Z4 h2]
theorem jLg {T:List Ma} {x:Ma} {i:Nat} {a:Ma} (h:T.length=16) (ha:T[i]? =some a) (hp:bdr a=true) (hj:∀j b,i<j->T[j]? =some b->bdr b=false):jHA T x=(ins bur (T.eraseIdx i) x,true):=by unfold jHA;rw[if_pos h,jAC ha hp hj]
theorem jQb (l:List Ma) (f:Fr) (now:Int) (v:Value) (w:World) (hv:Sl w v (cellsOf maC l) l.length) (hl:l.length<=1000):
  Calls Tryz.prog 213 #[v,.agg ⟨frC f⟩,.int .i64 now] w fun e w'=>∃v',e= .returned (.tuple ⟨[v',.bool (jB1 l f now).2]⟩)/\True/\Sat (base w) [jM v' 166 10 (jB1 l f now).1.length (cellsOf maC (jB1 l f now).1)] w':=by
 have h16:(l.take 16).length<=16:=by simp;omega
 have hcl:∀T:List Ma,(cellsOf maC T).length=T.length*10:=jA j4;refine zE Tryz.func213 I [(0,v),(1,.agg ⟨frC f⟩),(2,.int .i64 now)] (zh ?_);intro (bk:Nat);refine zh ?_;refine HR.join (ι:=Nat) (fun _=>True) (fun b=>[(0,v),(4,.pointer (some ⟨bk,0,none⟩)),(8,.pointer (some ⟨b,0,none⟩))]) (fun b=>[jS b (maC ⟨f,tick now⟩) 166,jS bk (frC f) 75]) (fun b8 _=>?_) (fun hj=>?_)
 ·obtain ⟨x,hx⟩:∃x:Ma,x=⟨f,tick now⟩:=⟨_,rfl⟩;have hxu:x.f.ur=f.ur:=by rw[hx]
  rw[<- hx];refine zh ?_;refine qL (r:=fun v':Value=>v') (Q:=fun v'=>Sl w v' (cellsOf maC (l.take 16)) (l.take 16).length) (G:=fun _=>[]) jRf I I (fun w1 _=>jFE l v w w1 hv) ?_;intro vb hvb;refine qI jRo I I (fun w1 hw1=>jAk (l.take 16) vb w1 ((qA hvb).at hw1) (by omega)) ?_;intro v1;refine zh ?_;refine HR.cond I (fun h0=>?_) (fun h0=>?_)
  ·have h0:f.ur=false:=by have h0:(!f.ur)=true:=h0;simpa using h0
   rw[jLf h0,<- hx];obtain ⟨T,hT⟩:∃T,T=l.take 16:=⟨_,rfl⟩;rw[<- hT]at h16 ⊢;refine zh ?_;refine qD (Rd.own 0 I) I I I (zh ?_);refine HR.cond I (fun h2=>?_) (fun h2=>?_)
   ·have h2:T.length=16:=by have h2:((T.length:Int)==16)=true:=h2;simp at h2;omega
    rw[if_pos h2];refine zh ?_;refine HR.ret Tryz.func213 I [_,_] (fun _ _=>⟨I,I,trivial⟩) ?_
    exact fun w' hw=>⟨v1,rfl,trivial,hw.pick [0] I rfl⟩
   ·have h2:T.length<=15:=jPg h16 h2;rw[if_neg (by omega)];refine zh ?_;refine qH JB I I I I I (by decide) (by decide) ?_;intro va;refine qJ 1 I JB (Rd.own 0 I) I I I I (jH I) (by omega) (by omega) ?_;intro v2;refine zh ?_;refine HR.ret Tryz.func213 I [_,_] (fun _ _=>⟨I,I,trivial⟩) ?_;refine fun w' hw=>⟨v2,rfl,trivial,qC (by simp) ?_ w' (hw.pick [1] I rfl)⟩
    rw[jL];rfl
  have h0:f.ur=true:=by have h0:(!f.ur)=false:=h0;simpa using h0
  rw[jJK h0,<- hx];obtain ⟨T,hT⟩:∃T,T=l.take 16:=⟨_,rfl⟩;rw[<- hT]at h16 ⊢;refine zh ?_;refine qD (Rd.own 0 I) I I I (zh ?_);refine HR.join (ι:=Value×List Ma) (fun i=>i.2.length<=15/\jHA T x=(ins bur i.2 x,true)) (fun i=>[(8,.pointer (some ⟨b8,0,none⟩)),(9,i.1)]) (fun i=>[jM i.1 166 10 i.2.length (cellsOf maC i.2),jS b8 (maC x) 166]) (fun i=>?_) (fun hj=>?_)
  ·obtain ⟨u,L⟩:=i
   rintro ⟨hL,e⟩
   have hL:L.length<=15:=hL;have e:jHA T x=(ins bur L x,true):=e;rw[e];refine zh ?_;refine qB fn267 I I (fun w1 hw1=>jGm L bdr 268 [] u w1 fn268 (fun a _ w2 _=>jM8 a w2) ((Rd.own 0 rfl).at hw1) (by omega)) (zh ?_);refine HR.join (ι:=Nat) (fun i=>i<=L.length/\ins bur L x=L.take i++x::L.drop i) (fun i=>[(8,.pointer (some ⟨b8,0,none⟩)),(9,u),(11,.int .i64 (i:Int))]) (fun i=>[jM u 166 10 L.length (cellsOf maC L),jS b8 (maC x) 166]) (fun i=>?_) (fun hj2=>?_)
   ·rintro ⟨hi,hins⟩
    rw[hins];refine zh ?_;refine qH JB I I I I I (by decide) (by decide) ?_;intro va;refine yY fn269 I I (fun w hw=>jNW L x i u va _ w (hw.pick [0,1] I I) hi (by omega)) ?_;intro r;refine zh ?_;refine HR.ret Tryz.func213 I [_,_] (fun _ _=>⟨I,I,trivial⟩) ?_
    exact fun w' hw=>⟨r,rfl,trivial,hw.pick [0] I rfl⟩
   ·rcases JF bdr L with ⟨e1,_,e2⟩|⟨i,y,e1,_,hy,hpy,hno⟩
    ·rw [e1];refine Qj I (HR.region (zn ?_));refine qD (Rd.own 0 I) I I I (zn ?_);refine hj2 L.length _ _ ⟨Nat.le_refl _,jGi (Nat.le_refl _) (fun k a _ ha=>?_) (fun a ha=>?_)⟩ ⟨I,I,I,trivial⟩ Ent.refl
     ·have:=e2 a (List.mem_of_getElem? ha);unfold bdr at this;unfold bur;simpa using this
     ·have:=(List.getElem?_eq_some_iff.1 ha).1;omega
    ·rw [e1];refine QY I (HR.skip ?_);refine hj2 i _ _ ⟨Nat.le_of_lt (List.getElem?_eq_some_iff.1 hy).1,jGi (Nat.le_of_lt (List.getElem?_eq_some_iff.1 hy).1) (fun k a hk ha=>?_) (fun a ha=>?_)⟩ ⟨I,I,I,trivial⟩ Ent.refl
     ·have:=hno k a hk ha;unfold bdr at this;unfold bur;simpa using this
     ·rw [hy]at ha;cases ha;unfold bdr at hpy;unfold bur;simpa using hpy
  ·refine HR.cond I (fun h2=>?_) (fun h2=>?_)
   ·have h2:T.length=16:=by have h2:((T.length:Int)==16)=true:=h2;simp at h2;omega
    refine zh ?_;refine qD (Rd.own 0 I) I I I (zh ?_);refine HR.loop (ι:=Nat) (fun a=>a<=16/\∀j y,a<=j->T[j]? =some y->bdr y=false) (fun a=>[(8,.pointer (some ⟨b8,0,none⟩)),(9,v1),(10,.int .i64 ((a:Int)-1))]) (fun _=>[jM v1 166 10 T.length (cellsOf maC T),jS b8 (maC x) 166]) (fun a=>a) 16 ⟨Nat.le_refl _,fun j y hj hy=>by have:=(List.getElem?_eq_some_iff.1 hy).1;omega⟩ ⟨rfl,rfl,by show some (Value.int IntKind.i64 ((T.length:Int)-1))=_;rw[h2],trivial⟩ (Ent.pick [0,1] I I) ?_
    rintro a ⟨ha,hg⟩ ih
    repeat' (first|refine zh ?_|refine qE (Rd.own 0 I) JB (a-1) I I I (by omega) (by omega) ?_|refine qP 0 (Rd.own 0 I) (by rw[hcl];omega) I I I I I I I ?_|refine qP 7 (Rd.own 0 I) (by rw[hcl];omega) I I I I I I I ?_|refine qF (Rd.own 0 I) I I I I (jJ j4 (Jb (by omega) ma0) (i:=7) I) ?_|apply zb ?_ ?_|exact zc|(refine zi fun hb=>?_;try simp at hb)|fail)
    refine HR.cond I (fun h3=>?_) (fun h3=>?_)
    ·have h3:(decide ((a:Int)-1>=0)&&(T.getD (a-1) ma0).f.ur)=true:=h3;simp only[Bool.and_eq_true,decide_eq_true_eq]at h3;refine zh ?_;refine ih (a-1) _ _ ⟨by omega,fun j y hj hy=>?_⟩ (by omega) ⟨rfl,rfl,by show some (Value.int IntKind.i64 _)=some (Value.int IntKind.i64 _);congr 2;omega,trivial⟩ Ent.refl
     by_cases e:j=a-1
     ·subst e;rw[Jb (by omega) ma0]at hy;cases hy;unfold bdr;rw[h3.2];rfl
     ·exact hg j y (by omega) hy
    ·have h3:(decide ((a:Int)-1>=0)&&(T.getD (a-1) ma0).f.ur)=false:=h3;rcases Nat.eq_zero_or_pos a with ha0|ha0
     ·subst ha0;rw[jLi h2 fun y hy=>by
       obtain ⟨j,hj⟩:=List.getElem?_of_mem hy;exact hg j y (Nat.zero_le _) hj]
      refine zh ?_;refine HR.ret Tryz.func213 I [_,_] (fun _ _=>⟨I,I,trivial⟩) ?_
      exact fun w' hw=>⟨v1,rfl,trivial,hw.pick [0] I rfl⟩
     ·obtain ⟨m,rfl⟩:∃m,a=m+1:=⟨a-1,by omega⟩;rw[decide_eq_true (by omega),Bool.true_and,Nat.add_sub_cancel]at h3;have hml:m<T.length:=by omega
      have hd:bdr (T.getD m ma0)=true:=by unfold bdr;rw[h3];rfl
      have e:=jLg (x:=x) h2 (Jb hml ma0) hd (fun j b hj hb=>hg j b (by omega) hb);refine QC 10 (v':= .int .i64 (m:Int)) I (by congr 1;omega) ?_;refine zh ?_;refine Q6 fn266 I I (fun w hw=>jNr T m v1 _ w (hw.pick [0] I I) hml (by omega)) ?_;intro r;refine zn ?_;exact hj (r,T.eraseIdx m) _ _ ⟨by show (T.eraseIdx m).length<=15;rw[List.length_eraseIdx_of_lt hml];omega,e⟩ ⟨I,I,trivial⟩ Ent.refl
   ·have h2:T.length<=15:=jPg h16 h2;refine HR.skip ?_;exact hj (v1,T) _ _ ⟨h2,jLh h2⟩ ⟨I,I,trivial⟩ (Ent.pick [0,1] I I)
 ·refine QO [0] I I j3 ?_;refine za 0 ?_;refine za 1 ?_;refine HA.two 2 4 (by kernel_rfl) I I ?_ ?_
  ·refine qB jRd I I (fun w _=>jH0 now w) (qG [0] I I ?_);refine za 3 ?_;refine HA.one 4 (by kernel_rfl) I (HL.alloc I I ?_);intro b8;refine qG [1] I I (HA.one 5 (by kernel_rfl) I (zn ?_));refine qG [1] I I (HA.done (by kernel_rfl) ?_);exact hj b8 _ _ trivial ⟨I,I,I,trivial⟩ Ent.refl
  ·refine HL.alloc I I ?_;intro b8;refine qG [1] I I (HA.one 2 (by kernel_rfl) I ?_);refine qB jRd I I (fun w _=>jH0 now w) (qG [1] I I ?_);refine za 3 ?_;refine HA.one 5 (by kernel_rfl) I (zn ?_);refine qG [1] I I (HA.done (by kernel_rfl) ?_);exact hj b8 _ _ trivial ⟨I,I,I,trivial⟩ Ent.refl
theorem jA7 {α:Type} (p:α->Bool) {l:List α} {k:Nat} {x:α} (hx:l[k]? =some x):(l.take (k+1)).filter p=if p x=true then (l.take k).filter p++[x]else (l.take k).filter p:=by
 rw[jE hx,List.filter_append]
 split
 ·rename_i h;rw[List.filter_cons_of_pos h];rfl
 ·rename_i h;rw[List.filter_cons_of_neg h];simp
theorem jQc (l:List Ma) (now life:Int) (v:Value) (w:World) (hv:Sl w v (cellsOf maC l) l.length) (hl:l.length<=1000):
  Calls Tryz.prog 151 #[v,.int .i64 now,.int .i64 life] w fun e w'=>∃v',e= .returned v'/\Sat (base w) [jM v' 166 10 (jAn l now life).length (cellsOf maC (jAn l now life))] w':=by
 have h16:(l.take 16).length<=16:=by simp;omega
 unfold jAn;refine zE Tryz.func151 I [(0,v),(1,.int .i64 now),(2,.int .i64 life)] (zh ?_);refine qL (r:=fun v':Value=>v') (Q:=fun v'=>Sl w v' (cellsOf maC (l.take 16)) (l.take 16).length) (G:=fun _=>[]) jRf I I (fun w1 _=>jFE l v w w1 hv) ?_;intro vb hvb;obtain ⟨T,hT⟩:∃T,T=l.take 16:=⟨_,rfl⟩;rw[<- hT]at h16 hvb ⊢;refine qD (qA hvb) I I I (zh ?_);refine HR.J6 166 10 (qd (α:=Nat) (β:=Value) (fun k o=>k<=T.length) (fun k o=>[(1,.int .i64 now),(2,.int .i64 life),(7,o),(11,vb),(12,.int .i64 (T.length:Int)),(13,.int .i64 (k:Int))]) (fun k o=>[jM o 166 10 ((T.take k).filter fun m=>!bold now life m).length (cellsOf maC ((T.take k).filter fun m=>!bold now life m))]) (fun k _=>T.length-k) 0 (.slice none 0 0) (Nat.zero_le _) ⟨I,I,I,I,I,I,trivial⟩ (Ent.pick [0] I I) ?_)
 rintro k o hk ih
 have hfl:((T.take k).filter fun m=>!bold now life m).length<=16:=Nat.le_trans (List.length_filter_le _ _) (by simp;omega);refine zh ?_;refine HR.cond I (fun h2=>?_) (fun h2=>?_)
 ·have hlt:k<T.length:=by have:=of_decide_eq_true h2;omega
  obtain ⟨x,hx⟩:=jG hlt;have hft:=jA7 (fun m=>!bold now life m) hx
  repeat' (first|refine zh ?_|refine qE (qA hvb) JB k I I I I hlt ?_|refine qN (qA hvb) I I I I (by simp) I (jD j4 hx) ?_|refine qB jS4 I I (fun w _=>jBt x now life w) ?_|intro (bk:Nat))
  refine HR.cond I (fun h3=>?_) (fun h3=>?_)
  ·have h3:(!bold now life x)=true:=h3;rw[if_pos h3]at hft;refine zh ?_;refine qH JB I I I I I (by decide) (by decide) ?_;intro va;refine qJ 2 I JB (Rd.own 0 I) I I I I (jH I) (by omega) (by omega) ?_;intro o2;refine zh ?_;refine ih (k+1) o2 _ _ hlt (by omega) ⟨I,I,I,I,I,I,trivial⟩ (Ent.trans (Ent.pick [2] I I) (qC ?_ ?_))
   ·rw [hft];simp
   ·rw [hft,jL];rfl
  ·have h3:(!bold now life x)=false:=h3;rw[if_neg (by rw[h3];decide)]at hft;refine zh ?_;refine ih (k+1) o _ _ hlt (by omega) ⟨I,I,I,I,I,I,trivial⟩ (Ent.trans (Ent.pick [1] I I) (qC ?_ ?_))
   ·rw [hft]
   ·rw [hft]
 ·have hke:k=T.length:=by have:=of_decide_eq_false h2;omega
  subst hke;rw[List.take_length];refine zh ?_;refine HR.ret Tryz.func151 I [_] (fun _ _=>⟨I,trivial⟩) ?_
  exact fun w' hw=>⟨o,rfl,hw⟩
theorem jEg (to now life:Int):∀(l:List Ma) (s:Fr×List Ma×Bool),(l.foldl (J8 to now life) s).2.1.length<=s.2.1.length+l.length
 |[],s=>by simp
 |m::l,s=>by
  have h1:(J8 to now life s m).2.1.length<=s.2.1.length+1:=by
   unfold J8;split
   ·omega
   ·split<;>simp
  have:=jEg to now life l (J8 to now life s m);simp only[List.foldl_cons,List.length_cons];omega
theorem jG9 (l:List Ma) (to now life:Int) (v:Value) (w:World) (hv:Sl w v (cellsOf maC l) l.length) (hl:l.length<=1000):
  Calls Tryz.prog 221 #[v,.int .i64 to,.int .i64 now,.int .i64 life] w fun e w'=>∃v',e= .returned (.tuple ⟨[.agg ⟨frC (Js l to now life).1⟩,v',.bool (Js l to now life).2.2]⟩)/\True/\Sat (base w) [jM v' 166 10 (Js l to now life).2.1.length (cellsOf maC (Js l to now life).2.1)] w':=by
 have h16:(l.take 16).length<=16:=by simp;omega
 unfold Js;refine zE Tryz.func221 I [(0,v),(1,.int .i64 to),(2,.int .i64 now),(3,.int .i64 life)] ?_;refine HR.ctl I (HR.region ?_);refine HL.alloc I I ?_;intro b8;refine zh ?_;intro (bk:Nat);refine zh ?_;refine qL (r:=fun v':Value=>v') (Q:=fun v'=>Sl w v' (cellsOf maC (l.take 16)) (l.take 16).length) (G:=fun _=>[]) jRf I I (fun w1 _=>jFE l v w w1 hv) ?_;intro vb hvb;obtain ⟨T,hT⟩:∃T,T=l.take 16:=⟨_,rfl⟩;rw[<- hT]at h16 hvb ⊢;refine qD (qA hvb) I I I (zh ?_);refine HR.J6 166 10 ?_;obtain ⟨S,hS⟩:∃S:Nat->Fr×List Ma×Bool,S=fun k=>(T.take k).foldl (J8 to now life) (fr0,[],false):=⟨_,rfl⟩
 refine qd (α:=Nat) (β:=Value) (fun k o=>k<=T.length) (fun k o=>[(1,.int .i64 to),(2,.int .i64 now),(3,.int .i64 life),(8,.pointer (some ⟨b8,0,none⟩)),(11,o),(12,.pointer (some ⟨bk,0,none⟩)),(13,.bool (S k).2.2),(17,vb),(18,.int .i64 (T.length:Int)),(19,.int .i64 (k:Int))]) (fun k o=>[jM o 166 10 (S k).2.1.length (cellsOf maC (S k).2.1),jS bk (frC (S k).1) 75,jS b8 (frC fr0) 75]) (fun k _=>T.length-k) 0 (.slice none 0 0) (Nat.zero_le _) ⟨rfl,rfl,rfl,rfl,rfl,rfl,by rw[hS];rfl,rfl,rfl,rfl,trivial⟩ (by rw[hS];exact Ent.pick [0,1,2] I I) ?_
 rintro k o hk ih
 have hSl:(S k).2.1.length<=16:=by
  rw[hS];have:=jEg to now life (T.take k) (fr0,[],false)
  simp at this ⊢;omega
 refine zh ?_;refine HR.cond I (fun h2=>?_) (fun h2=>?_)
 ·have hlt:k<T.length:=by have:=of_decide_eq_true h2;omega
  obtain ⟨x,hx⟩:=jG hlt;have hst:S (k+1)=J8 to now life (S k) x:=by rw[hS];exact Kt _ _ hx
  repeat' (first|refine zh ?_|refine qE (qA hvb) JB k I I I I hlt ?_|refine qN (qA hvb) I I I I (by simp) I (jD j4 hx) ?_|refine qB jS4 I I (fun w _=>jBt x now life w) ?_|intro (bk:Nat))
  refine HR.cond I (fun h3=>?_) (fun h3=>?_)
  ·have h3:bold now life x=true:=h3;have hst:S (k+1)=S k:=by rw[hst];unfold J8;rw[if_pos h3]
   refine zh ?_;refine ih (k+1) o _ _ hlt (by omega) ⟨rfl,rfl,rfl,rfl,rfl,rfl,by rw[hst];rfl,rfl,rfl,rfl,trivial⟩ ?_;rw[hst];exact Ent.pick [1,2,3] I I
  have h3:¬bold now life x=true:=by have h3:bold now life x=false:=h3;rw[h3];decide
  repeat' (first|refine zh ?_|apply zb ?_ ?_|exact zc|(refine zi fun hb=>?_;try simp at hb)|fail)
  refine HR.cond I (fun h4=>?_) (fun h4=>?_)
  ·have h4:(!(S k).2.2&&(x.f.dst==to))=true:=h4;have hst:S (k+1)=(x.f,(S k).2.1,true):=by rw[hst];unfold J8;rw[if_neg h3,if_pos h4]
   refine zh ?_;refine ih (k+1) o _ _ hlt (by omega) ⟨rfl,rfl,rfl,rfl,rfl,rfl,by rw[hst];rfl,rfl,rfl,rfl,trivial⟩ ?_;rw[hst];exact Ent.pick [1,2,3] I I
  ·have h4:(!(S k).2.2&&(x.f.dst==to))=false:=h4;have hst:S (k+1)=((S k).1,(S k).2.1++[x],(S k).2.2):=by rw[hst];unfold J8;rw[if_neg h3,if_neg (by rw[h4];decide)]
   refine zh ?_;refine qH JB I I I I I (by decide) (by decide) ?_;intro va;refine qJ 2 I JB (Rd.own 0 I) I I I I (jH I) (by omega) (by omega) ?_;intro o2;refine zh ?_;refine ih (k+1) o2 _ _ hlt (by omega) ⟨rfl,rfl,rfl,rfl,rfl,rfl,by rw[hst];rfl,rfl,rfl,rfl,trivial⟩ ?_;rw[hst];refine Ent.trans (Ent.pick [2,3,4] I I) (qC (by simp) ?_);rw[jL];rfl
 ·have hke:k=T.length:=by have:=of_decide_eq_false h2;omega
  subst hke;have hfin:T.foldl (J8 to now life) (fr0,[],false)=S T.length:=by rw[hS];simp
  rw[hfin];refine zh ?_;refine HR.ret Tryz.func221 I [_,_,_] (fun w hw=>⟨⟨_,rfl,jQ hw 2 I I I I rfl⟩,rfl,rfl,trivial⟩) ?_
  exact fun w' hw=>⟨o,rfl,trivial,hw.pick [0] I rfl⟩
theorem jTB:IsFn Tryz.prog 176:=zF Tryz.func176 I
theorem jSr:IsFn Tryz.prog 234:=zF Tryz.func234 I
theorem fn180:IsFn Tryz.prog 180:=zF Tryz.func180 I
theorem fn97:IsFn Tryz.prog 97:=zF Tryz.func97 I
theorem fn241:IsFn Tryz.prog 241:=zF Tryz.func241 I
theorem jBo (l:List Ma) (v:Value) (w:World) (hv:Sl w v (cellsOf maC l) l.length) (hl:l.length<=1000):
  Calls Tryz.prog 176 #[v] w fun e w'=>∃v',e= .returned v'/\Sat (base w) [jM v' 166 10 (l.take 16).length (cellsOf maC (l.take 16))] w':=by
 refine zE Tryz.func176 I [(0,v)] (zh ?_);refine HR.J6 166 10 (qd (α:=Nat) (β:=Value) (fun k o=>k<=l.length/\k<=16) (fun k o=>[(0,v),(3,o),(4,.int .i64 (k:Int))]) (fun k o=>[jM o 166 10 (l.take k).length (cellsOf maC (l.take k))]) (fun k _=>l.length-k) 0 (.slice none 0 0) ⟨Nat.zero_le _,by omega⟩ ⟨I,I,I,trivial⟩ Ent.refl ?_)
 rintro k o ⟨hk,hk16⟩ ih
 have htl:(l.take k).length=k:=by simp;omega
 repeat' (first|refine zh ?_|refine qD (qA hv) I I I ?_|apply zb ?_ ?_|exact zc|(refine zi fun hb=>?_;try simp at hb)|fail)
 refine HR.cond I (fun h2=>?_) (fun h2=>?_)
 ·have h2:(decide ((k:Int)<l.length)&&decide ((k:Int)<16))=true:=h2;simp only[Bool.and_eq_true,decide_eq_true_eq]at h2;have hlt:k<l.length:=by omega
  obtain ⟨x,hx⟩:=jG hlt;refine zh ?_;refine qE (qA hv) JB k I I I I hlt ?_;refine qN (qA hv) I I I I (by simp) I (jD j4 hx) ?_;refine qH JB I I I I I (by decide) (by decide) ?_;intro va;refine qJ 1 I JB (Rd.own 0 I) I I I I (jH I) (by omega) (by omega) ?_;intro o2;refine zh ?_;refine ih (k+1) o2 _ _ ⟨hlt,by omega⟩ (by omega) ⟨I,I,I,trivial⟩ (Ent.trans (Ent.pick [1] I I) (qC ?_ ?_))
  ·rw [jE hx];simp
  ·rw [jE hx,jL];rfl
 ·have h2:(decide ((k:Int)<l.length)&&decide ((k:Int)<16))=false:=h2;have e:l.take k=l.take 16:=by
   by_cases h3:k<l.length
   ·rw [decide_eq_true (show (k:Int)<l.length by omega),Bool.true_and,decide_eq_false_iff_not]at h2;rw[show k=16 by omega]
   ·rw [List.take_of_length_le (by omega),List.take_of_length_le (by omega)]
  rw[e];refine zh ?_;refine HR.ret Tryz.func176 I [_] (fun _ _=>⟨I,trivial⟩) ?_
  exact fun w' hw=>⟨o,rfl,hw⟩
theorem jAa (l:List Ma) (i:Nat) (v:Value) (w:World) (hv:Sl w v (cellsOf maC l) l.length) (hl:l.length<=1000) (hi:i<l.length):
  Calls Tryz.prog 234 #[v,.int .i64 (i:Int)] w fun e w'=>∃v',e= .returned v'/\Sat (base w) [jM v' 166 10 (l.eraseIdx i).length (cellsOf maC (l.eraseIdx i))] w':=by
 have hstep:∀ {k:Nat} {x:Ma},l[k]? =some x->(l.take (k+1)).eraseIdx i=if k=i then (l.take k).eraseIdx i else (l.take k).eraseIdx i++[x]:=by
  intro k x hx;have hkl:=(List.getElem?_eq_some_iff.1 hx).1;have htl:(l.take k).length=k:=by simp;omega
  rw[jE hx]
  split
  ·rename_i h
   subst h;rw[List.eraseIdx_append_of_length_le (by omega),htl,Nat.sub_self,List.eraseIdx_of_length_le (l:=l.take k) (by omega)];simp
  ·rename_i h
   by_cases h3:i<k
   ·rw [List.eraseIdx_append_of_lt_length (by omega)]
   ·rw [List.eraseIdx_append_of_length_le (by omega),htl,List.eraseIdx_of_length_le (l:=[x]) (by simp;omega),List.eraseIdx_of_length_le (l:=l.take k) (by omega)]
 refine zE Tryz.func234 I [(0,v),(1,.int .i64 (i:Int))] (zh ?_);refine HR.J6 166 10 (qd (α:=Nat) (β:=Value) (fun k o=>k<=l.length) (fun k o=>[(0,v),(1,.int .i64 (i:Int)),(5,o),(6,.int .i64 (k:Int))]) (fun k o=>[jM o 166 10 ((l.take k).eraseIdx i).length (cellsOf maC ((l.take k).eraseIdx i))]) (fun k _=>l.length-k) 0 (.slice none 0 0) (Nat.zero_le _) ⟨I,I,I,I,trivial⟩ (by rw[List.take_zero,List.eraseIdx_nil];exact Ent.refl) ?_)
 rintro k o hk ih
 have htl:((l.take k).eraseIdx i).length<=k:=Nat.le_trans (List.length_eraseIdx_le _ _) (by simp;omega);refine zh ?_;refine qD (qA hv) I I I (zh ?_);refine HR.cond I (fun h2=>?_) (fun h2=>?_)
 ·have hlt:k<l.length:=by have:=of_decide_eq_true h2;omega
  obtain ⟨x,hx⟩:=jG hlt;have hst:=hstep hx;refine zh ?_;refine HR.cond I (fun h3=>?_) (fun h3=>?_)
  ·have h3:¬k=i:=by have h3:((k:Int) != (i:Int))=true:=h3;simp at h3;omega
   rw[if_neg h3]at hst;refine zh ?_;refine qE (qA hv) JB k I I I I hlt ?_;refine qN (qA hv) I I I I (by simp) I (jD j4 hx) ?_;refine qH JB I I I I I (by decide) (by decide) ?_;intro va;refine qJ 1 I JB (Rd.own 0 I) I I I I (jH I) (by omega) (by omega) ?_;intro o2;refine zh ?_;refine ih (k+1) o2 _ _ hlt (by omega) ⟨I,I,I,I,trivial⟩ (Ent.trans (Ent.pick [1] I I) (qC ?_ ?_))
   ·rw [hst];simp
   ·rw [hst,jL];rfl
  ·have h3:k=i:=by have h3:((k:Int) != (i:Int))=false:=h3;simp at h3;omega
   rw[if_pos h3]at hst;refine zh ?_;exact ih (k+1) o _ _ hlt (by omega) ⟨I,I,I,I,trivial⟩ (qC (by rw[hst]) (by rw[hst]))
 ·have hke:k=l.length:=by have:=of_decide_eq_false h2;omega
  subst hke;rw[List.take_length];refine zh ?_;refine HR.ret Tryz.func234 I [_] (fun _ _=>⟨I,trivial⟩) ?_
  exact fun w' hw=>⟨o,rfl,hw⟩
section
variable {α : Type}
def lidx (p:α->Bool) (l:List α):Int:=match lastIdx p l with
 |some i=>(i:Int)
 |none=>-1
theorem jJ8 (p:α->Bool) (l:List α):lidx p (l.take 0)= -1:=by rw[List.take_zero];rfl
theorem jGf {p:α->Bool} {l:List α} {k:Nat} {x:α} (hx:l[k]? =some x):lidx p (l.take (k+1))=if p x=true then (k:Int)else lidx p (l.take k):=by
 have hk:=(List.getElem?_eq_some_iff.1 hx).1;have hg:∀j,j<k+1->(l.take (k+1))[j]? =l[j]? :=fun j hj=>by rw[List.getElem?_take_of_lt hj]
 have hg':∀j b,(l.take (k+1))[j]? =some b->j<k+1/\l[j]? =some b:=fun j b h=>by
  rw[List.getElem?_take]at h
  split at h
  ·exact ⟨by assumption,h⟩
  ·cases h
 split
 ·rename_i hp
  unfold lidx;rw[jAC (i:=k) (a:=x) (by rw[hg k (by omega)];exact hx) hp (fun j b hj hb=>by have:=(hg' j b hb).1;omega)]
 ·rename_i hp
  have hp:p x=false:=by simpa using hp
  unfold lidx;cases h:lastIdx p (l.take k)with
  |none=>
   have:=lastIdx_none h;rw[Z4];intro a ha;rw[jE hx]at ha;rcases List.mem_append.1 ha with ha|ha
   ·exact this a ha
   ·rw [List.mem_singleton]at ha;subst ha;exact hp
  |some i=>
   obtain ⟨a,h1,h2,h3⟩:=zG h;have hik:i<k:=by have:=(List.getElem?_eq_some_iff.1 h1).1;simp at this;omega
   rw[List.getElem?_take_of_lt hik]at h1;rw[jAC (i:=i) (a:=a) (by rw[hg i (by omega)];exact h1) h2];intro j b hj hb;obtain ⟨g1,g2⟩:=hg' j b hb
   by_cases e:j=k
   ·subst e;rw[hx]at g2;cases g2;exact hp
   ·exact h3 j b hj (by rw[List.getElem?_take_of_lt (by omega)];exact g2)
theorem jC7 (p:α->Bool) (l:List α):-1<=lidx p l/\lidx p l<(l.length:Int):=by
 unfold lidx;cases h:lastIdx p l with
 |none=>simp;omega
 |some i=>
  obtain ⟨a,h1,_⟩:=zG h;have:=(List.getElem?_eq_some_iff.1 h1).1
  simp;omega
theorem jGD {dr ur:α->Bool} {q:List α} {x:α} (h:(q.take 16).length=16) (h2:ur x=false\/lidx dr (q.take 16)<0):jHJ dr ur q x=(q.take 16,false):=by
 unfold jHJ;cases hu:ur x
 ·rw [if_pos rfl,if_pos h]
 ·rw [if_neg (show ¬true=false by decide),if_pos h];rcases h2 with h2|h2
  ·rw [hu]at h2;cases h2
  ·unfold lidx at h2;cases hl:lastIdx dr (q.take 16)with
   |none=>rfl
   |some i=>rw[hl]at h2;simp only at h2;omega
def room (dr:α->Bool) (T:List α):List α:=if T.length=16 then T.eraseIdx (lidx dr T).toNat else T
theorem jMc {dr ur:α->Bool} {q:List α} {x:α} (h:¬((q.take 16).length=16/\(ur x=false\/lidx dr (q.take 16)<0))):jHJ dr ur q x=(if ur x=false then room dr (q.take 16)++[x]else ins ur (room dr (q.take 16)) x,true):=by
 unfold jHJ room;cases hu:ur x
 ·rw [hu]at h;rw[if_pos rfl,if_pos rfl,if_neg (fun e=>h ⟨e,.inl rfl⟩),if_neg (fun e=>h ⟨e,.inl rfl⟩)]
 ·rw [if_neg (show ¬true=false by decide),if_neg (show ¬true=false by decide)]
  by_cases hl:(q.take 16).length=16
  ·rw [if_pos hl,if_pos hl];have h2:¬lidx dr (q.take 16)<0:=fun e=>h ⟨hl,.inr e⟩
   unfold lidx at h2 ⊢;cases hi:lastIdx dr (q.take 16)with
   |none=>rw[hi]at h2;exact absurd (by decide) h2
   |some i=>simp
  ·rw [if_neg hl,if_neg hl]
theorem jJf {dr:α->Bool} {T:List α} (h:T.length<=16) (h2:¬(T.length=16/\lidx dr T<0)):(room dr T).length<=15:=by
 unfold room
 split
 ·rename_i h3
  have:=jC7 dr T;rw[List.length_eraseIdx_of_lt (by omega)];omega
 ·omega
end
theorem jKr (l:List Sn) (f:Fr) (v:Value) (w:World) (hv:Sl w v (cellsOf snC l) l.length) (hl:l.length<=1000):
  Calls Tryz.prog 182 #[v,.agg ⟨frC f⟩] w fun e w'=>∃v',e= .returned (.tuple ⟨[v',.bool (jDf l f).2]⟩)/\True/\Sat (base w) [jM v' 131 11 (jDf l f).1.length (cellsOf snC (jDf l f).1)] w':=by
 have h16:(l.take 16).length<=16:=by simp;omega
 have hcl:∀T:List Sn,(cellsOf snC T).length=T.length*11:=jA jU;have hspec:(jDf l f)=jHJ sdr sur l ⟨f,0,0⟩:=rfl;rw[hspec];have hux:sur ⟨f,0,0⟩=f.ur:=rfl;obtain ⟨x,hx⟩:∃x:Sn,x=⟨f,0,0⟩:=⟨_,rfl⟩;rw[<- hx]at hux ⊢;refine zE Tryz.func182 I [(0,v),(1,.agg ⟨frC f⟩)] (zh ?_);intro (bk:Nat);refine zh ?_;refine qI jRg I I (fun w hw=>Ka l v w ((qA hv).at hw) hl) ?_;intro v1;obtain ⟨T,hT⟩:∃T,T=l.take 16:=⟨_,rfl⟩;have hfull:=jGD (dr:=sdr) (ur:=sur) (q:=l) (x:=x);have hgo:=jMc (dr:=sdr) (ur:=sur) (q:=l) (x:=x);rw[<- hT]at h16 hfull hgo ⊢;refine zh ?_;refine HR.loop (ι:=Nat) (fun k=>k<=T.length) (fun k=>[(0,v),(3,.pointer (some ⟨bk,0,none⟩)),(6,v1),(7,.int .i64 (lidx sdr (T.take k))),(8,.int .i64 (k:Int))]) (fun _=>[jM v1 131 11 T.length (cellsOf snC T),jS bk (frC f) 75]) (fun k=>T.length-k) 0 (Nat.zero_le _) ⟨rfl,rfl,rfl,by rw[jJ8];rfl,rfl,trivial⟩ (Ent.pick [0,1] I I) ?_;intro k hk ih;refine zh ?_;refine qD (Rd.own 0 I) I I I (zh ?_);refine HR.cond I (fun h2=>?_) (fun h2=>?_)
 ·have hlt:k<T.length:=by have:=of_decide_eq_true h2;omega
  obtain ⟨y,hy⟩:=jG hlt;have hst:=jGf (p:=sdr) hy;have hln:(T.take k).length<=16:=by simp;omega
  have hlx:=jC7 sdr (T.take k)
  repeat' (first|refine zh ?_|refine qE (Rd.own 0 I) jy k I I I I hlt ?_|refine qP 0 (Rd.own 0 I) (by rw[hcl];omega) I I I I I I I ?_|refine qP 7 (Rd.own 0 I) (by rw[hcl];omega) I I I I I I I ?_|refine qP 9 (Rd.own 0 I) (by rw[hcl];omega) I I I I I I I ?_|refine qF (Rd.own 0 I) I I I I (jJ jU hy (i:=7) I) ?_|refine qF (Rd.own 0 I) I I I I (jJ jU hy (i:=9) I) ?_|apply zb ?_ ?_|exact zc|(refine zi fun hb=>?_;try simp at hb)|fail)
  refine HR.cond I (fun h3=>?_) (fun h3=>?_)
  ·have h3:sdr y=true:=h3;rw[if_pos h3]at hst;refine zh ?_;exact ih (k+1) _ _ hlt (by omega) ⟨rfl,rfl,rfl,by rw[hst];rfl,rfl,trivial⟩ Ent.refl
  ·have h3:sdr y=false:=h3;rw[if_neg (by rw[h3];decide)]at hst;refine zh ?_;exact ih (k+1) _ _ hlt (by omega) ⟨rfl,rfl,rfl,by rw[hst];rfl,rfl,trivial⟩ Ent.refl
 have hke:k=T.length:=by have:=of_decide_eq_false h2;omega
 subst hke;rw[List.take_length];have hlx:=jC7 sdr T;obtain ⟨M,hM⟩:∃M,M=lidx sdr T:=⟨_,rfl⟩;rw[<- hM]at hlx hfull ⊢
 repeat' (first|refine zh ?_|refine qD (Rd.own 0 I) I I I ?_|apply zb ?_ ?_|exact zc|(refine zi fun hb=>?_;try simp at hb)|fail)
 refine HR.cond I (fun h3=>?_) (fun h3=>?_)
 ·have h3:(((T.length:Int)==16)&&(!f.ur||decide (M<0)))=true:=h3;simp only[Bool.and_eq_true,Bool.or_eq_true,Bool.not_eq_true',decide_eq_true_eq,beq_iff_eq]at h3;rw[hfull (by omega) (by rw[hux];exact h3.2)];refine zh ?_;refine HR.ret Tryz.func182 I [_,_] (fun _ _=>⟨I,I,trivial⟩) ?_
  exact fun w' hw=>⟨v1,rfl,trivial,hw.pick [0] I rfl⟩
 have h3:(((T.length:Int)==16)&&(!f.ur||decide (M<0)))=false:=h3;have h3:¬(T.length=16/\(f.ur=false\/M<0)):=by
  rintro ⟨e1,e2⟩
  rw[show ((T.length:Int)==16)=true by simp;omega,Bool.true_and,Bool.or_eq_false_iff]at h3;rcases e2 with e2|e2
  ·rw [e2]at h3;exact absurd h3.1 (by decide)
  ·have:=of_decide_eq_false h3.2;omega
 have hR:=jJf (dr:=sdr) h16 (by rw[<- hM];exact fun e=>h3 ⟨e.1,.inr e.2⟩);rw[hgo (by rw[hux,<- hM];exact h3),hux];have hroom:room sdr T=if T.length=16 then T.eraseIdx M.toNat else T:=by rw[hM];rfl
 obtain ⟨L,hL⟩:∃L,L=room sdr T:=⟨_,rfl⟩;rw[<- hL]at hR hroom ⊢;refine zh ?_;refine qD (Rd.own 0 I) I I I (zh ?_);refine HR.join (ι:=Value) (fun _=>True) (fun u=>[(3,.pointer (some ⟨bk,0,none⟩)),(6,u)]) (fun u=>[jM u 131 11 L.length (cellsOf snC L),jS bk (frC f) 75]) (fun u _=>?_) (fun hj=>?_)
 ·repeat' (first|refine zh ?_|refine qD (Rd.own 0 I) I I I ?_|fail)
  refine yN (ι:=Nat) (fun a=>a<=L.length/\(if f.ur=false then L++[x]else ins sur L x)=L.take a++x::L.drop a) (fun a=>[(3,.pointer (some ⟨bk,0,none⟩)),(6,u),(9,.int .i64 (a:Int))]) (fun _=>[jM u 131 11 L.length (cellsOf snC L),jS bk (frC f) 75]) (fun a=>?_) (fun hj2=>?_)
  ·rintro ⟨ha,e⟩
   rw[e];have hcat:cellsOf snC (L.take a++x::L.drop a)=(([]++cellsOf snC (L.take a))++snC x)++cellsOf snC (L.drop a):=by rw[jL,List.nil_append,List.append_assoc];rfl
   have hR1:=Qq (B:=base w) (H:=[jM u 131 11 L.length (cellsOf snC L),jS bk (frC f) 75]) jU (l:=L) (Rd.own 0 I) ha;refine zh ?_;refine qh jy I ?_;intro va;have hR1:=Qq (B:=base w) (H:=[jM va 131 11 0 [],jM u 131 11 L.length (cellsOf snC L),jS bk (frC f) 75]) jU (l:=L) (Rd.own 1 I) ha;refine zh ?_;refine qX (sz:=11) 0 a (Rd.own 1 I) I I I I (.inl ⟨rfl,rfl⟩) (.inr ⟨_,_,_,rfl,rfl,rfl⟩) (Nat.zero_le _) ha ?_;refine qJ 0 I jy hR1 I I I (hcl _) (jR KS _) (by simp;omega) (by simp;omega) ?_;intro vo;refine zh ?_;refine qH jy I I I I I (by decide) (by decide) ?_;intro va2;refine qM (H':=[jM va2 131 11 1 (snC x),jM vo 131 11 (0+(L.take a).length) ([]++cellsOf snC (L.take a)),jM u 131 11 L.length (cellsOf snC L),jS bk (frC f) 75]) (qC I (by rw[hx];rfl)) ?_;refine qJ (news:=snC x) 1 I jy (Rd.own 0 I) I I I I (jH I) (by simp;omega) (by simp;omega) ?_;intro vo2;have hR2:=yK (B:=base w) (H:=[jM va2 131 11 1 (snC x),jM vo2 131 11 (0+(L.take a).length+1) (([]++cellsOf snC (L.take a))++snC x),jM u 131 11 L.length (cellsOf snC L),jS bk (frC f) 75]) jU (l:=L) (Rd.own 2 I) ha;refine zh ?_;refine qX (sz:=11) a L.length (Rd.own 2 I) I I I I (.inr ⟨_,_,_,rfl,rfl,rfl⟩) (.inl ⟨rfl,rfl⟩) ha (Nat.le_refl _) ?_;refine qJ 1 I jy hR2 I I I (hcl _) (jR KS _) (by simp;omega) (by simp;omega) ?_;intro v5;refine zh ?_;refine HR.ret Tryz.func182 I [_,_] (fun _ _=>⟨I,I,trivial⟩) ?_;refine fun w' hw=>⟨v5,rfl,trivial,qC ?_ ?_ w' (hw.pick [1] I rfl)⟩
   ·simp;omega
   ·exact hcat.symm
  ·refine qd (α:=Nat) (β:=Nat) (fun b a=>b<=L.length/\b<=a/\a<=L.length/\(f.ur=false->a=L.length)/\(f.ur=true->(∀ j y,b<=j->j<a->L[j]? =some y->sur y=true)/\∀y,L[a]? =some y->sur y=false)) (fun b a=>[(3,.pointer (some ⟨bk,0,none⟩)),(6,u),(9,.int .i64 (a:Int)),(10,.int .i64 ((b:Int)-1))]) (fun _ _=>[jM u 131 11 L.length (cellsOf snC L),jS bk (frC f) 75]) (fun b _=>b) L.length L.length ⟨Nat.le_refl _,Nat.le_refl _,Nat.le_refl _,fun _=>rfl,fun _=>⟨fun j y h1 h2=>by omega,fun y hy=>by have:=(List.getElem?_eq_some_iff.1 hy).1;omega⟩⟩ ⟨I,I,I,I,trivial⟩ Ent.refl ?_
   rintro b a ⟨hb,hba,ha,hf0,hf1⟩ ih
   repeat' (first|refine zh ?_|apply zb ?_ ?_|exact zc|(refine zi fun hb=>?_;try simp at hb)|fail)
   refine HR.cond I (fun h4=>?_) (fun h4=>?_)
   ·have h4:(decide ((b:Int)-1>=0)&&f.ur)=true:=h4;simp only[Bool.and_eq_true,decide_eq_true_eq]at h4;obtain ⟨m,rfl⟩:∃m,b=m+1:=⟨b-1,by omega⟩;have hml:m<L.length:=by omega
    obtain ⟨y,hy⟩:=jG hml;obtain ⟨g1,g2⟩:=hf1 h4.2;refine zh ?_;refine qE (Rd.own 0 I) jy m I I I (by omega) hml ?_;refine qP 0 (Rd.own 0 I) (by rw[hcl];omega) I I I I I I I ?_;refine qP 7 (Rd.own 0 I) (by rw[hcl];omega) I I I I I I I ?_;refine qF (Rd.own 0 I) I I I I (jJ jU hy (i:=7) I) (zh ?_);refine HR.cond I (fun h5=>?_) (fun h5=>?_)
    ·have h5:y.f.ur=false:=by have h5:(!y.f.ur)=true:=h5;simpa using h5
     refine zh ?_;refine ih m m _ _ ⟨by omega,Nat.le_refl _,by omega,fun e=>(by rw[h4.2]at e;cases e),fun _=>⟨fun j y h1 h2=>by omega,fun y' hy'=>by rw[hy]at hy';cases hy';exact h5⟩⟩ (by omega) ⟨rfl,rfl,by show some (Value.int IntKind.i64 _)=some (Value.int IntKind.i64 _);congr 2;omega,by show some (Value.int IntKind.i64 _)=some (Value.int IntKind.i64 _);congr 2;omega,trivial⟩ Ent.refl
    ·have h5:y.f.ur=true:=by have h5:(!y.f.ur)=false:=h5;simpa using h5
     refine zh ?_;refine ih m a _ _ ⟨by omega,by omega,ha,hf0,fun _=>⟨fun j y' h1 h2 hy'=>?_,g2⟩⟩ (by omega) ⟨rfl,rfl,rfl,by show some (Value.int IntKind.i64 _)=some (Value.int IntKind.i64 _);congr 2;omega,trivial⟩ Ent.refl
     by_cases e:j=m
     ·subst e;rw[hy]at hy';cases hy';exact h5
     ·exact g1 j y' (by omega) h2 hy'
   ·have h4:(decide ((b:Int)-1>=0)&&f.ur)=false:=h4;have e:(if f.ur=false then L++[x]else ins sur L x)=L.take a++x::L.drop a:=by
     cases hu:f.ur
     ·rw [if_pos rfl,hf0 hu,List.take_length,List.drop_length]
     ·rw [if_neg (by decide)];rw[hu,Bool.and_true]at h4;have h4:=of_decide_eq_false h4;obtain ⟨g1,g2⟩:=hf1 hu;exact jGi ha (fun j y hj hy=>g1 j y (by omega) hj hy) g2
    refine HR.exit I ?_;exact hj2 a _ _ ⟨ha,e⟩ ⟨I,I,I,trivial⟩ Ent.refl
 ·refine HR.cond I (fun h4=>?_) (fun h4=>?_)
  ·have h4:T.length=16:=by have h4:((T.length:Int)==16)=true:=h4;simp at h4;omega
   have hM0:¬M<0:=fun e=>h3 ⟨h4,.inr e⟩
   obtain ⟨m,rfl⟩:∃m:Nat,M=m:=⟨M.toNat,by omega⟩;rw[if_pos h4,Int.toNat_natCast]at hroom;refine HR.region (zn ?_);refine qI jS8 I I (fun w hw=>jAZ T m v1 w ((Rd.own 0 rfl).at hw) (by omega) (by omega)) ?_;intro u;refine zn ?_;rw[<- hroom];exact hj u _ _ trivial ⟨I,I,trivial⟩ (Ent.pick [0,2] I I)
  ·have h4:¬T.length=16:=by intro e;have h4:((T.length:Int)==16)=false:=h4;rw[e]at h4;cases h4
   rw[if_neg h4]at hroom;subst hroom;refine HR.skip ?_;exact hj v1 _ _ trivial ⟨I,I,trivial⟩ (Ent.pick [0,1] I I)
theorem jKu (l:List Ma) (f:Fr) (now:Int) (v:Value) (w:World) (hv:Sl w v (cellsOf maC l) l.length) (hl:l.length<=1000):
  Calls Tryz.prog 180 #[v,.agg ⟨frC f⟩,.int .i64 now] w fun e w'=>∃v',e= .returned (.tuple ⟨[v',.bool (jB1 l f now).2]⟩)/\True/\Sat (base w) [jM v' 166 10 (jB1 l f now).1.length (cellsOf maC (jB1 l f now).1)] w':=by
 have h16:(l.take 16).length<=16:=by simp;omega
 have hcl:∀T:List Ma,(cellsOf maC T).length=T.length*10:=jA j4;have hspec:(jB1 l f now)=jHJ bdr bur l ⟨f,tick now⟩:=rfl;rw[hspec];have hux:bur ⟨f,tick now⟩=f.ur:=rfl;obtain ⟨x,hx⟩:∃x:Ma,x=⟨f,tick now⟩:=⟨_,rfl⟩;rw[<- hx]at hux ⊢;refine zE Tryz.func180 I [(0,v),(1,.agg ⟨frC f⟩),(2,.int .i64 now)] (zh ?_);intro (bk:Nat);refine zh ?_;refine qI jTB I I (fun w hw=>jBo l v w ((qA hv).at hw) hl) ?_;intro v1;obtain ⟨T,hT⟩:∃T,T=l.take 16:=⟨_,rfl⟩;have hfull:=jGD (dr:=bdr) (ur:=bur) (q:=l) (x:=x);have hgo:=jMc (dr:=bdr) (ur:=bur) (q:=l) (x:=x);rw[<- hT]at h16 hfull hgo ⊢;refine zh ?_;refine HR.loop (ι:=Nat) (fun k=>k<=T.length) (fun k=>[(0,v),(2,.int .i64 now),(4,.pointer (some ⟨bk,0,none⟩)),(8,v1),(9,.int .i64 (lidx bdr (T.take k))),(10,.int .i64 (k:Int))]) (fun _=>[jM v1 166 10 T.length (cellsOf maC T),jS bk (frC f) 75]) (fun k=>T.length-k) 0 (Nat.zero_le _) ⟨rfl,rfl,rfl,rfl,by rw[jJ8];rfl,rfl,trivial⟩ (Ent.pick [0,1] I I) ?_;intro k hk ih;refine zh ?_;refine qD (Rd.own 0 I) I I I (zh ?_);refine HR.cond I (fun h2=>?_) (fun h2=>?_)
 ·have hlt:k<T.length:=by have:=of_decide_eq_true h2;omega
  obtain ⟨y,hy⟩:=jG hlt;have hst:=jGf (p:=bdr) hy;have hln:(T.take k).length<=16:=by simp;omega
  have hlx:=jC7 bdr (T.take k);refine zh ?_;refine qE (Rd.own 0 I) JB k I I I I hlt ?_;refine qP 0 (Rd.own 0 I) (by rw[hcl];omega) I I I I I I I ?_;refine qP 7 (Rd.own 0 I) (by rw[hcl];omega) I I I I I I I ?_;refine qF (Rd.own 0 I) I I I I (jJ j4 hy (i:=7) I) (zh ?_);refine HR.cond I (fun h3=>?_) (fun h3=>?_)
  ·have h3:bdr y=true:=h3;rw[if_pos h3]at hst;refine zh ?_;exact ih (k+1) _ _ hlt (by omega) ⟨rfl,rfl,rfl,rfl,by rw[hst];rfl,rfl,trivial⟩ Ent.refl
  ·have h3:bdr y=false:=h3;rw[if_neg (by rw[h3];decide)]at hst;refine zh ?_;exact ih (k+1) _ _ hlt (by omega) ⟨rfl,rfl,rfl,rfl,by rw[hst];rfl,rfl,trivial⟩ Ent.refl
 have hke:k=T.length:=by have:=of_decide_eq_false h2;omega
 subst hke;rw[List.take_length];have hlx:=jC7 bdr T;obtain ⟨M,hM⟩:∃M,M=lidx bdr T:=⟨_,rfl⟩;rw[<- hM]at hlx hfull ⊢
 repeat' (first|refine zh ?_|refine qD (Rd.own 0 I) I I I ?_|apply zb ?_ ?_|exact zc|(refine zi fun hb=>?_;try simp at hb)|fail)
 refine HR.cond I (fun h3=>?_) (fun h3=>?_)
 ·have h3:(((T.length:Int)==16)&&(!f.ur||decide (M<0)))=true:=h3;simp only[Bool.and_eq_true,Bool.or_eq_true,Bool.not_eq_true',decide_eq_true_eq,beq_iff_eq]at h3;rw[hfull (by omega) (by rw[hux];exact h3.2)];refine zh ?_;refine HR.ret Tryz.func180 I [_,_] (fun _ _=>⟨I,I,trivial⟩) ?_
  exact fun w' hw=>⟨v1,rfl,trivial,hw.pick [0] I rfl⟩
 have h3:(((T.length:Int)==16)&&(!f.ur||decide (M<0)))=false:=h3;have h3:¬(T.length=16/\(f.ur=false\/M<0)):=by
  rintro ⟨e1,e2⟩
  rw[show ((T.length:Int)==16)=true by simp;omega,Bool.true_and,Bool.or_eq_false_iff]at h3;rcases e2 with e2|e2
  ·rw [e2]at h3;exact absurd h3.1 (by decide)
  ·have:=of_decide_eq_false h3.2;omega
 have hR:=jJf (dr:=bdr) h16 (by rw[<- hM];exact fun e=>h3 ⟨e.1,.inr e.2⟩);rw[hgo (by rw[hux,<- hM];exact h3),hux];have hroom:room bdr T=if T.length=16 then T.eraseIdx M.toNat else T:=by rw[hM];rfl
 obtain ⟨L,hL⟩:∃L,L=room bdr T:=⟨_,rfl⟩;rw[<- hL]at hR hroom ⊢;refine zh ?_;refine qD (Rd.own 0 I) I I I (zh ?_);refine HR.join (ι:=Value) (fun _=>True) (fun u=>[(2,.int .i64 now),(4,.pointer (some ⟨bk,0,none⟩)),(8,u)]) (fun u=>[jM u 166 10 L.length (cellsOf maC L),jS bk (frC f) 75]) (fun u _=>?_) (fun hj=>?_)
 ·repeat' (first|refine zh ?_|refine qD (Rd.own 0 I) I I I ?_|fail)
  refine yN (ι:=Nat) (fun a=>a<=L.length/\(if f.ur=false then L++[x]else ins bur L x)=L.take a++x::L.drop a) (fun a=>[(2,.int .i64 now),(4,.pointer (some ⟨bk,0,none⟩)),(8,u),(11,.int .i64 (a:Int))]) (fun _=>[jM u 166 10 L.length (cellsOf maC L),jS bk (frC f) 75]) (fun a=>?_) (fun hj2=>?_)
  ·rintro ⟨ha,e⟩
   rw[e];have hcat:cellsOf maC (L.take a++x::L.drop a)=(([]++cellsOf maC (L.take a))++maC x)++cellsOf maC (L.drop a):=by rw[jL,List.nil_append,List.append_assoc];rfl
   have hR1:=Qq (B:=base w) (H:=[jM u 166 10 L.length (cellsOf maC L),jS bk (frC f) 75]) j4 (l:=L) (Rd.own 0 I) ha;refine zh ?_;refine qh JB I ?_;intro va;have hR1:=Qq (B:=base w) (H:=[jM va 166 10 0 [],jM u 166 10 L.length (cellsOf maC L),jS bk (frC f) 75]) j4 (l:=L) (Rd.own 1 I) ha;refine zh ?_;refine qX (sz:=10) 0 a (Rd.own 1 I) I I I I (.inl ⟨rfl,rfl⟩) (.inr ⟨_,_,_,rfl,rfl,rfl⟩) (Nat.zero_le _) ha ?_;refine qJ 0 I JB hR1 I I I (hcl _) (jR jBa _) (by simp;omega) (by simp;omega) ?_;intro vo;subst hx;refine zh ?_;refine qO [(0,true),(1,true),(2,true),(3,false),(4,true),(5,false),(6,false),(7,true)] [2] I I j3 (by kernel_rfl) ?_
   repeat' (first|refine QM I I I ?_|refine Qo 0 I I I I I ?_|refine HD.build I I I ?_|(refine HD.one I ?_;first|refine QT I I ?_|refine qB jTA I I (fun w _=>jD5 now w) ?_|(refine qH JB I I I I I (by decide) (by decide) ?_;intro va2)|(refine qJ (news:=maC ⟨f,tick now⟩) 1 I JB (Rd.own 0 I) I I I I (jH I) (by simp;omega) (by simp;omega) ?_;intro vo2)|(refine qm ?_;first|refine qZ 0 I I I I ?_|refine qZ 1 I I I I ?_|refine qZ 2 I I I I ?_|refine qZ 3 I I I I ?_)|(refine qb ?_;first|refine qV 0 I I I I I ?_|refine qV 1 I I I I I ?_|refine qV 2 I I I I I ?_|refine qV 3 I I I I I ?_)|(refine HL.alloc I I ?_;intro bk))|refine HL.back [2] rfl rfl ?_|refine HL.back [3] rfl rfl ?_|refine HD.nil ?_|fail)
   have hR2:=yK (B:=base w) (H:=[jM va2 166 10 1 (maC ⟨f,tick now⟩),jM vo2 166 10 (0+(L.take a).length+1) (([]++cellsOf maC (L.take a))++maC ⟨f,tick now⟩),jM u 166 10 L.length (cellsOf maC L),jS bk (frC f) 75]) j4 (l:=L) (Rd.own 2 I) ha;refine zh ?_;refine qX (sz:=10) a L.length (Rd.own 2 I) I I I I (.inr ⟨_,_,_,rfl,rfl,rfl⟩) (.inl ⟨rfl,rfl⟩) ha (Nat.le_refl _) ?_;refine qJ 1 I JB hR2 I I I (hcl _) (jR jBa _) (by simp;omega) (by simp;omega) ?_;intro v5;refine zh ?_;refine HR.ret Tryz.func180 I [_,_] (fun _ _=>⟨I,I,trivial⟩) ?_;refine fun w' hw=>⟨v5,rfl,trivial,qC ?_ ?_ w' (hw.pick [1] I rfl)⟩
   ·simp;omega
   ·exact hcat.symm
  ·refine qd (α:=Nat) (β:=Nat) (fun b a=>b<=L.length/\b<=a/\a<=L.length/\(f.ur=false->a=L.length)/\(f.ur=true->(∀ j y,b<=j->j<a->L[j]? =some y->bur y=true)/\∀y,L[a]? =some y->bur y=false)) (fun b a=>[(2,.int .i64 now),(4,.pointer (some ⟨bk,0,none⟩)),(8,u),(11,.int .i64 (a:Int)),(12,.int .i64 ((b:Int)-1))]) (fun _ _=>[jM u 166 10 L.length (cellsOf maC L),jS bk (frC f) 75]) (fun b _=>b) L.length L.length ⟨Nat.le_refl _,Nat.le_refl _,Nat.le_refl _,fun _=>rfl,fun _=>⟨fun j y h1 h2=>by omega,fun y hy=>by have:=(List.getElem?_eq_some_iff.1 hy).1;omega⟩⟩ ⟨I,I,I,I,I,trivial⟩ Ent.refl ?_
   rintro b a ⟨hb,hba,ha,hf0,hf1⟩ ih
   repeat' (first|refine zh ?_|apply zb ?_ ?_|exact zc|(refine zi fun hb=>?_;try simp at hb)|fail)
   refine HR.cond I (fun h4=>?_) (fun h4=>?_)
   ·have h4:(decide ((b:Int)-1>=0)&&f.ur)=true:=h4;simp only[Bool.and_eq_true,decide_eq_true_eq]at h4;obtain ⟨m,rfl⟩:∃m,b=m+1:=⟨b-1,by omega⟩;have hml:m<L.length:=by omega
    obtain ⟨y,hy⟩:=jG hml;obtain ⟨g1,g2⟩:=hf1 h4.2;refine zh ?_;refine qE (Rd.own 0 I) JB m I I I (by omega) hml ?_;refine qP 0 (Rd.own 0 I) (by rw[hcl];omega) I I I I I I I ?_;refine qP 7 (Rd.own 0 I) (by rw[hcl];omega) I I I I I I I ?_;refine qF (Rd.own 0 I) I I I I (jJ j4 hy (i:=7) I) (zh ?_);refine HR.cond I (fun h5=>?_) (fun h5=>?_)
    ·have h5:y.f.ur=false:=by have h5:(!y.f.ur)=true:=h5;simpa using h5
     refine zh ?_;refine ih m m _ _ ⟨by omega,Nat.le_refl _,by omega,fun e=>(by rw[h4.2]at e;cases e),fun _=>⟨fun j y h1 h2=>by omega,fun y' hy'=>by rw[hy]at hy';cases hy';exact h5⟩⟩ (by omega) ⟨rfl,rfl,rfl,by show some (Value.int IntKind.i64 _)=some (Value.int IntKind.i64 _);congr 2;omega,by show some (Value.int IntKind.i64 _)=some (Value.int IntKind.i64 _);congr 2;omega,trivial⟩ Ent.refl
    ·have h5:y.f.ur=true:=by have h5:(!y.f.ur)=false:=h5;simpa using h5
     refine zh ?_;refine ih m a _ _ ⟨by omega,by omega,ha,hf0,fun _=>⟨fun j y' h1 h2 hy'=>?_,g2⟩⟩ (by omega) ⟨rfl,rfl,rfl,rfl,by show some (Value.int IntKind.i64 _)=some (Value.int IntKind.i64 _);congr 2;omega,trivial⟩ Ent.refl
     by_cases e:j=m
     ·subst e;rw[hy]at hy';cases hy';exact h5
     ·exact g1 j y' (by omega) h2 hy'
   ·have h4:(decide ((b:Int)-1>=0)&&f.ur)=false:=h4;have e:(if f.ur=false then L++[x]else ins bur L x)=L.take a++x::L.drop a:=by
     cases hu:f.ur
     ·rw [if_pos rfl,hf0 hu,List.take_length,List.drop_length]
     ·rw [if_neg (by decide)];rw[hu,Bool.and_true]at h4;have h4:=of_decide_eq_false h4;obtain ⟨g1,g2⟩:=hf1 hu;exact jGi ha (fun j y hj hy=>g1 j y (by omega) hj hy) g2
    refine HR.exit I ?_;exact hj2 a _ _ ⟨ha,e⟩ ⟨I,I,I,I,trivial⟩ Ent.refl
 ·refine HR.cond I (fun h4=>?_) (fun h4=>?_)
  ·have h4:T.length=16:=by have h4:((T.length:Int)==16)=true:=h4;simp at h4;omega
   have hM0:¬M<0:=fun e=>h3 ⟨h4,.inr e⟩
   obtain ⟨m,rfl⟩:∃m:Nat,M=m:=⟨M.toNat,by omega⟩;rw[if_pos h4,Int.toNat_natCast]at hroom;refine HR.region (zn ?_);refine qI jSr I I (fun w hw=>jAa T m v1 w ((Rd.own 0 rfl).at hw) (by omega) (by omega)) ?_;intro u;refine zn ?_;rw[<- hroom];exact hj u _ _ trivial ⟨I,I,I,trivial⟩ (Ent.pick [0,2] I I)
  ·have h4:¬T.length=16:=by intro e;have h4:((T.length:Int)==16)=false:=h4;rw[e]at h4;cases h4
   rw[if_neg h4]at hroom;subst hroom;refine HR.skip ?_;exact hj v1 _ _ trivial ⟨I,I,I,trivial⟩ (Ent.pick [0,1] I I)
theorem jN9 (now life:Int) (m:Ma):(!bold now life m)=decide (tick now-tick m.si<=tick life):=by
 unfold bold
 by_cases h:tick now-tick m.si>tick life
 ·rw [decide_eq_true h,decide_eq_false (by omega)];rfl
 ·rw [decide_eq_false h,decide_eq_true (by omega)];rfl
theorem jD6 (l:List Ma) (now life:Int) (v:Value) (w:World) (hv:Sl w v (cellsOf maC l) l.length) (hl:l.length<=1000):
  Calls Tryz.prog 97 #[v,.int .i64 now,.int .i64 life] w fun e w'=>∃v',e= .returned v'/\Sat (base w) [jM v' 166 10 (jAn l now life).length (cellsOf maC (jAn l now life))] w':=by
 have h16:(l.take 16).length<=16:=by simp;omega
 have hcl:∀T:List Ma,(cellsOf maC T).length=T.length*10:=jA j4;unfold jAn;refine zE Tryz.func97 I [(0,v),(1,.int .i64 now),(2,.int .i64 life)] (zh ?_);refine qI jTB I I (fun w hw=>jBo l v w ((qA hv).at hw) hl) ?_;intro v1;obtain ⟨T,hT⟩:∃T,T=l.take 16:=⟨_,rfl⟩;rw[<- hT]at h16 ⊢;refine zh ?_;refine HR.J6 166 10 (qd (α:=Nat) (β:=Value) (fun k o=>k<=T.length) (fun k o=>[(1,.int .i64 now),(2,.int .i64 life),(7,v1),(8,o),(9,.int .i64 (k:Int))]) (fun k o=>[jM o 166 10 ((T.take k).filter fun m=>!bold now life m).length (cellsOf maC ((T.take k).filter fun m=>!bold now life m)),jM v1 166 10 T.length (cellsOf maC T)]) (fun k _=>T.length-k) 0 (.slice none 0 0) (Nat.zero_le _) ⟨I,I,I,I,I,trivial⟩ (Ent.pick [0,1] I I) ?_)
 rintro k o hk ih
 have hfl:((T.take k).filter fun m=>!bold now life m).length<=16:=Nat.le_trans (List.length_filter_le _ _) (by simp;omega);refine zh ?_;refine qD (Rd.own 1 I) I I I (zh ?_);refine HR.cond I (fun h2=>?_) (fun h2=>?_)
 ·have hlt:k<T.length:=by have:=of_decide_eq_true h2;omega
  obtain ⟨x,hx⟩:=jG hlt;have hft:=jA7 (fun m=>!bold now life m) hx;have t1:=zY now;have t2:=zY x.si;have t3:=zY life;refine zh ?_;refine qO [(0,true),(2,true),(3,true),(4,true),(5,true),(6,true),(9,true),(1,false),(7,false),(8,true),(10,false),(11,true)] [1] I I j3 (by kernel_rfl) ?_
  repeat' (first|refine zd ?_|refine Qb [1] I I jTA I I I (fun w _=>jD5 _ w) ?_|refine qc (Rd.own 0 I) JB k I I I I I hlt ?_|refine QA 9 (Rd.own 0 I) (by rw[hcl];omega) I I I I I I I I ?_|refine QD (Rd.own 0 I) I I I I I (jJ j4 hx (i:=9) I) ?_|fail)
  refine HD.nil (HR.cond I (fun h3=>?_) (fun h3=>?_))
  ·have h3:(!bold now life x)=true:=by rw[jN9];exact h3
   rw[if_pos h3]at hft;refine zh ?_;refine qE (Rd.own 1 I) JB k I I I I hlt ?_;refine qN (Rd.own 1 I) I I I I (by simp) I (jD j4 hx) ?_;refine qH JB I I I I I (by decide) (by decide) ?_;intro va;refine qJ 1 I JB (Rd.own 0 I) I I I I (jH I) (by omega) (by omega) ?_;intro o2;refine zh ?_;refine ih (k+1) o2 _ _ hlt (by omega) ⟨I,I,I,I,I,trivial⟩ (Ent.trans (Ent.pick [1,2] I I) (qC ?_ ?_))
   ·rw [hft];simp
   ·rw [hft,jL];rfl
  ·have h3:(!bold now life x)=false:=by rw[jN9];exact h3
   rw[if_neg (by rw[h3];decide)]at hft;refine zh ?_;refine ih (k+1) o _ _ hlt (by omega) ⟨I,I,I,I,I,trivial⟩ (qC ?_ ?_)
   ·rw [hft]
   ·rw [hft]
 ·have hke:k=T.length:=by have:=of_decide_eq_false h2;omega
  subst hke;rw[List.take_length];refine zh ?_;refine HR.ret Tryz.func97 I [_] (fun _ _=>⟨I,trivial⟩) ?_
  exact fun w' hw=>⟨o,rfl,hw.pick [0] I rfl⟩
theorem jHq (l:List Ma) (to now life:Int) (v:Value) (w:World) (hv:Sl w v (cellsOf maC l) l.length) (hl:l.length<=1000):
  Calls Tryz.prog 241 #[v,.int .i64 to,.int .i64 now,.int .i64 life] w fun e w'=>∃v',e= .returned (.tuple ⟨[.agg ⟨frC (Js l to now life).1⟩,v',.bool (Js l to now life).2.2]⟩)/\True/\Sat (base w) [jM v' 166 10 (Js l to now life).2.1.length (cellsOf maC (Js l to now life).2.1)] w':=by
 have hcl:∀T:List Ma,(cellsOf maC T).length=T.length*10:=jA j4;have hE:=jG8 l to now life;have h16:=jBD l now life;refine zE Tryz.func241 I [(0,v),(1,.int .i64 to),(2,.int .i64 now),(3,.int .i64 life)] (zh ?_);intro (bk:Nat);refine zh ?_;refine qI fn97 I I (fun w hw=>jD6 l now life v w ((qA hv).at hw) hl) ?_;intro v1;obtain ⟨T,hT⟩:∃T,T=jAn l now life:=⟨_,rfl⟩;rw[<- hT]at h16 hE ⊢;refine zh ?_;refine HR.loop (ι:=Nat) (fun k=>k<=T.length/\∀j y,j<k->T[j]? =some y->(y.f.dst==to)=false) (fun k=>[(1,.int .i64 to),(8,.pointer (some ⟨bk,0,none⟩)),(11,v1),(12,.int .i64 (k:Int))]) (fun _=>[jM v1 166 10 T.length (cellsOf maC T),jS bk (frC fr0) 75]) (fun k=>T.length-k) 0 ⟨Nat.zero_le _,fun j y hj=>absurd hj (Nat.not_lt_zero _)⟩ ⟨I,I,I,I,trivial⟩ (Ent.pick [0,1] I I) ?_
 rintro k ⟨hk,hno⟩ ih
 refine zh ?_;refine qD (Rd.own 0 I) I I I (zh ?_);refine HR.cond I (fun h2=>?_) (fun h2=>?_)
 ·have hlt:k<T.length:=by have:=of_decide_eq_true h2;omega
  obtain ⟨x,hx⟩:=jG hlt;refine zh ?_;refine qE (Rd.own 0 I) JB k I I I I hlt ?_;refine qP 0 (Rd.own 0 I) (by rw[hcl];omega) I I I I I I I ?_;refine qP 2 (Rd.own 0 I) (by rw[hcl];omega) I I I I I I I ?_;refine qF (Rd.own 0 I) I I I I (jJ j4 hx (i:=2) I) (zh ?_);refine HR.cond I (fun h3=>?_) (fun h3=>?_)
  ·have h3:(x.f.dst==to)=true:=h3;have hf:T.findIdx? (fun m=>m.f.dst==to)=some k:=by
    rcases JF (fun m:Ma=>m.f.dst==to) T with ⟨_,_,h⟩|⟨i,b,_,e,hb,hpb,hi⟩
    ·have:=h x (List.mem_of_getElem? hx);rw[this]at h3;cases h3
    ·rw [e];rcases Nat.lt_trichotomy i k with h|h|h
     ·rw [hno i b h hb]at hpb;cases hpb
     ·rw [h]
     ·have:=hi k x h hx;rw[this]at h3;cases h3
   rw[hf]at hE;have hE:Js l to now life=(x.f,T.eraseIdx k,true):=by rw[hE];simp[List.getD_eq_getElem?_getD,hx]
   rw[hE];refine zh ?_;refine qO [(0,true),(1,true),(2,true),(3,true),(4,true),(5,true),(6,true),(7,false),(8,false),(9,true),(10,true)] [0] I I j3 (by kernel_rfl) ?_
   repeat' (first|refine QM I I I ?_|refine qc (Rd.own 0 I) JB k I I I I I hlt ?_|refine QA 0 (Rd.own 0 I) (by rw[hcl];omega) I I I I I I I I ?_|refine QI (us:=frC x.f) (Rd.own 0 I) I I I I I (by simp) I (ma_fr hx) ?_|(refine HD.one I ?_;first|refine QT I I ?_|(refine qI jSr I I (fun w hw=>jAa T k v1 w ((Rd.own 0 rfl).at hw) (by omega) hlt) ?_;intro r)|(refine qm ?_;first|refine qZ 0 I I I I ?_|refine qZ 1 I I I I ?_|refine qZ 2 I I I I ?_|refine qZ 3 I I I I ?_)|(refine qb ?_;first|refine qV 0 I I I I I ?_|refine qV 1 I I I I I ?_|refine qV 2 I I I I I ?_|refine qV 3 I I I I I ?_)|(refine HL.alloc I I ?_;intro bk))|refine HL.back [1] rfl rfl ?_|refine HD.nil ?_|fail)
   refine HR.ret Tryz.func241 I [_,_,_] (fun w hw=>⟨⟨_,rfl,jQ hw 2 I I I I rfl⟩,rfl,rfl,trivial⟩) ?_
   exact fun w' hw=>⟨r,rfl,trivial,hw.pick [0] I rfl⟩
  ·have h3:(x.f.dst==to)=false:=h3;refine zh ?_;refine ih (k+1) _ _ ⟨hlt,fun j y hj hy=>?_⟩ (by omega) ⟨I,I,I,I,trivial⟩ Ent.refl
   by_cases e:j=k
   ·subst e;rw[hx]at hy;cases hy;exact h3
   ·exact hno j y (by omega) hy
 ·have hke:k=T.length:=by have:=of_decide_eq_false h2;omega
  subst hke;have hf:T.findIdx? (fun m=>m.f.dst==to)=none:=by
   rcases JF (fun m:Ma=>m.f.dst==to) T with ⟨_,h,_⟩|⟨i,b,_,e,hb,hpb,hi⟩
   ·exact h
   ·rw [hno i b (List.getElem?_eq_some_iff.1 hb).1 hb]at hpb;cases hpb
  rw[hf]at hE;have hE:Js l to now life=(fr0,T,false):=hE;rw[hE];refine zh ?_;refine HR.ret Tryz.func241 I [_,_,_] (fun w hw=>⟨⟨_,rfl,jQ hw 1 I I I I rfl⟩,rfl,rfl,trivial⟩) ?_
  exact fun w' hw=>⟨v1,rfl,trivial,hw.pick [0] I rfl⟩
end Go.Proofs.YtgfdoognildoeaaGreat
