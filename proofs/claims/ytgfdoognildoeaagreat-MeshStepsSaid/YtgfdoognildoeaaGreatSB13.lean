/- Part of a proof. Conditions: none. -/
import Derived.Test.YtgfdoognildoeaaGreatSB12
set_option linter.unusedVariables false
set_option linter.unusedSectionVars false
set_option linter.unusedSimpArgs false
set_option maxRecDepth 100000
set_option maxHeartbeats 4000000
namespace Go.Proofs.YtgfdoognildoeaaGreat
open Go.GX Go.RowKit
attribute [local irreducible] Calls Run JH JL zU HR HL HD jS jM ZN Rd jg Jf
open Nd
theorem fn111:IsFn Tryz.prog 111:=zF Tryz.func111 I
abbrev Imp (V0:NV) (n0:Nd) (V:NV) (G:List Chunk) (n:Nd):Prop:=∀w2,OkN w2 V0 n0->(jC G).p w2->OkN w2 V n
theorem ROk.okn {V V':NV} {n m:Nd} {Gt:List Chunk} (hr:ROk V n V' Gt m) (hp:m.parts=n.parts):Imp V n V' (roH V' Gt m) m:=by
 intro w2 h2 hg;refine ⟨hr.ta w2 h2.ta (jK hg (List.mem_cons_self ..)),hr.li w2 h2.li,jV (jK hg (c:=cSn (sv V'.ou m.out.length) m.out) (by simp)),jV (jK hg (c:=cI (sv V'.ch m.children.length) m.children) (by simp)),jV (jK hg (c:=cMa (sv V'.bo m.boxes.length) m.boxes) (by simp)),jV (jK hg (c:=cPr (sv V'.se m.seen.length) m.seen) (by simp)),?_,jV (jK hg (c:=cDe (sv V'.ib m.inbox.length) m.inbox) (by simp)),?_⟩
 ·rw [hr.pa,hr.ps];exact h2.pa
 ·rw [hr.ps,hp];exact h2.eq
theorem jKp (V:NV) (n:Nd) (now:Int) (w:World) (h:OkN w V n) (hs:SmN n):
  Calls Tryz.prog 111 #[.agg ⟨ndC V n⟩,.int .i64 now] w fun e w'=>e= .returned (.bool (awake n now))/\Below w.heap.size w w':=by
 obtain ⟨m,hm⟩:∃m,m=order n:=⟨_,rfl⟩;have ho:Ord m:=by rw[hm];exact JJ n
 have hpo:=ho.poll;have hmp:m.parts=n.parts:=by rw[hm];rfl
 have ht0:0<=tick now:=by unfold tick clamp;omega
 obtain ⟨c,hc⟩:∃c:Bool,c=(((m.poll==0)||(m.parent==255)||decide ((V.ps.length:Int)>0))||decide (tick now%m.poll<3)):=⟨_,rfl⟩;have hsp:awake n now=c:=by
  rw[hc,show decide ((V.ps.length:Int)>0)=decide (0<m.parts.length)from decide_eq_decide.2 (by rw[hmp,<- h.eq,jW];omega),hm];rfl
 rw[hsp];refine zE Tryz.func111 I [(0,.agg ⟨ndC V n⟩),(1,.int .i64 now)] ?_;refine HR.ctl I (HR.region ?_);refine HL.box I I ?_;intro b2;refine zh ?_;refine qL (r:=fun x:NV×List Chunk=> .agg ⟨ndC x.1 m⟩) (Q:=fun x=>ROk V n x.1 x.2 m) (G:=fun x=>roH x.1 x.2 m) jSf I I (fun w1 hw1=>by rw[hm];exact kE V n w1 (h.ext hw1.jF) hs) ?_
 rintro ⟨V2,Gt⟩ hR
 have hR:ROk V n V2 Gt m:=hR;refine qM (Ent.pick [6] I I) (zh ?_);have hps:V2.ps.length=V.ps.length:=by rw[hR.ps]
 refine HR.join (ι:=Unit) (fun _=>True) (fun _=>[(4,.bool c)]) (fun _=>[]) (fun _ _=>?_) (fun hj=>?_)
 ·skip
  exact zR Tryz.func111
 refine qO [(0,true),(1,true),(2,true),(3,true),(4,true),(5,true),(6,true),(7,true),(8,true),(9,true),(10,true),(11,true),(12,true),(13,true),(14,true),(15,true),(17,true),(18,true),(16,false),(19,true),(20,true),(21,true),(22,true)] [0] I I j3 (by kernel_rfl) (zd ?_);refine HD.split 10 I (fun hb1=>?_) (fun hb1=>?_)
 ·have hb1:(m.poll==0)=true:=hb1;refine zd ?_;refine HD.nil (hj () _ _ trivial ⟨?_,trivial⟩ (Ent.pick [] I I));show some (Value.bool true)=some (Value.bool c);rw[hc,hb1];rfl
 have hb1:(m.poll==0)=false:=hb1;have hp4:¬m.poll=0:=by simpa using hb1
 refine zd ?_;refine HD.split 15 I (fun hb2=>?_) (fun hb2=>?_)
 ·have hb2:(m.parent==255)=true:=hb2;refine zd ?_;refine HD.nil (hj () _ _ trivial ⟨?_,trivial⟩ (Ent.pick [] I I));show some (Value.bool true)=some (Value.bool c);rw[hc,hb1,hb2];rfl
 have hb2:(m.parent==255)=false:=hb2;refine zd ?_;refine HD.split 21 I (fun hb3=>?_) (fun hb3=>?_)
 ·have hb3:decide ((V2.ps.length:Int)>0)=true:=hb3;rw[hps]at hb3;refine zd ?_;refine HD.nil (hj () _ _ trivial ⟨?_,trivial⟩ (Ent.pick [] I I));show some (Value.bool true)=some (Value.bool c);rw[hc,hb1,hb2,hb3];rfl
 have hb3:decide ((V2.ps.length:Int)>0)=false:=hb3;rw[hps]at hb3;refine zd ?_;refine HD.one I (qB fn95 I I (fun w1 _=>jAx now w1) ?_);refine HL.back [0] I I (zd ?_);refine HD.nil (hj () _ _ trivial ⟨?_,trivial⟩ (Ent.pick [] I I));show some (Value.bool (decide (tick now%m.poll<3)))=some (Value.bool c);rw[hc,hb1,hb2,hb3];rfl
theorem ROk.set {V V' V'':NV} {n m m':Nd} {Gt:List Chunk} (hR:ROk V n V' Gt m) (h1:V''.pa=V'.pa) (h2:V''.ps=V'.ps) (h3:V''.ta=V'.ta) (h4:V''.li=V'.li) (h5:m'.table=m.table) (h6:m'.links=m.links):ROk V n V'' Gt m':=
 ⟨h1.trans hR.pa,h2.trans hR.ps,by rw[h3,h5];exact hR.ta,by rw[h4,h6];exact hR.li⟩
theorem jEa (n:Nd) (d:De):∃i l,deliver n d={ n with inbox:=i,lost:=l }:=by
 by_cases h:n.inbox.length>=256
 ·exact ⟨n.inbox,min (n.lost+1) jw,by unfold deliver lose;rw[if_pos h]⟩
 ·exact ⟨n.inbox++[d],n.lost,by unfold deliver;rw[if_neg h]⟩
end Go.Proofs.YtgfdoognildoeaaGreat
namespace Nd
open Go.GX Tp
def jLt (T:Int) (p:Nd) (i:Nat):Nd:=(((p.out.drop i).filter stale).map (·.f)).foldl (fun n f=>box n f T) { p with out:=p.out.take i++(p.out.drop i).filter fun x=>!stale x }
theorem jLk (T:Int) (q:Nd):jLt T q 0=asleep q T:=rfl
theorem jLj (p:Nd) (a c:List Sn) (f:Fr) (T:Int):{ box { p with out:=a } f T with out:=c }=box { p with out:=c } f T:=by
 by_cases h:(jB1 p.boxes f T).2=false\/(jB1 p.boxes f T).1.length=p.boxes.length
 ·unfold box lose;simp only[if_pos h]
 ·unfold box;simp only[if_neg h]
theorem jDV (p:Nd) (f:Fr) (T:Int):(box p f T).out=p.out:=by
 by_cases h:(jB1 p.boxes f T).2=false\/(jB1 p.boxes f T).1.length=p.boxes.length
 ·unfold box lose;simp only[if_pos h]
 ·unfold box;simp only[if_neg h]
theorem jLm {T:Int} {p:Nd} {i:Nat} {x:Sn} (hx:p.out[i]? =some x) (hs:stale x=true):jLt T p i=jLt T (box { p with out:=p.out.eraseIdx i } x.f T) i:=by
 obtain ⟨hi,e⟩:=List.getElem?_eq_some_iff.1 hx;have hd:p.out.drop i=x::p.out.drop (i+1):=by rw[<- e];exact List.drop_eq_getElem_cons hi
 have ht:(p.out.eraseIdx i).take i=p.out.take i:=by
  rw[List.eraseIdx_eq_take_drop_succ,List.take_append_of_le_length (by rw[List.length_take];omega),List.take_take,Nat.min_self]
 have hd2:(p.out.eraseIdx i).drop i=p.out.drop (i+1):=by
  rw[List.eraseIdx_eq_take_drop_succ,List.drop_append_of_le_length (by rw[List.length_take];omega),List.drop_eq_nil_of_le (by rw[List.length_take];omega),List.nil_append]
 unfold jLt;rw[jDV];show _=List.foldl _ { box { p with out:=p.out.eraseIdx i } x.f T with out:=(p.out.eraseIdx i).take i++((p.out.eraseIdx i).drop i).filter fun x=>!stale x } ((((p.out.eraseIdx i).drop i).filter stale).map (·.f));rw[ht,hd2,jLj,hd]
 simp[hs]
theorem jLn {T:Int} {p:Nd} {i:Nat} {x:Sn} (hx:p.out[i]? =some x) (hs:stale x=false):jLt T p i=jLt T p (i+1):=by
 obtain ⟨hi,e⟩:=List.getElem?_eq_some_iff.1 hx;have hd:p.out.drop i=x::p.out.drop (i+1):=by rw[<- e];exact List.drop_eq_getElem_cons hi
 unfold jLt;rw[jE hx,hd]
 simp[hs]
theorem jQd {T:Int} {p:Nd} {i:Nat} (hi:p.out.length<=i):jLt T p i=p:=by
 unfold jLt;rw[List.drop_eq_nil_of_le hi,List.take_of_length_le hi]
 simp
end Nd
namespace Go.GX
open Go.RowKit
section
variable {P : Program} {f : FuncId} {N : Nat} {k : List Item} {σ : Store} {B : Base} {H F : List Chunk} {R : Ending -> World -> Prop} {ops l : List Oper} {o : Oper} {K : Act -> World -> Prop} {S : World -> Prop} {T : List Nat}
def AllIn (ops:Array Oper) (T:List Nat) (listed:Array Bool):Prop:=∀j∈Region.ready .any ops listed,Zp j T=true
def jCm (ops:Array Oper) (T:List Nat) (listed:Array Bool):Bool:=(List.range ops.size).all fun i=>listed.getD i true||Zp i T
theorem jKo {ops:Array Oper} {listed:Array Bool} {j:Nat} (h:j∈Region.ready .any ops listed):listed.getD j true=false/\j<ops.size:=by
 obtain ⟨h1,oj,hoj,_⟩:=mem_ready.1 h;exact ⟨h1,(Array.getElem?_eq_some_iff.1 hoj).1⟩
theorem K6 {ops:Array Oper} {listed:Array Bool} (h:jCm ops T listed=true):AllIn ops T listed:=by
 intro j hj;obtain ⟨h1,h2⟩:=jKo hj;have:=List.all_eq_true.1 h j (List.mem_range.2 h2);rw[h1,Bool.false_or]at this;exact this
theorem jBT {ops:Array Oper} {listed:Array Bool} (h:jCm ops T listed=true) (i:Nat):jCm ops T (listed.setIfInBounds i true)=true:=by
 refine List.all_eq_true.2 fun j hj=>?_
 have:=List.all_eq_true.1 h j hj
 by_cases hij:i=j
 ·subst hij;rw[Bool.or_eq_true]at this ⊢;rcases this with h2|h2
  ·left
   simp only[Array.getD_eq_getD_getElem?]at*
   by_cases h3:i<listed.size
   ·simp [h3]
   ·simp [h3]
  ·exact .inr h2
 ·rw [getD_set_ne true hij];exact this
theorem jEm {ops:Array Oper} {Q:Exit->Act->World->Prop} {i:Nat} {oi:Oper} {v:Value} (hi:ops[i]? =some oi) (hsel:∀(j:Nat) (o:Oper) cs b,ops[j]? =some o->o.op≠ .select cs b)
  (hQ:∀c a w,Q (.panic c) (a.put oi.dst v) w->Q (.panic c) a w):
  ∀(fuel:Nat) (listed:Array Bool) (a:Act) (w:World),jCm ops T listed=true->
   (∀ j oj,ops[j]? =some oj->j≠i->listed.getD j true=false->(∀ e∈oj.after,Region.binds .any e=true->e.on≠i)->oi.apart ops oj=true)->
   i∈Region.ready .any ops listed->YieldsIf P ops (fun _=>True) oi v a->
   jAX P .any ops Q S T fuel (listed.setIfInBounds i true) (a.put oi.dst v) w->jAX P .any ops Q S T (fuel+1) listed a w:=by
 intro fuel
 induction fuel with
 |zero=>
  intro listed a w hT _ hr hy H;refine ⟨fun h=>(by rw[h]at hr;cases hr),fun j hj=>?_⟩
  by_cases hji:j=i
  ·subst hji;exact hy.wpOp hi trivial ⟨.inl (K6 hT j hr),H⟩
  ·have:=ready_mono hj hji;rw[H.1]at this;cases this
 |succ fuel ih=>
  intro listed a w hT hfree hr hy H;refine ⟨fun h=>(by rw[h]at hr;cases hr),fun j hj=>?_⟩
  by_cases hji:j=i
  ·subst hji;exact hy.wpOp hi trivial ⟨.inl (K6 hT j hr),H⟩
  ·have h1:=H.2 j (ready_mono hj hji);obtain ⟨hjun,oj,hoj,hall⟩:=mem_ready.1 hj;have h0:=(mem_ready.1 hr).1;have hnot:∀e∈oj.after,Region.binds .any e=true->e.on≠i:=fun e he hb heq=>by
    have h1:=hall e he hb;rw[heq]at h1;rw[jAF h1]at h0;cases h0
   have h2:=wpOp_putIf hoj (hfree j oj hoj hji hjun hnot) (fun cs b=>hsel i oi cs b hi) (fun cs b=>hsel j oj cs b hoj) hQ hy h1
   have hfree':∀k ok,ops[k]? =some ok->k≠i->(listed.setIfInBounds j true).getD k true=false->
     (∀ e∈ok.after,Region.binds .any e=true->e.on≠i)->oi.apart ops ok=true:=fun k ok hk hki hun hno=>by
    refine hfree k ok hk hki ?_ hno
    by_cases hjk:j=k
    ·subst hjk;exact hjun
    ·rw [getD_set_ne true hjk]at hun;exact hun
   refine wpOp_mono (fun a' w' h3=>?_) h2;refine ⟨.inl (K6 hT j hj),ih (listed.setIfInBounds j true) a' w' (jBT hT j) hfree' (ready_mono hr (Ne.symm hji)) h3.1 ?_⟩;rw[Array.setIfInBounds_comm _ _ hji];exact h3.2.2
def jSJ (p:List (Nat×Bool)) (listed:Array Bool):Array Bool:=p.foldl (fun l x=>l.setIfInBounds x.1 true) listed
theorem ZY {ops:Array Oper} (hn:Region.noSelect ops=true):∀(t:List (Nat×Bool)) (listed:Array Bool) (a:Act) (w:World),jCm ops T listed=true->zA ops t listed=true->Zq P ops (fun _=>True) K t a w->jAX P .any ops (QN K) S T t.length listed a w
 |[],listed,a,w,_,hB,h=>⟨by simpa[zA]using hB,rfl,h⟩
 |(i,true)::t,listed,a,w,hT,hB,h=>by
  obtain ⟨o,v,ho,hy,h⟩:=h;simp only[zA,Bool.and_eq_true]at hB;have hf:=Region.free_spec ho hB.1.2;have hr:i∈Region.ready .any ops listed:=by simpa using hB.1.1
  exact jEm ho (Region.noSelect_spec hn) (fun c a w h=>absurd h.1 (by nofun)) _ listed a w hT hf hr hy (ZY hn t _ _ _ (jBT hT i) hB.2 h)
 |(z,false)::t,listed,a,w,hT,hB,h=>by
  simp only[zA,Bool.and_eq_true,decide_eq_true_eq]at hB;refine ⟨fun h0=>absurd (hB.1.symm.trans h0) (by simp),fun j hj=>?_⟩;have hj0:=hj;rw[hB.1]at hj;have:j=z:=by simpa using hj
  subst this;exact jEj (wpOp_mono (fun a' w' h'=>⟨.inl (K6 hT j hj0),ZY hn t _ _ _ (jBT hT j) hB.2 h'.2⟩) h)
theorem Za {ops:Array Oper} (hn:Region.noSelect ops=true) (hz:∀z,Zp z T=true->jDk .any ops T z=true) (t:List (Nat×Bool)):∀(p:List (Nat×Bool)) (listed:Array Bool) (a:Act) (w:World),S w->Closed .any ops listed->jPs T p=true->
  jCm ops T (jSJ p listed)=true->zA ops (p++t) listed=true->Zq P ops S (fun a w=>Zq P ops (fun _=>True) K t a w) p a w->jAX P .any ops (QN K) S T (p.length+t.length) listed a w
 |[],listed,a,w,hS,_,_,hT,hB,h=>by
  rw[List.length_nil,Nat.zero_add];exact ZY hn t listed a w hT hB h
 |(i,true)::p,listed,a,w,hS,hc,hnz,hT,hB,h=>by
  obtain ⟨o,v,ho,hy,h⟩:=h;simp only[List.cons_append,zA,Bool.and_eq_true]at hB;have hf:=Region.free_spec ho hB.1.2;unfold jPs at hnz
  split at hnz
  ·cases hnz
  ·rename_i hb
   have hr:i∈Region.ready .any ops listed:=by simpa using hB.1.1
   rw[List.length_cons,Nat.add_right_comm];exact jBk hz ho hb (Region.noSelect_spec hn) (fun c a w h=>absurd h.1 (by nofun)) _ listed a w hc hf hr hy hS (Za hn hz t p _ _ _ hS (hc.set hr) hnz hT hB.2 h)
 |(i,false)::p,listed,a,w,hS,hc,hnz,hT,hB,h=>by
  simp only[List.cons_append,zA,Bool.and_eq_true,decide_eq_true_eq]at hB;rw[List.length_cons,Nat.add_right_comm];refine ⟨fun h0=>absurd (hB.1.symm.trans h0) (by simp),fun j hj=>?_⟩;have hj0:=hj;rw[hB.1]at hj;have:j=i:=by simpa using hj
  subst this;unfold jPs at hnz
  split at hnz
  ·cases hnz
  ·exact jEj (wpOp_mono (fun a' w' h'=>⟨.inr h'.1,Za hn hz t p _ _ _ h'.1 (hc.set hj0) hnz hT hB.2 h'.2⟩) h)
def jMr (ops:Array Oper) (p t:List (Nat×Bool)) (T:List Nat):Bool:=Region.noSelect ops&&Nat.beq (p.length+t.length) ops.size&&jPs T p&&T.all (jDk .any ops T)&&jCm ops T (jSJ p (Array.replicate ops.size false))&&zA ops (p++t) (Array.replicate ops.size false)
def KV (P:Program) (ops:List Oper) (t:List (Nat×Bool)) (K:Act->World->Prop):Act->World->Prop:=fun a w=>Zq P ops.toArray (fun _=>True) K t a w
def HT (P:Program) (N:Nat) (ops:List Oper) (t:List (Nat×Bool)) (σ:Store) (B:Base) (H:List Chunk) (K:Act->World->Prop):Prop:=∀w,Sat B H w->∀a,Agr N σ a->KV P ops t K a w
theorem yM (p t:List (Nat×Bool)) (T:List Nat) (is:List Nat) (hF:jAN H is=some F) (hd:JV is=true) {id:Nat} (hm:P.follows .mixedOrders=true) (hB:jMr ops.toArray p t T=true)
  (h:HD P N ops p σ B H F (KV P ops t (jCE P f k R))):HR P f N (.code (.region id ops.toArray true)::k) σ B H R:=by
 intro w hw a ha;simp only[jMr,Bool.and_eq_true]at hB;obtain ⟨⟨⟨⟨⟨h1,h2⟩,h3⟩,h4⟩,h6⟩,h5⟩:=hB;have hb:Below w.heap.size w { w with drawn:=w.drawn+1 }:=⟨rfl,rfl,rfl,Nat.le_refl _,fun _ _=>rfl⟩;have hw1:Sat B H { w with drawn:=w.drawn+1 }:=hw.grow hb;refine QU (wp_region_any hm (jBN (S:=fun w=>Sat B F w) (T:=T) _ _ _ _ ?_));have hsz:=(Nat.eq_of_beq_eq_true h2).symm;have key:=Za (K:=jCE P f k R) (S:=fun w=>Sat B F w) h1 (fun z hz=>List.all_eq_true.1 h4 z (kJ hz)) t p _ _ _ (hw1.pick is hF hd) (Closed.start I) h3 h6 h5 (h _ hw1 (hw1.pick is hF hd) a ha);rw[<- hsz]at key;exact key
theorem yZ {t:List (Nat×Bool)} (h:HT P N ops t σ B H K):HD P N ops [] σ B H F (KV P ops t K):=fun w hw _ a ha=>h w hw a ha
theorem YU {d i:Nat} {t:List (Nat×Bool)} {op:Op} {ty:TypeId} {pos:String} {af:Array Edge} {gd:Option (Nat×Bool)} {v:Value} (ho:ops[i]? =some ⟨some d,op,ty,pos,af,gd⟩) (hs:stat N ops ⟨some d,op,ty,pos,af,gd⟩ σ=true) (he:jLr P σ op=some v)
  (h:HT P N ops t ((d,v)::σ) B H K):HT P N ops ((i,true)::t) σ B H K:=by
 intro w hw a ha;obtain ⟨h1,h2,h3,h4⟩:=zw hs;refine ⟨⟨some d,op,ty,pos,af,gd⟩,v,by simpa using ho,.inl ⟨jk ha h4,fun w _=>?_⟩,h w hw _ (ha.put (some d) v h3)⟩;rw[jBy ha _ h1 h2];exact jAH he
theorem HT.one {i:Nat} {t:List (Nat×Bool)} (ho:ops[i]? =some o) (h:HL P N ops [o] σ B H (KV P ops t K)):HT P N ops ((i,false)::t) σ B H K:=by
 intro w hw a ha
 replace h:=h w hw a ha
 show wpOp P ops.toArray (QN K) i (fun a' w'=>True/\KV P ops t K a' w') a w;simp only[wpOp,show ops.toArray[i]? =some o by simpa using ho];unfold wpList at h
 split
 ·rename_i hw'
  rw[if_pos hw']at h;rcases h with h|h
  ·left
   have h2:o.wp P a w (fun a' w'=>(QN (KV P ops t K)) .normal a' w') (QN (KV P ops t K)):=h;exact jPH (Oper.wp_mono (fun a' w' h'=>⟨trivial,h'.2⟩) h2)
  ·exact (KM (K:=KV P ops t K) h.2).elim
 ·rename_i hw'
  rw[if_neg hw']at h;exact ⟨trivial,h.2⟩
end
end Go.GX
namespace Go.Proofs.YtgfdoognildoeaaGreat
open Go.GX Go.RowKit
attribute [local irreducible] Calls Run JH JL zU HR HL HD jS jM ZN Rd jg Jf
open Nd
theorem fn46:IsFn Tryz.prog 46:=zF Tryz.func46 I
theorem jHc (V:NV) (n:Nd) (now:Int) (w:World) (h:OkN w V n) (hs:SmN n) (hf:∀s∈n.out,fits .i64 s.wt):
  Calls Tryz.prog 46 #[.agg ⟨ndC V n⟩,.int .i64 now] w fun e w'=>∃x:NV×List Chunk,e= .returned (.agg ⟨ndC x.1 (Zb n now)⟩)/\Imp V n x.1 x.2 (Zb n now)/\Sat (base w) [jC x.2] w':=by
 obtain ⟨m,hm⟩:∃m,m=order n:=⟨_,rfl⟩;have ho:Ord m:=by rw[hm];exact JJ n
 have h16:=ho.out;have hb16:=ho.boxes;have hmf:∀s∈m.out,fits .i64 s.wt:=fun s hs=>hf s (List.mem_of_mem_take (by rw[hm]at hs;exact hs))
 have hmp:m.parts=n.parts:=by rw[hm];rfl
 have hT:∃T,T=tick now:=⟨_,rfl⟩;obtain ⟨T,hT⟩:=hT;have ht0:0<=T:=by rw[hT];unfold tick clamp;omega
 obtain ⟨s0,hs0⟩:∃s0:Nd,s0={ m with out:=ZL m.out,boxes:=jAn m.boxes T 120,parts:=jAr m.parts T 120 }:=⟨_,rfl⟩;obtain ⟨a,ha⟩:∃a,a=asleep s0 T:=⟨_,rfl⟩;obtain ⟨g,hg⟩:∃g,g=if a.poll=0/\T%8=a.addr%8 then zP a else a:=⟨_,rfl⟩
 obtain ⟨z,hz⟩:∃z,z=if g.poll>0/\g.parent≠255/\T%g.poll=0 then poll g else g:=⟨_,rfl⟩
 have hsp:Zb n now=z:=by rw[hz,hg,ha,hs0,hT,hm];rfl
 have ho1:Ord s0:=by rw[hs0];exact ((ho.Zr (jC4 m.out)).ZK (jBD m.boxes T 120)).jAw _
 have hpl:V.ps.length<=1000:=by rw[<- jW,h.eq];exact hs.pa
 have hpm:∀p∈V.ps,jAS p.pt:=fun p hp=>hs.sm p.pt (by rw[<- h.eq];exact List.mem_map.2 ⟨p,hp,rfl⟩)
 rw[hsp];refine zE Tryz.func46 I [(0,.agg ⟨ndC V n⟩),(1,.int .i64 now)] ?_;refine HR.ctl I (HR.region ?_);refine HL.box I I ?_;intro b2;refine HL.alloc I I ?_;intro b4;refine zh ?_;refine qL (r:=fun x:NV×List Chunk=> .agg ⟨ndC x.1 m⟩) (Q:=fun x=>ROk V n x.1 x.2 m) (G:=fun x=>roH x.1 x.2 m) jSf I I (fun w1 hw1=>by rw[hm];exact kE V n w1 (h.ext hw1.jF) hs) ?_
 rintro ⟨V2,Gt⟩ hR
 have hR:ROk V n V2 Gt m:=hR;have hV2:RdPts w (sv V2.pa V2.ps.length) V2.ps:=by rw[hR.pa,hR.ps];exact h.pa
 have hpl2:V2.ps.length<=1000:=by rw[hR.ps];exact hpl
 have hpm2:∀p∈V2.ps,jAS p.pt:=by rw[hR.ps];exact hpm
 have hp2:pts V2.ps=m.parts:=by rw[hR.ps,h.eq,hmp]
 refine qM (Ent.pick [7,6,0,1,2,3,4,5] I I) (zh ?_);refine qB (r:= .int .i64 T) fn95 I I (fun w1 _=>by rw[hT];exact jAx now w1) ?_;refine zh ?_;refine qI fn96 I I (fun w1 hw1=>jHo m.out _ w1 ((Rd.own 3 rfl).at hw1) (by omega) hmf) ?_;intro v1;refine HL.shape 0 I fun a1 c1 hv=>?_
 subst hv;refine zh ?_;refine qM (Ent.pick [1,2,3,0,5,6,7,8] I I) (qI fn97 I I (fun w1 hw1=>jD6 m.boxes T 120 _ w1 ((Rd.own 4 rfl).at hw1) (by omega)) ?_);intro v2;refine HL.shape 0 I fun a2 c2 hv=>?_
 subst hv;refine zh ?_;refine qM (Ent.pick [1,2,3,4,0,6,7,8] I I) (qL (r:=fun x:Value×List PtV=>x.1) (Q:=fun x=>jAT x (jAr (pts V2.ps) T 120)) (G:=fun x=>jAq x) fn98 I I (fun w1 hw1=>jKs V2.ps T 120 _ w1 (hV2.ext hw1.jF) hpm2 hpl2) ?_)
 rintro ⟨v3,ps⟩ ⟨hg1,hg2⟩
 refine HL.shape (v:=v3) (e:=173) (sz:=6) (n:=ps.length) (xs:=cellsOf ptC ps) 0 I fun a3 c3 hv=>?_
 subst hv;have hq1:pts ps=jAr m.parts T 120:=by rw[<- hp2];exact hg1
 have hq2:∀p∈ps,kR p:=hg2;refine zh ?_;obtain ⟨V3,hV3⟩:∃V3:NV,V3=⟨V2.ta,V2.li,(a1,c1),V2.ch,(a2,c2),V2.se,(a3,c3),V2.ib,ps⟩:=⟨_,rfl⟩;have hps3:V3.ps=ps:=by rw[hV3]
 refine qR (H':=[jS b2 (ndC ⟨V2.ta,V2.li,(a1,c1),V2.ch,(a2,c2),V2.se,(a3,c3),V2.ib,ps⟩ { m with out:=ZL m.out,boxes:=jAn m.boxes T 120,parts:=jAr m.parts T 120 }) 62,rsC b4,jC Gt,cSn (.slice a1 (ZL m.out).length c1) (ZL m.out),cMa (.slice a2 (jAn m.boxes T 120).length c2) (jAn m.boxes T 120),cI (sv V2.ch m.children.length) m.children,cPr (sv V2.se m.seen.length) m.seen,cDe (sv V2.ib m.inbox.length) m.inbox,cPt (.slice a3 ps.length c3) ps,jC (ptG ps)]) (Ent.pick [2,3,4,5,6,7,8,9,0,1] I I) ?_;have hst:∃q bx lo,s0={ m with out:=q,boxes:=bx,parts:=jAr m.parts T 120,lost:=lo }:=⟨ZL m.out,jAn m.boxes T 120,m.lost,hs0⟩;have hZ0:a=jLt T s0 0:=by rw[ha,jLk]
 refine HR.loop (ι:=Nat×Nd×SV×SV) (fun x=>x.1<=x.2.1.out.length/\Ord x.2.1/\(∃ q bx lo,x.2.1={ m with out:=q,boxes:=bx,parts:=jAr m.parts T 120,lost:=lo })/\a=jLt T x.2.1 x.1) (fun x=>[(1,.int .i64 T),(2,ptr b2),(4,ptr b4),(5,.int .i64 (x.1:Int))]) (fun x=>[jS b2 (ndC { V3 with ou:=x.2.2.1,bo:=x.2.2.2 } x.2.1) 62,rsC b4,jC Gt,cSn (sv x.2.2.1 x.2.1.out.length) x.2.1.out,cMa (sv x.2.2.2 x.2.1.boxes.length) x.2.1.boxes,cI (sv V2.ch m.children.length) m.children,cPr (sv V2.se m.seen.length) m.seen,cDe (sv V2.ib m.inbox.length) m.inbox,cPt (.slice a3 ps.length c3) ps,jC (ptG ps)]) (fun x=>x.2.1.out.length-x.1) (0,s0,(a1,c1),(a2,c2)) ⟨Nat.zero_le _,ho1,hst,hZ0⟩ ⟨I,I,I,I,trivial⟩ (by rw[hV3,hs0];exact Ent.refl) ?_
 rintro ⟨i,p,y1,y2⟩ ⟨hi,hpo,hpm,hpa⟩ ih
 have hi:i<=p.out.length:=hi;have hpo:Ord p:=hpo;obtain ⟨q0,bx0,lo0,hpe⟩:=hpm;have hpe0:p={ m with out:=q0,boxes:=bx0,parts:=jAr m.parts T 120,lost:=lo0 }:=hpe;have hpa0:a=jLt T p i:=hpa;have hp16:=hpo.out;have hpb16:=hpo.boxes;refine zh ?_;refine HR.cond I (fun h1=>?_) (fun h1=>?_)
 ·have h1:(i:Int)<(p.out.length:Int):=of_decide_eq_true h1;have hlt:i<p.out.length:=by omega
  obtain ⟨x,hx⟩:=jG hlt
  repeat' (first|refine zh ?_|refine qE (Rd.own 3 I) jy i I I I I hlt ?_|refine qN (Rd.own 3 I) I I I I (by simp) I (jD jU hx) ?_|apply zb ?_ ?_|exact zc|(refine zi fun hb=>?_;try simp at hb)|intro (bk:Nat))
  refine HR.cond I (fun h2=>?_) (fun h2=>?_)
  ·have h2:stale x=true:=h2;have hel:(p.out.eraseIdx i).length=p.out.length-1:=List.length_eraseIdx_of_lt hlt;rw[jLm hx h2]at hpa0;have ho2:Ord { p with out:=p.out.eraseIdx i }:=hpo.Zr (by omega);obtain ⟨P,hP⟩:∃P,P=box { p with out:=p.out.eraseIdx i } x.f T:=⟨_,rfl⟩;have hPo:Ord P:=by rw[hP];exact ho2.box _ _
   have hPout:P.out=p.out.eraseIdx i:=by rw[hP];exact jDV _ _ _
   have hPe:∃q bx lo,P={ m with out:=q,boxes:=bx,parts:=jAr m.parts T 120,lost:=lo }:=by
    obtain ⟨q,l,e⟩:=jKJ { p with out:=p.out.eraseIdx i } x.f T;exact ⟨p.out.eraseIdx i,q,l,by rw[hP,e,hpe0]⟩
   rw[<- hP]at hpa0;refine zh ?_;refine qI fn99 I I (fun w1 hw1=>jBm p.out i _ w1 ((Rd.own 4 rfl).at hw1) (by omega) hlt) ?_;intro v4;refine HL.shape 0 I fun a4 c4 hv=>?_
   subst hv;refine zh ?_;refine qL (r:=fun y:SV=> .agg ⟨ndC { V3 with ou:=(a4,c4),bo:=y } P⟩) (Q:=fun _=>True) (G:=fun y=>[cMa (sv y P.boxes.length) P.boxes]) jTW I I (fun w1 hw1=>by rw[hP];exact jFv { V3 with ou:=(a4,c4),bo:=y2 } { p with out:=p.out.eraseIdx i } x.f T w1 ((Rd.own 6 rfl).at hw1) (show p.boxes.length<=1000 by omega) hpo.lost) ?_;intro y _;refine zh ?_;refine ih (i,P,(a4,c4),y) _ _ ⟨by show i<=P.out.length;rw[hPout];omega,hPo,hPe,hpa0⟩ (by show P.out.length-i<p.out.length-i;rw[hPout];omega) ⟨I,I,I,I,trivial⟩ ?_;show Ent _ _ [_,_,_,cSn (sv (a4,c4) P.out.length) P.out,_,_,_,_,_,_];rw[hPout];exact Ent.pick [3,4,5,1,0,8,9,10,11,12] I I
  ·have h2:stale x=false:=h2;rw[jLn hx h2]at hpa0;refine zh ?_;exact ih (i+1,p,y1,y2) _ _ ⟨hlt,hpo,⟨q0,bx0,lo0,hpe0⟩,hpa0⟩ (by show p.out.length-(i+1)<p.out.length-i;omega) ⟨I,I,I,I,trivial⟩ (Ent.pick [1,2,3,4,5,6,7,8,9,10] I I)
 have h1:¬(i:Int)<(p.out.length:Int):=of_decide_eq_false h1;rw[jQd (by omega)]at hpa0;subst hpa0;have hao:Ord a:=hpo;have ha8:=((zL _).1 hao.addr).1;have hta0:∀w2,OkN w2 V n->(jC Gt).p w2->Sl w2 (sv V2.ta a.table.length) (cellsOf roC a.table) a.table.length:=fun w2 h2 hgp=>by
  rw[show a.table=m.table from by rw[hpe0]];exact hR.ta w2 h2.ta hgp
 have hV3t:V3.ta=V2.ta:=by rw[hV3]
 repeat' (first|refine zh ?_|apply zb ?_ ?_|exact zc|(refine zi fun hb=>?_;try simp at hb)|fail)
 refine HR.join (ι:=(SV×List Chunk)×SV) (fun x=>∀w2,OkN w2 V n->(jC x.1.2).p w2->Sl w2 (sv x.1.1 g.table.length) (cellsOf roC g.table) g.table.length) (fun _=>[(1,.int .i64 T),(2,ptr b2),(4,ptr b4)]) (fun x=>[jS b2 (ndC { V3 with ou:=x.2,bo:=y2,ta:=x.1.1 } g) 62,rsC b4,jC x.1.2,cSn (sv x.2 g.out.length) g.out,cMa (sv y2 a.boxes.length) a.boxes,cI (sv V2.ch m.children.length) m.children,cPr (sv V2.se m.seen.length) m.seen,cDe (sv V2.ib m.inbox.length) m.inbox,cPt (.slice a3 ps.length c3) ps,jC (ptG ps)]) (fun x hx=>?_) (fun hj=>?_)
 rotate_left
 ·refine HR.cond I (fun h2=>?_) (fun h2=>?_)
  ·have h2:((a.poll==0)&&(T%8==a.addr%8))=true:=h2;have h3:a.poll=0/\T%8=a.addr%8:=by simpa using h2
   rw[if_pos h3]at hg;have hqo:=jAL hao;have hqt:=jFa hqo;have hq16:=hqo.out;have hat:=jFa hao;obtain ⟨q,hq⟩:∃q,q=bumped a:=⟨_,rfl⟩;have hbe:g=if waits q 1=false/\q.out.length<16 then (queue q (ZG q)).1 else q:=by rw[hg,hq];rfl
   refine zh ?_;refine qI jTV I I (fun w1 hw1=>jCq a.table a.addr _ w1 (by have:=hta0 w1 (h.ext hw1.jF) (QF 2 hw1 rfl);rw[<- hV3t]at this;exact this) (by omega)) ?_;intro v5;refine HL.shape 0 I fun a5 c5 hv=>?_
   subst hv;refine zn ?_;refine qR (H':=[cTa (.slice a5 (bumped a).table.length c5) (bumped a).table,jS b2 (ndC { V3 with ou:=y1,bo:=y2,ta:=(a5,c5) } (bumped a)) 62,rsC b4,jC Gt,cSn (sv y1 (bumped a).out.length) (bumped a).out,cMa (sv y2 a.boxes.length) a.boxes,cI (sv V2.ch m.children.length) m.children,cPr (sv V2.se m.seen.length) m.seen,cDe (sv V2.ib m.inbox.length) m.inbox,cPt (.slice a3 ps.length c3) ps,jC (ptG ps)]) (Ent.pick [0,1,2,3,4,5,6,7,8,9,10] I I) ?_;rw[<- hq];rw[<- hq]at hqo hqt hq16;refine zh ?_;refine qB jTU I I (fun w1 hw1=>jDs { V3 with ou:=y1,bo:=y2,ta:=(a5,c5) } q 1 w1 ((Rd.own 4 rfl).at hw1) (by omega)) ?_
   repeat' (first|refine zh ?_|apply zb ?_ ?_|exact zc|(refine zi fun hb=>?_;try simp at hb)|fail)
   refine HR.cond I (fun h4=>?_) (fun h4=>?_)
   ·have h4:(!waits q 1&&decide ((q.out.length:Int)<16))=true:=h4;have h6:waits q 1=false/\(q.out.length:Int)<16:=by simpa using h4
    have h5:waits q 1=false/\q.out.length<16:=⟨h6.1,by omega⟩;rw[if_pos h5]at hbe;refine yM [(0,true),(1,true),(2,true),(3,true),(4,true),(5,true),(7,true),(8,true),(6,false),(9,false),(10,true),(11,false),(12,true)] [(13,true),(14,true),(15,false)] [13,14,15] [1] I I j3 (by kernel_rfl) (zd ?_);refine HD.one I (qB jTT I I (fun w1 hw1=>jJg { V3 with ou:=y1,bo:=y2,ta:=(a5,c5) } q w1 ((Rd.own 0 rfl).at hw1) (by omega)) ?_);refine HL.back [1] I I (HD.one I ?_);refine qB fn105 I I (fun w1 hw1=>jKv q.table _ w1 ((Rd.own 0 rfl).at hw1) (by omega)) (HL.back [1] I I (zd ?_));refine HD.one I (qL (r:=fun zz:SV=> .tuple ⟨[.agg ⟨ndC { V3 with ou:=zz,bo:=y2,ta:=(a5,c5) } (queue q (ZG q)).1⟩,.bool (queue q (ZG q)).2]⟩) (Q:=fun _=>True) (G:=fun zz=>[cSn (sv zz (queue q (ZG q)).1.out.length) (queue q (ZG q)).1.out]) jQQ I I (fun w1 hw1=>jCJ { V3 with ou:=y1,bo:=y2,ta:=(a5,c5) } q (ZG q) w1 ((Rd.own 4 rfl).at hw1) (by omega) hqo.lost) ?_);intro zz _;refine HL.back [2] I I (zd ?_);refine yZ (YU I I I ?_);refine YU I I I (HT.one I (zn ?_));refine hj (((a5,c5),[cTa (.slice a5 q.table.length c5) q.table]),zz) _ _ (fun w2 _ hgp=>?_) ⟨I,I,I,trivial⟩ ?_
    ·rw [hbe,(kX _ _).1];exact jV hgp.1
    ·rw [hbe];exact Ent.trans (Ent.pick [1,2,3,0,6,7,8,9,10,11] I I) (Ent.trans (Ent.group (G:=[cTa (.slice a5 q.table.length c5) q.table])) (Ent.pick [1,2,0,3,4,5,6,7,8,9] I I))
   ·have h4:(!waits q 1&&decide ((q.out.length:Int)<16))=false:=h4;have h6:¬(waits q 1=false/\(q.out.length:Int)<16):=by simpa using h4
    have h5:¬(waits q 1=false/\q.out.length<16):=fun e=>h6 ⟨e.1,by omega⟩
    rw[if_neg h5]at hbe;refine HR.skip (hj (((a5,c5),[cTa (.slice a5 q.table.length c5) q.table]),y1) _ _ (fun w2 _ hgp=>?_) ⟨I,I,I,trivial⟩ ?_)
    ·rw [hbe];exact jV hgp.1
    ·rw [hbe];exact Ent.trans (Ent.group (G:=[cTa (.slice a5 q.table.length c5) q.table])) (Ent.pick [1,2,0,4,5,6,7,8,9,10] I I)
  ·have h2:((a.poll==0)&&(T%8==a.addr%8))=false:=h2;have h3:¬(a.poll=0/\T%8=a.addr%8):=by simpa using h2
   rw[if_neg h3]at hg;refine HR.skip (hj ((V3.ta,Gt),y1) _ _ (fun w2 h2 hgp=>?_) ⟨I,I,I,trivial⟩ ?_)
   ·rw [hg,hV3t];exact hta0 w2 h2 hgp
   ·rw [hg];exact Ent.refl
 obtain ⟨⟨xg,Gg⟩,y3⟩:=x;have hx:∀w2,OkN w2 V n->(jC Gg).p w2->Sl w2 (sv xg g.table.length) (cellsOf roC g.table) g.table.length:=hx;have hgo:Ord g:=by rw[hg];split;exact (jAo (Good.refl hao)).ord;exact hao
 have hga:∃t q lo,g={ a with table:=t,out:=q,lost:=lo }:=by
  rw[hg]
  split
  ·unfold zP
   split
   ·obtain ⟨q,lo,e⟩:=Zu (bumped a) (ZG (bumped a));exact ⟨_,q,lo,by rw[e];rfl⟩
   ·exact ⟨jB6 a.table a.addr,a.out,a.lost,rfl⟩
  ·exact ⟨a.table,a.out,a.lost,rfl⟩
 obtain ⟨t1,q1,lo1,hge⟩:=hga;have hgb:g.boxes=a.boxes:=by rw[hge]
 repeat' (first|refine zh ?_|apply zb ?_ ?_|exact zc|(refine zi fun hb=>?_;try simp at hb)|fail)
 refine HR.join (ι:=(SV×List Chunk)×SV) (fun x=>∀w2,OkN w2 V n->(jC x.1.2).p w2->Sl w2 (sv x.1.1 z.table.length) (cellsOf roC z.table) z.table.length) (fun _=>[(1,.int .i64 T),(2,ptr b2),(4,ptr b4)]) (fun x=>[jS b2 (ndC { V3 with ou:=x.2,bo:=y2,ta:=x.1.1 } z) 62,rsC b4,jC x.1.2,cSn (sv x.2 z.out.length) z.out,cMa (sv y2 a.boxes.length) a.boxes,cI (sv V2.ch m.children.length) m.children,cPr (sv V2.se m.seen.length) m.seen,cDe (sv V2.ib m.inbox.length) m.inbox,cPt (.slice a3 ps.length c3) ps,jC (ptG ps)]) (fun x hx2=>?_) (fun hj=>?_)
 rotate_left
 ·refine HR.cond I (fun h2=>?_) (fun h2=>?_)
  ·have h2:((decide (g.poll>0)&&!(g.parent==255))&&(T%g.poll==0))=true:=h2;have h3:g.poll>0/\g.parent≠255/\T%g.poll=0:=by simpa[and_assoc]using h2
   rw[if_pos h3]at hz;have hqo:=jAL hgo;have hqt:=jFa hqo;have hq16:=hqo.out;have hat:=jFa hgo;obtain ⟨q,hq⟩:∃q,q=bumped g:=⟨_,rfl⟩;have hbe:z=if waits q 3=false then (queue q (jB7 q)).1 else q:=by rw[hz,hq];rfl
   refine zh ?_;refine qI jTV I I (fun w1 hw1=>jCq g.table g.addr _ w1 (hx w1 (h.ext hw1.jF) (QF 2 hw1 I)) (by omega)) ?_;intro v5;refine HL.shape 0 I fun a5 c5 hv=>?_
   subst hv;refine zn ?_;refine qR (H':=[cTa (.slice a5 (bumped g).table.length c5) (bumped g).table,jS b2 (ndC { V3 with ou:=y3,bo:=y2,ta:=(a5,c5) } (bumped g)) 62,rsC b4,jC Gg,cSn (sv y3 (bumped g).out.length) (bumped g).out,cMa (sv y2 a.boxes.length) a.boxes,cI (sv V2.ch m.children.length) m.children,cPr (sv V2.se m.seen.length) m.seen,cDe (sv V2.ib m.inbox.length) m.inbox,cPt (.slice a3 ps.length c3) ps,jC (ptG ps)]) (Ent.pick [0,1,2,3,4,5,6,7,8,9,10] I I) ?_;rw[<- hq];rw[<- hq]at hqo hqt hq16;refine zh ?_;refine qB jTU I I (fun w1 hw1=>jDs { V3 with ou:=y3,bo:=y2,ta:=(a5,c5) } q 3 w1 ((Rd.own 4 rfl).at hw1) (by omega)) (zh ?_);refine HR.cond I (fun h4=>?_) (fun h4=>?_)
   ·have h5:waits q 3=false:=by simpa using h4
    rw[if_pos h5]at hbe;refine yM [(0,true),(1,true),(2,true),(3,true),(4,true),(5,true),(6,true),(7,true),(8,true),(9,true),(10,false),(11,true),(12,false),(13,true)] [(14,true),(15,true),(16,false)] [14,15,16] [1] I I j3 (by kernel_rfl) (zd ?_);refine HD.one I (qB jTT I I (fun w1 hw1=>jJg { V3 with ou:=y3,bo:=y2,ta:=(a5,c5) } q w1 ((Rd.own 0 rfl).at hw1) (by omega)) ?_);refine HL.back [1] I I (zd ?_);refine HD.one I (qL (r:=fun zz:SV=> .tuple ⟨[.agg ⟨ndC { V3 with ou:=zz,bo:=y2,ta:=(a5,c5) } (queue q (jB7 q)).1⟩,.bool (queue q (jB7 q)).2]⟩) (Q:=fun _=>True) (G:=fun zz=>[cSn (sv zz (queue q (jB7 q)).1.out.length) (queue q (jB7 q)).1.out]) jQQ I I (fun w1 hw1=>jCJ { V3 with ou:=y3,bo:=y2,ta:=(a5,c5) } q (jB7 q) w1 ((Rd.own 4 rfl).at hw1) (by omega) hqo.lost) ?_);intro zz _;refine HL.back [2] I I (zd ?_);refine yZ (YU I I I ?_);refine YU I I I (HT.one I (zn ?_));refine hj (((a5,c5),[cTa (.slice a5 q.table.length c5) q.table]),zz) _ _ (fun w2 _ hgp=>?_) ⟨I,I,I,trivial⟩ ?_
    ·rw [hbe,(kX _ _).1];exact jV hgp.1
    ·rw [hbe];exact Ent.trans (Ent.pick [1,2,3,0,6,7,8,9,10,11] I I) (Ent.trans (Ent.group (G:=[cTa (.slice a5 q.table.length c5) q.table])) (Ent.pick [1,2,0,3,4,5,6,7,8,9] I I))
   ·have h5:¬waits q 3=false:=by simpa using h4
    rw[if_neg h5]at hbe;refine HR.skip (hj (((a5,c5),[cTa (.slice a5 q.table.length c5) q.table]),y3) _ _ (fun w2 _ hgp=>?_) ⟨I,I,I,trivial⟩ ?_)
    ·rw [hbe];exact jV hgp.1
    ·rw [hbe];exact Ent.trans (Ent.group (G:=[cTa (.slice a5 q.table.length c5) q.table])) (Ent.pick [1,2,0,4,5,6,7,8,9,10] I I)
  ·have h2:((decide (g.poll>0)&&!(g.parent==255))&&(T%g.poll==0))=false:=h2;have h3:¬(g.poll>0/\g.parent≠255/\T%g.poll=0):=by
    intro e;have:((decide (g.poll>0)&&!(g.parent==255))&&(T%g.poll==0))=true:=by simpa[and_assoc]using e
    rw[h2]at this;cases this
   rw[if_neg h3]at hz;refine HR.skip (hj ((xg,Gg),y3) _ _ (fun w2 h2 hgp=>?_) ⟨I,I,I,trivial⟩ ?_)
   ·rw [hz];exact hx w2 h2 hgp
   ·rw [hz];exact Ent.refl
 obtain ⟨⟨xz,Gz⟩,y4⟩:=x;have hx2:∀w2,OkN w2 V n->(jC Gz).p w2->Sl w2 (sv xz z.table.length) (cellsOf roC z.table) z.table.length:=hx2;have hza:∃t q lo,z={ g with table:=t,out:=q,lost:=lo }:=by
  rw[hz]
  split
  ·unfold poll
   split
   ·obtain ⟨q,lo,e⟩:=Zu (bumped g) (jB7 (bumped g));exact ⟨_,q,lo,by rw[e];rfl⟩
   ·exact ⟨jB6 g.table g.addr,g.out,g.lost,rfl⟩
  ·exact ⟨g.table,g.out,g.lost,rfl⟩
 obtain ⟨t2,q2,lo2,hze⟩:=hza;have f1:z.links=m.links:=by rw[hze,hge,hpe0]
 have f2:z.boxes=a.boxes:=by rw[hze,hge]
 have f3:z.children=m.children:=by rw[hze,hge,hpe0]
 have f4:z.seen=m.seen:=by rw[hze,hge,hpe0]
 have f5:z.inbox=m.inbox:=by rw[hze,hge,hpe0]
 have f6:z.parts=jAr m.parts T 120:=by rw[hze,hge,hpe0]
 refine zh ?_;refine HR.ret Tryz.func46 I [_] (fun w hw=>⟨⟨_,rfl,jQ hw 1 I I I I rfl⟩,trivial⟩) ?_;refine fun w' hw=>⟨({ V3 with ou:=y4,bo:=y2,ta:=xz },[jC Gz,cSn (sv y4 z.out.length) z.out,cMa (sv y2 a.boxes.length) a.boxes,cI (sv V2.ch m.children.length) m.children,cPr (sv V2.se m.seen.length) m.seen,cDe (sv V2.ib m.inbox.length) m.inbox,cPt (.slice a3 ps.length c3) ps,jC (ptG ps)]),rfl,fun w2 h2 hgp=>?_,?_⟩
 ·refine ⟨hx2 w2 h2 (jK hgp (List.mem_cons_self ..)),?_,jV (jK hgp (c:=cSn (sv y4 z.out.length) z.out) (by simp)),?_,?_,?_,?_,?_,?_⟩
  ·rw [f1,hV3];exact hR.li w2 h2.li
  ·rw [f3,hV3];exact jV (jK hgp (c:=cI (sv V2.ch m.children.length) m.children) (by simp))
  ·rw [f2];exact jV (jK hgp (c:=cMa (sv y2 a.boxes.length) a.boxes) (by simp))
  ·rw [f4,hV3];exact jV (jK hgp (c:=cPr (sv V2.se m.seen.length) m.seen) (by simp))
  ·rw [hV3];have hgq:(jC (ptG ps)).p w2:=jK hgp (by simp);exact ⟨jV (jK hgp (c:=cPt (.slice a3 ps.length c3) ps) (by simp)),fun p hp=>⟨jV (jK hgq (Kg hp).1),jV (jK hgq (Kg hp).2)⟩⟩
  ·rw [f5,hV3];exact jV (jK hgp (c:=cDe (sv V2.ib m.inbox.length) m.inbox) (by simp))
  ·rw [f6,hV3];exact hq1
 ·exact Ent.trans (Ent.pick [2,3,4,5,6,7,8,9] I I) (Ent.group (G:=[jC Gz,cSn (sv y4 z.out.length) z.out,cMa (sv y2 a.boxes.length) a.boxes,cI (sv V2.ch m.children.length) m.children,cPr (sv V2.se m.seen.length) m.seen,cDe (sv V2.ib m.inbox.length) m.inbox,cPt (.slice a3 ps.length c3) ps,jC (ptG ps)]) (H:=[])) w' hw
theorem fn47:IsFn Tryz.prog 47:=zF Tryz.func47 I
theorem jGu {l:List Sn} {i:Nat} {x:Sn} (hx:l[i]? =some x):∀(k:Nat) u,(frC x.f)[k]? =some u->(cellsOf snC l)[i*11+0+k]? =some u:=by
 intro k u hk;refine jJ jU hx (i:=k) ?_;show (frC x.f++[.int .i64 x.tr,.int .i64 x.wt])[k]? =some u;rw[List.getElem?_append_left (List.getElem?_eq_some_iff.1 hk).1];exact hk
theorem jM7 {q:List Sn} {i:Nat} {ok:Bool} (h:∀s∈q,fits .i64 s.tr):∀s∈(ZU q i ok).1,fits .i64 s.tr:=by
 have h16:∀s∈q.take 16,fits .i64 s.tr:=fun s hs=>h s (List.mem_of_mem_take hs)
 have hm:∀s:Sn,fits .i64 (jm s):=fun s=>by
  have:0<=jm s/\jm s<=8:=by unfold jm;omega
  show -9223372036854775808<=jm s/\jm s<=9223372036854775807;omega
 unfold ZU;intro s hs
 split at hs
 ·exact h16 s hs
 ·split at hs
  ·exact h16 s (List.mem_of_mem_eraseIdx hs)
  ·split at hs
   ·exact h16 s (List.mem_of_mem_eraseIdx hs)
   ·rcases List.mem_or_eq_of_mem_set hs with hs|hs
    ·exact h16 s hs
    ·rw [hs];exact hm _
theorem jLw (p:Nd) (c:Int):((((p.poll==0)&&(hop p c).2)&&((hop p c).1==c))&&decide ((hop p c).1∈p.children))=((p.poll==0)&&Ji p c):=by
 by_cases h0:p.poll=0
 ·have hh:hop p c=zy p.table c:=by unfold hop;rw[if_neg (by omega)]
  unfold Ji;rw[hh]
  by_cases h1:(zy p.table c).1=c
  ·rw [h1];simp[h0,Bool.and_comm]
  ·have h2:((zy p.table c).1==c)=false:=by simpa using h1
   rw[h2];simp
 ·have h2:(p.poll==0)=false:=by simpa using h0
  rw[h2];simp
theorem jMG (V:NV) (n:Nd) (now:Int) (w:World) (h:OkN w V n) (hs:SmN n) (hf:∀s∈n.out,fits .i64 s.tr):
  Calls Tryz.prog 47 #[.agg ⟨ndC V n⟩,.int .i64 now] w fun e w'=>∃x:NV×List Chunk,e= .returned (.tuple ⟨[.agg ⟨ndC x.1 (talk n now).1⟩,.agg ⟨frC (talk n now).2.1⟩,.bool (talk n now).2.2]⟩)/\Imp V n x.1 x.2 (talk n now).1/\Sat (base w) [jC x.2] w':=by
 obtain ⟨m,hm⟩:∃m,m=order n:=⟨_,rfl⟩;have ho:Ord m:=by rw[hm];exact JJ n
 have h16:=ho.out;have hmp:m.parts=n.parts:=by rw[hm];rfl
 have hmf:∀s∈m.out,fits .i64 s.tr:=fun s hs=>hf s (List.mem_of_mem_take (by rw[hm]at hs;exact hs))
 obtain ⟨T,hT⟩:∃T,T=tick now:=⟨_,rfl⟩;obtain ⟨Z,hZ⟩:∃Z,Z=talk n now:=⟨_,rfl⟩;have hZ0:Z=J7 T 17 m 0:=by rw[hZ,hT,hm];rfl
 rw[<- hZ];refine zE Tryz.func47 I [(0,.agg ⟨ndC V n⟩),(1,.int .i64 now)] ?_;refine HR.ctl I (HR.region ?_);refine HL.box I I ?_;intro b2;refine HL.alloc I I ?_;intro b4;refine HL.alloc I I ?_;intro b5;refine zh ?_;refine qL (r:=fun x:NV×List Chunk=> .agg ⟨ndC x.1 m⟩) (Q:=fun x=>ROk V n x.1 x.2 m) (G:=fun x=>roH x.1 x.2 m) jSf I I (fun w1 hw1=>by rw[hm];exact kE V n w1 (h.ext hw1.jF) hs) ?_
 rintro ⟨V2,Gt⟩ hR
 have hR:ROk V n V2 Gt m:=hR;refine qM (Ent.pick [8,7,6,0,1,2,3,4,5] I I) (zh ?_);have fin:∀(p:Nd) (y1 y2:SV) (q:List Sn) (bx:List Ma) (lo:Int),p={ m with out:=q,boxes:=bx,lost:=lo }->∀w',Sat (base w) [jC Gt,cSn (sv y1 p.out.length) p.out,cMa (sv y2 p.boxes.length) p.boxes,cI (sv V2.ch m.children.length) m.children,cPr (sv V2.se m.seen.length) m.seen,cDe (sv V2.ib m.inbox.length) m.inbox] w'->Imp V n { V2 with ou:=y1,bo:=y2 } (roH { V2 with ou:=y1,bo:=y2 } Gt p) p/\Sat (base w) [jC (roH { V2 with ou:=y1,bo:=y2 } Gt p)] w':=by
  rintro p y1 y2 q bx lo rfl w' hw
  exact ⟨(hR.set (V'':={ V2 with ou:=y1,bo:=y2 }) (m':={ m with out:=q,boxes:=bx,lost:=lo }) I I I I I rfl).okn hmp,Ent.group (G:=roH { V2 with ou:=y1,bo:=y2 } Gt _) (H:=[]) w' hw⟩
 refine HR.loop (ι:=Nat×Nat×Nd×SV×SV) (fun x=>Ord x.2.2.1/\(∃ q bx lo,x.2.2.1={ m with out:=q,boxes:=bx,lost:=lo })/\Z=J7 T x.2.1 x.2.2.1 x.1/\x.1<=x.2.2.1.out.length/\x.2.2.1.out.length<x.1+x.2.1/\∀s∈x.2.2.1.out,fits .i64 s.tr) (fun x=>[(1,.int .i64 now),(2,ptr b2),(4,ptr b4),(5,ptr b5),(7,.int .i64 (x.1:Int))]) (fun x=>[jS b2 (ndC { V2 with ou:=x.2.2.2.1,bo:=x.2.2.2.2 } x.2.2.1) 62,rsC b4,rfC b5,jC Gt,cSn (sv x.2.2.2.1 x.2.2.1.out.length) x.2.2.1.out,cMa (sv x.2.2.2.2 x.2.2.1.boxes.length) x.2.2.1.boxes,cI (sv V2.ch m.children.length) m.children,cPr (sv V2.se m.seen.length) m.seen,cDe (sv V2.ib m.inbox.length) m.inbox]) (fun x=>x.2.2.1.out.length-x.1) (0,17,m,V2.ou,V2.bo) ⟨ho,⟨m.out,m.boxes,m.lost,rfl⟩,hZ0,Nat.zero_le _,by show m.out.length<0+17;omega,hmf⟩ ⟨I,I,I,I,I,trivial⟩ Ent.refl ?_
 rintro ⟨i,K,p,y1,y2⟩ ⟨hpo,hpm,hZ1,hi,hK,hpf⟩ ih
 have hpo:Ord p:=hpo;obtain ⟨q0,bx0,lo0,hpe⟩:=hpm;have hpe0:p={ m with out:=q0,boxes:=bx0,lost:=lo0 }:=hpe;have hpf0:∀s∈p.out,fits .i64 s.tr:=hpf;have hZ1:Z=J7 T K p i:=hZ1;have hi:i<=p.out.length:=hi;have hK:p.out.length<i+K:=hK;have hp16:=hpo.out;have hpb16:=hpo.boxes;have hpk:=jRM hpo;have hp24:=jFa hpo;have hpt:p.table=m.table:=by rw[hpe0]
 have hpc:p.children=m.children:=by rw[hpe0]
 obtain ⟨K,rfl⟩:∃K',K=K'+1:=⟨K-1,by omega⟩;refine zh ?_;refine HR.cond I (fun h1=>?_) (fun h1=>?_)
 rotate_left
 ·have h1:¬(i:Int)<(p.out.length:Int):=of_decide_eq_false h1;have hZ2:Z=(p,fr0,false):=by
   rw[hZ1,J7,show p.out[i]? =none from List.getElem?_eq_none (by omega)]
  rw[hZ2];refine zh ?_;refine HR.ret Tryz.func47 I [_,_,_] (fun w hw=>⟨⟨_,rfl,jQ hw 1 I I I I rfl⟩,⟨_,rfl,jQ hw 2 I I I I rfl⟩,rfl,trivial⟩) ?_;intro w' hw;obtain ⟨f1,f2⟩:=fin p y1 y2 _ _ _ hpe0 w' (hw.pick [3,4,5,6,7,8] I I);exact ⟨(_,_),rfl,f1,f2⟩
 have h1:(i:Int)<(p.out.length:Int):=of_decide_eq_true h1;have hlt:i<p.out.length:=by omega
 obtain ⟨x,hx⟩:=jG hlt;have hcl:(cellsOf snC p.out).length=p.out.length*11:=jA jU _;rw[jDn hx]at hZ1
 repeat' (first|refine zh ?_|refine qE (Rd.own 4 I) jy i I I I I hlt ?_|refine qP 0 (Rd.own 4 I) (by rw[hcl];omega) I I I I I I I ?_|refine qN (Rd.own 4 I) I I I I (by simp) I (jGu hx) ?_|refine qE (Rd.own 5 I) jy i I I I I hlt ?_|refine qP 10 (Rd.own 5 I) (by rw[hcl];omega) I I I I I I I ?_|refine qF (Rd.own 5 I) I I I I (jJ jU hx (i:=10) I) ?_|intro (bk:Nat))
 refine HR.cond I (fun h2=>?_) (fun h2=>?_)
 ·have h2:x.wt>0:=of_decide_eq_true h2;rw[if_pos h2]at hZ1;refine zh ?_;exact ih (i+1,K,p,y1,y2) _ _ ⟨hpo,⟨q0,bx0,lo0,hpe0⟩,hZ1,hlt,by show p.out.length<i+1+K;omega,hpf0⟩ (by show p.out.length-(i+1)<p.out.length-i;omega) ⟨I,I,I,I,I,trivial⟩ (Ent.pick [1,2,3,4,5,6,7,8,9] I I)
 have h2:¬x.wt>0:=of_decide_eq_false h2;rw[if_neg h2]at hZ1
 repeat' (first|refine zh ?_|apply zb ?_ ?_|exact zc|(refine zi fun hb=>?_;try simp at hb)|fail)
 refine HR.cond I (fun h3=>?_) (fun h3=>?_)
 ·have h3:(!(x.f.kd==2)||!(x.f.dst==255))=true:=h3;have h4:x.f.kd≠2\/x.f.dst≠255:=by simpa using h3
  rw[if_pos h4]at hZ1;rw[hZ1];refine zh ?_;refine qO [(0,true),(1,true),(2,false),(3,false),(4,true)] [0,1] I I j3 (by kernel_rfl) (zd ?_);refine HD.one I (qV 2 I I I I I ?_);refine HL.back [0,1] I I (HD.one I ?_);refine qV 3 I I I I I (HL.back [0,1] I I (zd ?_));refine HD.nil (HR.ret Tryz.func47 I [_,_,_] (fun w hw=>⟨⟨_,rfl,jQ hw 2 I I I I rfl⟩,⟨_,rfl,jQ hw 3 I I I I rfl⟩,rfl,trivial⟩) ?_);intro w' hw;obtain ⟨f1,f2⟩:=fin p y1 y2 _ _ _ hpe0 w' (hw.pick [4,5,6,7,8,9] I I);exact ⟨(_,_),rfl,f1,f2⟩
 have h3:(!(x.f.kd==2)||!(x.f.dst==255))=false:=h3;have h4:¬(x.f.kd≠2\/x.f.dst≠255):=by
  intro e;have:(!(x.f.kd==2)||!(x.f.dst==255))=true:=by simpa using e
  rw[h3]at this;cases this
 rw[if_neg h4]at hZ1
 repeat' (first|refine zh ?_|refine qB fn106 I I (fun w1 hw1=>jKi { V2 with ou:=y1,bo:=y2 } p x.f.ta w1 (by rw[hpt];exact hR.ta w1 (h.ext hw1.jF).ta (QF 4 hw1 I)) (by omega)) ?_|refine qB fn107 I I (fun w1 hw1=>jKq p.children (hop p x.f.ta).1 _ w1 (by rw[hpc];exact (Rd.own 7 rfl).at hw1) (by omega)) ?_|apply zb ?_ ?_|exact zc|(refine zi fun hb=>?_;try simp at hb)|fail)
 refine HR.cond I (fun h5=>?_) (fun h5=>?_)
 ·have h5:((((p.poll==0)&&(hop p x.f.ta).2)&&((hop p x.f.ta).1==x.f.ta))&&decide ((hop p x.f.ta).1∈p.children))=true:=h5;have e1:(hop p x.f.ta).1=x.f.ta:=by
   simp only[Bool.and_eq_true]at h5;exact eq_of_beq h5.1.2
  rw[jLw]at h5;have h6:p.poll=0/\Ji p x.f.ta=true:=by simpa using h5
  rw[if_pos h6]at hZ1;have hel:(p.out.eraseIdx i).length=p.out.length-1:=List.length_eraseIdx_of_lt hlt;have ho1:Ord { p with out:=p.out.eraseIdx i }:=hpo.Zr (by omega);obtain ⟨P,hP⟩:∃P,P=box { p with out:=p.out.eraseIdx i } { x.f with dst:=x.f.ta } T:=⟨_,rfl⟩;have hPo:Ord P:=by rw[hP];exact ho1.box _ _
  have hPout:P.out=p.out.eraseIdx i:=by rw[hP];exact jDV _ _ _
  have hPe:∃q bx lo,P={ m with out:=q,boxes:=bx,lost:=lo }:=by
   obtain ⟨q,l,e⟩:=jKJ { p with out:=p.out.eraseIdx i } { x.f with dst:=x.f.ta } T;exact ⟨p.out.eraseIdx i,q,l,by rw[hP,e,hpe0]⟩
  have hPf:∀s∈P.out,fits .i64 s.tr:=by rw[hPout];exact fun s hs=>hpf0 s (List.mem_of_mem_eraseIdx hs)
  rw[<- hP]at hZ1;rw[e1];refine zh ?_;refine qI fn99 I I (fun w1 hw1=>jBm p.out i _ w1 ((Rd.own 5 rfl).at hw1) (by omega) hlt) ?_;intro v4;refine HL.shape 0 I fun a4 c4 hv=>?_
  subst hv;refine zh ?_;refine qU [(0,true),(1,true),(2,true),(3,false),(4,false)] 5 [1,2] I I j3 (by kernel_rfl) (zd ?_);refine HD.one I (qB (r:= .int .i64 T) fn95 I I (fun w1 _=>by rw[hT];exact jAx now w1) ?_);refine HL.back [1,2] I I (HD.one I ?_);refine qL (r:=fun y:SV=> .agg ⟨ndC { V2 with ou:=(a4,c4),bo:=y } P⟩) (Q:=fun _=>True) (G:=fun y=>[cMa (sv y P.boxes.length) P.boxes]) jTW I I (fun w1 hw1=>by rw[hP];exact jFv { V2 with ou:=(a4,c4),bo:=y2 } { p with out:=p.out.eraseIdx i } { x.f with dst:=x.f.ta } T w1 ((Rd.own 7 rfl).at hw1) (show p.boxes.length<=1000 by omega) hpo.lost) ?_;intro y _;refine HL.back [2,3] I I (qo I (zn ?_));refine zh ?_;refine ih (i,K,P,(a4,c4),y) _ _ ⟨hPo,hPe,hZ1,by show i<=P.out.length;rw[hPout];omega,by show P.out.length<i+K;rw[hPout];omega,hPf⟩ (by show P.out.length-i<p.out.length-i;rw[hPout];omega) ⟨I,I,I,I,I,trivial⟩ ?_;show Ent _ _ [_,_,_,_,cSn (sv (a4,c4) P.out.length) P.out,_,_,_,_];rw[hPout];exact Ent.pick [3,4,5,6,1,0,9,10,11] I I
 have h5:((((p.poll==0)&&(hop p x.f.ta).2)&&((hop p x.f.ta).1==x.f.ta))&&decide ((hop p x.f.ta).1∈p.children))=false:=h5;rw[jLw]at h5;have h6:¬(p.poll=0/\Ji p x.f.ta=true):=by
  intro e;have:((p.poll==0)&&Ji p x.f.ta)=true:=by simpa using e
  rw[h5]at this;cases this
 rw[if_neg h6]at hZ1;refine zh ?_;refine HR.cond I (fun h7=>?_) (fun h7=>?_)
 ·have h7:(hop p x.f.ta).2=true:=h7;rw[if_pos h7]at hZ1;rw[hZ1];refine zh ?_;refine qO [(0,true),(1,true),(2,false),(3,false),(4,true)] [0,1] I I j3 (by kernel_rfl) (zd ?_);refine HD.one I (qV 2 I I I I I ?_);refine HL.back [0,1] I I (HD.one I ?_);refine qV 3 I I I I I (HL.back [0,1] I I (zd ?_));refine HD.nil (HR.ret Tryz.func47 I [_,_,_] (fun w hw=>⟨⟨_,rfl,jQ hw 2 I I I I rfl⟩,⟨_,rfl,jQ hw 3 I I I I rfl⟩,rfl,trivial⟩) ?_);intro w' hw;obtain ⟨f1,f2⟩:=fin p y1 y2 _ _ _ hpe0 w' (hw.pick [4,5,6,7,8,9] I I);exact ⟨(_,_),rfl,f1,f2⟩
 have h7:¬(hop p x.f.ta).2=true:=by rw[show (hop p x.f.ta).2=false from h7];decide
 rw[if_neg h7]at hZ1;have hmf:=jEH hp16 hlt;have hml:=kr p.out i false;have hmt:=jM7 (i:=i) (ok:=false) hpf0;obtain ⟨r,hr⟩:∃r,r=ZU p.out i false:=⟨_,rfl⟩;rw[<- hr]at hZ1 hmf hml hmt;have hor:Ord { p with out:=r.1 }:=hpo.Zr hml;refine zh ?_;refine qL (r:=fun v':Value=> .tuple ⟨[v',.bool r.2]⟩) (Q:=fun _=>True) (G:=fun v'=>[cSn v' r.1]) jTS I I (fun w1 hw1=>by have:=jA0 p.out (i:Int) false _ w1 ((Rd.own 5 rfl).at hw1) (by omega) hpf0 (by omega);rw[Int.toNat_natCast]at this;rw[hr];exact this) ?_;intro v1 _;refine HL.shape 0 I fun a c hv=>?_
 subst hv;refine zh ?_;refine HR.cond I (fun h8=>?_) (fun h8=>?_)
 ·have h8:r.2=true:=h8;rw[if_pos h8]at hZ1;have hlen:r.1.length+1=p.out.length:=by
   rcases hmf with e|e
   ·exact e.2
   ·rw [h8]at e;cases e.1
  refine zh ?_;refine qB jLR I I (fun w1 _=>kF { V2 with ou:=(a,c),bo:=y2 } { p with out:=r.1 } w1 hpo.lost) (zh ?_);exact ih (i,K,lose { p with out:=r.1 },(a,c),y2) _ _ ⟨hor.lose,⟨r.1,bx0,min (lo0+1) jw,by rw[hpe0];rfl⟩,hZ1,by show i<=r.1.length;omega,by show r.1.length<i+K;omega,hmt⟩ (by show r.1.length-i<p.out.length-i;omega) ⟨I,I,I,I,I,trivial⟩ (Ent.pick [2,3,4,5,0,7,8,9,10] I I)
 ·have h8:r.2=false:=h8;rw[if_neg (by rw[h8];decide)]at hZ1;have hlen:r.1.length=p.out.length:=by
   rcases hmf with e|e
   ·rw [h8]at e;cases e.1
   ·exact e.2
  refine zh ?_;exact ih (i+1,K,{ p with out:=r.1 },(a,c),y2) _ _ ⟨hor,⟨r.1,bx0,lo0,by rw[hpe0]⟩,hZ1,by show i+1<=r.1.length;omega,by show r.1.length<i+1+K;omega,hmt⟩ (by show r.1.length-(i+1)<p.out.length-i;omega) ⟨I,I,I,I,I,trivial⟩ (Ent.pick [2,3,4,5,0,7,8,9,10] I I)
theorem fn190:IsFn Tryz.prog 190:=zF Tryz.func190 I
theorem jE2 (V:NV) (n:Nd) (f:Fr) (w:World) (ht:Sl w (sv V.ta n.table.length) (cellsOf roC n.table) n.table.length) (hli:Sl w (sv V.li n.links.length) (cellsOf liC n.links) n.links.length) (ho:Ord n) (hfd:f.da.length<=1000):
  Calls Tryz.prog 190 #[.agg ⟨ndC V n⟩,.agg ⟨frC f⟩] w fun e w'=>∃x:(SV×SV)×List Chunk,e= .returned (.agg ⟨ndC { V with ta:=x.1.1,li:=x.1.2 } (jT n f)⟩)/\(∀ w2,Sl w2 (sv V.ta n.table.length) (cellsOf roC n.table) n.table.length->(jC x.2).p w2->Sl w2 (sv x.1.1 (jT n f).table.length) (cellsOf roC (jT n f).table) (jT n f).table.length/\Sl w2 (sv x.1.2 (jT n f).links.length) (cellsOf liC (jT n f).links) (jT n f).links.length)/\Sat (base w) [jC x.2] w':=by
 have h24:=jFa ho;have l24:=llen ho;obtain ⟨a,ha⟩:∃a:Nd,a={ n with links:=JD n.links f.fr true }:=⟨_,rfl⟩;have hal:(JD n.links f.fr true).length<=24:=jDA (jAA _ _ _);obtain ⟨d,hd⟩:∃d,d=jAp f.da:=⟨_,rfl⟩;obtain ⟨g,hg⟩:∃g:Nd,g={ n with links:=JD n.links f.fr true,table:=jBR n.table n.addr f.fr (kM (JD n.links f.fr true) f.fr) d.1 }:=⟨_,rfl⟩;obtain ⟨Z,hZ⟩:∃Z,Z=jT n f:=⟨_,rfl⟩;have hsp:Z=if d.2≠0 then { n with links:=JD n.links f.fr true } else if g.poll>0/\g.parent=255/\(zy d.1 0).2=true then { g with parent:=f.fr } else g:=by rw[hZ,hg,hd];rfl
 rw[<- hZ];refine zE Tryz.func190 I [(0,.agg ⟨ndC V n⟩),(1,.agg ⟨frC f⟩)] ?_;refine HR.ctl I (HR.region ?_);refine HL.box I I ?_;intro b2;refine HL.box I I ?_;intro b3;refine HL.alloc I I ?_;intro b4;refine zh ?_;refine qI jS7 I I (fun w1 hw1=>jCs n.links f.fr true _ w1 ((qA hli).at hw1) (by omega)) ?_;intro v1;refine HL.shape 0 I fun a1 c1 hv=>?_
 subst hv;refine zh ?_;refine qL (r:=fun v':Value=> .tuple ⟨[v',.int .i64 d.2]⟩) (Q:=fun _=>True) (G:=fun v'=>[cTa v' d.1]) fn238 I I (fun w1 _=>by rw[hd];exact jKw f.da w1 (by omega)) ?_;intro v2 _;refine zh ?_;refine HR.cond I (fun h1=>?_) (fun h1=>?_)
 ·have h1:d.2≠0:=by simpa using h1
  rw[if_pos h1]at hsp;rw[hsp];refine zh ?_;refine HR.ret Tryz.func190 I [_] (fun w hw=>⟨⟨_,rfl,jQ hw 2 I I I I rfl⟩,trivial⟩) ?_;refine fun w' hw=>⟨((V.ta,(a1,c1)),[cLi (.slice a1 (JD n.links f.fr true).length c1) (JD n.links f.fr true)]),rfl,fun w2 h2 hg=>⟨h2,jV hg.1⟩,?_⟩
  exact Ent.trans (Ent.pick [1] I I) (Ent.group (G:=[cLi (.slice a1 (JD n.links f.fr true).length c1) (JD n.links f.fr true)]) (H:=[])) w' hw
 have h1:¬d.2≠0:=by simpa using h1
 rw[if_neg h1]at hsp;have h0:(jAp f.da).2=0:=by rw[<- hd];omega
 obtain ⟨g1,g2,g3⟩:=jMU h0;rw[<- hd]at g1 g2 g3;refine zh ?_;refine qU [(0,true),(1,true),(2,true),(3,true),(4,true),(5,true),(6,true),(7,true),(8,true),(9,true),(11,true),(10,false),(12,false),(13,true)] 14 [3,4] I I j3 (by kernel_rfl) (zd ?_);refine HD.one I (qB fn240 I I (fun w1 hw1=>jHr (JD n.links f.fr true) f.fr _ w1 ((Rd.own 1 rfl).at hw1) (by omega)) ?_);refine HL.back [3,4] I I (HD.one I ?_);refine qI jSp I I (fun w1 hw1=>jD7 n.table n.addr f.fr (kM (JD n.links f.fr true) f.fr) d.1 _ v2 w1 ((qA ht).at hw1) ((Rd.own 0 rfl).at hw1) (by omega) (by omega)) ?_;intro v3;refine HL.shape 0 I fun a3 c3 hv=>?_
 subst hv;refine HL.back [4,5] I I (zd ?_);refine qo I (zn ?_)
 repeat' (first|refine zh ?_|refine qB jTR I I (fun w1 hw1=>jD8 d.1 0 v2 w1 ((Rd.own 1 rfl).at hw1) (by omega)) ?_|apply zb ?_ ?_|exact zc|(refine zi fun hb=>?_;try simp at hb)|fail)
 have htl:(jBR n.table n.addr f.fr (kM (JD n.links f.fr true) f.fr) d.1)=g.table:=by rw[hg]
 have fin:∀(z:Nd),z.table=jBR n.table n.addr f.fr (kM (JD n.links f.fr true) f.fr) d.1->z.links=JD n.links f.fr true->∀w2,(jC [cTa (.slice a3 (jBR n.table n.addr f.fr (kM (JD n.links f.fr true) f.fr) d.1).length c3) (jBR n.table n.addr f.fr (kM (JD n.links f.fr true) f.fr) d.1),cLi (.slice a1 (JD n.links f.fr true).length c1) (JD n.links f.fr true)]).p w2->Sl w2 (sv (a3,c3) z.table.length) (cellsOf roC z.table) z.table.length/\Sl w2 (sv (a1,c1) z.links.length) (cellsOf liC z.links) z.links.length:=fun z e1 e2 w2 hg=>by
  rw[e1,e2];exact ⟨jV hg.1,jV hg.2.2.1⟩
 refine HR.cond I (fun h2=>?_) (fun h2=>?_)
 ·have h2:(decide (n.poll>0)&&(n.parent==255)&&(zy d.1 0).2)=true:=h2;have h3:g.poll>0/\g.parent=255/\(zy d.1 0).2=true:=by rw[hg];simpa[and_assoc]using h2
  rw[if_pos h3,hg]at hsp;rw[hsp];refine zh ?_;refine HR.ret Tryz.func190 I [_] (fun w hw=>⟨⟨_,rfl,jQ hw 3 I I I I rfl⟩,trivial⟩) ?_;refine fun w' hw=>⟨(((a3,c3),(a1,c1)),_),rfl,fun w2 _ hgp=>fin _ I I w2 hgp,?_⟩
  exact Ent.trans (Ent.pick [0,2] I I) (Ent.group (G:=[_,_]) (H:=[])) w' hw
 ·have h2:(decide (n.poll>0)&&(n.parent==255)&&(zy d.1 0).2)=false:=h2;have h3:¬(g.poll>0/\g.parent=255/\(zy d.1 0).2=true):=by
   intro e;rw[hg]at e;have:(decide (n.poll>0)&&(n.parent==255)&&(zy d.1 0).2)=true:=by simpa[and_assoc]using e
   rw[h2]at this;cases this
  rw[if_neg h3,hg]at hsp;rw[hsp];refine zh ?_;refine HR.ret Tryz.func190 I [_] (fun w hw=>⟨⟨_,rfl,jQ hw 3 I I I I rfl⟩,trivial⟩) ?_;refine fun w' hw=>⟨(((a3,c3),(a1,c1)),_),rfl,fun w2 _ hgp=>fin _ I I w2 hgp,?_⟩
  exact Ent.trans (Ent.pick [0,2] I I) (Ent.group (G:=[_,_]) (H:=[])) w' hw
theorem fn192:IsFn Tryz.prog 192:=zF Tryz.func192 I
structure DOk (V:NV) (V':NV) (G:List Chunk) (n:Nd):Prop where
 ta:V'.ta=V.ta
 li:V'.li=V.li
 bo:V'.bo=V.bo
 ch:V'.ch=V.ch
 ou:∀w2,(jC G).p w2->Sl w2 (sv V'.ou n.out.length) (cellsOf snC n.out) n.out.length
 se:∀w2,(jC G).p w2->Sl w2 (sv V'.se n.seen.length) (cellsOf prC n.seen) n.seen.length
 ib:∀w2,(jC G).p w2->Sl w2 (sv V'.ib n.inbox.length) (cellsOf deC n.inbox) n.inbox.length
 pa:∀w2,RdPts w2 (sv V.pa V.ps.length) V.ps->(jC G).p w2->RdPts w2 (sv V'.pa V'.ps.length) V'.ps
 eq:pts V'.ps=n.parts
theorem jMV (V:NV) (n:Nd) (now:Int) (f:Fr) (B0:Base) (w:World) (hw0:Sat B0 [cSn (sv V.ou n.out.length) n.out,cPr (sv V.se n.seen.length) n.seen,cDe (sv V.ib n.inbox.length) n.inbox] w) (ho:Ord n)
  (hpa:∀H w2,Sat ⟨w,zN [cSn (sv V.ou n.out.length) n.out,cPr (sv V.se n.seen.length) n.seen,cDe (sv V.ib n.inbox.length) n.inbox]⟩ H w2->RdPts w2 (sv V.pa V.ps.length) V.ps) (hP:pts V.ps=n.parts) (hsm:∀p∈n.parts,jAS p) (hpl:n.parts.length<=1000) (hfd:f.da.length<=1000) (hhp:0<=f.hp/\f.hp<=15):
  Calls Tryz.prog 192 #[.agg ⟨ndC V n⟩,.int .i64 now,.agg ⟨frC f⟩] w fun e w'=>∃x:NV×List Chunk,e= .returned (.agg ⟨ndC x.1 (received n f now)⟩)/\DOk V x.1 x.2 (received n f now)/\Sat ⟨w,zN [cSn (sv V.ou n.out.length) n.out,cPr (sv V.se n.seen.length) n.seen,cDe (sv V.ib n.inbox.length) n.inbox]⟩ [jC x.2] w':=by
 obtain ⟨hhp0,hhp1⟩:=hhp;have hse:=ho.seen;have h16:=ho.out;have h256:=ho.inbox;have hml:=jBZ n.seen ⟨f.so,f.sq⟩;obtain ⟨r,hr⟩:∃r,r=ZA n.seen ⟨f.so,f.sq⟩:=⟨_,rfl⟩;rw[<- hr]at hml;obtain ⟨q,hq⟩:∃q,q=jDb n.parts f.so now f.da:=⟨_,rfl⟩;have hps:V.ps.length<=1000:=by rw[<- jW,hP];exact hpl
 have hpm:∀p∈V.ps,jAS p.pt:=fun p hp=>hsm p.pt (by rw[<- hP];exact List.mem_map.2 ⟨p,hp,rfl⟩)
 have hsp:received n f now=if r.2=false then { n with seen:=r.1 } else if f.ta=n.addr then (if q.e≠0 then { n with seen:=r.1 } else if q.ok then deliver { n with seen:=r.1,parts:=q.l } ⟨f.so,q.t⟩else { n with seen:=r.1,parts:=q.l })else if n.poll>0\/f.hp=15 then lose { n with seen:=r.1 } else (queue { n with seen:=r.1 } { f with fr:=n.addr,dst:=255,hp:=f.hp+1 }).1:=by rw[hq,hr];rfl
 rw[hsp];refine jc [cSn (sv V.ou n.out.length) n.out,cPr (sv V.se n.seen.length) n.seen,cDe (sv V.ib n.inbox.length) n.inbox] (hw0) Tryz.func192 I (Nat.le_of_ble_eq_true I) (HR.sub (σ':=[(0,.agg ⟨ndC V n⟩),(1,.int .i64 now),(2,.agg ⟨frC f⟩)]) ⟨I,I,I,trivial⟩ ?_);refine HR.ctl I (HR.region ?_);refine HL.box I I ?_;intro b3;refine HL.box I I ?_;intro b5;refine HL.alloc I I ?_;intro b6;refine zh ?_;refine qL (r:=fun v':Value=> .tuple ⟨[v',.bool r.2]⟩) (Q:=fun _=>True) (G:=fun v'=>[cPr v' r.1]) fn242 I I (fun w1 hw1=>by rw[hr];exact jF6 n.seen ⟨f.so,f.sq⟩ _ w1 ((Rd.own 4 rfl).at hw1) (by omega)) ?_;intro v1 _;refine HL.shape 0 I fun a1 c1 hv=>?_
 subst hv;refine zh ?_;refine qR (H':=[jS b3 (ndC { V with se:=(a1,c1) } { n with seen:=r.1 }) 62,jS b5 (frC f) 75,rsC b6,cSn (sv V.ou n.out.length) n.out,cPr (.slice a1 r.1.length c1) r.1,cDe (sv V.ib n.inbox.length) n.inbox]) (Ent.pick [3,2,1,4,0,6] I I) ?_;have fin0:∀w',Sat ⟨w,zN [cSn (sv V.ou n.out.length) n.out,cPr (sv V.se n.seen.length) n.seen,cDe (sv V.ib n.inbox.length) n.inbox]⟩ [cSn (sv V.ou n.out.length) n.out,cPr (.slice a1 r.1.length c1) r.1,cDe (sv V.ib n.inbox.length) n.inbox] w'->∀z:Nd,z.out=n.out->z.seen=r.1->z.inbox=n.inbox->z.parts=n.parts->DOk V { V with se:=(a1,c1) } [cSn (sv V.ou n.out.length) n.out,cPr (.slice a1 r.1.length c1) r.1,cDe (sv V.ib n.inbox.length) n.inbox] z/\Sat ⟨w,zN [cSn (sv V.ou n.out.length) n.out,cPr (sv V.se n.seen.length) n.seen,cDe (sv V.ib n.inbox.length) n.inbox]⟩ [jC [cSn (sv V.ou n.out.length) n.out,cPr (.slice a1 r.1.length c1) r.1,cDe (sv V.ib n.inbox.length) n.inbox]] w':=by
  intro w' hw z e1 e2 e3 e4;refine ⟨⟨rfl,rfl,rfl,rfl,fun w2 hg=>?_,fun w2 hg=>?_,fun w2 hg=>?_,fun w2 h2 _=>h2,by rw[e4];exact hP⟩,Ent.group (G:=[_,_,_]) (H:=[]) w' hw⟩
  ·rw [e1];exact jV hg.1
  ·rw [e2];exact jV hg.2.2.1
  ·rw [e3];exact jV hg.2.2.2.2.1
 refine HR.cond I (fun h1=>?_) (fun h1=>?_)
 ·have h1:r.2=false:=by simpa using h1
  rw[if_pos h1];refine zh ?_;refine HR.ret Tryz.func192 I [_] (fun w hw=>⟨⟨_,rfl,jQ hw 2 I I I I rfl⟩,trivial⟩) ?_;intro w' hw;obtain ⟨f1,f2⟩:=fin0 w' (hw.pick [3,4,5] I I) { n with seen:=r.1 } I I I I;exact ⟨(_,_),rfl,f1,f2⟩
 have h1:¬r.2=false:=by simpa using h1
 rw[if_neg h1];refine zh ?_;refine HR.cond I (fun h2=>?_) (fun h2=>?_)
 ·have h2:f.ta=n.addr:=eq_of_beq h2;rw[if_pos h2];refine zh ?_;refine qL (r:=fun y:Value×List PtV=> .tuple ⟨[y.1,str q.t,.bool q.ok,.int .i64 q.e]⟩) (Q:=fun y=>jAT y q.l) (G:=fun y=>jAq y) fn243 I I (fun w1 hw1=>by rw[hq,<- hP];exact jKt V.ps f.so now f.da _ w1 (hpa _ w1 hw1) hpm hps hfd) ?_
  rintro ⟨v3,ps⟩ ⟨hg1,hg2⟩
  refine HL.shape (v:=v3) (e:=173) (sz:=6) (n:=ps.length) (xs:=cellsOf ptC ps) 0 I fun a3 c3 hv=>?_
  subst hv;have hq1:pts ps=q.l:=hg1;refine zh ?_;refine HR.cond I (fun h3=>?_) (fun h3=>?_)
  ·have h3:q.e≠0:=by simpa using h3
   rw[if_pos h3];refine zh ?_;refine HR.ret Tryz.func192 I [_] (fun w hw=>⟨⟨_,rfl,jQ hw 4 I I I I rfl⟩,trivial⟩) ?_;intro w' hw;obtain ⟨f1,f2⟩:=fin0 w' (hw.pick [5,6,7] I I) { n with seen:=r.1 } I I I I;exact ⟨(_,_),rfl,f1,f2⟩
  have h3:¬q.e≠0:=by simpa using h3
  rw[if_neg h3];refine zh ?_;have fin1:∀(y:SV) (z:Nd) (w':World),z.out=n.out->z.seen=r.1->z.parts=q.l->Sat ⟨w,zN [cSn (sv V.ou n.out.length) n.out,cPr (sv V.se n.seen.length) n.seen,cDe (sv V.ib n.inbox.length) n.inbox]⟩ [cSn (sv V.ou n.out.length) n.out,cPr (.slice a1 r.1.length c1) r.1,cDe (sv y z.inbox.length) z.inbox,cPt (.slice a3 ps.length c3) ps,jC (ptG ps)] w'->DOk V { V with se:=(a1,c1),pa:=(a3,c3),ps:=ps,ib:=y } [cSn (sv V.ou n.out.length) n.out,cPr (.slice a1 r.1.length c1) r.1,cDe (sv y z.inbox.length) z.inbox,cPt (.slice a3 ps.length c3) ps,jC (ptG ps)] z/\Sat ⟨w,zN [cSn (sv V.ou n.out.length) n.out,cPr (sv V.se n.seen.length) n.seen,cDe (sv V.ib n.inbox.length) n.inbox]⟩ [jC [cSn (sv V.ou n.out.length) n.out,cPr (.slice a1 r.1.length c1) r.1,cDe (sv y z.inbox.length) z.inbox,cPt (.slice a3 ps.length c3) ps,jC (ptG ps)]] w':=by
   intro y z w' e1 e2 e3 hw;refine ⟨⟨rfl,rfl,rfl,rfl,fun w2 hg=>?_,fun w2 hg=>?_,fun w2 hg=>?_,fun w2 _ hg=>?_,by rw[e3];exact hq1⟩,Ent.group (G:=[_,_,_,_,_]) (H:=[]) w' hw⟩
   ·rw [e1];exact jV hg.1
   ·rw [e2];exact jV hg.2.2.1
   ·exact jV hg.2.2.2.2.1
   ·have hgq:(jC (ptG ps)).p w2:=jK hg (by simp);exact ⟨jV (jK hg (c:=cPt (.slice a3 ps.length c3) ps) (by simp)),fun p hp=>⟨jV (jK hgq (Kg hp).1),jV (jK hgq (Kg hp).2)⟩⟩
  refine HR.cond I (fun h4=>?_) (fun h4=>?_)
  ·have h4:q.ok=true:=h4;rw[if_pos h4];obtain ⟨d,hd⟩:∃d,d=deliver { n with seen:=r.1,parts:=q.l } ⟨f.so,q.t⟩:=⟨_,rfl⟩;rw[<- hd];have hdo:d.out=n.out/\d.seen=r.1/\d.parts=q.l:=by
    obtain ⟨i,l,e⟩:=jEa { n with seen:=r.1,parts:=q.l } ⟨f.so,q.t⟩;rw[hd,e];exact ⟨rfl,rfl,rfl⟩
   refine zh ?_;refine qM (Ent.pick [7,0,1,2,3,4,5,6] I I) (qQ (r:=fun y:SV=> .agg ⟨ndC { V with se:=(a1,c1),pa:=(a3,c3),ps:=ps,ib:=y } d⟩) (Q:=fun _=>True) (G0:=[cDe (sv V.ib n.inbox.length) n.inbox]) (H0:=[_,_,_,_,_,_,_]) (G:=fun y=>[cDe (sv y d.inbox.length) d.inbox]) fn122 I I I (fun w1 hw1=>by rw[hd];exact jFz { V with se:=(a1,c1),pa:=(a3,c3),ps:=ps } { n with seen:=r.1,parts:=q.l } f.so q.t _ w1 (hw1.pick [0] I I) (show n.inbox.length<=1000 by omega) ho.lost) ?_);intro y _;refine zh ?_;refine HR.ret Tryz.func192 I [_] (fun w hw=>⟨⟨_,rfl,jQ hw 5 I I I I rfl⟩,trivial⟩) ?_;intro w' hw;obtain ⟨f1,f2⟩:=fin1 y d w' hdo.1 hdo.2.1 hdo.2.2 (hw.pick [6,7,0,1,2] I I);exact ⟨(_,_),rfl,f1,f2⟩
  ·have h4:q.ok=false:=h4;rw[if_neg (by rw[h4];decide)];refine zh ?_;refine HR.ret Tryz.func192 I [_] (fun w hw=>⟨⟨_,rfl,jQ hw 4 I I I I rfl⟩,trivial⟩) ?_;intro w' hw;obtain ⟨f1,f2⟩:=fin1 V.ib { n with seen:=r.1,parts:=q.l } w' rfl rfl rfl (hw.pick [5,6,7,0,1] I I);exact ⟨(_,_),rfl,f1,f2⟩
 have h2:¬f.ta=n.addr:=by simpa using h2
 rw[if_neg h2]
 repeat' (first|refine zh ?_|apply zb ?_ ?_|exact zc|(refine zi fun hb=>?_;try simp at hb)|fail)
 refine HR.cond I (fun h3=>?_) (fun h3=>?_)
 ·have h3:(decide (n.poll>0)||decide (f.hp>=15))=true:=h3;have h4:n.poll>0\/f.hp>=15:=by simpa using h3
  rw[if_pos (h4.imp id (fun e=>by omega))];refine zh ?_;refine qB jLR I I (fun w1 _=>kF { V with se:=(a1,c1) } { n with seen:=r.1 } w1 ho.lost) (zh ?_);refine HR.ret Tryz.func192 I [_] (fun w hw=>⟨⟨_,rfl,jQ hw 2 I I I I rfl⟩,trivial⟩) ?_;intro w' hw;obtain ⟨f1,f2⟩:=fin0 w' (hw.pick [3,4,5] I I) (lose { n with seen:=r.1 }) I I I I;exact ⟨(_,_),rfl,f1,f2⟩
 have h3:(decide (n.poll>0)||decide (f.hp>=15))=false:=h3;have h4:¬(n.poll>0\/f.hp>=15):=by
  intro e;have:(decide (n.poll>0)||decide (f.hp>=15))=true:=by simpa using e
  rw[h3]at this;cases this
 rw[if_neg fun e=>h4 (e.imp id (fun e=>by omega))];obtain ⟨Q,hQ⟩:∃Q,Q=queue { n with seen:=r.1 } { f with fr:=n.addr,dst:=255,hp:=f.hp+1 }:=⟨_,rfl⟩;rw[<- hQ];have hQe:Q.1.seen=r.1/\Q.1.inbox=n.inbox/\Q.1.parts=n.parts:=by
  obtain ⟨o,l,e⟩:=Zu { n with seen:=r.1 } { f with fr:=n.addr,dst:=255,hp:=f.hp+1 };rw[hQ,e];exact ⟨rfl,rfl,rfl⟩
 refine zh ?_;refine qL (r:=fun z:SV=> .tuple ⟨[.agg ⟨ndC { V with se:=(a1,c1),ou:=z } Q.1⟩,.bool Q.2]⟩) (Q:=fun _=>True) (G:=fun z=>[cSn (sv z Q.1.out.length) Q.1.out]) jQQ I I (fun w1 hw1=>by rw[hQ];exact jCJ { V with se:=(a1,c1) } { n with seen:=r.1 } { f with fr:=n.addr,dst:=255,hp:=f.hp+1 } w1 ((Rd.own 3 rfl).at hw1) (show n.out.length<=1000 by omega) ho.lost) ?_;intro z _;refine zh ?_;refine HR.ret Tryz.func192 I [_] (fun w hw=>⟨⟨_,rfl,jQ hw 3 I I I I rfl⟩,trivial⟩) ?_;refine fun w' hw=>⟨({ V with se:=(a1,c1),ou:=z },[cSn (sv z Q.1.out.length) Q.1.out,cPr (.slice a1 r.1.length c1) r.1,cDe (sv V.ib n.inbox.length) n.inbox]),rfl,⟨rfl,rfl,rfl,rfl,fun w2 hg=>jV hg.1,fun w2 hg=>?_,fun w2 hg=>?_,fun w2 h2 _=>h2,by rw[hQe.2.2];exact hP⟩,Ent.trans (Ent.pick [0,5,6] I I) (Ent.group (G:=[_,_,_]) (H:=[])) w' hw⟩
 ·rw [hQe.1];exact jV hg.2.2.1
 ·rw [hQe.2.1];exact jV hg.2.2.2.2.1
theorem fn191:IsFn Tryz.prog 191:=zF Tryz.func191 I
theorem jHf (V:NV) (n:Nd) (now:Int) (f:Fr) (B0:Base) (w:World) (hw0:Sat B0 [cSn (sv V.ou n.out.length) n.out,cMa (sv V.bo n.boxes.length) n.boxes,cI (sv V.ch n.children.length) n.children] w) (ho:Ord n) (hf:Tp.okN f.fr=true) (hne:f.fr≠n.addr)
  (hta:∀H w2,Sat ⟨w,zN [cSn (sv V.ou n.out.length) n.out,cMa (sv V.bo n.boxes.length) n.boxes,cI (sv V.ch n.children.length) n.children]⟩ H w2->Sl w2 (sv V.ta n.table.length) (cellsOf roC n.table) n.table.length):
  Calls Tryz.prog 191 #[.agg ⟨ndC V n⟩,.int .i64 now,.agg ⟨frC f⟩] w fun e w'=>∃x:SV×SV×SV×SV,e= .returned (.agg ⟨ndC { V with ch:=x.1,ta:=x.2.1,ou:=x.2.2.1,bo:=x.2.2.2 } (polled n f now)⟩)/\True/\Sat ⟨w,zN [cSn (sv V.ou n.out.length) n.out,cMa (sv V.bo n.boxes.length) n.boxes,cI (sv V.ch n.children.length) n.children]⟩ [cTa (sv x.2.1 (polled n f now).table.length) (polled n f now).table,cI (sv x.1 (polled n f now).children.length) (polled n f now).children,cSn (sv x.2.2.1 (polled n f now).out.length) (polled n f now).out,cMa (sv x.2.2.2 (polled n f now).boxes.length) (polled n f now).boxes] w':=by
 have h24:=jFa ho;have hk251:=jRM ho;obtain ⟨C,hC⟩:∃C,C=child n.children f.fr:=⟨_,rfl⟩;obtain ⟨TT,hTT⟩:∃TT,TT=jBR n.table n.addr f.fr 10 [⟨f.fr,f.sq,0,0⟩]:=⟨_,rfl⟩;have ho2:Ord { n with children:=C,table:=TT }:=by
  rw[hC,hTT];obtain ⟨g1,g2⟩:=jCH (fr:=f.fr) (cost:=10) (adv:=[⟨f.fr,f.sq,0,0⟩]) ho.table;obtain ⟨c1,c2⟩:=kQ ho.kids f.fr;refine { ho with table:=g1,kids:=c1,kid:=fun x hx=>?_ };rcases (c2 x).1 hx with rfl|hx
  ·exact ⟨hf,hne⟩
  ·exact ho.kid x hx
 have hsp:polled n f now=Nd.drain f.fr now 17 { n with children:=C,table:=TT }:=by rw[hC,hTT];rfl
 obtain ⟨Z,hZ⟩:∃Z,Z=polled n f now:=⟨_,rfl⟩;rw[<- hZ];rw[hsp]at hZ;refine jc [cSn (sv V.ou n.out.length) n.out,cMa (sv V.bo n.boxes.length) n.boxes,cI (sv V.ch n.children.length) n.children] (hw0) Tryz.func191 I (Nat.le_of_ble_eq_true I) (HR.sub (σ':=[(0,.agg ⟨ndC V n⟩),(1,.int .i64 now),(2,.agg ⟨frC f⟩)]) ⟨I,I,I,trivial⟩ ?_);refine HR.ctl I (HR.region ?_);refine HL.box I I ?_;intro b3;refine HL.box I I ?_;intro b5;refine HL.alloc I I ?_;intro b6;refine zh ?_;refine qM (Ent.pick [5,0,1,2,3,4] I I) (qQ (r:=fun r:Value=>r) (Q:=fun _=>True) (G0:=[cI (sv V.ch n.children.length) n.children]) (H0:=[_,_,_,_,_]) (G:=fun r=>[cI r C]) jTF I I I (fun w1 hw1=>by rw[hC];exact jD1 n.children f.fr _ _ w1 (hw1.pick [0] I I) (by omega) ho.kids) ?_);intro v1 _;refine HL.shape 0 I fun a1 c1 hv=>?_
 subst hv;refine zh ?_;refine qH jZ I I I I I (by decide) (by decide) ?_;intro va;refine qI jSp I I (fun w1 hw1=>jD7 n.table n.addr f.fr 10 [⟨f.fr,f.sq,0,0⟩] _ va w1 (hta _ w1 hw1) ((Rd.own 0 rfl).at hw1) (by omega) (show 1<=1000 by decide)) ?_;intro v2;refine HL.shape 0 I fun a2 c2 hv=>?_
 subst hv;rw[<- hTT];refine zh ?_;refine qR (H':=[jS b3 (ndC { V with ch:=(a1,c1),ta:=(a2,c2) } { n with children:=C,table:=TT }) 62,jS b5 (frC f) 75,rsC b6,cTa (.slice a2 TT.length c2) TT,cI (.slice a1 C.length c1) C,cSn (sv V.ou n.out.length) n.out,cMa (sv V.bo n.boxes.length) n.boxes]) (Ent.pick [5,4,3,0,2,6,7] I I) (HR.loop (ι:=Nat×Nd×SV×SV) (fun x=>x.1<=17/\Ord x.2.1/\(∃ q bx lo,x.2.1={ n with children:=C,table:=TT,out:=q,boxes:=bx,lost:=lo })/\Z=Nd.drain f.fr now (17-x.1) x.2.1) (fun x=>[(1,.int .i64 now),(3,ptr b3),(5,ptr b5),(6,ptr b6),(7,.int .i64 (x.1:Int))]) (fun x=>[jS b3 (ndC { V with ch:=(a1,c1),ta:=(a2,c2),ou:=x.2.2.1,bo:=x.2.2.2 } x.2.1) 62,jS b5 (frC f) 75,rsC b6,cTa (.slice a2 TT.length c2) TT,cI (.slice a1 C.length c1) C,cSn (sv x.2.2.1 x.2.1.out.length) x.2.1.out,cMa (sv x.2.2.2 x.2.1.boxes.length) x.2.1.boxes]) (fun x=>17-x.1) (0,{ n with children:=C,table:=TT },V.ou,V.bo) ⟨Nat.zero_le _,ho2,⟨n.out,n.boxes,n.lost,rfl⟩,hZ⟩ ⟨I,I,I,I,I,trivial⟩ Ent.refl ?_)
 rintro ⟨i,p,y1,y2⟩ ⟨hi,hpo,hpm,hZ1⟩ ih
 have hi:i<=17:=hi;have hpo:Ord p:=hpo;obtain ⟨q0,bx0,lo0,hpe⟩:=hpm;have hpe0:p={ n with children:=C,table:=TT,out:=q0,boxes:=bx0,lost:=lo0 }:=hpe;have hZ1:Z=Nd.drain f.fr now (17-i) p:=hZ1;have hp16:=hpo.out;have hpb16:=hpo.boxes;have hpt:p.table=TT:=by rw[hpe0]
 have hpc:p.children=C:=by rw[hpe0]
 refine zh ?_;refine HR.cond I (fun h1=>?_) (fun h1=>?_)
 rotate_left
 ·have h1:¬(i:Int)<17:=of_decide_eq_false h1;have hi17:i=17:=by omega
  subst hi17;have hZ2:Z=p:=hZ1;rw[hZ2];refine zh ?_;refine HR.ret Tryz.func191 I [_] (fun w hw=>⟨⟨_,rfl,jQ hw 2 I I I I rfl⟩,trivial⟩) ?_;refine fun w' hw=>⟨((a1,c1),(a2,c2),y1,y2),rfl,trivial,?_⟩
  rw[hpt,hpc];exact hw.pick [3,4,5,6] I I
 have h1:(i:Int)<17:=of_decide_eq_true h1;rw[show 17-i=(16-i)+1 by omega,jAJ]at hZ1;have hbl:=(jDR p.boxes f.fr now 120).1;obtain ⟨r,hr⟩:∃r,r=Js p.boxes f.fr now 120:=⟨_,rfl⟩;rw[<- hr]at hZ1 hbl;have hpb:Ord { p with boxes:=r.2.1 }:=hpo.ZK hbl;refine zh ?_;refine qL (r:=fun v':Value=> .tuple ⟨[.agg ⟨frC r.1⟩,v',.bool r.2.2]⟩) (Q:=fun _=>True) (G:=fun v'=>[cMa v' r.2.1]) fn241 I I (fun w1 hw1=>by rw[hr];exact jHq p.boxes f.fr now 120 _ w1 ((Rd.own 6 rfl).at hw1) (by omega)) ?_;intro v3 _;refine HL.shape 0 I fun a3 c3 hv=>?_
 subst hv;refine zh ?_;intro (bk:Nat);refine zh ?_;refine HR.cond I (fun h2=>?_) (fun h2=>?_)
 ·have h2:r.2.2=false:=by simpa using h2
  rw[if_neg (by rw[h2];decide)]at hZ1;rw[hZ1];refine zh ?_;refine HR.ret Tryz.func191 I [_] (fun w hw=>⟨⟨_,rfl,jQ hw 4 I I I I rfl⟩,trivial⟩) ?_;refine fun w' hw=>⟨((a1,c1),(a2,c2),y1,(a3,c3)),rfl,trivial,?_⟩
  show Sat _ [cTa (sv (a2,c2) p.table.length) p.table,cI (sv (a1,c1) p.children.length) p.children,_,_] w';rw[hpt,hpc];exact hw.pick [5,6,7,1] I I
 have h2:r.2.2=true:=by simpa using h2
 rw[if_pos h2]at hZ1;obtain ⟨Q,hQ⟩:∃Q,Q=queue { p with boxes:=r.2.1 } { r.1 with fr:=p.addr }:=⟨_,rfl⟩;rw[<- hQ]at hZ1;have hQo:Ord Q.1:=by rw[hQ];exact hpb.queue _
 obtain ⟨o,l,hQe⟩:=Zu { p with boxes:=r.2.1 } { r.1 with fr:=p.addr };rw[<- hQ]at hQe;have hQb:Q.1.boxes=r.2.1:=by rw[hQe]
 refine zh ?_;refine qL (r:=fun z:SV=> .tuple ⟨[.agg ⟨ndC { V with ch:=(a1,c1),ta:=(a2,c2),ou:=z,bo:=(a3,c3) } Q.1⟩,.bool Q.2]⟩) (Q:=fun _=>True) (G:=fun z=>[cSn (sv z Q.1.out.length) Q.1.out]) jQQ I I (fun w1 hw1=>by rw[hQ];exact jCJ { V with ch:=(a1,c1),ta:=(a2,c2),ou:=y1,bo:=(a3,c3) } { p with boxes:=r.2.1 } { r.1 with fr:=p.addr } w1 ((Rd.own 7 rfl).at hw1) (show p.out.length<=1000 by omega) hpo.lost) ?_;intro z _;refine zh ?_;refine ih (i+1,Q.1,z,(a3,c3)) _ _ ⟨by show i+1<=17;omega,hQo,⟨o,r.2.1,l,by rw[hQe,hpe0]⟩,by show Z=Nd.drain f.fr now (17-(i+1)) Q.1;rw[show 17-(i+1)=16-i by omega];exact hZ1⟩ (by show 17-(i+1)<17-i;omega) ⟨I,I,I,I,I,trivial⟩ ?_;show Ent _ _ [_,_,_,_,_,_,cMa (sv (a3,c3) Q.1.boxes.length) Q.1.boxes];rw[hQb];exact Ent.pick [3,4,5,6,7,0,2] I I
theorem fn112:IsFn Tryz.prog 112:=zF Tryz.func112 I
theorem jGG (n:Nd) (f:Fr) (now:Int):(polled n f now).links=n.links/\(polled n f now).seen=n.seen/\(polled n f now).inbox=n.inbox:=by
 have key:∀(k:Nat) (fr now:Int) (n:Nd),(Nd.drain fr now k n).links=n.links/\(Nd.drain fr now k n).seen=n.seen/\(Nd.drain fr now k n).inbox=n.inbox:=by
  intro k
  induction k with
  |zero=>exact fun _ _ n=>⟨rfl,rfl,rfl⟩
  |succ k ih=>
   intro fr now n;rw[jAJ]
   split
   ·obtain ⟨o,l,e⟩:=Zu { n with boxes:=(Js n.boxes fr now 120).2.1 } { (Js n.boxes fr now 120).1 with fr:=n.addr };have:=ih fr now (queue { n with boxes:=(Js n.boxes fr now 120).2.1 } { (Js n.boxes fr now 120).1 with fr:=n.addr }).1;rw[e]at this;rw[e];exact this
   ·exact ⟨rfl,rfl,rfl⟩
 exact key 17 f.fr now _
theorem jCB (n:Nd) (f:Fr):(jT n f).out=n.out/\(jT n f).boxes=n.boxes/\(jT n f).children=n.children/\(jT n f).seen=n.seen/\(jT n f).inbox=n.inbox:=by
 unfold jT;simp only
 split
 ·exact ⟨rfl,rfl,rfl,rfl,rfl⟩
 ·split<;>exact ⟨rfl,rfl,rfl,rfl,rfl⟩
theorem jDd (n:Nd) (f:Fr) (now:Int):(received n f now).table=n.table/\(received n f now).links=n.links/\(received n f now).boxes=n.boxes/\(received n f now).children=n.children:=by
 have hd:∀(a:Nd) (d:De),(deliver a d).table=a.table/\(deliver a d).links=a.links/\(deliver a d).boxes=a.boxes/\(deliver a d).children=a.children:=fun a d=>by
  obtain ⟨i,l,e⟩:=jEa a d;rw[e];exact ⟨rfl,rfl,rfl,rfl⟩
 have hq:∀(a:Nd) (g:Fr),(queue a g).1.table=a.table/\(queue a g).1.links=a.links/\(queue a g).1.boxes=a.boxes/\(queue a g).1.children=a.children:=fun a g=>by
  obtain ⟨o,l,e⟩:=Zu a g;rw[e];exact ⟨rfl,rfl,rfl,rfl⟩
 unfold received;simp only
 split
 ·exact ⟨rfl,rfl,rfl,rfl⟩
 ·split
  ·split
   ·exact ⟨rfl,rfl,rfl,rfl⟩
   ·split
    ·exact hd _ _
    ·exact ⟨rfl,rfl,rfl,rfl⟩
  ·split
   ·exact ⟨rfl,rfl,rfl,rfl⟩
   ·exact hq _ _
theorem Ent.two {B:Base} {G1 G2:List Chunk}:Ent B [jC G1,jC G2] [jC [jC G1,jC G2]]:=Ent.group (G:=[jC G1,jC G2]) (H:=[])
theorem jQT {f:Fr} (h:Kv f=0):f.kd=3->f.dst≠255:=by
 intro hk e;unfold Kv at h
 split at h
 ·cases h
 ·split at h
  ·cases h
  ·split at h
   ·cases h
   ·split at h
    ·cases h
    ·rename_i h4
     apply h4
     unfold jAQ;rw[hk,e]
     simp
theorem jMR (V:NV) (n:Nd) (now:Int) (f:Fr) (w:World) (h:OkN w V n) (hs:SmN n) (hfl:f.da.length<=9223372036854775807):
  Calls Tryz.prog 112 #[.agg ⟨ndC V n⟩,.int .i64 now,.agg ⟨frC f⟩] w fun e w'=>∃x:NV×List Chunk,e= .returned (.agg ⟨ndC x.1 (hear n now f)⟩)/\Imp V n x.1 x.2 (hear n now f)/\Sat (base w) [jC x.2] w':=by
 obtain ⟨m,hm⟩:∃m,m=order n:=⟨_,rfl⟩;have hmp:m.parts=n.parts:=by rw[hm];rfl
 have ho:Ord m:=by rw[hm];exact JJ n
 obtain ⟨T,hT⟩:∃T,T=tick now:=⟨_,rfl⟩;have hsp:hear n now f=if Kv f≠0\/f.fr=m.addr\/(f.dst≠m.addr/\f.dst≠255)then m else if f.kd=1 then jT m f else if f.kd=3/\f.dst=m.addr/\m.poll=0 then polled m f T else if f.kd=2/\f.dst=m.addr then received m f T else m:=by rw[hm,hT];rfl
 rw[hsp];refine zE Tryz.func112 I [(0,.agg ⟨ndC V n⟩),(1,.int .i64 now),(2,.agg ⟨frC f⟩)] ?_;refine HR.ctl I (HR.region ?_);refine HL.box I I ?_;intro b3;refine HL.box I I ?_;intro b5;refine HL.alloc I I ?_;intro b6;refine zh ?_;refine qL (r:=fun x:NV×List Chunk=> .agg ⟨ndC x.1 m⟩) (Q:=fun x=>ROk V n x.1 x.2 m) (G:=fun x=>roH x.1 x.2 m) jSf I I (fun w1 hw1=>by rw[hm];exact kE V n w1 (h.ext hw1.jF) hs) ?_
 rintro ⟨V2,Gt⟩ hR
 have hR:ROk V n V2 Gt m:=hR;refine qM (Ent.pick [8,7,6,0,1,2,3,4,5] I I) ?_
 repeat' (first|refine zh ?_|refine qB (r:= .int .i64 T) fn95 I I (fun w1 _=>by rw[hT];exact jAx now w1) ?_|refine qB fn189 I I (fun w1 _=>jGC f w1 hfl) ?_|apply zb ?_ ?_|exact zc|(refine zi fun hb=>?_;try simp at hb)|fail)
 have fin0:∀w',Sat (base w) [jC Gt,cSn (sv V2.ou m.out.length) m.out,cMa (sv V2.bo m.boxes.length) m.boxes,cI (sv V2.ch m.children.length) m.children,cPr (sv V2.se m.seen.length) m.seen,cDe (sv V2.ib m.inbox.length) m.inbox] w'->Imp V n V2 (roH V2 Gt m) m/\Sat (base w) [jC (roH V2 Gt m)] w':=fun w' hw=>⟨hR.okn hmp,Ent.group (G:=roH V2 Gt m) (H:=[]) w' hw⟩
 refine HR.cond I (fun h1=>?_) (fun h1=>?_)
 ·have h1:((!(Kv f==0)||(f.fr==m.addr))||(!(f.dst==m.addr)&&!(f.dst==255)))=true:=h1;have h2:Kv f≠0\/f.fr=m.addr\/(f.dst≠m.addr/\f.dst≠255):=by simpa[or_assoc]using h1
  rw[if_pos h2];refine zh ?_;refine HR.ret Tryz.func112 I [_] (fun w hw=>⟨⟨_,rfl,jQ hw 2 I I I I rfl⟩,trivial⟩) ?_
  exact fun w' hw=>⟨(V2,roH V2 Gt m),rfl,fin0 w' (hw.pick [3,4,5,6,7,8] I rfl)⟩
 have h1:((!(Kv f==0)||(f.fr==m.addr))||(!(f.dst==m.addr)&&!(f.dst==255)))=false:=h1;have h2:¬(Kv f≠0\/f.fr=m.addr\/(f.dst≠m.addr/\f.dst≠255)):=by
  intro e;have:((!(Kv f==0)||(f.fr==m.addr))||(!(f.dst==m.addr)&&!(f.dst==255)))=true:=by simpa[or_assoc]using e
  rw[h1]at this;cases this
 rw[if_neg h2];have hck:Kv f=0:=Decidable.not_not.1 fun e=>h2 (.inl e)
 have hne:f.fr≠m.addr:=fun e=>h2 (.inr (.inl e))
 have hto:f.dst=m.addr\/f.dst=255:=Decidable.or_iff_not_not_and_not.2 fun e=>h2 (.inr (.inr e))
 obtain ⟨k1,k2,k3,k4,k5,k6,k7⟩:=jFT hck;refine zh ?_;refine HR.cond I (fun h3=>?_) (fun h3=>?_)
 ·have h3:f.kd=1:=eq_of_beq h3;rw[if_pos h3];obtain ⟨z1,z2,z3,z4,z5⟩:=jCB m f;refine zh ?_;refine qL (r:=fun x:(SV×SV)×List Chunk=> .agg ⟨ndC { V2 with ta:=x.1.1,li:=x.1.2 } (jT m f)⟩) (Q:=fun x=>∀w2,Sl w2 (sv V2.ta m.table.length) (cellsOf roC m.table) m.table.length->(jC x.2).p w2->Sl w2 (sv x.1.1 (jT m f).table.length) (cellsOf roC (jT m f).table) (jT m f).table.length/\Sl w2 (sv x.1.2 (jT m f).links.length) (cellsOf liC (jT m f).links) (jT m f).links.length) (G:=fun x=>[jC x.2]) fn190 I I (fun w1 hw1=>jE2 V2 m f w1 (hR.ta w1 (h.ta.ext hw1.jF) (QF 3 hw1 I)) (hR.li w1 (h.li.ext hw1.jF)) ho (by omega)) ?_
  rintro ⟨⟨y1,y2⟩,Gb⟩ hQ
  have hQ:∀w2,Sl w2 (sv V2.ta m.table.length) (cellsOf roC m.table) m.table.length->(jC Gb).p w2->Sl w2 (sv y1 (jT m f).table.length) (cellsOf roC (jT m f).table) (jT m f).table.length/\Sl w2 (sv y2 (jT m f).links.length) (cellsOf liC (jT m f).links) (jT m f).links.length:=hQ;refine zh ?_;refine HR.ret Tryz.func112 I [_] (fun w hw=>⟨⟨_,rfl,jQ hw 3 I I I I rfl⟩,trivial⟩) ?_;refine fun w' hw=>⟨({ V2 with ta:=y1,li:=y2 },[jC (roH V2 Gt m),jC Gb]),rfl,fun w2 h2 hg=>?_,?_⟩
  ·have ok:=hR.okn hmp w2 h2 (jK hg (c:=jC (roH V2 Gt m)) (by simp));obtain ⟨q1,q2⟩:=hQ w2 ok.ta (jK hg (c:=jC Gb) (by simp));refine ⟨q1,q2,?_,?_,?_,?_,ok.pa,?_,?_⟩
   ·rw [z1];exact ok.ou
   ·rw [z3];exact ok.ch
   ·rw [z2];exact ok.bo
   ·rw [z4];exact ok.se
   ·rw [z5];exact ok.ib
   ·rw [ZH];exact ok.eq
  ·exact Ent.trans (Ent.pick [4,5,6,7,8,9,0] I I) (Ent.trans (Ent.group (G:=roH V2 Gt m) (H:=[jC Gb])) Ent.two) w' hw
 have h3:¬f.kd=1:=by simpa using h3
 rw[if_neg h3]
 repeat' (first|refine zh ?_|apply zb ?_ ?_|exact zc|(refine zi fun hb=>?_;try simp at hb)|fail)
 refine HR.cond I (fun h4=>?_) (fun h4=>?_)
 ·have h4:((f.kd==3)&&(m.poll==0))=true:=h4;have h4:f.kd=3/\m.poll=0:=by simpa using h4
  have h5:f.kd=3/\f.dst=m.addr/\m.poll=0:=⟨h4.1,hto.resolve_right (jQT hck h4.1),h4.2⟩;rw[if_pos h5];obtain ⟨z1,z2,z3⟩:=jGG m f T;refine zh ?_;refine qM (Ent.pick [4,5,6,0,1,2,3,7,8] I I) ?_;refine qQ (r:=fun x:SV×SV×SV×SV=> .agg ⟨ndC { V2 with ch:=x.1,ta:=x.2.1,ou:=x.2.2.1,bo:=x.2.2.2 } (polled m f T)⟩) (Q:=fun _=>True) (G0:=[cSn (sv V2.ou m.out.length) m.out,cMa (sv V2.bo m.boxes.length) m.boxes,cI (sv V2.ch m.children.length) m.children]) (H0:=[_,_,_,jC Gt,_,_]) (G:=fun x=>[cTa (sv x.2.1 (polled m f T).table.length) (polled m f T).table,cI (sv x.1 (polled m f T).children.length) (polled m f T).children,cSn (sv x.2.2.1 (polled m f T).out.length) (polled m f T).out,cMa (sv x.2.2.2 (polled m f T).boxes.length) (polled m f T).boxes]) fn191 I I I (fun w1 hw1=>jHf V2 m T f _ w1 (hw1.pick [0,1,2] I I) ho k1 hne (fun H' w2 hw2=>by
   have hs2:=Sat.frame (G:=[cSn (sv V2.ou m.out.length) m.out,cMa (sv V2.bo m.boxes.length) m.boxes,cI (sv V2.ch m.children.length) m.children]) (H:=[_,_,_,jC Gt,_,_]) hw1 hw2;exact hR.ta w2 (h.ta.ext hs2.jF) (hs2.all.mem (jC Gt) (List.mem_append_right _ (by simp))).1)) ?_
  rintro ⟨y1,y2,y3,y4⟩ _
  refine zh ?_;refine HR.ret Tryz.func112 I [_] (fun w hw=>⟨⟨_,rfl,jQ hw 6 I I I I rfl⟩,trivial⟩) ?_;refine fun w' hw=>⟨({ V2 with ch:=y1,ta:=y2,ou:=y3,bo:=y4 },[cTa (sv y2 (polled m f T).table.length) (polled m f T).table,cI (sv y1 (polled m f T).children.length) (polled m f T).children,cSn (sv y3 (polled m f T).out.length) (polled m f T).out,cMa (sv y4 (polled m f T).boxes.length) (polled m f T).boxes,cPr (sv V2.se m.seen.length) m.seen,cDe (sv V2.ib m.inbox.length) m.inbox]),rfl,fun w2 h2 hg=>?_,?_⟩
  ·refine ⟨jV (jK hg (List.mem_cons_self ..)),?_,jV (jK hg (c:=cSn (sv y3 (polled m f T).out.length) (polled m f T).out) (by simp)),jV (jK hg (c:=cI (sv y1 (polled m f T).children.length) (polled m f T).children) (by simp)),jV (jK hg (c:=cMa (sv y4 (polled m f T).boxes.length) (polled m f T).boxes) (by simp)),?_,?_,?_,?_⟩
   ·rw [z1];exact hR.li w2 h2.li
   ·rw [z2];exact jV (jK hg (c:=cPr (sv V2.se m.seen.length) m.seen) (by simp))
   ·show RdPts w2 (sv V2.pa V2.ps.length) V2.ps;rw[hR.pa,hR.ps];exact h2.pa
   ·rw [z3];exact jV (jK hg (c:=cDe (sv V2.ib m.inbox.length) m.inbox) (by simp))
   ·show pts V2.ps=_;rw[Kh,hR.ps,hmp];exact h2.eq
  ·exact Ent.trans (Ent.pick [0,1,2,3,8,9] I I) (Ent.group (G:=[_,_,_,_,_,_]) (H:=[])) w' hw
 have h4:((f.kd==3)&&(m.poll==0))=false:=h4;have h5:¬(f.kd=3/\f.dst=m.addr/\m.poll=0):=by
  intro e;have:((f.kd==3)&&(m.poll==0))=true:=by simpa using And.intro e.1 e.2.2
  rw[h4]at this;cases this
 rw[if_neg h5]
 repeat' (first|refine zh ?_|apply zb ?_ ?_|exact zc|(refine zi fun hb=>?_;try simp at hb)|fail)
 refine HR.cond I (fun h6=>?_) (fun h6=>?_)
 ·have h6:((f.kd==2)&&(f.dst==m.addr))=true:=h6;have h7:f.kd=2/\f.dst=m.addr:=by simpa using h6
  rw[if_pos h7];obtain ⟨z1,z2,z3,z4⟩:=jDd m f T;have hP:pts V2.ps=m.parts:=by rw[hR.ps,hmp];exact h.eq
  refine zh ?_;refine qM (Ent.pick [4,7,8,0,1,2,3,5,6] I I) ?_;refine qQ (r:=fun x:NV×List Chunk=> .agg ⟨ndC x.1 (received m f T)⟩) (Q:=fun x=>DOk V2 x.1 x.2 (received m f T)) (G0:=[cSn (sv V2.ou m.out.length) m.out,cPr (sv V2.se m.seen.length) m.seen,cDe (sv V2.ib m.inbox.length) m.inbox]) (H0:=[_,_,_,jC Gt,_,_]) (G:=fun x=>[jC x.2]) fn192 I I I (fun w1 hw1=>jMV V2 m T f _ w1 (hw1.pick [0,1,2] I I) ho (fun H' w2 hw2=>by
   have hs2:=Sat.frame (G:=[cSn (sv V2.ou m.out.length) m.out,cPr (sv V2.se m.seen.length) m.seen,cDe (sv V2.ib m.inbox.length) m.inbox]) (H:=[_,_,_,jC Gt,_,_]) hw1 hw2;rw[hR.pa,hR.ps];exact h.pa.ext hs2.jF) hP (by rw[hmp];exact hs.sm) (by rw[hmp];exact hs.pa) (by omega) ⟨k5,k6⟩) ?_
  rintro ⟨V3,G3⟩ hd
  have hd:DOk V2 V3 G3 (received m f T):=hd;refine zh ?_;refine HR.ret Tryz.func112 I [_] (fun w hw=>⟨⟨_,rfl,jQ hw 3 I I I I rfl⟩,trivial⟩) ?_;refine fun w' hw=>⟨(V3,[jC G3,jC Gt,cMa (sv V2.bo m.boxes.length) m.boxes,cI (sv V2.ch m.children.length) m.children]),rfl,fun w2 h2 hg=>?_,?_⟩
  ·have g3:=jK hg (c:=jC G3) (by simp);have gt:=jK hg (c:=jC Gt) (by simp);refine ⟨?_,?_,hd.ou w2 g3,?_,?_,hd.se w2 g3,hd.pa w2 (by rw[hR.pa,hR.ps];exact h2.pa) g3,hd.ib w2 g3,hd.eq⟩
   ·rw [hd.ta,z1];exact hR.ta w2 h2.ta gt
   ·rw [hd.li,z2];exact hR.li w2 h2.li
   ·rw [hd.ch,z4];exact jV (jK hg (c:=cI (sv V2.ch m.children.length) m.children) (by simp))
   ·rw [hd.bo,z3];exact jV (jK hg (c:=cMa (sv V2.bo m.boxes.length) m.boxes) (by simp))
  ·exact Ent.trans (Ent.pick [0,4,5,6] I I) (Ent.group (G:=[_,_,_,_]) (H:=[])) w' hw
 have h6:((f.kd==2)&&(f.dst==m.addr))=false:=h6;have h7:¬(f.kd=2/\f.dst=m.addr):=by
  intro e;have:((f.kd==2)&&(f.dst==m.addr))=true:=by simpa using e
  rw[h6]at this;cases this
 rw[if_neg h7];refine zh ?_;refine HR.ret Tryz.func112 I [_] (fun w hw=>⟨⟨_,rfl,jQ hw 2 I I I I rfl⟩,trivial⟩) ?_
 exact fun w' hw=>⟨(V2,roH V2 Gt m),rfl,fin0 w' (hw.pick [3,4,5,6,7,8] I rfl)⟩
end Go.Proofs.YtgfdoognildoeaaGreat
