/- A part of the proof: contracts of the program's functions. Conditions: none. -/
import Derived.Carry
import Derived.Deep.MidRow
import Derived.Deep.Quiet
import Derived.Laws.IdiomRangeMap
import Derived.Laws.MakeOwn
import Derived.Laws.StructEq
import Derived.Laws.Tables
import Derived.Lib.AppendStr
import Derived.Lib.AppendZerosOnto
import Derived.Lib.OthersKept
import Derived.Lib.Overlaps
import Derived.Lib.OwnBridge
import Derived.Lib.SlicesCompact
import Derived.MapKept
import Derived.Orders
import Derived.OrdersHeld
import Derived.Scope
import Derived.Sort.Grow
import Derived.StillTail
import Derived.Test.YtgfdoognildoeaaGreatProg
import Derived.WalkKit
import Derived.WalkLawsBesides
import Derived.WalkSpells
import Derived.Test.YtgfdoognildoeaaGreatQB1
import Derived.Test.YtgfdoognildoeaaGreatQB2
import Derived.Test.YtgfdoognildoeaaGreatQB3
import Derived.Test.YtgfdoognildoeaaGreatQB4
import Derived.Test.YtgfdoognildoeaaGreatQB5
set_option linter.unusedVariables false
set_option linter.unusedSectionVars false
set_option linter.unusedSimpArgs false
set_option maxRecDepth 100000
set_option maxHeartbeats 4000000
namespace Go.GX
open Go.RowKit
section
variable {P : Program} {ops : Array Oper} {Q : Exit → Act → World → Prop} {md : Region.Mode} {S : World → Prop} {z : Nat}
def jBQ (P:Program) (md:Region.Mode) (ops:Array Oper) (Q:Exit→Act→World→Prop) (S:World→Prop) (z:Nat):Nat→Array Bool→Act→World→Prop
 |0,listed,a,w=>Region.ready md ops listed=[]∧Q .normal a w
 |fuel+1,listed,a,w=>
  (Region.ready md ops listed=[]→Q .normal a w)∧
  ∀i∈Region.ready md ops listed,wpOp P ops Q i (fun a' w'=>(i=z∨S w')∧jBQ P md ops Q S z fuel (listed.setIfInBounds i true) a' w') a w
theorem jA5:∀(fuel:Nat) (listed:Array Bool) (a:Act) (w:World),jBQ P md ops Q S z fuel listed a w→wpAny P md ops Q fuel listed a w
 |0,_,_,_,h=>h
 |fuel+1,_,_,_,h=>⟨h.1,fun i hi=>wpOp_mono (fun a' w' h'=>jA5 fuel _ a' w' h'.2) (h.2 i hi)⟩
def jAZ (md:Region.Mode) (ops:Array Oper) (z:Nat):Bool:=match ops[z]? with
 |some o=>(List.range ops.size).all fun i=>Nat.beq i z||o.after.any fun e=>Region.binds md e&&Nat.beq e.on i
 |none=>false
theorem jDz (h:jAZ md ops z=true) {oz:Oper} (ho:ops[z]? =some oz) {i:Nat} (hi:i<ops.size) (hne:i≠z):∃e∈oz.after,Region.binds md e=true∧e.on=i:=by
 unfold jAZ at h
 rw[ho]at h
 have h1:=List.all_eq_true.1 h i (List.mem_range.2 hi)
 have h2:Nat.beq i z=false:=by
  rw[← Bool.not_eq_true];intro hb;exact hne (Nat.eq_of_beq_eq_true hb)
 rw[h2,Bool.false_or]at h1
 obtain ⟨j,hj,h3⟩:=Array.any_eq_true.1 h1
 simp only[Bool.and_eq_true]at h3
 exact ⟨_,Array.getElem_mem hj,h3.1,Nat.eq_of_beq_eq_true h3.2⟩
theorem jEq (hz:jAZ md ops z=true) {i:Nat} {oi:Oper} {v:Value} (hi:ops[i]? =some oi) (hsel:∀(j:Nat) (o:Oper) cs b,ops[j]? =some o→o.op≠ .select cs b)
  (hQ:∀c a w,Q (.panic c) (a.put oi.dst v) w→Q (.panic c) a w):
  ∀(fuel:Nat) (listed:Array Bool) (a:Act) (w:World),
   (∀ j oj,ops[j]? =some oj→j≠i→listed.getD j true=false→(∀ e∈oj.after,Region.binds md e=true→e.on≠i)→oi.apart ops oj=true)→
   i∈Region.ready md ops listed→YieldsIf P ops S oi v a→S w→
   jBQ P md ops Q S z fuel (listed.setIfInBounds i true) (a.put oi.dst v) w→jBQ P md ops Q S z (fuel+1) listed a w:=by
 intro fuel
 induction fuel with
 |zero=>
  intro listed a w _ hr hy hS H
  refine ⟨fun h=>(by rw[h]at hr;cases hr),fun j hj=>?_⟩
  by_cases hji:j=i
  ·subst hji;exact hy.wpOp hi hS ⟨.inr hS,H⟩
  ·have:=ready_mono hj hji
   rw[H.1]at this
   cases this
 |succ fuel ih=>
  intro listed a w hfree hr hy hS H
  refine ⟨fun h=>(by rw[h]at hr;cases hr),fun j hj=>?_⟩
  by_cases hji:j=i
  ·subst hji;exact hy.wpOp hi hS ⟨.inr hS,H⟩
  ·have h1:=H.2 j (ready_mono hj hji)
   obtain ⟨hjun,oj,hoj,hall⟩:=mem_ready.1 hj
   have hnot:∀e∈oj.after,Region.binds md e=true→e.on≠i:=fun e he hb heq=>by
    have h1:=hall e he hb
    have h0:=(mem_ready.1 hr).1
    rw[heq]at h1
    rcases Nat.lt_or_ge i listed.size with h'|h'
    ·simp [h']at h0 h1;rw[h0]at h1;cases h1
    ·simp [Array.getElem?_eq_none h']at h1
   have hjz:j≠z:=by
    intro e
    subst e
    obtain ⟨e,he,hb,hon⟩:=jDz hz hoj (Array.getElem?_eq_some_iff.1 hi).1 (Ne.symm hji)
    exact hnot e he hb hon
   have h2:=wpOp_putIf hoj (hfree j oj hoj hji hjun hnot) (fun cs b=>hsel i oi cs b hi) (fun cs b=>hsel j oj cs b hoj) hQ hy h1
   have hfree':∀k ok,ops[k]? =some ok→k≠i→(listed.setIfInBounds j true).getD k true=false→
     (∀ e∈ok.after,Region.binds md e=true→e.on≠i)→oi.apart ops ok=true:=fun k ok hk hki hun hno=>by
    refine hfree k ok hk hki ?_ hno
    by_cases hjk:j=k
    ·subst hjk;exact hjun
    ·rw [getD_set_ne true hjk]at hun;exact hun
   refine wpOp_mono (fun a' w' h3=>?_) h2
   have hS':S w':=h3.2.1.resolve_left hjz
   refine ⟨.inr hS',ih (listed.setIfInBounds j true) a' w' hfree' (ready_mono hr (Ne.symm hji)) h3.1 hS' ?_⟩
   rw[Array.setIfInBounds_comm _ _ hji]
   exact h3.2.2
end
def jHe:List (Nat×Bool)→Bool
 |[]=>true
 |(_,true)::p=>jHe p
 |(_,false)::_=>false
def jLx (ops:Array Oper) (p:List (Nat×Bool)) (z:Nat):Bool:=Region.noSelect ops&&Nat.beq (p.length+1) ops.size&&jHe p&&jAZ .any ops z&&Zg ops (p++[(z,false)]) (Array.replicate ops.size false)
def KZ (P:Program) (ops:List Oper) (z:Nat) (K:Act→World→Prop):Act→World→Prop:=fun a w=>wpOp P ops.toArray (QN K) z K a w
section
variable {P : Program} {f : FuncId} {N : Nat} {k : List Item} {σ : Store} {B : Base} {H F : List Chunk} {R : Ending → World → Prop} {ops l : List Oper} {o : Oper} {K : Act → World → Prop} {S : World → Prop} {z : Nat}
theorem jAF {ops:Array Oper} {K:Act→World→Prop} (hn:Region.noSelect ops=true) (hz:jAZ .any ops z=true):∀(p:List (Nat×Bool)) (listed:Array Bool) (a:Act) (w:World),S w→jHe p=true→
  Zg ops (p++[(z,false)]) listed=true→jAE P ops S (fun a w=>wpOp P ops (QN K) z K a w) p a w→jBQ P .any ops (QN K) S z (p.length+1) listed a w
 |[],listed,a,w,hS,_,hB,h=>by
  simp only[List.nil_append,Zg,Bool.and_eq_true,decide_eq_true_eq]at hB
  refine ⟨fun h0=>absurd (hB.1.symm.trans h0) (by simp),fun j hj=>?_⟩
  rw[hB.1]at hj
  have:j=z:=by simpa using hj
  subst this
  exact wpOp_mono (fun a' w' h'=>⟨.inl rfl,by simpa using hB.2,rfl,h'⟩) h
 |(i,true)::p,listed,a,w,hS,hA,hB,h=>by
  obtain ⟨o,v,ho,hy,h⟩:=h
  simp only[List.cons_append,Zg,Bool.and_eq_true]at hB
  have hf:=Region.free_spec ho hB.1.2
  exact jEq hz ho (Region.noSelect_spec hn) (fun c a w h=>absurd h.1 (by nofun)) _ listed a w hf (by simpa using hB.1.1) hy hS (jAF hn hz p _ _ _ hS hA hB.2 h)
 |(i,false)::p,listed,a,w,hS,hA,hB,h=>by cases hA
theorem HR.jQX (p:List (Nat×Bool)) (z:Nat) (is:List Nat) (hF:jAM H is=some F) (hd:Js is=true) {id:Nat} (hm:P.follows .mixedOrders=true) (hB:jLx ops.toArray p z=true)
  (h:HD P N ops p σ B H F (KZ P ops z (Ko P f k R))):HR P f N (.code (.region id ops.toArray true)::k) σ B H R:=by
 intro w hw a ha
 simp only[jLx,Bool.and_eq_true]at hB
 obtain ⟨⟨⟨⟨h1,h2⟩,h3⟩,h4⟩,h5⟩:=hB
 have hb:Below w.heap.size w { w with drawn:=w.drawn+1 }:=⟨rfl,rfl,rfl,Nat.le_refl _,fun _ _=>rfl⟩
 have hw1:Sat B H { w with drawn:=w.drawn+1 }:=hw.grow hb
 refine Ko.of_wp (wp_region_any hm (jA5 (S:=fun w=>Sat B F w) (z:=z) _ _ _ _ ?_))
 rw[show ops.toArray.size=p.length+1 from (Nat.eq_of_beq_eq_true h2).symm]
 rw[show ops.toArray.size=p.length+1 from (Nat.eq_of_beq_eq_true h2).symm]at h5
 exact jAF h1 h4 p _ _ _ (hw1.pick is hF hd) h3 h5 (h _ hw1 (hw1.pick is hF hd) a ha)
theorem HD.last (ho:ops[z]? =some o) (h:HL P N ops [o] σ B H K):HD P N ops [] σ B H F (KZ P ops z K):=by
 intro w hw _ a ha
 replace h:=h w hw a ha
 show wpOp P ops.toArray (QN K) z K a w
 simp only[wpOp,show ops.toArray[z]? =some o by simpa using ho]
 unfold wpList at h
 split
 ·rename_i hw'
  rw[if_pos hw']at h
  rcases h with h|h
  ·left
   have h2:o.wp P a w (fun a' w'=>(QN K) .normal a' w') (QN K):=h
   exact Oper.wp_mono (fun a' w' h'=>h'.2) h2
  ·exact (K9 (K:=K) h.2).elim
 ·rename_i hw'
  rw[if_neg hw']at h
  exact h.2
theorem HD.Jf {d i:Nat} {p:List (Nat×Bool)} {ty:TypeId} {pos:String} {af:Array Edge} {gd:Option (Nat×Bool)} {v:Value} {s:TypeId} {x:Operand} {fl:List Field} {fi j n:Nat} {fd:Field} {ti:TypeInfo} {cs:List Value} (hv:Rd B F v cs n) (hj:j<cs.length) (ho:ops[i]? =some ⟨some d,.fieldAddr s x fi,ty,pos,af,gd⟩) (hs:stat N ops ⟨some d,.fieldAddr s x fi,ty,pos,af,gd⟩ σ=true) (hT:P.underlying s=some (.struct ⟨fl⟩)) (hf:jKr fl fi=some fd) (hti:P.info? fd.type=some ti) (hz:Nat.ble 1 ti.size=true) (hx:lookO σ x=some (j6 v j))
  (h:HD P N ops p ((d,j6 v (j+fd.offset))::σ) B H F K):HD P N ops ((i,true)::p) σ B H F K:=HD.rd ho hs (jCX hv hj hT hf hti hz hx) h
end
end Go.GX
namespace Go.Proofs.YtgfdoognildoeaaGreat
open Go.GX Go.RowKit
attribute [local irreducible] Calls Run jg jh JU HR HL HD jU jK Jc Rd jL jd
open Nd
theorem jSZ:IsFn Tryz.prog 209:=⟨⟨_,_,Tryz.func209,rfl,by decide⟩⟩
theorem fn270:IsFn Tryz.prog 270:=⟨⟨_,_,Tryz.func270,rfl,by decide⟩⟩
theorem jSV:IsFn Tryz.prog 217:=⟨⟨_,_,Tryz.func217,rfl,by decide⟩⟩
theorem fn62:IsFn Tryz.prog 62:=⟨⟨_,_,Tryz.func62,rfl,by decide⟩⟩
theorem fn63:IsFn Tryz.prog 63:=⟨⟨_,_,Tryz.func63,rfl,by decide⟩⟩
theorem jFD (t:List Ro) (self:Int) (v:Value) (w:World) (hv:Sl w v (cellsOf roC t) t.length) (hl:t.length≤1000):
  Calls Tryz.prog 209 #[v,.int .i64 self] w fun e w'=>∃v',e= .returned v'∧Sat (base w) [jK v' 94 4 (jFE t self).length (cellsOf roC (jFE t self))] w':=by
 have ht:=ZT t self
 obtain ⟨x,hx,hd,hat⟩:=jNn t self
 have hxo:=jAd (ht.rng x (List.mem_of_getElem? hx))
 have hlt:=(List.getElem?_eq_some_iff.1 hx).1
 have hrb:=jLd hx hd
 have hhas:=jLV hx hd
 have h24:=ht.len
 refine jB Tryz.func209 I (Nat.le_of_ble_eq_true I) ?_
 refine HR.sub (σ':=[(0,v),(1,.int .i64 self)]) ⟨I,I,trivial⟩ ?_
 repeat' (first|refine zh ?_|refine HL.jN jPi I I (fun w _=>jBm self w) ?_|intro (bk:Nat))
 repeat' (first|refine zh ?_|refine HL.JN jRE I I (fun w hw=>jD4 t self v w ((Rd.arg hv).at hw) hl) ?_|intro (bk:Nat))
 intro v1
 obtain ⟨T,hT⟩:∃T,T=Z4 t self:=⟨_,rfl⟩
 rw[← hT]at hx hlt hrb hhas h24 ⊢
 obtain ⟨P,hP⟩:∃P,P=rpos T (lim self):=⟨_,rfl⟩
 rw[← hP]at hx hlt hrb
 repeat' (first|refine zh ?_|refine HL.jN jQ4 I I (fun w hw=>by have:=jCE T (lim self) v1 w ((Rd.own 0 rfl).at hw) (by omega) (hT▸ht.asc) (hT▸jHs) (jJD self);rw[hhas,← hP]at this;exact this) ?_|refine HL.jw (Rd.own 0 I) JE P I I I I hlt ?_|refine HL.Jf (Rd.own 0 I) (by rw[jC jW];omega) I I I I I I ?_|refine HL.jY (Rd.own 0 I) I I I I (jR jW hx (i:=1) I) ?_|intro (bk:Nat))
 refine HR.cond I (fun h=>?_) (fun h=>?_)
 ·have h:x.sq<65534:=of_decide_eq_true h
  rw[if_pos h]at hrb
  repeat' (first|refine zh ?_|refine HL.jw (Rd.own 0 I) JE P I I I I hlt ?_|refine HL.Jf (Rd.own 0 I) (by rw[jC jW];omega) I I I I I I ?_|refine HL.jY (Rd.own 0 I) I I I I (jR jW hx (i:=1) I) ?_|refine HL.KD (j:=P*4+1) 0 I I I I I I I (by rw[jC jW];omega) ?_|intro (bk:Nat))
  refine HR.ret Tryz.func209 I [_] (fun _ _=>⟨I,trivial⟩) ?_
  refine fun w' hw=>⟨v1,rfl,Ent.JM ?_ ?_ w' hw⟩
  ·rw [hrb,List.length_set]
  ·rw [hrb];exact J2 (i:=1) jW hx I (by decide)
 ·have h:¬x.sq<65534:=of_decide_eq_false h
  rw[if_neg h]at hrb
  repeat' (first|refine zh ?_|intro (bk:Nat))
  refine HR.ret Tryz.func209 I [_] (fun _ _=>⟨I,trivial⟩) ?_
  refine fun w' hw=>⟨v1,rfl,?_⟩
  rw[hrb];exact hw
theorem jHz (t:List Ro) (self next:Int) (v:Value) (w:World) (hv:Sl w v (cellsOf roC t) t.length) (hl:t.length≤1000):
  Calls Tryz.prog 62 #[v,.int .i64 self,.int .i64 next] w fun e w'=>∃v',e= .returned v'∧Sat (base w) [jK v' 94 4 (jJx t self next).length (cellsOf roC (jJx t self next))] w':=by
 have ht:=ZT t self
 have h24:=ht.len
 rw[jBo]
 refine jB Tryz.func62 I (Nat.le_of_ble_eq_true I) ?_
 refine HR.sub (σ':=[(0,v),(1,.int .i64 self),(2,.int .i64 next)]) ⟨I,I,I,trivial⟩ ?_
 repeat' (first|refine zh ?_|refine HL.jN jPi I I (fun w _=>jBm self w) ?_|intro (bk:Nat))
 repeat' (first|refine zh ?_|refine HL.JN jRE I I (fun w hw=>jD4 t self v w ((Rd.arg hv).at hw) hl) ?_|intro (bk:Nat))
 intro v1
 have hrng:=ht.rng
 obtain ⟨T,hT⟩:∃T,T=Z4 t self:=⟨_,rfl⟩
 rw[← hT]at h24 hrng ⊢
 repeat' (first|refine zh ?_|refine HL.jN jM7 I I (fun w _=>Z0 next w) ?_|intro (bk:Nat))
 refine HR.cond I (fun h0=>?_) (fun h0=>?_)
 ·have h0:Tp.okN next=false:=by simpa using h0
  repeat' (first|refine zh ?_|intro (bk:Nat))
  refine HR.ret Tryz.func62 I [_] (fun _ _=>⟨I,trivial⟩) ?_
  refine fun w' hw=>⟨v1,rfl,?_⟩
  rw[show T.map (jCj self next)=T from (List.map_congr_left fun a _=>by unfold jCj;rw[if_neg (by rw[h0];simp)];rfl).trans (List.map_id T)]
  exact hw
 have h0:Tp.okN next=true:=by simpa using h0
 repeat' (first|refine zh ?_|refine HL.j4 (Rd.own 0 I) I I I ?_|intro (bk:Nat))
 refine HR.loop (ι:=Nat) (fun k=>k≤T.length) (fun k=>[(0,v1),(1,.int .i64 (lim self)),(2,.int .i64 next),(18,v1),(19,.int .i64 (T.length:Int)),(20,.int .i64 (k:Int))]) (fun k=>[jK v1 94 4 T.length (cellsOf roC ((T.take k).map (jCj self next)++T.drop k))]) (fun k=>T.length-k) 0 (Nat.zero_le _) ⟨I,I,I,I,I,I,trivial⟩ Ent.refl ?_
 intro k hk ih
 have hml:=KY (jCj self next) T k
 repeat' (first|refine zh ?_|intro (bk:Nat))
 refine HR.cond I (fun h2=>?_) (fun h2=>?_)
 ·have hlt:k<T.length:=by have:=of_decide_eq_true h2;omega
  obtain ⟨x,hx⟩:=jH hlt
  have hmg:=ZM (jCj self next) hx
  have hms:=jAm (jCj self next) hx
  have hxo:=jAd (hrng x (List.mem_of_getElem? hx))
  repeat' (first|refine zh ?_|refine HL.jw (Rd.own 0 I) JE k I I I I hlt ?_|refine HL.JB (Rd.own 0 I) I I I I (by simp) I (jF jW hmg) ?_|intro (bk:Nat))
  repeat' (first|refine zh ?_|apply zb ?_ ?_|exact zc|(refine zi fun hb=>?_;try simp at hb)|intro (bk:Nat))
  refine HR.cond I (fun h3=>?_) (fun h3=>?_)
  ·have h3:((x.nx==next)&&(x.dest != lim self))=true:=h3
   simp only[Bool.and_eq_true,beq_iff_eq,bne_iff_ne,ne_eq]at h3
   have hb:jCj self next x=⟨x.dest,x.sq+1,255,255⟩:=by unfold jCj;rw[if_pos ⟨h0,h3.1,h3.2⟩]
   rw[hb]at hms
   repeat' (first|refine zh ?_|refine HL.jw (Rd.own 1 I) JE k I I I I hlt ?_|refine HL.zH (us:=roC ⟨x.dest,x.sq+1,255,255⟩) (j:=k*4) 1 I I I I I I I (by rw[jC jW,hml];show k*4+4≤_;omega) (by simp) ?_|apply zb ?_ ?_|exact zc|(refine zi fun hb=>?_;try simp at hb)|intro (bk:Nat))
   refine ih (k+1) _ _ hlt (by omega) ⟨I,I,I,I,I,I,trivial⟩ (Ent.trans (Ent.pick (H':=[jK v1 94 4 T.length _]) [1] I I) (Ent.JM I ?_))
   rw[← hms]
   exact Jb (i:=0) jW hmg I (show 0+4≤4 by decide)
  ·have h3:((x.nx==next)&&(x.dest != lim self))=false:=h3
   have hb:jCj self next x=x:=by
    unfold jCj
    rw[if_neg]
    rintro ⟨_,e1,e2⟩
    rw[show (x.nx==next)=true by simpa using e1,show (x.dest != lim self)=true by simpa using e2]at h3
    cases h3
   repeat' (first|refine zh ?_|apply zb ?_ ?_|exact zc|(refine zi fun hb=>?_;try simp at hb)|intro (bk:Nat))
   refine ih (k+1) _ _ hlt (by omega) ⟨I,I,I,I,I,I,trivial⟩ (Ent.trans (Ent.pick [1] I I) (Ent.JM I ?_))
   rw[kW _ hx hb]
 ·have hke:k=T.length:=by have:=of_decide_eq_false h2;omega
  subst hke
  rw[List.take_length,List.drop_length,List.append_nil]
  repeat' (first|refine zh ?_|intro (bk:Nat))
  refine HR.ret Tryz.func62 I [_] (fun _ _=>⟨I,trivial⟩) ?_
  exact fun w' hw=>⟨v1,rfl,Ent.JM (by simp) I w' hw⟩
theorem jJz (t:List Ro) (self next:Int) (v:Value) (w:World) (hv:Sl w v (cellsOf roC t) t.length) (hl:t.length≤1000):
  Calls Tryz.prog 63 #[v,.int .i64 self,.int .i64 next] w fun e w'=>∃v',e= .returned v'∧Sat (base w) [jK v' 94 4 (jJx t self next).length (cellsOf roC (jJx t self next))] w':=by
 have ht:=ZT t self
 have h24:=ht.len
 rw[jBo]
 refine jB Tryz.func63 I (Nat.le_of_ble_eq_true I) ?_
 refine HR.sub (σ':=[(0,v),(1,.int .i64 self),(2,.int .i64 next)]) ⟨I,I,I,trivial⟩ ?_
 repeat' (first|refine zh ?_|refine HL.JN fn126 I I (fun w hw=>jFK t self v w ((Rd.arg hv).at hw) hl) ?_|intro (bk:Nat))
 intro v1
 have hrng:=ht.rng
 obtain ⟨T,hT⟩:∃T,T=Z4 t self:=⟨_,rfl⟩
 rw[← hT]at h24 hrng ⊢
 repeat' (first|refine zh ?_|intro (bk:Nat))
 refine HR.loop (ι:=Nat) (fun k=>k≤T.length) (fun k=>[(1,.int .i64 self),(2,.int .i64 next),(7,v1),(8,.int .i64 (k:Int))]) (fun k=>[jK v1 94 4 T.length (cellsOf roC ((T.take k).map (jCj self next)++T.drop k))]) (fun k=>T.length-k) 0 (Nat.zero_le _) ⟨I,I,I,I,trivial⟩ Ent.refl ?_
 intro k hk ih
 have hml:=KY (jCj self next) T k
 repeat' (first|refine zh ?_|refine HL.j4 (Rd.own 0 I) I I I ?_|intro (bk:Nat))
 refine HR.cond I (fun h2=>?_) (fun h2=>?_)
 ·have hlt:k<T.length:=by have:=of_decide_eq_true h2;omega
  obtain ⟨x,hx⟩:=jH hlt
  have hmg:=ZM (jCj self next) hx
  have hms:=jAm (jCj self next) hx
  have hxo:=jAd (hrng x (List.mem_of_getElem? hx))
  repeat' (first|refine zh ?_|apply zb ?_ ?_|exact zc|(refine zi fun hb=>?_;try simp at hb)|intro (bk:Nat))
  refine HR.jo JZ (by kernel_rfl) ?_
  repeat' (first|refine zq ?_|refine HQ.jN jM6 I I (fun w _=>KT _ w) ?_|refine HQ.jw (Rd.own 0 I) JE k I I I I hlt ?_|refine HQ.Jf (Rd.own 0 I) (by rw[jC jW,hml];omega) I I I I I I ?_|refine HQ.jY (Rd.own 0 I) I I I I (jR jW hmg (i:=3) I) ?_|refine HQ.jY (Rd.own 0 I) I I I I (jR jW hmg (i:=0) I) ?_|apply zb ?_ ?_|exact zc|(refine zi fun hb=>?_;try simp at hb))
  refine HR.cond I (fun h3=>?_) (fun h3=>?_)
  ·have h3:(((next==lim next)&&(x.nx==next))&&(x.dest != lim self))=true:=h3
   rw[jQF]at h3
   simp only[Bool.and_eq_true,beq_iff_eq,bne_iff_ne,ne_eq]at h3
   have hb:jCj self next x=⟨x.dest,x.sq+1,255,255⟩:=by unfold jCj;rw[if_pos ⟨h3.1.1,h3.1.2,h3.2⟩]
   rw[hb]at hms
   repeat' (first|refine zh ?_|intro (bk:Nat))
   refine HR.jQX [(0,true),(1,true),(2,true),(3,true),(4,true),(5,true),(6,true),(7,true),(8,true),(9,true),(10,true),(11,true),(12,true),(13,true),(14,true)] 15 [0] I I JZ (by kernel_rfl) ?_
   repeat' (first|refine zd ?_|refine HD.jw (Rd.own 0 I) JE k I I I I I hlt ?_|refine HD.Jf (Rd.own 0 I) (by rw[jC jW,hml];omega) I I I I I I I ?_|refine HD.jY (Rd.own 0 I) I I I I I (jR jW hmg (i:=0) I) ?_|refine HD.jY (Rd.own 0 I) I I I I I (jR jW hmg (i:=1) I) ?_)
   refine HD.last I ?_
   repeat' (first|refine zn ?_|refine HL.zH (us:=roC ⟨x.dest,x.sq+1,255,255⟩) (j:=k*4) 0 I I I I I I I (by rw[jC jW,hml];show k*4+4≤_;omega) (by simp) ?_|apply zb ?_ ?_|exact zc|(refine zi fun hb=>?_;try simp at hb)|intro (bk:Nat))
   repeat' (first|refine zh ?_|apply zb ?_ ?_|exact zc|(refine zi fun hb=>?_;try simp at hb)|intro (bk:Nat))
   refine ih (k+1) _ _ hlt (by omega) ⟨I,I,I,I,trivial⟩ (Ent.JM I ?_)
   rw[← hms]
   exact Jb (i:=0) jW hmg I (show 0+4≤4 by decide)
  ·have h3:(((next==lim next)&&(x.nx==next))&&(x.dest != lim self))=false:=h3
   rw[jQF]at h3
   have hb:jCj self next x=x:=by
    unfold jCj
    rw[if_neg]
    rintro ⟨e0,e1,e2⟩
    rw[e0,show (x.nx==next)=true by simpa using e1,show (x.dest != lim self)=true by simpa using e2]at h3
    cases h3
   repeat' (first|refine zh ?_|apply zb ?_ ?_|exact zc|(refine zi fun hb=>?_;try simp at hb)|intro (bk:Nat))
   refine ih (k+1) _ _ hlt (by omega) ⟨I,I,I,I,trivial⟩ (Ent.JM I ?_)
   rw[kW _ hx hb]
 ·have hke:k=T.length:=by have:=of_decide_eq_false h2;omega
  subst hke
  rw[List.take_length,List.drop_length,List.append_nil]
  repeat' (first|refine zh ?_|intro (bk:Nat))
  refine HR.ret Tryz.func63 I [_] (fun _ _=>⟨I,trivial⟩) ?_
  exact fun w' hw=>⟨v1,rfl,Ent.JM (by simp) I w' hw⟩
end Go.Proofs.YtgfdoognildoeaaGreat
namespace Go.Proofs.YtgfdoognildoeaaGreat
open Go.GX Go.RowKit
attribute [local irreducible] Calls Run jg jh JU HR HL HD jU jK Jc Rd jL jd
open Nd
theorem jLW {t:List Ro} (ha:Asc (·.dest) t) {d:Int} (h:rat t d=none):jP2 t d=false:=by
 unfold jP2
 have:=Asc.jN0 ha (n:=d) h
 split
 ·rename_i x hx
  simpa using this x hx
 ·rfl
theorem jJs (t:List Ro) (fr:Int) (r:Ro) (v:Value) (B0:Base) (w:World) (hw0:Sat B0 [jK v 94 4 t.length (cellsOf roC t)] w) (hl:t.length≤24) (hasc:Asc (·.dest) t) (hok:∀x∈t,Tp.okN x.dest=true) (hr:Tp.okN r.dest=true):
  Calls Tryz.prog 270 #[v,.int .i64 fr,.agg ⟨roC r⟩] w fun e w'=>∃x:Value,e= .returned x∧True∧Sat ⟨w,Zi [jK v 94 4 t.length (cellsOf roC t)]⟩ [jK x 94 4 (Je t fr r).length (cellsOf roC (Je t fr r))] w':=by
 have hple:=jLT t r.dest
 refine ji [jK v 94 4 t.length (cellsOf roC t)] (hw0) Tryz.func270 I (Nat.le_of_ble_eq_true I) ?_
 refine HR.sub (σ':=[(0,v),(1,.int .i64 fr),(2,.agg ⟨roC r⟩)]) ⟨I,I,I,trivial⟩ ?_
 rcases hf:rat t r.dest with _|o
 ·have hh:=jLW hasc hf
  repeat' (first|refine zh ?_|refine HL.jN (r:= .tuple ⟨[.int .i64 (rpos t r.dest:Int),.bool false]⟩) jQ4 I I (fun w hw=>by have:=jCE t r.dest v w ((Rd.own 1 rfl).at hw) (by omega) hasc hok hr;rw[hh]at this;exact this) ?_|intro (bk:Nat))
  cases hfin:fin r
  ·refine HR.jo JZ (by kernel_rfl) ?_
   repeat' (first|refine zq ?_|refine HQ.jN (r:= .bool false) jAB I I (fun w _=>by have:=Jp r w;rw[hfin]at this;exact this) ?_)
   repeat' (first|refine zh ?_|refine HL.jN (r:= .bool false) jAB I I (fun w _=>by have:=Jp r w;rw[hfin]at this;exact this) ?_|intro (bk:Nat))
   refine HR.jo JZ (by kernel_rfl) ?_
   repeat' (first|refine zq ?_|refine HQ.jN (r:= .bool false) jAB I I (fun w _=>by have:=Jp r w;rw[hfin]at this;exact this) ?_)
   repeat' (first|refine zh ?_|intro (bk:Nat))
   refine HR.ret Tryz.func270 I [_] (fun _ _=>⟨I,trivial⟩) ?_
   refine fun w' hw=>⟨_,rfl,trivial,?_⟩
   have e:Je t fr r=t:=by unfold Je;rw[hf];simp only;rw[if_neg (by rw[hfin];simp)]
   rw[e];exact hw.pick [1] I I
  ·refine HR.jo JZ (by kernel_rfl) ?_
   repeat' (first|refine zq ?_|refine HQ.jN (r:= .bool true) jAB I I (fun w _=>by have:=Jp r w;rw[hfin]at this;exact this) ?_)
   repeat' (first|refine zh ?_|refine HL.jN (r:= .bool true) jAB I I (fun w _=>by have:=Jp r w;rw[hfin]at this;exact this) ?_|refine HL.j4 (Rd.own 1 I) I I I ?_|intro (bk:Nat))
   refine HR.cond I (fun h3=>?_) (fun h3=>?_)
   ·have h3:t.length<24:=by have:=of_decide_eq_true h3;omega
    repeat' (first|refine zh ?_|refine HL.jk JE I I I I I (by decide) (by decide) ?_|intro (bk:Nat))
    intro va
    refine HL.ent (Ent.pick (H':=[jK va 94 4 1 (roC r),jK v 94 4 t.length (cellsOf roC t)]) [0,2] I I) ?_
    refine HL.Jo (r:=fun r:Value=>r) (Q:=fun _=>True) (G0:=[jK va 94 4 1 (roC r),jK v 94 4 t.length (cellsOf roC t)]) (H0:=[]) (G:=fun x=>[jK x 94 4 (t.take (rpos t r.dest)++r::t.drop (rpos t r.dest)).length (cellsOf roC (t.take (rpos t r.dest)++r::t.drop (rpos t r.dest)))]) fn300 I I I (fun w hw=>jMk t r (rpos t r.dest) v va _ w hw hple (by omega)) ?_
    intro v2 _
    repeat' (first|refine zh ?_|intro (bk:Nat))
    refine HR.ret Tryz.func270 I [_] (fun _ _=>⟨I,trivial⟩) ?_
    refine fun w' hw=>⟨_,rfl,trivial,?_⟩
    have e:Je t fr r=t.take (rpos t r.dest)++r::t.drop (rpos t r.dest):=by unfold Je;rw[hf];simp only;rw[if_pos ⟨hfin,h3⟩]
    rw[e];exact hw
   ·have h3:¬t.length<24:=by have:=of_decide_eq_false h3;omega
    refine HR.ctl I ?_
    refine HR.jo JZ (by kernel_rfl) ?_
    repeat' (first|refine zq ?_|refine HQ.jN (r:= .bool true) jAB I I (fun w _=>by have:=Jp r w;rw[hfin]at this;exact this) ?_)
    repeat' (first|refine zh ?_|intro (bk:Nat))
    refine HR.ret Tryz.func270 I [_] (fun _ _=>⟨I,trivial⟩) ?_
    refine fun w' hw=>⟨_,rfl,trivial,?_⟩
    have e:Je t fr r=t:=by unfold Je;rw[hf];simp only;rw[if_neg (by omega)]
    rw[e];exact hw.pick [1] I I
 ·obtain ⟨hx,hd,hlt⟩:=Asc.pos hasc hf
  have hx:t[rpos t r.dest]? =some o:=hx
  have hlt:rpos t r.dest<t.length:=hlt
  have hh:=jLV hx hd
  repeat' (first|refine zh ?_|refine HL.jN (r:= .tuple ⟨[.int .i64 (rpos t r.dest:Int),.bool true]⟩) jQ4 I I (fun w hw=>by have:=jCE t r.dest v w ((Rd.own 1 rfl).at hw) (by omega) hasc hok hr;rw[hh]at this;exact this) ?_|intro (bk:Nat))
  cases hfin:fin r
  ·refine HR.jo JZ (by kernel_rfl) ?_
   repeat' (first|refine zq ?_|refine HQ.jN (r:= .bool false) jAB I I (fun w _=>by have:=Jp r w;rw[hfin]at this;exact this) ?_)
   repeat' (first|refine zh ?_|refine HL.jN (r:= .bool false) jAB I I (fun w _=>by have:=Jp r w;rw[hfin]at this;exact this) ?_|intro (bk:Nat))
   refine HR.jo JZ (by kernel_rfl) ?_
   repeat' (first|refine zq ?_|refine HQ.jN (r:= .bool false) jAB I I (fun w _=>by have:=Jp r w;rw[hfin]at this;exact this) ?_|refine HQ.jw (Rd.own 1 I) JE (rpos t r.dest) I I I I hlt ?_|refine HQ.Jf (Rd.own 1 I) (by rw[jC jW];omega) I I I I I I ?_|refine HQ.jY (Rd.own 1 I) I I I I (jR jW hx (i:=3) I) ?_|refine HQ.jY (Rd.own 1 I) I I I I (jR jW hx (i:=1) I) ?_|apply zb ?_ ?_|exact zc|(refine zi fun hb=>?_;try simp at hb))
   refine HR.cond I (fun h3=>?_) (fun h3=>?_)
   ·have h3:((o.nx==fr)&&decide (o.sq<r.sq))=true:=h3
    have e:Je t fr r=t.set (rpos t r.dest) r:=by unfold Je;rw[hf];simp only;rw[hfin];exact if_pos (by simpa using h3)
    repeat' (first|refine zh ?_|refine HL.jw (Rd.own 1 I) JE (rpos t r.dest) I I I I hlt ?_|refine HL.zH (us:=roC r) (j:=rpos t r.dest*4) 1 I I I I I I I (by rw[jC jW];show rpos t r.dest*4+4≤_;omega) (by simp) ?_|intro (bk:Nat))
    refine HR.ret Tryz.func270 I [_] (fun _ _=>⟨I,trivial⟩) ?_
    refine fun w' hw=>⟨_,rfl,trivial,Ent.JM ?_ ?_ w' (hw.pick [1] I rfl)⟩
    ·rw [e];simp
    ·rw [e];exact Jb (i:=0) jW hx I (show 0+4≤4 by decide)
   ·have h3:((o.nx==fr)&&decide (o.sq<r.sq))=false:=h3
    have e:Je t fr r=t:=by unfold Je;rw[hf];simp only;rw[hfin];exact if_neg (by simpa using h3)
    repeat' (first|refine zh ?_|intro (bk:Nat))
    refine HR.ret Tryz.func270 I [_] (fun _ _=>⟨I,trivial⟩) ?_
    refine fun w' hw=>⟨_,rfl,trivial,?_⟩
    rw[e];exact hw.pick [1] I I
  ·refine HR.jo JZ (by kernel_rfl) ?_
   repeat' (first|refine zq ?_|refine HQ.jN (r:= .bool true) jAB I I (fun w _=>by have:=Jp r w;rw[hfin]at this;exact this) ?_|refine HQ.jw (Rd.own 1 I) JE (rpos t r.dest) I I I I hlt ?_|refine HQ.JB (Rd.own 1 I) I I I I (by simp) I (jF jW hx) ?_|refine HQ.jN fn299 I I (fun w _=>jGu r o w) ?_)
   refine HR.cond I (fun h3=>?_) (fun h3=>?_)
   ·have h3:better r o=true:=h3
    have e:Je t fr r=t.set (rpos t r.dest) r:=by unfold Je;rw[hf];simp only;rw[hfin];exact if_pos h3
    repeat' (first|refine zh ?_|refine HL.jw (Rd.own 1 I) JE (rpos t r.dest) I I I I hlt ?_|refine HL.zH (us:=roC r) (j:=rpos t r.dest*4) 1 I I I I I I I (by rw[jC jW];show rpos t r.dest*4+4≤_;omega) (by simp) ?_|intro (bk:Nat))
    refine HR.ret Tryz.func270 I [_] (fun _ _=>⟨I,trivial⟩) ?_
    refine fun w' hw=>⟨_,rfl,trivial,Ent.JM ?_ ?_ w' (hw.pick [1] I rfl)⟩
    ·rw [e];simp
    ·rw [e];exact Jb (i:=0) jW hx I (show 0+4≤4 by decide)
   ·have h3:better r o=false:=h3
    have e:Je t fr r=t:=by unfold Je;rw[hf];simp only;rw[hfin];exact if_neg (by simpa using h3)
    repeat' (first|refine zh ?_|refine HL.jN (r:= .bool true) jAB I I (fun w _=>by have:=Jp r w;rw[hfin]at this;exact this) ?_|intro (bk:Nat))
    refine HR.jo JZ (by kernel_rfl) ?_
    repeat' (first|refine zq ?_|refine HQ.jN (r:= .bool true) jAB I I (fun w _=>by have:=Jp r w;rw[hfin]at this;exact this) ?_)
    repeat' (first|refine zh ?_|intro (bk:Nat))
    refine HR.ret Tryz.func270 I [_] (fun _ _=>⟨I,trivial⟩) ?_
    refine fun w' hw=>⟨_,rfl,trivial,?_⟩
    rw[e];exact hw.pick [1] I I
theorem jHq (t:List Ro) (self fr cost:Int) (adv:List Ro) (v va:Value) (w:World) (hv:Sl w v (cellsOf roC t) t.length) (hva:Sl w va (cellsOf roC adv) adv.length) (hl:t.length≤1000) (hla:adv.length≤1000):
  Calls Tryz.prog 217 #[v,.int .i64 self,.int .i64 fr,.int .i64 cost,va] w fun e w'=>∃v',e= .returned v'∧Sat (base w) [jK v' 94 4 (jGe t self fr cost adv).length (cellsOf roC (jGe t self fr cost adv))] w':=by
 have ht:=ZT t self
 have hokt:∀r∈Z4 t self,Tp.okN r.dest=true:=jHs
 refine jB Tryz.func217 I (Nat.le_of_ble_eq_true I) ?_
 refine HR.sub (σ':=[(0,v),(1,.int .i64 self),(2,.int .i64 fr),(3,.int .i64 cost),(4,va)]) ⟨I,I,I,I,I,trivial⟩ ?_
 repeat' (first|refine zh ?_|refine HL.jN jPi I I (fun w _=>jBm self w) ?_|intro (bk:Nat))
 repeat' (first|refine zh ?_|refine HL.JN jRE I I (fun w hw=>jD4 t self v w ((Rd.arg hv).at hw) hl) ?_|intro (bk:Nat))
 intro v1
 repeat' (first|refine zh ?_|refine HL.jN jM7 I I (fun w _=>Z0 fr w) ?_|apply zb ?_ ?_|exact zc|(refine zi fun hb=>?_;try simp at hb)|intro (bk:Nat))
 refine HR.cond I (fun h0=>?_) (fun h0=>?_)
 ·have h0:((((!Tp.okN fr)||(fr==lim self))||decide (cost<1))||decide (cost>200))=true:=h0
  have e:jGe t self fr cost adv=Z4 t self:=by
   unfold jGe;rw[if_pos]
   simp only[Bool.or_eq_true,Bool.not_eq_true',beq_iff_eq,decide_eq_true_eq]at h0
   rcases h0 with ((h|h)|h)|h
   ·exact .inl h
   ·exact .inr (.inl h)
   ·exact .inr (.inr (.inl h))
   ·exact .inr (.inr (.inr h))
  repeat' (first|refine zh ?_|apply zb ?_ ?_|exact zc|(refine zi fun hb=>?_;try simp at hb)|intro (bk:Nat))
  refine HR.ret Tryz.func217 I [_] (fun _ _=>⟨I,trivial⟩) ?_
  exact fun w' hw=>⟨v1,rfl,by rw[e];exact hw⟩
 have h0:((((!Tp.okN fr)||(fr==lim self))||decide (cost<1))||decide (cost>200))=false:=h0
 simp only[Bool.or_eq_false_iff,Bool.not_eq_false',beq_eq_false_iff_ne,decide_eq_false_iff_not]at h0
 have e:jGe t self fr cost adv=adv.foldl (ZU self fr cost) (Z4 t self):=by
  unfold jGe;rw[if_neg]
  rintro (h|h|h|h)
  ·rw [h0.1.1.1]at h;cases h
  ·exact h0.1.1.2 h
  ·exact h0.1.2 h
  ·exact h0.2 h
 rw[e]
 have hasc:=ht.asc
 have h24:=ht.len
 obtain ⟨T,hT⟩:∃T,T=Z4 t self:=⟨_,rfl⟩
 rw[← hT]at hokt hasc h24 ⊢
 repeat' (first|refine zh ?_|refine HL.j4 (Rd.arg hva) I I I ?_|apply zb ?_ ?_|exact zc|(refine zi fun hb=>?_;try simp at hb)|intro (bk:Nat))
 refine HR.Kc (α:=Nat) (β:=Value) (fun k _=>k≤adv.length) (fun k u=>[(0,u),(1,.int .i64 (lim self)),(2,.int .i64 fr),(3,.int .i64 cost),(36,va),(37,.int .i64 (adv.length:Int)),(38,.int .i64 (k:Int))]) (fun k u=>[jK u 94 4 ((adv.take k).foldl (ZU self fr cost) T).length (cellsOf roC ((adv.take k).foldl (ZU self fr cost) T))]) (fun k _=>adv.length-k) 0 v1 (Nat.zero_le _) ⟨I,I,I,I,I,I,I,trivial⟩ Ent.refl ?_
 intro k u hk ih
 repeat' (first|refine zh ?_|intro (bk:Nat))
 refine HR.cond I (fun h2=>?_) (fun h2=>?_)
 ·have hlt:k<adv.length:=by have:=of_decide_eq_true h2;omega
  obtain ⟨x,hx⟩:=jH hlt
  have hft:=jCY (ZU self fr cost) T hx
  obtain ⟨hS1,hS2⟩:=jEv (self:=self) (fr:=fr) (cost:=cost) (adv:=adv.take k) hasc h24
  have hS3:=jHn (self:=self) (fr:=fr) (cost:=cost) (adv:=adv.take k) hokt
  obtain ⟨S,hS⟩:∃S,S=(adv.take k).foldl (ZU self fr cost) T:=⟨_,rfl⟩
  rw[← hS]at hft hS1 hS2 hS3 ⊢
  repeat' (first|refine zh ?_|refine HL.jw (Rd.arg hva) JE k I I I I hlt ?_|refine HL.JB (Rd.arg hva) I I I I (by simp) I (jF jW hx) ?_|intro (bk:Nat))
  repeat' (first|refine zh ?_|refine HL.jN jPf I I (fun w _=>Kq x w) ?_|apply zb ?_ ?_|exact zc|(refine zi fun hb=>?_;try simp at hb)|intro (bk:Nat))
  refine HR.cond I (fun h3=>?_) (fun h3=>?_)
  ·have h3:((!usable x)||(x.dest==lim self))=true:=h3
   have hst:ZU self fr cost S x=S:=by
    unfold ZU;rw[if_pos]
    simp only[Bool.or_eq_true,Bool.not_eq_true',beq_iff_eq]at h3
    exact h3
   rw[hst]at hft
   repeat' (first|refine zh ?_|apply zb ?_ ?_|exact zc|(refine zi fun hb=>?_;try simp at hb)|intro (bk:Nat))
   exact ih (k+1) u _ _ hlt (by omega) ⟨I,I,I,I,I,I,I,trivial⟩ (Ent.trans (Ent.pick [1] I I) (Ent.JM (by rw[hft]) (by rw[hft])))
  ·have h3:((!usable x)||(x.dest==lim self))=false:=h3
   simp only[Bool.or_eq_false_iff,Bool.not_eq_false',beq_eq_false_iff_ne]at h3
   have hst:ZU self fr cost S x=Je S fr (jFG fr cost x):=by
    unfold ZU;rw[if_neg]
    rintro (h|h)
    ·rw [h3.1]at h;cases h
    ·exact h3.2 h
   rw[hst]at hft
   have hxo:=KN h3.1
   have hrd:Tp.okN (jFG fr cost x).dest=true:=by rw[jFF];exact hxo.1
   refine HR.skip ?_
   repeat' (first|refine zh ?_|refine HL.jN jAB I I (fun w _=>Jp x w) ?_|intro (bk:Nat))
   repeat' (first|refine zh ?_|apply zb ?_ ?_|exact zc|(refine zi fun hb=>?_;try simp at hb)|intro (bk:Nat))
   refine HR.join (ι:=Unit) (fun _=>True) (fun _=>[(0,u),(1,.int .i64 (lim self)),(2,.int .i64 fr),(3,.int .i64 cost),(36,va),(37,.int .i64 (adv.length:Int)),(38,.int .i64 (k:Int)),(13,.pointer (some ⟨bk,0,none⟩))]) (fun _=>[jK u 94 4 S.length (cellsOf roC S),jU bk (roC (jFG fr cost x)) 94]) (fun _ _=>?_) (fun hj=>?_)
   ·repeat' (first|refine zh ?_|refine HL.Jo (r:=fun r:Value=>r) (Q:=fun _=>True) (G0:=[jK u 94 4 S.length (cellsOf roC S)]) (H0:=[jU bk (roC (jFG fr cost x)) 94]) (G:=fun y=>[jK y 94 4 (Je S fr (jFG fr cost x)).length (cellsOf roC (Je S fr (jFG fr cost x)))]) fn270 I I I (fun w hw=>jJs S fr (jFG fr cost x) u _ w (hw.pick [0] I I) hS2 hS1 hS3 hrd) ?_|intro (bk:Nat))
    intro y _
    repeat' (first|refine zh ?_|apply zb ?_ ?_|exact zc|(refine zi fun hb=>?_;try simp at hb)|intro (bk:Nat))
    exact ih (k+1) y _ _ hlt (by omega) ⟨I,I,I,I,I,I,I,trivial⟩ (Ent.trans (Ent.pick [0] I I) (Ent.JM (by rw[hft]) (by rw[hft])))
   ·refine HR.cond I (fun h4=>?_) (fun h4=>?_)
    ·have h4:(fin x&&decide (x.cost+cost≤200))=true:=h4
     have hra:jFG fr cost x=⟨x.dest,x.sq,x.cost+cost,fr⟩:=by
      unfold jFG;rw[if_pos];simpa using h4
     rw[hra]at hj
     refine HR.region ?_
     repeat' (first|refine zn ?_|apply zb ?_ ?_|exact zc|(refine zi fun hb=>?_;try simp at hb)|intro (bk:Nat))
     exact hj () _ _ trivial ⟨I,I,I,I,I,I,I,I,trivial⟩ (Ent.pick [2,0] I I)
    ·have h4:(fin x&&decide (x.cost+cost≤200))=false:=h4
     have hra:jFG fr cost x=⟨x.dest,x.sq,255,255⟩:=by
      unfold jFG;rw[if_neg];intro hh;simp[hh.1,hh.2]at h4
     rw[hra]at hj
     refine HR.skip ?_
     exact hj () _ _ trivial ⟨I,I,I,I,I,I,I,I,trivial⟩ (Ent.pick [2,0] I I)
 ·have hke:k=adv.length:=by have:=of_decide_eq_false h2;omega
  subst hke
  rw[List.take_length]
  repeat' (first|refine zh ?_|apply zb ?_ ?_|exact zc|(refine zi fun hb=>?_;try simp at hb)|intro (bk:Nat))
  refine HR.ret Tryz.func217 I [_] (fun _ _=>⟨I,trivial⟩) ?_
  exact fun w' hw=>⟨u,rfl,hw⟩
end Go.Proofs.YtgfdoognildoeaaGreat
namespace Go.Proofs.YtgfdoognildoeaaGreat
open Go.GX Go.RowKit
attribute [local irreducible] Calls Run jg jh JU HR HL HD jU jK Jc Rd jL jd
open Nd
theorem fn212:IsFn Tryz.prog 212:=⟨⟨_,_,Tryz.func212,rfl,by decide⟩⟩
theorem fn216:IsFn Tryz.prog 216:=⟨⟨_,_,Tryz.func216,rfl,by decide⟩⟩
theorem jJN:Elem Tryz.prog 198 5 1 1:=⟨rfl,⟨_,_,rfl,rfl,rfl,rfl,rfl⟩,by decide⟩
theorem jDA {n:Int} (h:0≤n∧n≤255):((u8 n).toNat:Int)=n:=by
 unfold u8;rw[u8n];omega
theorem jRj {n:Int} (h:0≤n):((u8 n).toNat:Int)=n%256:=by
 unfold u8;rw[u8n];omega
theorem jGr {x:Ro} (h:usable x=true):ZA (jGs x)=[.int .u8 x.dest,.int .u8 (x.sq / 256),.int .u8 (x.sq%256),.int .u8 x.cost]:=by
 obtain ⟨h1,h2,h3,h4,h5⟩:=KN h
 rw[ZR]at h1
 unfold jGs ZA
 simp only[List.map_cons,List.map_nil]
 rw[jDA (n:=x.dest) (by omega),jDA (n:=x.sq / 256) (by omega),jRj h2,jDA (n:=x.cost) (by omega)]
theorem jJv (t:List Ro):(jGL t).length≤96:=by
 unfold jGL;rw[jEC,List.length_take];omega
theorem jNt (t:List Ro) (v:Value) (w:World) (hv:Sl w v (cellsOf roC t) t.length) (hl:t.length≤1000):
  Calls Tryz.prog 212 #[v] w fun e w'=>e= .returned (str (jGL t))∧Below w.heap.size w w':=by
 refine jB Tryz.func212 I (Nat.le_of_ble_eq_true I) ?_
 refine HR.sub (σ':=[(0,v)]) ⟨I,trivial⟩ ?_
 repeat' (first|refine zh ?_|refine HL.j4 (Rd.arg hv) I I I ?_|intro (bk:Nat))
 refine HR.zY 5 1 ?_
 refine HR.Kc (α:=Nat) (β:=Value) (fun k _=>k≤t.length) (fun k u=>[(3,u),(6,v),(7,.int .i64 (t.length:Int)),(8,.int .i64 (k:Int))]) (fun k u=>[jK u 5 1 (jGL (t.take k)).length (ZA (jGL (t.take k)))]) (fun k _=>t.length-k) 0 (.slice none 0 0) (Nat.zero_le _) ⟨I,I,I,I,trivial⟩ (Ent.pick [0] I I) ?_
 intro k u hk ih
 repeat' (first|refine zh ?_|intro (bk:Nat))
 refine HR.cond I (fun h2=>?_) (fun h2=>?_)
 ·have hlt:k<t.length:=by have:=of_decide_eq_true h2;omega
  obtain ⟨x,hx⟩:=jH hlt
  have hst:=jLZ (t.take k) x
  rw[← jG hx]at hst
  have hb:=jJv (t.take k)
  obtain ⟨S,hS⟩:∃S,S=jGL (t.take k):=⟨_,rfl⟩
  rw[← hS]at hst hb ⊢
  repeat' (first|refine zh ?_|refine HL.jw (Rd.arg hv) JE k I I I I hlt ?_|refine HL.JB (Rd.arg hv) I I I I (by simp) I (jF jW hx) ?_|intro (bk:Nat))
  repeat' (first|refine zh ?_|refine HL.jN jPf I I (fun w _=>Kq x w) ?_|refine HL.j4 (Rd.own 1 I) I I I ?_|apply zb ?_ ?_|exact zc|(refine zi fun hb=>?_;try simp at hb)|intro (bk:Nat))
  refine HR.cond I (fun h3=>?_) (fun h3=>?_)
  ·have h3:(usable x&&decide ((S.length:Int)<96))=true:=h3
   simp only[Bool.and_eq_true,decide_eq_true_eq]at h3
   rw[if_pos ⟨h3.1,by omega⟩]at hst
   have hxo:=KN h3.1
   have hd:=(ZR _).1 hxo.1
   have hcl:=jGr h3.1
   repeat' (first|refine zh ?_|refine HL.cv (x.sq%256) I I I I (by simp[IntKind.wrap,IntKind.bits,IntKind.signed]) ?_|refine HL.jk jJN I I I I I (by decide) (by decide) ?_|intro (bk:Nat))
   intro va
   repeat' (first|refine zh ?_|refine HL.zD 2 I jJN (Rd.own 0 I) I I I I (jJ I) (by omega) (by omega) ?_|intro (bk:Nat))
   intro o2
   repeat' (first|refine zh ?_|intro (bk:Nat))
   refine ih (k+1) o2 _ _ hlt (by omega) ⟨I,I,I,I,trivial⟩ (Ent.trans (Ent.pick [2] I I) (Ent.JM ?_ ?_))
   ·rw [hst];simp[jGs]
   ·rw [hst,jEk,hcl]
  ·have h3:(usable x&&decide ((S.length:Int)<96))=false:=h3
   rw[if_neg (by rintro ⟨ha,hb⟩;rw[ha,decide_eq_true (by omega)]at h3;cases h3)]at hst
   repeat' (first|refine zh ?_|intro (bk:Nat))
   exact ih (k+1) u _ _ hlt (by omega) ⟨I,I,I,I,trivial⟩ (Ent.trans (Ent.pick [1] I I) (Ent.JM (by rw[hst]) (by rw[hst])))
 ·have hke:k=t.length:=by have:=of_decide_eq_false h2;omega
  subst hke
  rw[List.take_length]
  repeat' (first|refine zh ?_|refine HL.bstr (Rd.own 0 I) I I I I I ?_|intro (bk:Nat))
  refine HR.ret Tryz.func212 I [_] (fun _ _=>⟨I,trivial⟩) ?_
  exact fun w' hw=>⟨rfl,hw.jE⟩
end Go.Proofs.YtgfdoognildoeaaGreat
namespace Go.Proofs.YtgfdoognildoeaaGreat
open Go.GX Go.RowKit
attribute [local irreducible] Calls Run jg jh JU HR HL HD jU jK Jc Rd jL jd
open Nd
theorem jKc {l:List Ro} {k:Nat} {x:Ro} (hx:l[k]? =some x) (h:usable x=false):jEo l k=2:=by unfold jEo;rw[hx];simp only;rw[if_pos h]
theorem jKd {l:List Ro} {k:Nat} {x y:Ro} (hx:l[k]? =some x) (h:usable x=true) (h0:0<k) (hy:l[k-1]? =some y) (hle:x.dest≤y.dest):jEo l k=14:=by
 unfold jEo;rw[hx];simp only;rw[if_neg (by rw[h];decide),if_pos ⟨h0,by rw[hy];exact decide_eq_true hle⟩]
theorem jRV {l:List Ro} {k:Nat} {x:Ro} (hx:l[k]? =some x) (h:usable x=true) (h2:∀y,0<k→l[k-1]? =some y→¬x.dest≤y.dest):jEo l k=0:=by
 unfold jEo;rw[hx];simp only
 rw[if_neg (by rw[h];decide),if_neg]
 rintro ⟨h0,h3⟩
 split at h3
 ·rename_i y hy
  exact h2 y h0 hy (of_decide_eq_true h3)
 ·cases h3
theorem Ki {f:Nat→Int} {k n:Nat} (h1:jf f k=0) (h2:f k≠0) (hk:k<n):jf f n=f k:=by
 induction n with
 |zero=>omega
 |succ n ih=>
  unfold jf
  by_cases hkn:k=n
  ·subst hkn;rw[if_neg (by rw[h1];simp)]
  ·rw [ih (by omega),if_pos h2]
theorem jNw {s:By} (h:s.length%4≠0):jBg s=([],5):=by unfold jBg;rw[if_pos h]
theorem jLa {s:By} (h:s.length%4=0) (h2:s.length>96):jBg s=([],3):=by unfold jBg;rw[if_neg (by omega),if_pos h2]
theorem jHv {s:By} {k:Nat} (h:s.length%4=0) (h2:¬s.length>96) (h1:jf (jEo (zW s (s.length / 4))) k=0) (h3:jEo (zW s (s.length / 4)) k≠0) (hk:k<s.length / 4):jBg s=([],jEo (zW s (s.length / 4)) k):=by
 have:=Ki h1 h3 hk
 unfold jBg;rw[if_neg (by omega),if_neg h2,this,if_pos h3]
theorem jLb {s:By} (h:s.length%4=0) (h2:¬s.length>96) (h1:jf (jEo (zW s (s.length / 4))) (s.length / 4)=0):jBg s=(zW s (s.length / 4),0):=by
 unfold jBg;rw[if_neg (by omega),if_neg h2,if_neg (by rw[h1];simp)]
theorem jRu (a b:Nat) (h:b<256):(a*256 ||| b)=a*256+b:=by
 have:=Nat.shiftLeft_add_eq_or_of_lt (i:=8) (b:=b) (by omega) a
 rw[Nat.shiftLeft_eq]at this
 exact this.symm
theorem jKb (s:By) (w:World) (hs:s.length≤9223372036854775807):
  Calls Tryz.prog 216 #[str s] w fun e w'=>∃v',e= .returned (.tuple ⟨[v',.int .i64 (jBg s).2]⟩)∧True∧Sat (base w) [jK v' 94 4 (jBg s).1.length (cellsOf roC (jBg s).1)] w':=by
 refine jB Tryz.func216 I (Nat.le_of_ble_eq_true I) ?_
 refine HR.sub (σ':=[(0,str s)]) ⟨I,trivial⟩ ?_
 repeat' (first|refine zh ?_|intro (bk:Nat))
 refine HR.cond I (fun h=>?_) (fun h=>?_)
 ·have h:(((s.length:Int)%4) != 0)=true:=h
  have h:s.length%4≠0:=by simp at h;omega
  rw[jNw h]
  repeat' (first|refine zh ?_|intro (bk:Nat))
  refine HR.zY 94 4 ?_
  refine HR.ret Tryz.func216 I [_,_] (fun _ _=>⟨I,I,trivial⟩) ?_
  exact fun w' hw=>⟨_,rfl,trivial,hw⟩
 have h:(((s.length:Int)%4) != 0)=false:=h
 have h:s.length%4=0:=by simp at h;omega
 repeat' (first|refine zh ?_|intro (bk:Nat))
 refine HR.cond I (fun h2=>?_) (fun h2=>?_)
 ·have h2:s.length>96:=by have:=of_decide_eq_true h2;omega
  rw[jLa h h2]
  repeat' (first|refine zh ?_|intro (bk:Nat))
  refine HR.zY 94 4 ?_
  refine HR.ret Tryz.func216 I [_,_] (fun _ _=>⟨I,I,trivial⟩) ?_
  exact fun w' hw=>⟨_,rfl,trivial,hw⟩
 have h2:¬s.length>96:=by have:=of_decide_eq_false h2;omega
 obtain ⟨n,hn⟩:∃n,n=s.length / 4:=⟨_,rfl⟩
 have hsn:s.length=4*n:=by omega
 repeat' (first|refine zh ?_|intro (bk:Nat))
 refine HR.zY 94 4 ?_
 refine HR.Kc (α:=Nat) (β:=Value) (fun k _=>k≤n∧jf (jEo (zW s n)) k=0) (fun k u=>[(0,str (s.drop (4*k))),(4,u)]) (fun k u=>[jK u 94 4 (zW s k).length (cellsOf roC (zW s k))]) (fun k _=>n-k) 0 (.slice none 0 0) ⟨Nat.zero_le _,rfl⟩ ⟨I,I,trivial⟩ Ent.refl ?_
 rintro k u ⟨hk,hg⟩ ih
 have hdl:(s.drop (4*k)).length=4*(n-k):=by rw[List.length_drop];omega
 repeat' (first|refine zh ?_|intro (bk:Nat))
 refine HR.cond I (fun h3=>?_) (fun h3=>?_)
 ·have hlt:k<n:=by have:=of_decide_eq_true h3;omega
  have hx:(zW s n)[k]? =some (jGt (s.drop (4*k))):=jAe s hlt
  have hrk:zW s (k+1)=zW s k++[jGt (s.drop (4*k))]:=rfl
  have hkl:=Z5 s k
  have hdr:(s.drop (4*k)).drop 4=s.drop (4*(k+1)):=by rw[List.drop_drop];congr 1
  obtain ⟨S,hS⟩:∃S,S=s.drop (4*k):=⟨_,rfl⟩
  rw[← hS]at hdl hx hrk hdr ⊢
  have b0:=(S.getD 0 0).toNat_lt
  have b1:=(S.getD 1 0).toNat_lt
  have b3:=(S.getD 3 0).toNat_lt
  have b2:=(S.getD 2 0).toNat_lt
  refine HR.ctl I ?_
  refine HR.j3 [(0,true),(1,true),(2,true),(3,true),(4,true),(5,true),(6,true),(7,true),(8,true),(9,true),(10,true),(11,true),(12,true),(13,true),(14,true),(15,false),(16,false)] [] I I JZ (by kernel_rfl) ?_
  repeat' (first|refine HD.ev I I I ?_|refine HD.evc I I I (by first|omega|(simp;done)|(simp;omega)) ?_|refine HD.L 0 I I I I I ?_|refine HD.L 1 I I I I I ?_|refine HD.L 2 I I I I I ?_|refine HD.L 3 I I I I I ?_|refine HD.build I I I ?_|refine HD.field I I I ?_|refine HD.skip I I I ?_|refine HD.kH I I I ?_|(refine HD.one I ?_;first|refine HL.ev I I ?_|(refine HL.isLoad ?_;first|refine HL.L 0 I I I I ?_|refine HL.L 1 I I I I ?_|refine HL.L 2 I I I I ?_|refine HL.L 3 I I I I ?_)|(refine HL.jQ ?_;first|refine HL.S 0 I I I I I ?_|refine HL.S 1 I I I I I ?_|refine HL.S 2 I I I I I ?_|refine HL.S 3 I I I I I ?_)|(refine HL.alloc I I ?_;intro bk))|refine HL.back [] rfl rfl ?_|refine HD.nil ?_)
  refine HD.ZB 24 (v':= .int .i64 (((S.getD 1 0).toNat*256:Nat):Int)) I (by rw[Int.natCast_mul];rfl) ?_
  refine HD.evc I I I (by omega) ?_
  refine HD.ZB 28 (v':= .int .i64 (((S.getD 1 0).toNat*256+(S.getD 2 0).toNat:Nat):Int)) I (by rw[jRu _ _ b2]) ?_
  repeat' (first|refine HD.ev I I I ?_|refine HD.evc I I I (by first|omega|(simp;done)|(simp;omega)) ?_|refine HD.L 0 I I I I I ?_|refine HD.L 1 I I I I I ?_|refine HD.L 2 I I I I I ?_|refine HD.L 3 I I I I I ?_|refine HD.build I I I ?_|refine HD.field I I I ?_|refine HD.skip I I I ?_|refine HD.kH I I I ?_|(refine HD.one I ?_;first|refine HL.ev I I ?_|(refine HL.isLoad ?_;first|refine HL.L 0 I I I I ?_|refine HL.L 1 I I I I ?_|refine HL.L 2 I I I I ?_|refine HL.L 3 I I I I ?_)|(refine HL.jQ ?_;first|refine HL.S 0 I I I I I ?_|refine HL.S 1 I I I I I ?_|refine HL.S 2 I I I I I ?_|refine HL.S 3 I I I I I ?_)|(refine HL.alloc I I ?_;intro bk))|refine HL.back [] rfl rfl ?_|refine HD.nil ?_)
  obtain ⟨x,hxe⟩:∃x,x=jGt S:=⟨_,rfl⟩
  refine HR.ent (Ent.pick (H':=[jU bk (roC (jGt S)) 94,jK u 94 4 (zW s k).length (cellsOf roC (zW s k))]) [0,1] I I) ?_
  rw[← hxe]at hx hrk ⊢
  rw[hkl]
  repeat' (first|refine zh ?_|refine HL.jN jPf I I (fun w _=>Kq x w) ?_|intro (bk:Nat))
  refine HR.cond I (fun h4=>?_) (fun h4=>?_)
  ·have h4:usable x=false:=by simpa using h4
   have e:=jKc hx h4
   rw[jHv h h2 (by rw[← hn];exact hg) (by rw[← hn,e];decide) (by omega),← hn,e]
   repeat' (first|refine zh ?_|intro (bk:Nat))
   refine HR.zY 94 4 ?_
   refine HR.ret Tryz.func216 I [_,_] (fun _ _=>⟨I,I,trivial⟩) ?_
   exact fun w' hw=>⟨_,rfl,trivial,hw.pick [0] I rfl⟩
  have h4:usable x=true:=by simpa using h4
  have hxo:=KN h4
  obtain ⟨y,hy⟩:∃y,(k=0∨(zW s n)[k-1]? =some y)∧(k=0∨(zW s k)[k-1]? =some y):=by
   by_cases h0:k=0
   ·exact ⟨x,.inl h0,.inl h0⟩
   ·exact ⟨jGt (s.drop (4*(k-1))),.inr (jAe s (by omega)),.inr (jAe s (by omega))⟩
  repeat' (first|refine zh ?_|intro (bk:Nat))
  refine HR.jo JZ (by kernel_rfl) ?_
  repeat' (first|refine zq ?_|refine HQ.j4 (Rd.own 1 I) I I I ?_|refine HQ.jw (Rd.own 1 I) JE (k-1) I I I (by omega) (by omega) ?_|refine HQ.Jf (Rd.own 1 I) (by rw[jC jW];omega) I I I I I I ?_|refine HQ.jY (Rd.own 1 I) I I I I (jR jW (hy.2.resolve_left (by omega)) (i:=0) I) ?_|apply zb ?_ ?_|exact zc|(refine zi fun hb=>?_;try simp at hb))
  refine HR.cond I (fun h5=>?_) (fun h5=>?_)
  ·have h5:(decide ((k:Int)>0)&&decide (x.dest≤y.dest))=true:=h5
   simp only[Bool.and_eq_true,decide_eq_true_eq]at h5
   have e:=jKd hx h4 (by omega) (hy.1.resolve_left (by omega)) h5.2
   rw[jHv h h2 (by rw[← hn];exact hg) (by rw[← hn,e];decide) (by omega),← hn,e]
   repeat' (first|refine zh ?_|intro (bk:Nat))
   refine HR.zY 94 4 ?_
   refine HR.ret Tryz.func216 I [_,_] (fun _ _=>⟨I,I,trivial⟩) ?_
   exact fun w' hw=>⟨_,rfl,trivial,hw.pick [0] I rfl⟩
  ·have h5:(decide ((k:Int)>0)&&decide (x.dest≤y.dest))=false:=h5
   have hg2:jf (jEo (zW s n)) (k+1)=0:=zP hg (jRV hx h4 fun y' h0 hy' hle=>by
    have:=hy.1.resolve_left (by omega)
    rw[this]at hy'
    cases hy'
    rw[decide_eq_true (show (k:Int)>0 by omega),decide_eq_true hle]at h5
    cases h5)
   refine HR.skip ?_
   repeat' (first|refine zh ?_|refine HL.jk JE I I I I I (by decide) (by decide) ?_|intro (bk:Nat))
   intro va
   repeat' (first|refine zh ?_|refine HL.zD 2 I JE (Rd.own 0 I) I I I I (jJ I) (by omega) (by omega) ?_|intro (bk:Nat))
   intro o2
   repeat' (first|refine zh ?_|intro (bk:Nat))
   refine ih (k+1) o2 _ _ ⟨hlt,hg2⟩ (by omega) ⟨by rw[← hdr];rfl,rfl,trivial⟩ (Ent.trans (Ent.pick [2] I I) (Ent.JM ?_ ?_))
   ·rw [hrk];simp[hkl]
   ·rw [hrk,jM];rfl
 ·have hke:k=n:=by have:=of_decide_eq_false h3;omega
  subst hke
  rw[jLb h h2 (by rw[← hn];exact hg),← hn]
  repeat' (first|refine zh ?_|intro (bk:Nat))
  refine HR.ret Tryz.func216 I [_,_] (fun _ _=>⟨I,I,trivial⟩) ?_
  exact fun w' hw=>⟨_,rfl,trivial,hw⟩
end Go.Proofs.YtgfdoognildoeaaGreat
namespace Go.Proofs.YtgfdoognildoeaaGreat
open Go.GX Go.RowKit
attribute [local irreducible] Calls Run jg jh JU HR HL HD jU jK Jc Rd jL jd
open Nd
theorem jQ9:IsFn Tryz.prog 166:=⟨⟨_,_,Tryz.func166,rfl,by decide⟩⟩
theorem fn150:IsFn Tryz.prog 150:=⟨⟨_,_,Tryz.func150,rfl,by decide⟩⟩
theorem fn175:IsFn Tryz.prog 175:=⟨⟨_,_,Tryz.func175,rfl,by decide⟩⟩
section
variable {α : Type} {E : α → List Value} {sz : Nat} {B : Base} {H : List Chunk}
theorem Rd.pre (hE:∀a,(E a).length=sz) {l:List α} {v:Value} (hv:Rd B H v (cellsOf E l) l.length) {n:Nat} (hn:n≤l.length):Rd B H (kD sz v 0 n) (cellsOf E (l.take n)) (l.take n).length:=by
 have h:=Rd.sub (sz:=sz) hv (jC hE _) (Nat.zero_le n) hn
 rw[Nat.zero_mul,List.drop_zero,Nat.sub_zero,JW hE]at h
 rw[List.length_take,Nat.min_eq_left hn];exact h
theorem Rd.suf (hE:∀a,(E a).length=sz) {l:List α} {v:Value} (hv:Rd B H v (cellsOf E l) l.length) {n:Nat} (hn:n≤l.length):Rd B H (kD sz v n l.length) (cellsOf E (l.drop n)) (l.drop n).length:=by
 have h:=Rd.sub (sz:=sz) hv (jC hE _) hn (Nat.le_refl _)
 rw[JH hE,List.take_of_length_le (by rw[jC hE,List.length_drop];exact Nat.le_refl _)]at h
 rw[List.length_drop];exact h
end
theorem jQo (n:Nat):(if (16:Int)<(n:Int)then (16:Int)else (n:Int))=((min 16 n:Nat):Int):=by split<;>omega
theorem jNc {α:Type} (k:Nat) (l:List α):l.take (min k l.length)=l.take k:=by
 rcases Nat.le_total k l.length with h|h
 ·rw [Nat.min_eq_left h]
 ·rw [Nat.min_eq_right h,List.take_of_length_le (Nat.le_refl _),List.take_of_length_le h]
theorem jBF (l:List Sn) (v:Value) (w:World) (hv:Sl w v (cellsOf snC l) l.length) (hl:l.length≤1000):
  Calls Tryz.prog 166 #[v] w fun e w'=>∃v',e= .returned v'∧Sat (base w) [jK v' 131 11 (l.take 16).length (cellsOf snC (l.take 16))] w':=by
 refine jB Tryz.func166 I (Nat.le_of_ble_eq_true I) ?_
 refine HR.sub (σ':=[(0,v)]) ⟨I,trivial⟩ ?_
 repeat' (first|refine zh ?_|refine HL.j4 (Rd.arg hv) I I I ?_|intro (bk:Nat))
 refine HL.ZB 6 (v':= .int .i64 ((min 16 l.length:Nat):Int)) I (by rw[jQo]) ?_
 have hp:=Rd.pre je (B:=base w) (H:=[]) (Rd.arg hv) (n:=min 16 l.length) (Nat.min_le_right _ _)
 rw[jNc]at hp
 repeat' (first|refine zh ?_|refine HL.KP (sz:=11) 0 (min 16 l.length) (Rd.arg hv) I I I I (.inl ⟨rfl,rfl⟩) (.inr ⟨_,_,_,rfl,rfl,rfl⟩) (Nat.zero_le _) (Nat.min_le_right _ _) ?_|refine HL.JN jPh I I (fun w hw=>KA (l.take 16) _ w (hp.at hw) (by simp;omega)) ?_|intro (bk:Nat))
 intro v1
 repeat' (first|refine zh ?_|intro (bk:Nat))
 refine HR.ret Tryz.func166 I [_] (fun _ _=>⟨I,trivial⟩) ?_
 exact fun w' hw=>⟨v1,rfl,hw⟩
theorem jMH (l:List Sn) (v:Value) (w:World) (hv:Sl w v (cellsOf snC l) l.length) (hl:l.length≤1000) (hf:∀s∈l,fits .i64 s.wt):
  Calls Tryz.prog 150 #[v] w fun e w'=>∃v',e= .returned v'∧Sat (base w) [jK v' 131 11 (jAA l).length (cellsOf snC (jAA l))] w':=by
 have hf16:∀s∈l.take 16,fits .i64 s.wt:=fun s hs=>hf s (List.mem_of_mem_take hs)
 have h16:(l.take 16).length≤16:=by simp;omega
 unfold jAA
 refine jB Tryz.func150 I (Nat.le_of_ble_eq_true I) ?_
 refine HR.sub (σ':=[(0,v)]) ⟨I,trivial⟩ ?_
 repeat' (first|refine zh ?_|refine HL.JN jQ9 I I (fun w hw=>jBF l v w ((Rd.arg hv).at hw) hl) ?_|intro (bk:Nat))
 intro v1
 obtain ⟨T,hT⟩:∃T,T=l.take 16:=⟨_,rfl⟩
 rw[← hT]at hf16 h16 ⊢
 repeat' (first|refine zh ?_|refine HL.j4 (Rd.own 0 I) I I I ?_|intro (bk:Nat))
 refine HR.loop (ι:=Nat) (fun k=>k≤T.length) (fun k=>[(3,v1),(8,.int .i64 (T.length:Int)),(9,.int .i64 (k:Int))]) (fun k=>[jK v1 131 11 T.length (cellsOf snC ((T.take k).map jAJ++T.drop k))]) (fun k=>T.length-k) 0 (Nat.zero_le _) ⟨I,I,I,trivial⟩ Ent.refl ?_
 intro k hk ih
 have hml:=KY jAJ T k
 repeat' (first|refine zh ?_|intro (bk:Nat))
 refine HR.cond I (fun h2=>?_) (fun h2=>?_)
 ·have hlt:k<T.length:=by have:=of_decide_eq_true h2;omega
  obtain ⟨x,hx⟩:=jH hlt
  have hmg:=ZM jAJ hx
  have hms:=jAm jAJ hx
  have hxf:-9223372036854775808≤x.wt∧x.wt≤9223372036854775807:=hf16 x (List.mem_of_getElem? hx)
  repeat' (first|refine zh ?_|refine HL.jw (Rd.own 0 I) Ja k I I I I hlt ?_|refine HL.Jf (Rd.own 0 I) (by rw[jC je,hml];omega) I I I I I I ?_|refine HL.jY (Rd.own 0 I) I I I I (jR je hmg (i:=10) I) ?_|intro (bk:Nat))
  refine HR.cond I (fun h3=>?_) (fun h3=>?_)
  ·have h3:x.wt>0:=of_decide_eq_true h3
   have e:jAJ x=⟨x.f,x.tr,x.wt-1⟩:=by unfold jAJ;rw[if_pos h3]
   rw[e]at hms
   repeat' (first|refine zh ?_|refine HL.jw (Rd.own 0 I) Ja k I I I I hlt ?_|refine HL.Jf (Rd.own 0 I) (by rw[jC je,hml];omega) I I I I I I ?_|refine HL.jY (Rd.own 0 I) I I I I (jR je hmg (i:=10) I) ?_|refine HL.KD (j:=k*11+10) 0 I I I I I I I (by rw[jC je,hml];omega) ?_|intro (bk:Nat))
   refine ih (k+1) _ _ hlt (by omega) ⟨I,I,I,trivial⟩ (Ent.JM I ?_)
   rw[← hms]
   exact J2 (i:=10) je hmg I (by decide)
  ·have h3:¬x.wt>0:=of_decide_eq_false h3
   have e:jAJ x=x:=by unfold jAJ;rw[if_neg h3]
   repeat' (first|refine zh ?_|intro (bk:Nat))
   refine ih (k+1) _ _ hlt (by omega) ⟨I,I,I,trivial⟩ (Ent.JM I ?_)
   rw[kW _ hx e]
 ·have hke:k=T.length:=by have:=of_decide_eq_false h2;omega
  subst hke
  rw[List.take_length,List.drop_length,List.append_nil]
  repeat' (first|refine zh ?_|intro (bk:Nat))
  refine HR.ret Tryz.func150 I [_] (fun _ _=>⟨I,trivial⟩) ?_
  exact fun w' hw=>⟨v1,rfl,Ent.JM (by simp) I w' hw⟩
end Go.Proofs.YtgfdoognildoeaaGreat
namespace Go.Proofs.YtgfdoognildoeaaGreat
open Go.GX Go.RowKit
attribute [local irreducible] Calls Run jg jh JU HR HL HD jU jK Jc Rd jL jd
open Nd
theorem fn184:IsFn Tryz.prog 184:=⟨⟨_,_,Tryz.func184,rfl,by decide⟩⟩
def sn0:Sn:=⟨fr0,0,0⟩
theorem jFH (l:List Sn) (v:Value) (w:World) (hv:Sl w v (cellsOf snC l) l.length) (hl:l.length≤1000):
  Calls Tryz.prog 175 #[v] w fun e w'=>∃v',e= .returned v'∧Sat (base w) [jK v' 131 11 (l.take 16).length (cellsOf snC (l.take 16))] w':=by
 refine jB Tryz.func175 I (Nat.le_of_ble_eq_true I) ?_
 refine HR.sub (σ':=[(0,v)]) ⟨I,trivial⟩ ?_
 repeat' (first|refine zh ?_|intro (bk:Nat))
 refine HR.zY 131 11 ?_
 refine HR.Kc (α:=Nat) (β:=Value) (fun k o=>k≤l.length∧k≤16) (fun k o=>[(0,v),(3,o),(4,.int .i64 (k:Int))]) (fun k o=>[jK o 131 11 (l.take k).length (cellsOf snC (l.take k))]) (fun k _=>l.length-k) 0 (.slice none 0 0) ⟨Nat.zero_le _,by omega⟩ ⟨I,I,I,trivial⟩ Ent.refl ?_
 rintro k o ⟨hk,hk16⟩ ih
 have htl:(l.take k).length=k:=by simp;omega
 repeat' (first|refine zh ?_|refine HL.j4 (Rd.arg hv) I I I ?_|apply zb ?_ ?_|exact zc|(refine zi fun hb=>?_;try simp at hb)|intro (bk:Nat))
 refine HR.cond I (fun h2=>?_) (fun h2=>?_)
 ·have h2:(decide ((k:Int)<l.length)&&decide ((k:Int)<16))=true:=h2
  simp only[Bool.and_eq_true,decide_eq_true_eq]at h2
  have hlt:k<l.length:=by omega
  obtain ⟨x,hx⟩:=jH hlt
  repeat' (first|refine zh ?_|refine HL.jw (Rd.arg hv) Ja k I I I I hlt ?_|refine HL.JB (Rd.arg hv) I I I I (by simp) I (jF je hx) ?_|refine HL.jk Ja I I I I I (by decide) (by decide) ?_|intro (bk:Nat))
  intro va
  repeat' (first|refine zh ?_|refine HL.zD 1 I Ja (Rd.own 0 I) I I I I (jJ I) (by omega) (by omega) ?_|intro (bk:Nat))
  intro o2
  repeat' (first|refine zh ?_|intro (bk:Nat))
  refine ih (k+1) o2 _ _ ⟨hlt,by omega⟩ (by omega) ⟨I,I,I,trivial⟩ (Ent.trans (Ent.pick [1] I I) (Ent.JM ?_ ?_))
  ·rw [jG hx];simp
  ·rw [jG hx,jM];rfl
 ·have h2:(decide ((k:Int)<l.length)&&decide ((k:Int)<16))=false:=h2
  have e:l.take k=l.take 16:=by
   by_cases h3:k<l.length
   ·rw [decide_eq_true (show (k:Int)<l.length by omega),Bool.true_and,decide_eq_false_iff_not]at h2
    rw[show k=16 by omega]
   ·rw [List.take_of_length_le (by omega),List.take_of_length_le (by omega)]
  rw[e]
  repeat' (first|refine zh ?_|intro (bk:Nat))
  refine HR.ret Tryz.func175 I [_] (fun _ _=>⟨I,trivial⟩) ?_
  exact fun w' hw=>⟨o,rfl,hw⟩
theorem jC0 (l:List Sn) (i:Nat) (v:Value) (w:World) (hv:Sl w v (cellsOf snC l) l.length) (hl:l.length≤1000) (hi:i<l.length):
  Calls Tryz.prog 184 #[v,.int .i64 (i:Int)] w fun e w'=>∃v',e= .returned v'∧Sat (base w) [jK v' 131 11 (l.eraseIdx i).length (cellsOf snC (l.eraseIdx i))] w':=by
 have hstep:∀ {k:Nat} {x:Sn},l[k]? =some x→(l.take (k+1)).eraseIdx i=if k=i then (l.take k).eraseIdx i else (l.take k).eraseIdx i++[x]:=by
  intro k x hx
  have hkl:=(List.getElem?_eq_some_iff.1 hx).1
  have htl:(l.take k).length=k:=by simp;omega
  rw[jG hx]
  split
  ·rename_i h
   subst h
   rw[List.eraseIdx_append_of_length_le (by omega),htl,Nat.sub_self,List.eraseIdx_of_length_le (l:=l.take k) (by omega)];simp
  ·rename_i h
   by_cases h3:i<k
   ·rw [List.eraseIdx_append_of_lt_length (by omega)]
   ·rw [List.eraseIdx_append_of_length_le (by omega),htl,List.eraseIdx_of_length_le (l:=[x]) (by simp;omega),List.eraseIdx_of_length_le (l:=l.take k) (by omega)]
 refine jB Tryz.func184 I (Nat.le_of_ble_eq_true I) ?_
 refine HR.sub (σ':=[(0,v),(1,.int .i64 (i:Int))]) ⟨I,I,trivial⟩ ?_
 repeat' (first|refine zh ?_|intro (bk:Nat))
 refine HR.zY 131 11 ?_
 refine HR.Kc (α:=Nat) (β:=Value) (fun k o=>k≤l.length) (fun k o=>[(0,v),(1,.int .i64 (i:Int)),(5,o),(6,.int .i64 (k:Int))]) (fun k o=>[jK o 131 11 ((l.take k).eraseIdx i).length (cellsOf snC ((l.take k).eraseIdx i))]) (fun k _=>l.length-k) 0 (.slice none 0 0) (Nat.zero_le _) ⟨I,I,I,I,trivial⟩ (by rw[List.take_zero,List.eraseIdx_nil];exact Ent.refl) ?_
 rintro k o hk ih
 have htl:((l.take k).eraseIdx i).length≤k:=Nat.le_trans (List.length_eraseIdx_le _ _) (by simp;omega)
 repeat' (first|refine zh ?_|refine HL.j4 (Rd.arg hv) I I I ?_|intro (bk:Nat))
 refine HR.cond I (fun h2=>?_) (fun h2=>?_)
 ·have hlt:k<l.length:=by have:=of_decide_eq_true h2;omega
  obtain ⟨x,hx⟩:=jH hlt
  have hst:=hstep hx
  repeat' (first|refine zh ?_|intro (bk:Nat))
  refine HR.cond I (fun h3=>?_) (fun h3=>?_)
  ·have h3:¬k=i:=by have h3:((k:Int) != (i:Int))=true:=h3;simp at h3;omega
   rw[if_neg h3]at hst
   repeat' (first|refine zh ?_|refine HL.jw (Rd.arg hv) Ja k I I I I hlt ?_|refine HL.JB (Rd.arg hv) I I I I (by simp) I (jF je hx) ?_|refine HL.jk Ja I I I I I (by decide) (by decide) ?_|intro (bk:Nat))
   intro va
   repeat' (first|refine zh ?_|refine HL.zD 1 I Ja (Rd.own 0 I) I I I I (jJ I) (by omega) (by omega) ?_|intro (bk:Nat))
   intro o2
   repeat' (first|refine zh ?_|intro (bk:Nat))
   refine ih (k+1) o2 _ _ hlt (by omega) ⟨I,I,I,I,trivial⟩ (Ent.trans (Ent.pick [1] I I) (Ent.JM ?_ ?_))
   ·rw [hst];simp
   ·rw [hst,jM];rfl
  ·have h3:k=i:=by have h3:((k:Int) != (i:Int))=false:=h3;simp at h3;omega
   rw[if_pos h3]at hst
   repeat' (first|refine zh ?_|intro (bk:Nat))
   exact ih (k+1) o _ _ hlt (by omega) ⟨I,I,I,I,trivial⟩ (Ent.JM (by rw[hst]) (by rw[hst]))
 ·have hke:k=l.length:=by have:=of_decide_eq_false h2;omega
  subst hke
  rw[List.take_length]
  repeat' (first|refine zh ?_|intro (bk:Nat))
  refine HR.ret Tryz.func184 I [_] (fun _ _=>⟨I,trivial⟩) ?_
  exact fun w' hw=>⟨o,rfl,hw⟩
end Go.Proofs.YtgfdoognildoeaaGreat
namespace Go.Proofs.YtgfdoognildoeaaGreat
open Go.GX Go.RowKit
attribute [local irreducible] Calls Run jg jh JU HR HL HD jU jK Jc Rd jL jd
open Nd
theorem jMN {q:List Sn} {i:Nat} {ok:Bool} (h:(q.take 16).length≤i):KM q i ok=(q.take 16,false):=by unfold KM;rw[List.getElem?_eq_none h]
theorem jMM {q:List Sn} {i:Nat} {ok:Bool} {s:Sn} (h:(q.take 16)[i]? =some s):KM q i ok=if ok then ((q.take 16).eraseIdx i,false)else if JG s=8 then ((q.take 16).eraseIdx i,true)
  else ((q.take 16).set i ⟨s.f,JG s,if s.f.ur then 0 else min (JG s) 4⟩,false):=by unfold KM;rw[h]
end Go.Proofs.YtgfdoognildoeaaGreat
namespace Go.Proofs.YtgfdoognildoeaaGreat
open Go.GX Go.RowKit
attribute [local irreducible] Calls Run jg jh JU HR HL HD jU jK Jc Rd jL jd
open Nd
theorem fn226:IsFn Tryz.prog 226:=⟨⟨_,_,Tryz.func226,rfl,by decide⟩⟩
theorem jPg:IsFn Tryz.prog 157:=⟨⟨_,_,Tryz.func157,rfl,by decide⟩⟩
theorem fn266:IsFn Tryz.prog 266:=⟨⟨_,_,Tryz.func266,rfl,by decide⟩⟩
theorem jNF (l:List Li) (i:Nat) (v:Value) (B0:Base) (w:World) (hw0:Sat B0 [jK v 162 3 l.length (cellsOf liC l)] w) (hi:i<l.length) (hl:l.length≤1000):
  Calls Tryz.prog 226 #[v,.int .i64 (i:Int),.int .i64 ((i:Int)+1)] w fun e w'=>∃r:Value,e= .returned r∧True∧Sat ⟨w,Zi [jK v 162 3 l.length (cellsOf liC l)]⟩ [jK r 162 3 (l.eraseIdx i).length (cellsOf liC (l.eraseIdx i))] w':=by
 obtain ⟨g,off,c,rfl,hnc,hcm⟩:=Vw.row (Sat.vw hw0 (i:=0) I) (by omega)
 have hcm:c≤9223372036854775807:=hcm
 have hel:(l.eraseIdx i).length=l.length-1:=List.length_eraseIdx_of_lt hi
 refine ji [jK (.slice (some ⟨g,off,none⟩) l.length c) 162 3 l.length (cellsOf liC l)] (hw0) Tryz.func226 I (Nat.le_of_ble_eq_true I) ?_
 refine HR.sub (σ':=[(0,.slice (some ⟨g,off,none⟩) l.length c),(1,.int .i64 (i:Int)),(2,.int .i64 ((i:Int)+1))]) ⟨I,I,I,trivial⟩ ?_
 repeat' (first|refine zh ?_|refine HL.j4 (Rd.own 0 I) I I I ?_|refine HL.cut i (i+1) l.length I I I I (.inr ⟨_,_,rfl,rfl⟩) (.inr ⟨_,_,rfl,rfl⟩) (.inr ⟨_,_,rfl,rfl⟩) (by omega) (by omega) hnc ?_|apply zb ?_ ?_|exact zc|(refine zi fun hb=>?_;try simp at hb)|intro (bk:Nat))
 refine HR.jCu 16 false I (by simp;omega) ?_
 repeat' (first|refine zh ?_|refine HL.j4 (Rd.own 0 I) I I I ?_|apply zb ?_ ?_|exact zc|(refine zi fun hb=>?_;try simp at hb)|intro (bk:Nat))
 refine HR.j3 [(0,true),(1,true),(2,true),(3,true),(4,true),(5,true),(6,false),(7,true)] [] I I JZ (by kernel_rfl) ?_
 repeat' (first|refine HD.ev I I I ?_|refine HD.evc I I I (by first|omega|(simp;done)|(simp;omega)) ?_|refine HD.cut (sz:=3) 0 i c I I I I I (.inl ⟨rfl,rfl⟩) (.inr ⟨_,_,rfl,rfl⟩) (.inl ⟨rfl,rfl⟩) (by omega) (by omega) (by omega) ?_|refine HD.cut (sz:=3) (i+1) l.length c I I I I I (.inr ⟨_,_,rfl,rfl⟩) (.inl ⟨rfl,rfl,rfl⟩) (.inl ⟨rfl,rfl⟩) (by omega) (by omega) (by omega) ?_|refine HD.L 0 I I I I I ?_|refine HD.L 1 I I I I I ?_|refine HD.L 2 I I I I I ?_|refine HD.L 3 I I I I I ?_|refine HD.build I I I ?_|refine HD.field I I I ?_|refine HD.skip I I I ?_|refine HD.kH I I I ?_|(refine HD.one I ?_;first|refine HL.ev I I ?_|refine HL.jHc i (i+1) 0 I zo I I I (by omega) (by omega) hnc (jT jEW _) ?_|(refine HL.isLoad ?_;first|refine HL.L 0 I I I I ?_|refine HL.L 1 I I I I ?_|refine HL.L 2 I I I I ?_|refine HL.L 3 I I I I ?_)|(refine HL.jQ ?_;first|refine HL.S 0 I I I I I ?_|refine HL.S 1 I I I I I ?_|refine HL.S 2 I I I I I ?_|refine HL.S 3 I I I I I ?_)|(refine HL.alloc I I ?_;intro bk))|refine HL.back [] rfl rfl ?_|refine HD.nil ?_)
 have hx:(cellsOf liC l).take (i*3)++(cellsOf liC l).drop ((i+1)*3)++(cellsOf liC l).drop (i*3+(l.length-(i+1))*3)=cellsOf liC (l.eraseIdx i)++(cellsOf liC l).drop ((l.length-1)*3):=by
  rw[JW JC,JH JC,← jM,List.eraseIdx_eq_take_drop_succ]
  congr 2
  omega
 refine HR.ent (Ent.JM I hx) ?_
 refine HR.ZB 0 (v':= .slice (some ⟨g,off,none⟩) (l.length-1) c) I (by rw[show i+(l.length-(i+1))=l.length-1 by omega]) ?_
 refine HR.ZB 7 (v':= .int .i64 (l.length:Int)) I I ?_
 repeat' (first|refine zh ?_|refine HL.cut (sz:=3) (l.length-1) l.length c I I I I (.inr ⟨_,_,rfl,rfl⟩) (.inr ⟨_,_,rfl,rfl⟩) (.inl ⟨rfl,rfl⟩) (by omega) hnc (Nat.le_refl _) ?_|intro (bk:Nat))
 refine HL.jCx (ZJ (by omega)) ?_
 refine HL.jJS (l.length-1) 0 I I I I I I (by decide) I (by omega) ?_
 repeat' (first|refine zh ?_|apply zb ?_ ?_|exact zc|(refine zi fun hb=>?_;try simp at hb)|intro (bk:Nat))
 refine HR.ret Tryz.func226 I [_] (fun _ _=>⟨I,trivial⟩) ?_
 have hcl:(cellsOf liC (l.eraseIdx i)).length=(l.length-1)*3:=by rw[jC JC,hel]
 refine fun w' hw=>⟨_,rfl,trivial,?_⟩
 rw[hel]
 refine Sat.cutK hw (by omega) ?_
 rw[List.take_append_of_le_length (by simp[hcl]),List.take_take,Nat.min_self,List.take_append_of_le_length (by omega),List.take_of_length_le (by omega)]
theorem jA0 (l:List Sn) (i:Nat) (v:Value) (B0:Base) (w:World) (hw0:Sat B0 [jK v 131 11 l.length (cellsOf snC l)] w) (hi:i<l.length) (hl:l.length≤1000):
  Calls Tryz.prog 157 #[v,.int .i64 (i:Int),.int .i64 ((i:Int)+1)] w fun e w'=>∃r:Value,e= .returned r∧True∧Sat ⟨w,Zi [jK v 131 11 l.length (cellsOf snC l)]⟩ [jK r 131 11 (l.eraseIdx i).length (cellsOf snC (l.eraseIdx i))] w':=by
 obtain ⟨g,off,c,rfl,hnc,hcm⟩:=Vw.row (Sat.vw hw0 (i:=0) I) (by omega)
 have hcm:c≤9223372036854775807:=hcm
 have hel:(l.eraseIdx i).length=l.length-1:=List.length_eraseIdx_of_lt hi
 refine ji [jK (.slice (some ⟨g,off,none⟩) l.length c) 131 11 l.length (cellsOf snC l)] (hw0) Tryz.func157 I (Nat.le_of_ble_eq_true I) ?_
 refine HR.sub (σ':=[(0,.slice (some ⟨g,off,none⟩) l.length c),(1,.int .i64 (i:Int)),(2,.int .i64 ((i:Int)+1))]) ⟨I,I,I,trivial⟩ ?_
 repeat' (first|refine zh ?_|refine HL.j4 (Rd.own 0 I) I I I ?_|refine HL.cut i (i+1) l.length I I I I (.inr ⟨_,_,rfl,rfl⟩) (.inr ⟨_,_,rfl,rfl⟩) (.inr ⟨_,_,rfl,rfl⟩) (by omega) (by omega) hnc ?_|apply zb ?_ ?_|exact zc|(refine zi fun hb=>?_;try simp at hb)|intro (bk:Nat))
 refine HR.jCu 16 false I (by simp;omega) ?_
 repeat' (first|refine zh ?_|refine HL.j4 (Rd.own 0 I) I I I ?_|apply zb ?_ ?_|exact zc|(refine zi fun hb=>?_;try simp at hb)|intro (bk:Nat))
 refine HR.j3 [(0,true),(1,true),(2,true),(3,true),(4,true),(5,true),(6,false),(7,true)] [] I I JZ (by kernel_rfl) ?_
 repeat' (first|refine HD.ev I I I ?_|refine HD.evc I I I (by first|omega|(simp;done)|(simp;omega)) ?_|refine HD.cut (sz:=11) 0 i c I I I I I (.inl ⟨rfl,rfl⟩) (.inr ⟨_,_,rfl,rfl⟩) (.inl ⟨rfl,rfl⟩) (by omega) (by omega) (by omega) ?_|refine HD.cut (sz:=11) (i+1) l.length c I I I I I (.inr ⟨_,_,rfl,rfl⟩) (.inl ⟨rfl,rfl,rfl⟩) (.inl ⟨rfl,rfl⟩) (by omega) (by omega) (by omega) ?_|refine HD.L 0 I I I I I ?_|refine HD.L 1 I I I I I ?_|refine HD.L 2 I I I I I ?_|refine HD.L 3 I I I I I ?_|refine HD.build I I I ?_|refine HD.field I I I ?_|refine HD.skip I I I ?_|refine HD.kH I I I ?_|(refine HD.one I ?_;first|refine HL.ev I I ?_|refine HL.jHc i (i+1) 0 I Ja I I I (by omega) (by omega) hnc (jT jA7 _) ?_|(refine HL.isLoad ?_;first|refine HL.L 0 I I I I ?_|refine HL.L 1 I I I I ?_|refine HL.L 2 I I I I ?_|refine HL.L 3 I I I I ?_)|(refine HL.jQ ?_;first|refine HL.S 0 I I I I I ?_|refine HL.S 1 I I I I I ?_|refine HL.S 2 I I I I I ?_|refine HL.S 3 I I I I I ?_)|(refine HL.alloc I I ?_;intro bk))|refine HL.back [] rfl rfl ?_|refine HD.nil ?_)
 have hx:(cellsOf snC l).take (i*11)++(cellsOf snC l).drop ((i+1)*11)++(cellsOf snC l).drop (i*11+(l.length-(i+1))*11)=cellsOf snC (l.eraseIdx i)++(cellsOf snC l).drop ((l.length-1)*11):=by
  rw[JW je,JH je,← jM,List.eraseIdx_eq_take_drop_succ]
  congr 2
  omega
 refine HR.ent (Ent.JM I hx) ?_
 refine HR.ZB 0 (v':= .slice (some ⟨g,off,none⟩) (l.length-1) c) I (by rw[show i+(l.length-(i+1))=l.length-1 by omega]) ?_
 refine HR.ZB 7 (v':= .int .i64 (l.length:Int)) I I ?_
 repeat' (first|refine zh ?_|refine HL.cut (sz:=11) (l.length-1) l.length c I I I I (.inr ⟨_,_,rfl,rfl⟩) (.inr ⟨_,_,rfl,rfl⟩) (.inl ⟨rfl,rfl⟩) (by omega) hnc (Nat.le_refl _) ?_|intro (bk:Nat))
 refine HL.jCx (ZJ (by omega)) ?_
 refine HL.jJS (l.length-1) 0 I I I I I I (by decide) I (by omega) ?_
 repeat' (first|refine zh ?_|apply zb ?_ ?_|exact zc|(refine zi fun hb=>?_;try simp at hb)|intro (bk:Nat))
 refine HR.ret Tryz.func157 I [_] (fun _ _=>⟨I,trivial⟩) ?_
 have hcl:(cellsOf snC (l.eraseIdx i)).length=(l.length-1)*11:=by rw[jC je,hel]
 refine fun w' hw=>⟨_,rfl,trivial,?_⟩
 rw[hel]
 refine Sat.cutK hw (by omega) ?_
 rw[List.take_append_of_le_length (by simp[hcl]),List.take_take,Nat.min_self,List.take_append_of_le_length (by omega),List.take_of_length_le (by omega)]
theorem jNE (l:List Ma) (i:Nat) (v:Value) (B0:Base) (w:World) (hw0:Sat B0 [jK v 166 10 l.length (cellsOf maC l)] w) (hi:i<l.length) (hl:l.length≤1000):
  Calls Tryz.prog 266 #[v,.int .i64 (i:Int),.int .i64 ((i:Int)+1)] w fun e w'=>∃r:Value,e= .returned r∧True∧Sat ⟨w,Zi [jK v 166 10 l.length (cellsOf maC l)]⟩ [jK r 166 10 (l.eraseIdx i).length (cellsOf maC (l.eraseIdx i))] w':=by
 obtain ⟨g,off,c,rfl,hnc,hcm⟩:=Vw.row (Sat.vw hw0 (i:=0) I) (by omega)
 have hcm:c≤9223372036854775807:=hcm
 have hel:(l.eraseIdx i).length=l.length-1:=List.length_eraseIdx_of_lt hi
 refine ji [jK (.slice (some ⟨g,off,none⟩) l.length c) 166 10 l.length (cellsOf maC l)] (hw0) Tryz.func266 I (Nat.le_of_ble_eq_true I) ?_
 refine HR.sub (σ':=[(0,.slice (some ⟨g,off,none⟩) l.length c),(1,.int .i64 (i:Int)),(2,.int .i64 ((i:Int)+1))]) ⟨I,I,I,trivial⟩ ?_
 repeat' (first|refine zh ?_|refine HL.j4 (Rd.own 0 I) I I I ?_|refine HL.cut i (i+1) l.length I I I I (.inr ⟨_,_,rfl,rfl⟩) (.inr ⟨_,_,rfl,rfl⟩) (.inr ⟨_,_,rfl,rfl⟩) (by omega) (by omega) hnc ?_|apply zb ?_ ?_|exact zc|(refine zi fun hb=>?_;try simp at hb)|intro (bk:Nat))
 refine HR.jCu 16 false I (by simp;omega) ?_
 repeat' (first|refine zh ?_|refine HL.j4 (Rd.own 0 I) I I I ?_|apply zb ?_ ?_|exact zc|(refine zi fun hb=>?_;try simp at hb)|intro (bk:Nat))
 refine HR.j3 [(0,true),(1,true),(2,true),(3,true),(4,true),(5,true),(6,false),(7,true)] [] I I JZ (by kernel_rfl) ?_
 repeat' (first|refine HD.ev I I I ?_|refine HD.evc I I I (by first|omega|(simp;done)|(simp;omega)) ?_|refine HD.cut (sz:=10) 0 i c I I I I I (.inl ⟨rfl,rfl⟩) (.inr ⟨_,_,rfl,rfl⟩) (.inl ⟨rfl,rfl⟩) (by omega) (by omega) (by omega) ?_|refine HD.cut (sz:=10) (i+1) l.length c I I I I I (.inr ⟨_,_,rfl,rfl⟩) (.inl ⟨rfl,rfl,rfl⟩) (.inl ⟨rfl,rfl⟩) (by omega) (by omega) (by omega) ?_|refine HD.L 0 I I I I I ?_|refine HD.L 1 I I I I I ?_|refine HD.L 2 I I I I I ?_|refine HD.L 3 I I I I I ?_|refine HD.build I I I ?_|refine HD.field I I I ?_|refine HD.skip I I I ?_|refine HD.kH I I I ?_|(refine HD.one I ?_;first|refine HL.ev I I ?_|refine HL.jHc i (i+1) 0 I zV I I I (by omega) (by omega) hnc (jT jES _) ?_|(refine HL.isLoad ?_;first|refine HL.L 0 I I I I ?_|refine HL.L 1 I I I I ?_|refine HL.L 2 I I I I ?_|refine HL.L 3 I I I I ?_)|(refine HL.jQ ?_;first|refine HL.S 0 I I I I I ?_|refine HL.S 1 I I I I I ?_|refine HL.S 2 I I I I I ?_|refine HL.S 3 I I I I I ?_)|(refine HL.alloc I I ?_;intro bk))|refine HL.back [] rfl rfl ?_|refine HD.nil ?_)
 have hx:(cellsOf maC l).take (i*10)++(cellsOf maC l).drop ((i+1)*10)++(cellsOf maC l).drop (i*10+(l.length-(i+1))*10)=cellsOf maC (l.eraseIdx i)++(cellsOf maC l).drop ((l.length-1)*10):=by
  rw[JW Jw,JH Jw,← jM,List.eraseIdx_eq_take_drop_succ]
  congr 2
  omega
 refine HR.ent (Ent.JM I hx) ?_
 refine HR.ZB 0 (v':= .slice (some ⟨g,off,none⟩) (l.length-1) c) I (by rw[show i+(l.length-(i+1))=l.length-1 by omega]) ?_
 refine HR.ZB 7 (v':= .int .i64 (l.length:Int)) I I ?_
 repeat' (first|refine zh ?_|refine HL.cut (sz:=10) (l.length-1) l.length c I I I I (.inr ⟨_,_,rfl,rfl⟩) (.inr ⟨_,_,rfl,rfl⟩) (.inl ⟨rfl,rfl⟩) (by omega) hnc (Nat.le_refl _) ?_|intro (bk:Nat))
 refine HL.jCx (ZJ (by omega)) ?_
 refine HL.jJS (l.length-1) 0 I I I I I I (by decide) I (by omega) ?_
 repeat' (first|refine zh ?_|apply zb ?_ ?_|exact zc|(refine zi fun hb=>?_;try simp at hb)|intro (bk:Nat))
 refine HR.ret Tryz.func266 I [_] (fun _ _=>⟨I,trivial⟩) ?_
 have hcl:(cellsOf maC (l.eraseIdx i)).length=(l.length-1)*10:=by rw[jC Jw,hel]
 refine fun w' hw=>⟨_,rfl,trivial,?_⟩
 rw[hel]
 refine Sat.cutK hw (by omega) ?_
 rw[List.take_append_of_le_length (by simp[hcl]),List.take_take,Nat.min_self,List.take_append_of_le_length (by omega),List.take_of_length_le (by omega)]
end Go.Proofs.YtgfdoognildoeaaGreat
namespace Go.GX
open Go.RowKit
section
variable {P : Program} {f : FuncId} {N : Nat} {k : List Item} {σ : Store} {B : Base} {H H0 : List Chunk} {R : Ending → World → Prop} {ops l : List Oper} {o : Oper} {K : Act → World → Prop}
variable {d : Nat} {d' : Option Nat} {ty : TypeId} {pos : String} {af : Array Edge} {gd : Option (Nat × Bool)} {u v : Value}
theorem jQx {x:Operand} {n j:Nat} {cs:List Value} (hv:Rd B H v cs n) (hj:j<cs.length) (hx:lookO σ x=some (j6 v j)):
  ∀w,Sat B H w→(execOp (evO σ) ⟨some d,.nilCheck x,ty,pos,af,gd⟩).run P w= .ok (.value (j6 v j)) w:=by
 intro w hw
 rcases (hv.is hw)with ⟨_,_,rfl⟩|⟨b,off,cap,rfl,_⟩
 ·simp at hj
 ·have hx':lookO σ x=some (.pointer (some ⟨b,off+j,none⟩)):=hx
  have hc:jNB P σ (.nilCheck x)=some (.pointer (some ⟨b,off+j,none⟩)):=by simp only[jNB,hx']
  exact jAv hc
theorem HL.jSA {x:Operand} {n j:Nat} {cs:List Value} (hv:Rd B H v cs n) (hj:j<cs.length) (hs:stat N ops ⟨some d,.nilCheck x,ty,pos,af,gd⟩ σ=true) (hx:lookO σ x=some (j6 v j))
  (h:HL P N ops l ((d,j6 v j)::σ) B H K):HL P N ops (⟨some d,.nilCheck x,ty,pos,af,gd⟩::l) σ B H K:=
 HL.rd hs (jQx hv hj hx) h
theorem HL.JL (o:Nat) {s:TypeId} {x:Operand} {fl:List Field} {fi j n:Nat} {fd:Field} {ti:TypeInfo} {cs:List Value} (hv:Rd B H v cs n) (hj:j<cs.length) (hs:stat N ops ⟨some d,.fieldAddr s x fi,ty,pos,af,gd⟩ σ=true) (hT:P.underlying s=some (.struct ⟨fl⟩)) (hf:jKr fl fi=some fd) (hti:P.info? fd.type=some ti) (hz:Nat.ble 1 ti.size=true) (hx:lookO σ x=some (j6 v j)) (ho:fd.offset=o)
  (h:HL P N ops l ((d,j6 v (j+o))::σ) B H K):HL P N ops (⟨some d,.fieldAddr s x fi,ty,pos,af,gd⟩::l) σ B H K:=by
 subst ho;exact HL.Jf hv hj hs hT hf hti hz hx h
theorem HD.JL {F:List Chunk} (o:Nat) {i:Nat} {p:List (Nat×Bool)} {s:TypeId} {x:Operand} {fl:List Field} {fi j n:Nat} {fd:Field} {ti:TypeInfo} {cs:List Value} (hv:Rd B F v cs n) (hj:j<cs.length) (ho':ops[i]? =some ⟨some d,.fieldAddr s x fi,ty,pos,af,gd⟩) (hs:stat N ops ⟨some d,.fieldAddr s x fi,ty,pos,af,gd⟩ σ=true) (hT:P.underlying s=some (.struct ⟨fl⟩)) (hf:jKr fl fi=some fd) (hti:P.info? fd.type=some ti) (hz:Nat.ble 1 ti.size=true) (hx:lookO σ x=some (j6 v j)) (ho:fd.offset=o)
  (h:HD P N ops p ((d,j6 v (j+o))::σ) B H F K):HD P N ops ((i,true)::p) σ B H F K:=by
 subst ho;exact HD.Jf hv hj ho' hs hT hf hti hz hx h
theorem HL.jPq {g:FuncId} {args:List Operand} {a1:List Value} {tys:Array TypeId} {e sz n e' sz' n':Nat} {xs xs':List Value} (hg:IsFn P g)
  (hs:stat N ops ⟨some d,.call ⟨.value (.func g),args.toArray,tys⟩,ty,pos,af,gd⟩ σ=true) (ha:vals σ args=some a1)
  (hc:∀w,Sat B (jK v e sz n xs::H0) w→Calls P g a1.toArray w fun e0 w'=>∃r,e0= .returned r∧True∧Sat ⟨w,Zi [jK v e sz n xs]⟩ [jK r e' sz' n' xs'] w')
  (h:∀r,HL P N ops l ((d,r)::σ) B (jK r e' sz' n' xs'::H0) K):HL P N ops (⟨some d,.call ⟨.value (.func g),args.toArray,tys⟩,ty,pos,af,gd⟩::l) σ B (jK v e sz n xs::H0) K:=
 HL.Jo (r:=fun r:Value=>r) (Q:=fun _=>True) (G0:=[jK v e sz n xs]) (G:=fun r=>[jK r e' sz' n' xs']) hg hs ha I hc fun r _=>h r
theorem HL.jQH {c2:Chunk} {g:FuncId} {args:List Operand} {a1:List Value} {tys:Array TypeId} {e sz n e' sz' n':Nat} {xs xs':List Value} (hg:IsFn P g)
  (hs:stat N ops ⟨some d,.call ⟨.value (.func g),args.toArray,tys⟩,ty,pos,af,gd⟩ σ=true) (ha:vals σ args=some a1)
  (hc:∀w,Sat B (jK v e sz n xs::c2::H0) w→Calls P g a1.toArray w fun e0 w'=>∃r,e0= .returned r∧True∧Sat ⟨w,Zi [jK v e sz n xs,c2]⟩ [jK r e' sz' n' xs'] w')
  (h:∀r,HL P N ops l ((d,r)::σ) B (jK r e' sz' n' xs'::H0) K):HL P N ops (⟨some d,.call ⟨.value (.func g),args.toArray,tys⟩,ty,pos,af,gd⟩::l) σ B (jK v e sz n xs::c2::H0) K:=
 HL.Jo (r:=fun r:Value=>r) (Q:=fun _=>True) (G0:=[jK v e sz n xs,c2]) (G:=fun r=>[jK r e' sz' n' xs']) hg hs ha I hc fun r _=>h r
theorem HR.scope {c:Code} (h:HR P f N (.code c:: .inScope c::k) σ B H R):HR P f N (.code (.scope c)::k) σ B H R:=
 fun w hw a ha=> .of_steps (fun _ _=> .one step_scope) (h w hw a ha)
theorem HR.inScope {c:Code} (h:HR P f N k σ B H R):HR P f N (.inScope c::k) σ B H R:=
 fun w hw a ha=> .of_steps (fun _ _=> .one step_inScope) (h w hw a ha)
theorem HR.label {n:Nat} (h:HR P f N k σ B H R):HR P f N (.code (.label n)::k) σ B H R:=
 fun w hw a ha=> .of_steps (fun _ _=> .one step_label) (h w hw a ha)
theorem HR.jSE {id:Nat} {x:Code} {ι:Type} (Inv:ι→Prop) (st:ι→Store) (hp:ι→List Chunk) (hj:∀i,Inv i→HR P f N k (st i) B (hp i) R)
  (h:(∀ i σ' H',Inv i→Sub (st i) σ'→Ent B H' (hp i)→HR P f N k σ' B H' R)→HR P f N (.code x:: .inBlock id::k) σ B H R):HR P f N (.code x:: .inBlock id::k) σ B H R:=
 h fun i σ' H' hi hs he=>HR.sub hs (HR.ent he (hj i hi))
theorem HA.three {F:List Chunk} {n:Nat} {L:Array Bool} {o2 o3:Oper} (i j m:Nat) (hr:decide (Region.ready .any ops.toArray L=[i,j,m])=true) (ho:ops[i]? =some o) (ho2:ops[j]? =some o2) (ho3:ops[m]? =some o3) (h:HL P N ops [o] σ B H (AK P B F ops n (L.setIfInBounds i true) K)) (h2:HL P N ops [o2] σ B H (AK P B F ops n (L.setIfInBounds j true) K)) (h3:HL P N ops [o3] σ B H (AK P B F ops n (L.setIfInBounds m true) K)):HA P N ops (n+1) L σ B H F K:=by
 intro w hw hF a ha
 refine wpAnyH_all (of_decide_eq_true hr) (by simp) fun q hq=>?_
 simp only[List.mem_cons,List.not_mem_nil,or_false]at hq
 rcases hq with rfl|rfl|rfl
 ·exact HA.opI q ho h w hw a ha
 ·exact HA.opI q ho2 h2 w hw a ha
 ·exact HA.opI q ho3 h3 w hw a ha
theorem jSJ {g:FuncId} {caps:List Operand} {vs:List Value} (hv:vals σ caps=some vs) (w:World):
  (execOp (evO σ) ⟨d',.makeFunc (.func g) #[] caps.toArray,ty,pos,af,gd⟩).run P w= .ok (.value (.func (.func g) #[] vs.toArray)) w:=by
 have:=jB3 hv
 simp only[execOp,List.map_toArray]
 rw[this]
 simp[Instr.makeFunc]
theorem HL.mkF {g:FuncId} {caps:List Operand} {vs:List Value} (hs:stat N ops ⟨some d,.makeFunc (.func g) #[] caps.toArray,ty,pos,af,gd⟩ σ=true) (hv:vals σ caps=some vs)
  (h:HL P N ops l ((d,.func (.func g) #[] vs.toArray)::σ) B H K):HL P N ops (⟨some d,.makeFunc (.func g) #[] caps.toArray,ty,pos,af,gd⟩::l) σ B H K:=
 HL.rd hs (fun w _=>jSJ hv w) h
end
end Go.GX
namespace Go.Proofs.YtgfdoognildoeaaGreat
open Go.GX Go.RowKit
attribute [local irreducible] Calls Run jg jh JU HR HL HD jU jK Jc Rd jL jd
open Nd
theorem fn90:IsFn Tryz.prog 90:=⟨⟨_,_,Tryz.func90,rfl,by decide⟩⟩
theorem fn196:IsFn Tryz.prog 196:=⟨⟨_,_,Tryz.func196,rfl,by decide⟩⟩
theorem fn222:IsFn Tryz.prog 222:=⟨⟨_,_,Tryz.func222,rfl,by decide⟩⟩
theorem fn182:IsFn Tryz.prog 182:=⟨⟨_,_,Tryz.func182,rfl,by decide⟩⟩
theorem fn274:IsFn Tryz.prog 274:=⟨⟨_,_,Tryz.func274,rfl,by decide⟩⟩
theorem fn302:IsFn Tryz.prog 302:=⟨⟨_,_,Tryz.func302,rfl,by decide⟩⟩
theorem jJ8 {q:List Sn} {f:Fr} (h:f.ur=false):jC1 q f=if (q.take 16).length=16 then (q.take 16,false)else (q.take 16++[⟨f,0,0⟩],true):=by unfold jC1 jGw;rw[if_pos (show sur ⟨f,0,0⟩=false from h)]
def jFc (T:List Sn) (f:Fr):List Sn×Bool:=if T.length=16 then (match lastIdx sdr T with
  |none=>(T,false)
  |some i=>(ins sur (T.eraseIdx i) ⟨f,0,0⟩,true))else (ins sur T ⟨f,0,0⟩,true)
theorem jHB {q:List Sn} {f:Fr} (h:f.ur=true):jC1 q f=jFc (q.take 16) f:=by unfold jC1 jGw;rw[if_neg (show ¬sur ⟨f,0,0⟩=false by rw[show sur ⟨f,0,0⟩=f.ur from rfl,h];decide)];rfl
theorem jKA {T:List Sn} {f:Fr} (h:T.length≤15):jFc T f=(ins sur T ⟨f,0,0⟩,true):=if_neg (by omega)
theorem jKB {T:List Sn} {f:Fr} (h:T.length=16) (h2:∀a∈T,sdr a=false):jFc T f=(T,false):=by unfold jFc;rw[if_pos h,Zp h2]
theorem jJ9 {T:List Sn} {f:Fr} {i:Nat} {a:Sn} (h:T.length=16) (ha:T[i]? =some a) (hp:sdr a=true) (hj:∀j b,i<j→T[j]? =some b→sdr b=false):jFc T f=(ins sur (T.eraseIdx i) ⟨f,0,0⟩,true):=by unfold jFc;rw[if_pos h,K3 ha hp hj]
theorem jCS (l:List Sn) (n:Nat) (ok:Bool) (v:Value) (w:World) (hv:Sl w v (cellsOf snC l) l.length) (hl:l.length≤1000):
  Calls Tryz.prog 90 #[v,.int .i64 (n:Int),.bool ok] w fun e w'=>∃v',e= .returned (.tuple ⟨[v',.bool (KM l n ok).2]⟩)∧True∧Sat (base w) [jK v' 131 11 (KM l n ok).1.length (cellsOf snC (KM l n ok).1)] w':=by
 have h16:(l.take 16).length≤16:=by simp;omega
 refine jB Tryz.func90 I (Nat.le_of_ble_eq_true I) ?_
 refine HR.sub (σ':=[(0,v),(1,.int .i64 (n:Int)),(2,.bool ok)]) ⟨I,I,I,trivial⟩ ?_
 repeat' (first|refine zh ?_|refine HL.JN jQ9 I I (fun w hw=>jBF l v w ((Rd.arg hv).at hw) hl) ?_|intro (bk:Nat))
 intro v1
 repeat' (first|refine zh ?_|refine HL.j4 (Rd.own 0 I) I I I ?_|intro (bk:Nat))
 refine HR.cond I (fun h2=>?_) (fun h2=>?_)
 ·have h2:(l.take 16).length≤n:=by have:=of_decide_eq_true h2;omega
  rw[jMN h2]
  repeat' (first|refine zh ?_|intro (bk:Nat))
  refine HR.ret Tryz.func90 I [_,_] (fun _ _=>⟨I,I,trivial⟩) ?_
  exact fun w' hw=>⟨v1,rfl,trivial,hw⟩
 have h2:n<(l.take 16).length:=by have:=of_decide_eq_false h2;omega
 obtain ⟨s,hs⟩:=jH h2
 rw[jMM hs]
 obtain ⟨T,hT⟩:∃T,T=l.take 16:=⟨_,rfl⟩
 rw[← hT]at h16 h2 hs ⊢
 have hcl:∀T:List Sn,(cellsOf snC T).length=T.length*11:=jC je
 repeat' (first|refine zh ?_|intro (bk:Nat))
 refine HR.cond I (fun h3=>?_) (fun h3=>?_)
 ·have h3:ok=true:=h3
  subst h3
  repeat' (first|refine zh ?_|intro (bk:Nat))
  refine HL.jPq jPg I I (fun w hw=>jA0 T n v1 _ w hw h2 (by omega)) ?_
  intro r
  repeat' (first|refine zh ?_|intro (bk:Nat))
  refine HR.ret Tryz.func90 I [_,_] (fun _ _=>⟨I,I,trivial⟩) ?_
  exact fun w' hw=>⟨r,rfl,trivial,hw⟩
 have h3:ok=false:=h3
 subst h3
 rw[if_neg (show ¬false=true by decide)]
 have hm:JG s=min (max s.tr 0) 7+1:=rfl
 have hs2:(T.set n ⟨s.f,JG s,s.wt⟩)[n]? =some ⟨s.f,JG s,s.wt⟩:=List.getElem?_set_self h2
 have hl2:(T.set n ⟨s.f,JG s,s.wt⟩).length=T.length:=List.length_set
 have hmt:(if 7<(if 0>s.tr then (0:Int)else s.tr)then (7:Int)else if 0>s.tr then (0:Int)else s.tr)+1=JG s:=by rw[hm];split<;>split<;>omega
 repeat' (first|refine zh ?_|refine HL.jw (Rd.own 0 I) Ja n I I I I h2 ?_|refine HL.jSA (Rd.own 0 I) (by rw[hcl];omega) I I ?_|refine HL.Jf (Rd.own 0 I) (by rw[hcl];omega) I I I I I I ?_|refine HL.jY (Rd.own 0 I) I I I I (jR je hs (i:=9) I) ?_|intro (bk:Nat))
 refine HL.ZB 37 (v':= .int .i64 (JG s)) I (by rw[hmt]) ?_
 refine HL.KD (j:=n*11+9) 0 I I I I I I I (by rw[hcl];omega) ?_
 refine HL.ent (H':=[jK v1 131 11 (T.set n ⟨s.f,JG s,s.wt⟩).length (cellsOf snC (T.set n ⟨s.f,JG s,s.wt⟩))]) (Ent.JM hl2.symm (J2 (i:=9) je hs I (by decide))) ?_
 obtain ⟨U,hU⟩:∃U,U=T.set n ⟨s.f,JG s,s.wt⟩:=⟨_,rfl⟩
 rw[← hU]at hs2 hl2 ⊢
 have h2u:n<U.length:=by omega
 repeat' (first|refine zh ?_|refine HL.jSA (Rd.own 0 I) (by rw[hcl];omega) I I ?_|refine HL.Jf (Rd.own 0 I) (by rw[hcl];omega) I I I I I I ?_|refine HL.jY (Rd.own 0 I) I I I I (jR je hs2 (i:=9) I) ?_|intro (bk:Nat))
 refine HR.cond I (fun h4=>?_) (fun h4=>?_)
 ·have h4:JG s=8:=eq_of_beq h4
  rw[if_pos h4]
  repeat' (first|refine zh ?_|refine HL.jPq jPg I I (fun w hw=>jA0 U n v1 _ w hw h2u (by omega)) ?_|intro (bk:Nat))
  intro r
  repeat' (first|refine zh ?_|intro (bk:Nat))
  refine HR.ret Tryz.func90 I [_,_] (fun _ _=>⟨I,I,trivial⟩) ?_
  refine fun w' hw=>⟨r,rfl,trivial,?_⟩
  have e:U.eraseIdx n=T.eraseIdx n:=by
   rw[hU,List.eraseIdx_set_eq]
  rw[← e];exact hw
 have h4:¬JG s=8:=by intro e;have h4:(JG s==8)=false:=h4;rw[e]at h4;cases h4
 rw[if_neg h4]
 have hmn:(if 4<JG s then (4:Int)else JG s)=min (JG s) 4:=by split<;>omega
 have hs3:(U.set n ⟨s.f,JG s,min (JG s) 4⟩)[n]? =some ⟨s.f,JG s,min (JG s) 4⟩:=List.getElem?_set_self h2u
 have hl3:(U.set n ⟨s.f,JG s,min (JG s) 4⟩).length=U.length:=List.length_set
 repeat' (first|refine zh ?_|refine HL.jSA (Rd.own 0 I) (by rw[hcl];omega) I I ?_|refine HL.Jf (Rd.own 0 I) (by rw[hcl];omega) I I I I I I ?_|refine HL.jY (Rd.own 0 I) I I I I (jR je hs2 (i:=9) I) ?_|intro (bk:Nat))
 refine HL.ZB 55 (v':= .int .i64 (min (JG s) 4)) I (by rw[hmn]) ?_
 refine HL.KD (j:=n*11+10) 0 I I I I I I I (by rw[hcl];omega) ?_
 refine HL.ent (H':=[jK v1 131 11 (U.set n ⟨s.f,JG s,min (JG s) 4⟩).length (cellsOf snC (U.set n ⟨s.f,JG s,min (JG s) 4⟩))]) (Ent.JM hl3.symm (J2 (i:=10) je hs2 I (by decide))) ?_
 obtain ⟨V,hV⟩:∃V,V=U.set n ⟨s.f,JG s,min (JG s) 4⟩:=⟨_,rfl⟩
 rw[← hV]at hs3 hl3 ⊢
 have h2v:n<V.length:=by omega
 have hVT:V=T.set n ⟨s.f,JG s,min (JG s) 4⟩:=by rw[hV,hU,List.set_set]
 repeat' (first|refine zh ?_|refine HL.jSA (Rd.own 0 I) (by rw[hcl];omega) I I ?_|refine HL.Jf (Rd.own 0 I) (by rw[hcl];omega) I I I I I I ?_|intro (bk:Nat))
 refine HL.ZB 60 (v':=j6 v1 (n*11)) I I ?_
 repeat' (first|refine zh ?_|refine HL.Jf (Rd.own 0 I) (by rw[hcl];omega) I I I I I I ?_|refine HL.jY (Rd.own 0 I) I I I I (jR je hs3 (i:=7) I) ?_|intro (bk:Nat))
 refine HR.cond I (fun h5=>?_) (fun h5=>?_)
 ·have h5:s.f.ur=true:=h5
  repeat' (first|refine zh ?_|refine HL.jSA (Rd.own 0 I) (by rw[hcl];omega) I I ?_|refine HL.Jf (Rd.own 0 I) (by rw[hcl];omega) I I I I I I ?_|refine HL.KD (j:=n*11+10) 0 I I I I I I I (by rw[hcl];omega) ?_|intro (bk:Nat))
  refine HR.ret Tryz.func90 I [_,_] (fun _ _=>⟨I,I,trivial⟩) ?_
  refine fun w' hw=>⟨v1,rfl,trivial,Ent.JM (by rw[List.length_set];omega) ?_ w' hw⟩
  rw[h5,if_pos rfl,J2 (i:=10) (b:=⟨s.f,JG s,0⟩) je hs3 I (by decide),hVT,List.set_set]
 ·have h5:s.f.ur=false:=h5
  repeat' (first|refine zh ?_|intro (bk:Nat))
  refine HR.ret Tryz.func90 I [_,_] (fun _ _=>⟨I,I,trivial⟩) ?_
  refine fun w' hw=>⟨v1,rfl,trivial,Ent.JM (by rw[List.length_set];omega) ?_ w' hw⟩
  rw[h5,if_neg (by decide),hVT]
end Go.Proofs.YtgfdoognildoeaaGreat
namespace Go.Proofs.YtgfdoognildoeaaGreat
open Go.GX Go.RowKit
attribute [local irreducible] Calls Run jg jh JU HR HL HD jU jK Jc Rd jL jd
open Nd
theorem jNz {n:Nat} (h:n≤16) (h2:((n:Int)==16)=false):n≤15:=by
 have h2:(n:Int)≠16:=by simpa using h2
 omega
theorem jPM (l:List Sn) (f:Fr) (v:Value) (w:World) (hv:Sl w v (cellsOf snC l) l.length) (hl:l.length≤1000):
  Calls Tryz.prog 196 #[v,.agg ⟨frC f⟩] w fun e w'=>∃v',e= .returned (.tuple ⟨[v',.bool (jC1 l f).2]⟩)∧True∧Sat (base w) [jK v' 131 11 (jC1 l f).1.length (cellsOf snC (jC1 l f).1)] w':=by
 have h16:(l.take 16).length≤16:=by simp;omega
 have hcl:∀T:List Sn,(cellsOf snC T).length=T.length*11:=jC je
 refine jB Tryz.func196 I (Nat.le_of_ble_eq_true I) ?_
 refine HR.sub (σ':=[(0,v),(1,.agg ⟨frC f⟩)]) ⟨I,I,trivial⟩ ?_
 repeat' (first|refine zh ?_|refine HL.JN jQ9 I I (fun w hw=>jBF l v w ((Rd.arg hv).at hw) hl) ?_|intro (bk:Nat))
 intro v1
 repeat' (first|refine zh ?_|intro (bk:Nat))
 refine HR.cond I (fun h0=>?_) (fun h0=>?_)
 ·have h0:f.ur=false:=by have h0:(!f.ur)=true:=h0;simpa using h0
  rw[jJ8 h0]
  obtain ⟨T,hT⟩:∃T,T=l.take 16:=⟨_,rfl⟩
  rw[← hT]at h16 ⊢
  repeat' (first|refine zh ?_|refine HL.j4 (Rd.own 0 I) I I I ?_|intro (bk:Nat))
  refine HR.cond I (fun h2=>?_) (fun h2=>?_)
  ·have h2:T.length=16:=by have h2:((T.length:Int)==16)=true:=h2;simp at h2;omega
   rw[if_pos h2]
   repeat' (first|refine zh ?_|intro (bk:Nat))
   refine HR.ret Tryz.func196 I [_,_] (fun _ _=>⟨I,I,trivial⟩) ?_
   exact fun w' hw=>⟨v1,rfl,trivial,hw.pick [0] I rfl⟩
  ·have h2:T.length≤15:=jNz h16 h2
   rw[if_neg (by omega)]
   repeat' (first|refine zh ?_|refine HL.jk Ja I I I I I (by decide) (by decide) ?_|intro (bk:Nat))
   intro va
   repeat' (first|refine zh ?_|refine HL.zD 1 I Ja (Rd.own 0 I) I I I I (jJ I) (by omega) (by omega) ?_|intro (bk:Nat))
   intro v2
   repeat' (first|refine zh ?_|intro (bk:Nat))
   refine HR.ret Tryz.func196 I [_,_] (fun _ _=>⟨I,I,trivial⟩) ?_
   refine fun w' hw=>⟨v2,rfl,trivial,Ent.JM (by simp) ?_ w' (hw.pick [1] I rfl)⟩
   rw[jM];rfl
 have h0:f.ur=true:=by have h0:(!f.ur)=false:=h0;simpa using h0
 rw[jHB h0]
 obtain ⟨T,hT⟩:∃T,T=l.take 16:=⟨_,rfl⟩
 rw[← hT]at h16 ⊢
 repeat' (first|refine zh ?_|refine HL.j4 (Rd.own 0 I) I I I ?_|intro (bk:Nat))
 refine HR.join (ι:=Value×List Sn) (fun i=>i.2.length≤15∧jFc T f=(ins sur i.2 ⟨f,0,0⟩,true)) (fun i=>[(3,.pointer (some ⟨bk,0,none⟩)),(6,i.1)]) (fun i=>[jK i.1 131 11 i.2.length (cellsOf snC i.2),jU bk (frC f) 75]) (fun i=>?_) (fun hj=>?_)
 ·obtain ⟨u,L⟩:=i
  rintro ⟨hL,e⟩
  have hL:L.length≤15:=hL
  have e:jFc T f=(ins sur L ⟨f,0,0⟩,true):=e
  rw[e]
  repeat' (first|refine zh ?_|intro (bk:Nat))
  refine HR.loop (ι:=Nat) (fun b=>b≤L.length∧∀k a,k<b→L[k]? =some a→sur a=true) (fun b=>[(3,.pointer (some ⟨bk,0,none⟩)),(6,u),(8,.int .i64 (b:Int))]) (fun _=>[jK u 131 11 L.length (cellsOf snC L),jU bk (frC f) 75]) (fun b=>L.length-b) 0 ⟨Nat.zero_le _,fun k a hk=>absurd hk (Nat.not_lt_zero _)⟩ ⟨I,I,I,trivial⟩ Ent.refl ?_
  rintro b ⟨hb,hg⟩ ih
  repeat' (first|refine zh ?_|refine HL.j4 (Rd.own 0 I) I I I ?_|refine HL.jw (Rd.own 0 I) Ja b I I I I (by omega) ?_|refine HL.JL 0 (Rd.own 0 I) (by rw[hcl];omega) I I I I I I I ?_|refine HL.JL 7 (Rd.own 0 I) (by rw[hcl];omega) I I I I I I I ?_|refine HL.jY (Rd.own 0 I) I I I I (jR je (zm (by omega) sn0) (i:=7) I) ?_|apply zb ?_ ?_|exact zc|(refine zi fun hb=>?_;try simp at hb)|intro (bk:Nat))
  refine HR.cond I (fun h3=>?_) (fun h3=>?_)
  ·have h3:(decide ((b:Int)<L.length)&&(L.getD b sn0).f.ur)=true:=h3
   simp only[Bool.and_eq_true,decide_eq_true_eq]at h3
   repeat' (first|refine zh ?_|intro (bk:Nat))
   refine ih (b+1) _ _ ⟨by omega,fun k a hk ha=>?_⟩ (by omega) ⟨I,I,I,trivial⟩ Ent.refl
   by_cases e2:k=b
   ·subst e2;rw[zm (by omega) sn0]at ha;cases ha;exact h3.2
   ·exact hg k a (by omega) ha
  ·have h3:(decide ((b:Int)<L.length)&&(L.getD b sn0).f.ur)=false:=h3
   have hi:ins sur L ⟨f,0,0⟩=L.take b++⟨f,0,0⟩::L.drop b:=by
    refine jJE hb hg fun a ha=>?_
    have hbl:=(List.getElem?_eq_some_iff.1 ha).1
    rw[zm hbl sn0]at ha;cases ha
    rw[decide_eq_true (show (b:Int)<L.length by omega),Bool.true_and]at h3
    exact h3
   rw[hi]
   repeat' (first|refine zh ?_|refine HL.jk Ja I I I I I (by decide) (by decide) ?_|intro (bk:Nat))
   intro va
   repeat' (first|refine zh ?_|refine HL.jQH fn246 I I (fun w hw=>jMj L ⟨f,0,0⟩ b u va _ w (hw.pick [0,1] I I) hb (by omega)) ?_|intro (bk:Nat))
   intro r
   repeat' (first|refine zh ?_|intro (bk:Nat))
   refine HR.ret Tryz.func196 I [_,_] (fun _ _=>⟨I,I,trivial⟩) ?_
   exact fun w' hw=>⟨r,rfl,trivial,hw.pick [0] I rfl⟩
 ·refine HR.cond I (fun h2=>?_) (fun h2=>?_)
  ·have h2:T.length=16:=by have h2:((T.length:Int)==16)=true:=h2;simp at h2;omega
   refine HR.scope ?_
   repeat' (first|refine zh ?_|refine HL.j4 (Rd.own 0 I) I I I ?_|intro (bk:Nat))
   refine HR.label ?_
   repeat' (first|refine zh ?_|intro (bk:Nat))
   refine HR.loop (ι:=Nat) (fun a=>a≤16∧∀j x,a≤j→T[j]? =some x→sdr x=false) (fun a=>[(3,.pointer (some ⟨bk,0,none⟩)),(6,v1),(7,.int .i64 ((a:Int)-1))]) (fun _=>[jK v1 131 11 T.length (cellsOf snC T),jU bk (frC f) 75]) (fun a=>a) 16 ⟨Nat.le_refl _,fun j x hj hx=>by have:=(List.getElem?_eq_some_iff.1 hx).1;omega⟩ ⟨rfl,rfl,by show some (Value.int IntKind.i64 ((T.length:Int)-1))=_;rw[h2],trivial⟩ Ent.refl ?_
   rintro a ⟨ha,hg⟩ ih
   repeat' (first|refine zh ?_|intro (bk:Nat))
   refine HR.cond I (fun h3=>?_) (fun h3=>?_)
   ·have h3:((a:Int)-1)≥0:=of_decide_eq_true h3
    obtain ⟨m,rfl⟩:∃m,a=m+1:=⟨a-1,by omega⟩
    have hml:m<T.length:=by omega
    obtain ⟨x,hx⟩:=jH hml
    repeat' (first|refine zh ?_|refine HL.jw (Rd.own 0 I) Ja m I I I (by omega) hml ?_|refine HL.JL 0 (Rd.own 0 I) (by rw[hcl];omega) I I I I I I I ?_|refine HL.JL 7 (Rd.own 0 I) (by rw[hcl];omega) I I I I I I I ?_|refine HL.JL 9 (Rd.own 0 I) (by rw[hcl];omega) I I I I I I I ?_|refine HL.jY (Rd.own 0 I) I I I I (jR je hx (i:=7) I) ?_|refine HL.jY (Rd.own 0 I) I I I I (jR je hx (i:=9) I) ?_|apply zb ?_ ?_|exact zc|(refine zi fun hb=>?_;try simp at hb)|intro (bk:Nat))
    refine HR.cond I (fun h4=>?_) (fun h4=>?_)
    ·have h4:(x.f.ur||decide (x.tr>0))=true:=h4
     repeat' (first|refine zh ?_|intro (bk:Nat))
     refine ih m _ _ ⟨by omega,fun j y hj hy=>?_⟩ (by omega) ⟨rfl,rfl,by show some (Value.int IntKind.i64 _)=some (Value.int IntKind.i64 _);congr 2;omega,trivial⟩ Ent.refl
     by_cases e:j=m
     ·subst e;rw[hx]at hy;cases hy
      unfold sdr
      rw[Bool.or_eq_true]at h4
      rcases h4 with h4|h4
      ·rw [h4];rfl
      ·rw [decide_eq_false (by have:=of_decide_eq_true h4;omega),Bool.and_false]
     ·exact hg j y (by omega) hy
    ·have h4:(x.f.ur||decide (x.tr>0))=false:=h4
     rw[Bool.or_eq_false_iff]at h4
     have hd:sdr x=true:=by
      unfold sdr
      rw[h4.1,decide_eq_true (by have:=of_decide_eq_false h4.2;omega)];rfl
     have e:=jJ9 (f:=f) h2 hx hd (fun j b hj hb=>hg j b (by omega) hb)
     refine HR.ZB 7 (v':= .int .i64 (m:Int)) I (by congr 1;omega) ?_
     repeat' (first|refine zh ?_|intro (bk:Nat))
     refine HL.jPq jPg I I (fun w hw=>jA0 T m v1 _ w (hw.pick [0] I I) hml (by omega)) ?_
     intro r
     repeat' (first|refine zh ?_|intro (bk:Nat))
     refine HR.inScope ?_
     exact hj (r,T.eraseIdx m) _ _ ⟨by show (T.eraseIdx m).length≤15;rw[List.length_eraseIdx_of_lt hml];omega,e⟩ ⟨I,I,trivial⟩ Ent.refl
   ·have h3:¬((a:Int)-1)≥0:=of_decide_eq_false h3
    have ha0:a=0:=by omega
    subst ha0
    rw[jKB h2 fun x hx=>by
     obtain ⟨j,hj⟩:=List.getElem?_of_mem hx
     exact hg j x (Nat.zero_le _) hj]
    repeat' (first|refine zh ?_|intro (bk:Nat))
    refine HR.ret Tryz.func196 I [_,_] (fun _ _=>⟨I,I,trivial⟩) ?_
    exact fun w' hw=>⟨v1,rfl,trivial,hw.pick [0] I rfl⟩
  ·have h2:T.length≤15:=jNz h16 h2
   refine HR.skip ?_
   exact hj (v1,T) _ _ ⟨h2,jKA h2⟩ ⟨I,I,trivial⟩ Ent.refl
end Go.Proofs.YtgfdoognildoeaaGreat
