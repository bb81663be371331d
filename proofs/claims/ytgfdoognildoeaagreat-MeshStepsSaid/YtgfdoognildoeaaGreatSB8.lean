/- Part of a proof. Conditions: none. -/
import Derived.Test.YtgfdoognildoeaaGreatSB7
set_option linter.unusedVariables false
set_option linter.unusedSectionVars false
set_option linter.unusedSimpArgs false
set_option maxRecDepth 100000
set_option maxHeartbeats 4000000
namespace Go.Proofs.YtgfdoognildoeaaGreat
open Go.GX Go.RowKit
attribute [local irreducible] Calls Run JH JL zU HR HL HD jS jM ZN Rd jg Jf
open Nd
theorem max0 (n:Nat):(if (n:Int)-32>0 then (n:Int)-32 else 0)=((n-32:Nat):Int):=by split<;>omega
theorem jNa (l:List Pr) (p:Pr) (v:Value) (w:World) (hv:Sl w v (cellsOf prC l) l.length) (hl:l.length<=1000000):
  Calls Tryz.prog 302 #[v,.agg ⟨prC p⟩] w fun e w'=>e= .returned (.int .i64 (fidx (fun x=>decide (x=p)) l))/\Below w.heap.size w w':=by
 refine zE Tryz.func302 I [(0,v),(1,.agg ⟨prC p⟩)] ?_
 repeat' (first|refine zh ?_|refine qD (qA hv) I I I ?_|intro (bk:Nat))
 refine HR.loop (ι:=Nat) (fun k=>k<=l.length/\∀j b,j<k->l[j]? =some b->decide (b=p)=false) (fun k=>[(0,v),(3,.pointer (some ⟨bk,0,none⟩)),(7,.int .i64 (l.length:Int)),(8,.int .i64 (k:Int))]) (fun _=>[jS bk (prC p) 171]) (fun k=>l.length-k) 0 ⟨Nat.zero_le _,fun j b hj=>absurd hj (Nat.not_lt_zero _)⟩ ⟨I,I,I,I,trivial⟩ Ent.refl ?_
 rintro k ⟨hk,hno⟩ ih
 refine zh ?_;refine HR.cond I (fun h2=>?_) (fun h2=>?_)
 ·have hlt:k<l.length:=by have:=of_decide_eq_true h2;omega
  obtain ⟨x,hx⟩:=jG hlt;refine zh ?_;refine qK j3 (by kernel_rfl) (zq ?_);refine qW (qA hv) Zm k I I I I hlt ?_;refine qy (qA hv) I I I I (by simp) I (jD J9 hx) ?_;refine Yp I (by kernel_rfl) (by kernel_rfl) I I I (zq ?_);refine HR.cond I (fun h3=>?_) (fun h3=>?_)
  ·have h3:x=p:=by
    obtain ⟨a1,a2⟩:=x;obtain ⟨b1,b2⟩:=p
    simp at h3
    simp[h3]
   refine zh ?_;refine HR.ret Tryz.func302 I [_] (fun _ _=>⟨I,trivial⟩) ?_;rw[Zk hx (decide_eq_true h3) hno]
   exact fun w' hw=>⟨rfl,hw.jF⟩
  ·have h3:decide (x=p)=false:=by
    refine decide_eq_false fun e=>?_
    subst e
    simp at h3
   refine zh ?_;refine ih (k+1) _ _ ⟨hlt,fun j b hj hb=>?_⟩ (by omega) ⟨I,I,I,I,trivial⟩ Ent.refl
   by_cases e:j=k
   ·subst e;rw[hx]at hb;cases hb;exact h3
   ·exact hno j b (by omega) hb
 ·have hke:k=l.length:=by have:=of_decide_eq_false h2;omega
  subst hke;rw[Jq hno];refine zh ?_;exact zR Tryz.func302
theorem jR8 (l:List Pr) (p:Pr):l.any (fun x=>decide (x=p))=decide (p∈l):=by
 by_cases h:p∈l
 ·rw [decide_eq_true h,List.any_eq_true];exact ⟨p,h,by simp⟩
 ·rw [decide_eq_false h,<- Bool.not_eq_true,List.any_eq_true]
  rintro ⟨x,hx,e⟩
  exact h (of_decide_eq_true e▸hx)
theorem jLa (l:List Pr) (p:Pr) (v:Value) (w:World) (hv:Sl w v (cellsOf prC l) l.length) (hl:l.length<=1000000):
  Calls Tryz.prog 274 #[v,.agg ⟨prC p⟩] w fun e w'=>e= .returned (.bool (decide (p∈l)))/\Below w.heap.size w w':=by
 rw[<- jR8,<- jCW];refine zE Tryz.func274 I [(0,v),(1,.agg ⟨prC p⟩)] ?_
 repeat' (first|refine zh ?_|refine qB fn302 I I (fun w hw=>jNa l p v w ((qA hv).at hw) hl) ?_|intro (bk:Nat))
 exact zR Tryz.func274
theorem jSZ {α:Type} (l:List α):(last 32 l).length<=32/\(last 32 l).length<=l.length:=by unfold last;simp;omega
theorem jLB (l:List Pr) (p:Pr) (v:Value) (w:World) (hv:Sl w v (cellsOf prC l) l.length) (hl:l.length<=1000):
  Calls Tryz.prog 222 #[v,.agg ⟨prC p⟩] w fun e w'=>∃v',e= .returned (.tuple ⟨[v',.bool (ZA l p).2]⟩)/\True/\Sat (base w) [jM v' 171 2 (ZA l p).1.length (cellsOf prC (ZA l p).1)] w':=by
 have hll:=jSZ l;refine zE Tryz.func222 I [(0,v),(1,.agg ⟨prC p⟩)] ?_
 repeat' (first|refine zh ?_|refine qD (qA hv) I I I ?_|intro (bk:Nat))
 refine QB 11 (v':= .int .i64 ((l.length-32:Nat):Int)) I (by rw[max0]) ?_;have hR:=fun B H=>yK (B:=B) (H:=H) J9 (l:=l) (v:=v) (n:=l.length-32)
 have hS:=hR (base w) [jS bk (prC p) 171] (qA hv) (Nat.sub_le _ _);refine qX (sz:=2) (l.length-32) l.length (qA hv) I I I I (.inr ⟨_,_,_,rfl,rfl,rfl⟩) (.inl ⟨rfl,rfl⟩) (Nat.sub_le _ _) (Nat.le_refl _) ?_;refine qI jRm I I (fun w hw=>jAj (last 32 l) _ w (hS.at hw) (by omega)) ?_;intro v1;have hspec:ZA l p=if p∈last 32 l then (last 32 l,false)else (last 32 (last 32 l++[p]),true):=rfl
 rw[hspec];obtain ⟨T,hT⟩:∃T,T=last 32 l:=⟨_,rfl⟩;rw[<- hT]at hll ⊢;refine zh ?_;refine qB fn274 I I (fun w hw=>jLa T p v1 w ((Rd.own 0 rfl).at hw) (by omega)) (zh ?_);refine HR.cond I (fun h2=>?_) (fun h2=>?_)
 ·have h2:p∈T:=of_decide_eq_true h2;rw[if_pos h2];refine zh ?_;refine HR.ret Tryz.func222 I [_,_] (fun _ _=>⟨I,I,trivial⟩) ?_
  exact fun w' hw=>⟨v1,rfl,trivial,hw.pick [0] I rfl⟩
 ·have h2:¬p∈T:=of_decide_eq_false h2;rw[if_neg h2];refine zh ?_;refine qH Zm I I I I I (by decide) (by decide) ?_;intro va;refine qJ 1 I Zm (Rd.own 0 I) I I I I (jH I) (by omega) (by omega) ?_;intro v2;refine qM (H':=[jM v2 171 2 (T++[p]).length (cellsOf prC (T++[p]))]) (Ent.trans (Ent.pick [1] I I) (qC (by simp) (by rw[jL];rfl))) ?_;obtain ⟨U,hU⟩:∃U,U=T++[p]:=⟨_,rfl⟩;have hUl:U.length<=33:=by rw[hU];simp;omega
  rw[<- hU];refine zh ?_;refine qD (Rd.own 0 I) I I I (zh ?_);refine QB 26 (v':= .int .i64 ((U.length-32:Nat):Int)) I (by rw[max0]) (yF (sz:=2) (U.length-32) U.length 0 I I I I I (.inr ⟨_,_,rfl,rfl⟩) (.inl ⟨rfl,rfl⟩) (Nat.sub_le _ _) (Nat.le_refl _) (zh ?_));refine HR.ret Tryz.func222 I [_,_] (fun _ _=>⟨I,I,trivial⟩) ?_;refine fun w' hw=>⟨_,rfl,trivial,qC ?_ ?_ w' hw⟩
  ·unfold last;simp
  ·rw [jo J9,List.take_of_length_le (by rw[jA J9,List.length_drop];exact Nat.le_refl _)];rfl
theorem jDg {α:Type} {l:List α} {k d:Nat} {x:α} (hx:l[k]? =some x):(l.take (k+1)).drop d=if d<=k then (l.take k).drop d++[x]else (l.take k).drop d:=by
 have hk:=(List.getElem?_eq_some_iff.1 hx).1;rw[jE hx]
 split
 ·rw [List.drop_append_of_le_length (by simp;omega)]
 ·rw [List.drop_eq_nil_of_le (by simp;omega),List.drop_eq_nil_of_le (by simp;omega)]
theorem jF6 (l:List Pr) (p:Pr) (v:Value) (w:World) (hv:Sl w v (cellsOf prC l) l.length) (hl:l.length<=1000):
  Calls Tryz.prog 242 #[v,.agg ⟨prC p⟩] w fun e w'=>∃v',e= .returned (.tuple ⟨[v',.bool (ZA l p).2]⟩)/\True/\Sat (base w) [jM v' 171 2 (ZA l p).1.length (cellsOf prC (ZA l p).1)] w':=by
 have hll:=jSZ l;refine zE Tryz.func242 I [(0,v),(1,.agg ⟨prC p⟩)] (zh ?_);intro (bk:Nat);refine zh ?_;refine HR.J6 171 2 ?_;obtain ⟨d,hd⟩:∃d,d=l.length-32:=⟨_,rfl⟩;refine qd (α:=Nat) (β:=Value) (fun k o=>k<=l.length) (fun k o=>[(0,v),(3,.pointer (some ⟨bk,0,none⟩)),(6,o),(7,.bool (decide (p ∉ (l.take k).drop d))),(8,.int .i64 (k:Int))]) (fun k o=>[jM o 171 2 ((l.take k).drop d).length (cellsOf prC ((l.take k).drop d)),jS bk (prC p) 171]) (fun k _=>l.length-k) 0 (.slice none 0 0) (Nat.zero_le _) ⟨rfl,rfl,rfl,by simp;rfl,rfl,trivial⟩ (by rw[List.take_zero,List.drop_nil];exact Ent.pick [0,1] I I) ?_
 rintro k o hk ih
 have htl:((l.take k).drop d).length<=32:=by simp;omega
 refine zh ?_;refine qD (qA hv) I I I (zh ?_);refine HR.cond I (fun h2=>?_) (fun h2=>?_)
 ·have hlt:k<l.length:=by have:=of_decide_eq_true h2;omega
  obtain ⟨x,hx⟩:=jG hlt;have hst:=jDg (d:=d) hx;refine zh ?_;refine qD (qA hv) I I I (zh ?_);refine HR.cond I (fun h3=>?_) (fun h3=>?_)
  ·have h3:d<=k:=by have h3:(k:Int)>=(l.length:Int)-32:=of_decide_eq_true h3;omega
   rw[if_pos h3]at hst;refine zh ?_;refine qE (qA hv) Zm k I I I I hlt ?_;refine qN (qA hv) I I I I (by simp) I (jD J9 hx) ?_;refine qH Zm I I I I I (by decide) (by decide) ?_;intro va;refine qJ 1 I Zm (Rd.own 0 I) I I I I (jH I) (by omega) (by omega) ?_;intro o2;refine zh ?_;refine qK j3 (by kernel_rfl) ?_
   repeat' (first|refine zq ?_|refine qW (qA hv) Zm k I I I I hlt ?_|refine qy (qA hv) I I I I (by simp) I (jD J9 hx) ?_|refine Qg I (by kernel_rfl) (by kernel_rfl) I I I ?_|apply zb ?_ ?_|exact zc|(refine zi fun hb=>?_;try simp at hb)|fail)
   refine zh ?_;refine ih (k+1) o2 _ _ hlt (by omega) ⟨rfl,rfl,rfl,?_,rfl,trivial⟩ (Ent.trans (Ent.pick [1,2] I I) (qC ?_ ?_))
   ·show some (Value.bool _)=some (Value.bool _)
    congr 2
    rw[hst,Bool.eq_iff_iff];obtain ⟨x1,x2⟩:=x;obtain ⟨p1,p2⟩:=p
    simp
    intro _;rw[eq_comm (a:=x1),eq_comm (a:=x2)]
   ·rw [hst];simp
   ·rw [hst,jL];rfl
  ·have h3:¬d<=k:=by have h3:¬(k:Int)>=(l.length:Int)-32:=of_decide_eq_false h3;omega
   rw[if_neg h3]at hst;refine zh ?_;refine ih (k+1) o _ _ hlt (by omega) ⟨rfl,rfl,rfl,by rw[hst];rfl,rfl,trivial⟩ (qC (by rw[hst]) (by rw[hst]))
 ·have hke:k=l.length:=by have:=of_decide_eq_false h2;omega
  subst hke;have hlast:(l.take l.length).drop d=last 32 l:=by rw[List.take_length,hd];rfl
  have hspec:ZA l p=if p∈last 32 l then (last 32 l,false)else (last 32 (last 32 l++[p]),true):=rfl
  rw[hspec,hlast];obtain ⟨T,hT⟩:∃T,T=last 32 l:=⟨_,rfl⟩;rw[<- hT]at hll ⊢;refine zh ?_;refine HR.cond I (fun h4=>?_) (fun h4=>?_)
  ·have h4:p∈T:=by have h4:(!decide (p ∉ T))=true:=h4;simpa using h4
   rw[if_pos h4];refine zh ?_;refine HR.ret Tryz.func242 I [_,_] (fun _ _=>⟨I,I,trivial⟩) ?_
   exact fun w' hw=>⟨o,rfl,trivial,hw.pick [0] I rfl⟩
  have h4:¬p∈T:=by have h4:(!decide (p ∉ T))=false:=h4;simpa using h4
  rw[if_neg h4];refine zh ?_;refine qD (Rd.own 0 I) I I I (zh ?_);refine HR.join (ι:=Value×List Pr) (fun i=>i.2.length<=31/\last 32 (T++[p])=i.2++[p]) (fun i=>[(3,.pointer (some ⟨bk,0,none⟩)),(6,i.1)]) (fun i=>[jM i.1 171 2 i.2.length (cellsOf prC i.2),jS bk (prC p) 171]) (fun i=>?_) (fun hj=>?_)
  ·obtain ⟨u,L⟩:=i
   rintro ⟨hL,e⟩
   have hL:L.length<=31:=hL;have e:last 32 (T++[p])=L++[p]:=e;rw[e];refine zh ?_;refine qH Zm I I I I I (by decide) (by decide) ?_;intro va;refine qJ 1 I Zm (Rd.own 0 I) I I I I (jH I) (by omega) (by omega) ?_;intro v2;refine zh ?_;refine HR.ret Tryz.func242 I [_,_] (fun _ _=>⟨I,I,trivial⟩) ?_;refine fun w' hw=>⟨v2,rfl,trivial,qC (by simp) ?_ w' (hw.pick [1] I rfl)⟩
   rw[jL];rfl
  ·refine HR.cond I (fun h5=>?_) (fun h5=>?_)
   ·have h5:T.length=32:=by have h5:((T.length:Int)==32)=true:=h5;simp at h5;omega
    refine HR.region (zn ?_);refine yF (sz:=2) 1 T.length 0 I I I I I (.inr ⟨_,_,rfl,rfl⟩) (.inl ⟨rfl,rfl⟩) (by omega) (Nat.le_refl _) (zn ?_);refine hj (_,T.drop 1) _ _ ⟨by show (T.drop 1).length<=31;simp;omega,?_⟩ ⟨I,I,trivial⟩ (qC (by simp) ?_)
    ·show last 32 (T++[p])=T.drop 1++[p];unfold last;rw[show (T++[p]).length-32=1 by simp;omega,List.drop_append_of_le_length (by omega)]
    ·have hd1:=jo J9 1 T;rw[hd1,List.take_of_length_le (by rw[jA J9,List.length_drop];exact Nat.le_refl _)]
   ·have h5:T.length<=31:=by
     have h5:((T.length:Int)==32)=false:=h5;have:(T.length:Int)≠32:=by simpa using h5
     omega
    refine HR.skip (hj (o,T) _ _ ⟨h5,?_⟩ ⟨I,I,trivial⟩ Ent.refl);show last 32 (T++[p])=T++[p];unfold last;rw[show (T++[p]).length-32=0 by simp;omega];rfl
end Go.Proofs.YtgfdoognildoeaaGreat
namespace Nd
open Go.GX Tp
def Kept (old t:List Ro):Prop:=∀r∈old,∃x∈t,x=r\/(x.dest=r.dest/\(x.sq>r.sq\/(x.sq=r.sq/\x.cost<r.cost)))
theorem Kept.refl (t:List Ro):Kept t t:=fun r hr=>⟨r,hr,.inl rfl⟩
theorem Kept.trans {a b c:List Ro} (h:Kept a b) (h':Kept b c):Kept a c:=by
 intro r hr;obtain ⟨x,hx,h1⟩:=h r hr;obtain ⟨y,hy,h2⟩:=h' x hx;refine ⟨y,hy,?_⟩;rcases h1 with rfl|⟨e1,h1⟩
 ·exact h2
 ·rcases h2 with rfl|⟨e2,h2⟩
  ·exact .inr ⟨e1,h1⟩
  ·exact .inr ⟨e2.trans e1,by omega⟩
theorem Tab.tab {t:List Ro} {self:Int} (h:Tab self t):ZR t self=t:=by
 unfold ZR;rw[jEL h.ok,if_pos h.chk]
theorem jMa {t:List Ro} {d:Int} {o:Ro} (ha:Asc (·.dest) t) (h:rat t d=some o):t[rpos t d]? =some o/\o.dest=d:=by
 have:=ha.pos (n:=d) h;exact ⟨this.1,this.2.1⟩
theorem jE8 {t t':List Ro} {self:Int} (h:(t.any fun r=>r.dest==self)=true) (hk:Kept t t'):(t'.any fun r=>r.dest==self)=true:=by
 obtain ⟨r,hr,he⟩:=List.any_eq_true.1 h;obtain ⟨x,hx,h1⟩:=hk r hr;refine List.any_eq_true.2 ⟨x,hx,?_⟩;rcases h1 with rfl|⟨e,_⟩
 ·exact he
 ·rw [e];exact he
theorem jDw {t:List Ro} {fr:Int} {r x:Ro} (h:x∈jr t fr r):x∈t\/x=r:=by
 unfold jr at h
 split at h
 ·rename_i o ho
  by_cases hc:(if fin r=true then better r o else (o.nx==fr)&&decide (o.sq<r.sq))=true
  ·rw [if_pos hc]at h;exact List.mem_or_eq_of_mem_set h
  ·rw [if_neg hc]at h;exact .inl h
 ·split at h
  ·rcases List.mem_append.1 h with h|h
   ·exact .inl (List.mem_of_mem_take h)
   ·rcases List.mem_cons.1 h with h|h
    ·exact .inr h
    ·exact .inl (List.mem_of_mem_drop h)
  ·exact .inl h
theorem jHi {t:List Ro} {fr:Int} {r:Ro} (ha:Asc (·.dest) t):Kept t (jr t fr r):=by
 unfold jr;split
 ·rename_i o ho
  obtain ⟨h1,h2⟩:=jMa ha ho
  by_cases hc:(if fin r=true then better r o else (o.nx==fr)&&decide (o.sq<r.sq))=true
  ·rw [if_pos hc];have hb:r.sq>o.sq\/(r.sq=o.sq/\r.cost<o.cost):=by
    by_cases hf:fin r=true
    ·rw [if_pos hf]at hc;simpa[better]using hc
    ·rw [if_neg hf]at hc;simp at hc;omega
   intro x hx;obtain ⟨j,hj⟩:=List.getElem?_of_mem hx
   by_cases hji:j=rpos t r.dest
   ·subst hji;rw[h1]at hj;cases hj;exact ⟨r,List.mem_of_getElem? (List.getElem?_set_self (List.getElem?_eq_some_iff.1 h1).1),.inr ⟨h2.symm,hb⟩⟩
   ·exact ⟨x,List.mem_of_getElem? (i:=j) (by rw[List.getElem?_set_ne (Ne.symm hji)];exact hj),.inl rfl⟩
  ·rw [if_neg hc];exact Kept.refl t
 ·split
  ·intro x hx;refine ⟨x,?_,.inl rfl⟩;rw[<- List.take_append_drop (rpos t r.dest) t]at hx;rcases List.mem_append.1 hx with h|h
   ·exact List.mem_append_left _ h
   ·exact List.mem_append_right _ (List.mem_cons_of_mem _ h)
  ·exact Kept.refl t
theorem jKg {t:List Ro} {self fr:Int} {r:Ro} (h:Tab self t) (hr:Jy r=false) (hf:Ze self r=false):Tab self (jr t fr r)/\Kept t (jr t fr r):=by
 have hk:=jHi (fr:=fr) (r:=r) h.asc;refine ⟨⟨jDx h.len,h.ok,fun x hx=>?_,jDy h.asc,jE8 h.own hk,fun x hx=>?_⟩,hk⟩
 ·rcases jDw hx with hx|rfl
  ·exact h.rng x hx
  ·exact hr
 ·rcases jDw hx with hx|rfl
  ·exact h.form x hx
  ·exact hf
theorem jMb {self fr cost:Int} {a:Ro} (h1:okN fr=true) (h2:fr≠self) (h3:1<=cost) (hs:okN self=true) (ha:usable a=true) (hd:a.dest≠self):
  Jy (jBL fr cost a)=false/\Ze self (jBL fr cost a)=false:=by
 rw[zL]at hs;unfold usable at ha;rw[Bool.and_eq_true,Bool.and_eq_true,Bool.not_eq_true',Bool.or_eq_false_iff,decide_eq_false_iff_not,decide_eq_false_iff_not]at ha;obtain ⟨⟨h4,h5,h6⟩,h7⟩:=ha;unfold jBL
 split
 ·rename_i hc
  have hc1:=hc.1;unfold fin at hc1;simp only[Bool.and_eq_true,decide_eq_true_eq]at hc1;have h7:a.sq%2=0:=by simp at h7;omega
  have hfin:fin ⟨a.dest,a.sq,a.cost+cost,fr⟩=true:=by unfold fin;simp;omega
  refine ⟨?_,?_⟩
  ·unfold Jy usable;rw[hfin,h4,h1]
   simp[h7];omega
  ·unfold Ze;rw[if_neg hd];simp only[Bool.or_eq_false_iff,beq_eq_false_iff_ne,ne_eq];exact ⟨by omega,h2⟩
 ·have hfin:fin ⟨a.dest,a.sq,255,255⟩=false:=by unfold fin;simp
  refine ⟨?_,?_⟩
  ·unfold Jy usable;rw[hfin,h4]
   simp;omega
  ·unfold Ze;rw[if_neg hd];simp only[Bool.or_eq_false_iff,beq_eq_false_iff_ne,ne_eq];exact ⟨by decide,by omega⟩
theorem jMH {t:List Ro} {self fr cost:Int} {a:Ro} (h:Tab self t) (h1:okN fr=true) (h2:fr≠self) (h3:1<=cost):Tab self (J2 self fr cost t a)/\Kept t (J2 self fr cost t a):=by
 unfold J2;split
 ·exact ⟨h,Kept.refl t⟩
 ·rename_i hn
  have hu:usable a=true:=by
   cases e:usable a
   ·exact absurd (Or.inl e) hn
   ·rfl
  have hd:a.dest≠self:=fun e=>hn (.inr (by rw[jEL h.ok];exact e))
  obtain ⟨g1,g2⟩:=jMb (cost:=cost) h1 h2 h3 h.ok hu hd;exact jKg h g1 g2
theorem jFd {self fr cost:Int} (h1:okN fr=true) (h2:fr≠self) (h3:1<=cost):∀ {adv t:List Ro},Tab self t->Tab self (adv.foldl (J2 self fr cost) t)/\Kept t (adv.foldl (J2 self fr cost) t)
 |[],t,h=>⟨h,Kept.refl t⟩
 |a::adv,t,h=>by
  obtain ⟨g1,g2⟩:=jMH (a:=a) h h1 h2 h3;obtain ⟨g3,g4⟩:=jFd (cost:=cost) h1 h2 h3 (adv:=adv) g1;exact ⟨g3,g2.trans g4⟩
theorem jCH {t:List Ro} {self fr cost:Int} {adv:List Ro} (h:Tab self t):Tab self (jBR t self fr cost adv)/\Kept t (jBR t self fr cost adv):=by
 unfold jBR;rw[h.tab,jEL h.ok]
 split
 ·exact ⟨h,Kept.refl t⟩
 ·rename_i hn
  have h1:okN fr=true:=by
   cases e:okN fr
   ·exact absurd (Or.inl e) hn
   ·rfl
  exact jFd h1 (fun e=>hn (.inr (.inl e))) (by omega) h
theorem jPD {α:Type} {key:α->Int} {l:List α} {i:Nat} {x y:α} (ha:Asc key l) (hx:l[i]? =some x) (hk:key y=key x):Asc key (l.set i y):=by
 have hg:∀(k:Nat) (a:α),(l.set i y)[k]? =some a->∃a':α,l[k]? =some a'/\key a'=key a:=by
  intro k a h
  by_cases e:k=i
  ·subst e;rw[List.getElem?_set_self (List.getElem?_eq_some_iff.1 hx).1]at h;cases h;exact ⟨x,hx,hk.symm⟩
  ·rw [List.getElem?_set_ne (Ne.symm e)]at h;exact ⟨a,h,rfl⟩
 refine jHE fun k a b h1 h2=>?_
 obtain ⟨a',e1,e2⟩:=hg k a h1;obtain ⟨b',e3,e4⟩:=hg (k+1) b h2;have:=ha.lt (Nat.lt_succ_self k) e1 e3;omega
theorem jMX {t:List Ro} {self:Int} (h:Tab self t):Tab self (jB6 t self)/\Kept t (jB6 t self):=by
 unfold jB6;rw[h.tab,jEL h.ok]
 split
 ·rename_i r hr
  obtain ⟨h1,h2⟩:=jMa h.asc hr;have hm:=List.mem_of_getElem? h1
  split
  ·rename_i hlt
   have hk:Kept t (t.set (rpos t self) ⟨r.dest,r.sq+2,r.cost,r.nx⟩):=by
    intro x hx;obtain ⟨j,hj⟩:=List.getElem?_of_mem hx
    by_cases hji:j=rpos t self
    ·subst hji;rw[h1]at hj;cases hj;exact ⟨_,List.mem_of_getElem? (List.getElem?_set_self (List.getElem?_eq_some_iff.1 h1).1),.inr ⟨rfl,.inl (by show r.sq+2>r.sq;omega)⟩⟩
    ·exact ⟨x,List.mem_of_getElem? (i:=j) (by rw[List.getElem?_set_ne (Ne.symm hji)];exact hj),.inl rfl⟩
   refine ⟨⟨by rw[List.length_set];exact h.len,h.ok,fun x hx=>?_,jPD h.asc h1 rfl,jE8 h.own hk,fun x hx=>?_⟩,hk⟩
   ·rcases List.mem_or_eq_of_mem_set hx with hx|rfl
    ·exact h.rng x hx
    ·have hg:=h.rng r hm;have hf:=h.form r hm;unfold Ze at hf;rw[if_pos h2]at hf;simp only[Bool.not_eq_false',Bool.and_eq_true,beq_iff_eq]at hf;have hs:=h.ok;rw[zL]at hs;unfold Jy usable fin at hg ⊢;rw[hf.1,hf.2,h2]at hg ⊢;simp only[h.ok]at hg ⊢
     simp at hg ⊢
     omega
   ·rcases List.mem_or_eq_of_mem_set hx with hx|rfl
    ·exact h.form x hx
    ·have hf:=h.form r hm;unfold Ze at hf ⊢;exact hf
  ·exact ⟨h,Kept.refl t⟩
 ·exact ⟨h,Kept.refl t⟩
theorem jPd {t:List Ro} {self next:Int} (h:Tab self t):Tab self (jMY t self next)/\Kept t (jMY t self next):=by
 rw[jE1,h.tab];have hs:=h.ok;rw[zL]at hs;have hb:∀r,jDS self next r=if okN next=true/\r.nx=next/\r.dest≠self then ⟨r.dest,r.sq+1,255,255⟩else r:=by
  intro r;unfold jDS;rw[jEL h.ok]
 have hk:Kept t (t.map (jDS self next)):=by
  intro r hr;refine ⟨jDS self next r,List.mem_map_of_mem hr,?_⟩;rw[hb];split
  ·exact .inr ⟨rfl,.inl (by show r.sq+1>r.sq;omega)⟩
  ·exact .inl I
 refine ⟨⟨by rw[List.length_map];exact h.len,h.ok,fun x hx=>?_,?_,jE8 h.own hk,fun x hx=>?_⟩,hk⟩
 ·obtain ⟨r,hr,rfl⟩:=List.mem_map.1 hx;have hg:=h.rng r hr;rw[hb];split
  ·rename_i hc
   obtain ⟨c1,c2,c3⟩:=hc;rw[<- c2]at c1;have hn:=c1;rw[zL]at hn;unfold Jy usable fin at hg ⊢;simp only[c1]at hg
   simp at hg ⊢
   obtain ⟨⟨⟨g1,g2,g3⟩,g4⟩,g5⟩:=hg;simp only[g1]
   simp;omega
  ·exact hg
 ·refine yw (key:=fun r:Ro=>r.dest) _ (fun a=>?_) h.asc;rw[hb];split<;>rfl
 ·obtain ⟨r,hr,rfl⟩:=List.mem_map.1 hx;have hf:=h.form r hr;rw[hb];split
  ·rename_i hc
   unfold Ze;rw[if_neg hc.2.2];simp only[Bool.or_eq_false_iff,beq_eq_false_iff_ne,ne_eq];exact ⟨by decide,by omega⟩
  ·exact hf
theorem jEJ {x:Li} {ok:Bool} (h:zD x=false):zD (jNJ x ok)=false:=by
 obtain ⟨h1,h2,h3,h4,h5,h6⟩:=kL h;unfold zD at h;simp only[Bool.or_eq_false_iff,decide_eq_false_iff_not]at h;obtain ⟨_,h7⟩:=h;have hb:(if ok=true then (1:Int)else 0)<=1/\0<=(if ok=true then (1:Int)else 0):=by split<;>omega
 unfold zD jNJ;simp only[Bool.or_eq_false_iff,decide_eq_false_iff_not];refine ⟨⟨⟨⟨by omega,by omega⟩,by omega⟩,by omega⟩,?_⟩;rcases Int.lt_or_le x.ct 16 with hc|hc
 ·have e:(min (x.ct+1) 16).toNat=x.ct.toNat+1:=by omega
  rw[e,Int.pow_succ];omega
 ·have e:(min (x.ct+1) 16).toNat=16:=by omega
  rw[e];have:(2:Int) ^ 16=65536:=by decide
  rw[this];omega
theorem jAA (l:List Li) (n:Int) (ok:Bool):jAs (JD l n ok)=0:=by
 obtain ⟨h1,h2,h3⟩:=KC (ku l);unfold JD
 split
 ·exact ku l
 rename_i hr
 split
 ·rename_i x hx
  obtain ⟨hp,hk,_⟩:=h3.pos (n:=n) hx;have hx':=List.mem_of_getElem? hp;refine jH7 (by rw[List.length_set];exact h1) (fun y hy=>?_) (jPD h3 (i:=zT (lval l) n) hp I);rcases List.mem_or_eq_of_mem_set hy with hy|rfl
  ·exact h2 y hy
  ·exact jEJ (h2 x hx')
 ·rename_i hx
  split
  ·exact ku l
  ·rename_i hl
   refine jH7 ?_ (fun y hy=>?_) ?_
   ·have:=jH4 (lval l) n
    simp;omega
   ·rcases List.mem_append.1 hy with h|h
    ·exact h2 y (List.mem_of_mem_take h)
    ·rcases List.mem_cons.1 h with rfl|h
     ·refine jEJ ?_;unfold zD;simp;omega
     ·exact h2 y (List.mem_of_mem_drop h)
   ·obtain ⟨A,C,s⟩:=h3.split n;rcases s.hi with ⟨g1,g2⟩|⟨y,D,rfl,hy,g2,g3⟩
    ·have hlp:zT (lval l) n=A.length:=by unfold zT;rw[s.tw]
     rw[hlp,s.eq,List.take_left,List.drop_left];exact Asc.ins (by rw[<- s.eq];exact h3) s.lo g2 I
    ·exact absurd g2 (by unfold lat at hx;rw[hx];simp)
theorem jLF (l:List Li) (n:Int):jAs (JE l n)=0:=by
 obtain ⟨h1,h2,h3⟩:=KC (ku l);unfold JE;exact jH7 (Nat.le_trans (List.length_filter_le _ _) h1) (fun x hx=>h2 x (List.mem_filter.1 hx).1) (h3.filter _)
structure Ord (n:Nd):Prop where
 addr:okN n.addr=true
 poll:n.poll=0\/4<=n.poll
 parent:n.parent=255\/(okN n.parent=true/\n.parent≠n.addr)
 table:Tab n.addr n.table
 links:jAs n.links=0
 out:n.out.length<=16
 kids:Asc id n.children
 kid:∀x∈n.children,okN x=true/\x≠n.addr
 boxes:n.boxes.length<=16
 seen:n.seen.length<=32
 inbox:n.inbox.length<=256
 seq:0<=n.seq/\n.seq<=65535
 lost:0<=n.lost/\n.lost<=jw
theorem jKH (n:Int):okN (clamp n 0 250)=true:=jJ7 n
theorem JJ (n:Nd):Ord (order n):=by
 have ha:=jKH n.addr;refine ⟨ha,?_,?_,?_,ku _,?_,(jCT _ _).1,fun x hx=>(((jCT _ _).2 x).1 hx).2,?_,jFK _ _,?_,?_,?_⟩
 ·show (if n.poll<1 then (0:Int)else max n.poll 4)=0\/4<=(if n.poll<1 then (0:Int)else max n.poll 4)
  split<;>omega
 ·show (if okN n.parent=false\/n.parent=clamp n.addr 0 250 then (255:Int)else n.parent)=255\/(okN (if okN n.parent=false\/n.parent=clamp n.addr 0 250 then (255:Int)else n.parent)=true/\(if okN n.parent=false\/n.parent=clamp n.addr 0 250 then (255:Int)else n.parent)≠clamp n.addr 0 250)
  split
  ·exact .inl I
  ·rename_i h
   refine .inr ⟨?_,fun e=>h (.inr e)⟩;cases e:okN n.parent
   ·exact absurd (Or.inl e) h
   ·rfl
 ·show Tab (clamp n.addr 0 250) (if KR n.table (clamp n.addr 0 250)=0 then n.table else [jHg (clamp n.addr 0 250)])
  split
  ·rename_i h;exact jJm h
  ·exact jJd ha
 ·show (n.out.take 16).length<=16
  simp;omega
 ·show (n.boxes.take 16).length<=16
  simp;omega
 ·show (n.inbox.take 256).length<=256
  simp;omega
 ·show 0<=(if n.seq<0\/n.seq>65535 then (0:Int)else n.seq)/\(if n.seq<0\/n.seq>65535 then (0:Int)else n.seq)<=65535
  split<;>omega
 ·show 0<=clamp n.lost 0 jw/\clamp n.lost 0 jw<=jw;have:(0:Int)<=jw:=by decide
  unfold clamp;omega
theorem Ord.lose {n:Nd} (h:Ord n):Ord (lose n):={ h with lost:=by have:=h.lost;show 0<=min (n.lost+1) jw/\min (n.lost+1) jw<=jw;omega }
theorem Ord.Zr {n:Nd} (h:Ord n) {q:List Sn} (hq:q.length<=16):Ord { n with out:=q }:={ h with out:=hq }
theorem Ord.ZK {n:Nd} (h:Ord n) {q:List Ma} (hq:q.length<=16):Ord { n with boxes:=q }:={ h with boxes:=hq }
theorem Ord.jAw {n:Nd} (h:Ord n) (q:List Pt):Ord { n with parts:=q }:={ h with }
theorem Ord.setTable {n:Nd} (h:Ord n) {t:List Ro} (ht:Tab n.addr t):Ord { n with table:=t }:={ h with table:=ht }
theorem Ord.jCG {n:Nd} (h:Ord n) {t:List Li} (ht:jAs t=0):Ord { n with links:=t }:={ h with links:=ht }
theorem Ord.queue {n:Nd} (h:Ord n) (f:Fr):Ord (queue n f).1:=by
 unfold Nd.queue;simp only
 split
 ·exact (h.Zr jCP).lose
 ·exact h.Zr jCP
theorem Ord.box {n:Nd} (h:Ord n) (f:Fr) (now:Int):Ord (box n f now):=by
 unfold Nd.box;simp only
 split
 ·exact (h.ZK jCP).lose
 ·exact h.ZK jCP
theorem Ord.deliver {n:Nd} (h:Ord n) (d:De):Ord (deliver n d):=by
 unfold Nd.deliver
 split
 ·exact h.lose
 ·exact { h with inbox:=by show (n.inbox++[d]).length<=256;simp;omega }
theorem kX (n:Nd) (f:Fr):(queue n f).1.table=n.table/\(queue n f).1.addr=n.addr:=by
 unfold queue;simp only;split<;>exact ⟨rfl,rfl⟩
theorem jHB (n:Nd) (f:Fr) (now:Int):(box n f now).table=n.table/\(box n f now).addr=n.addr:=by
 unfold box;simp only;split<;>exact ⟨rfl,rfl⟩
theorem jBA (n:Nd) (d:De):(deliver n d).table=n.table/\(deliver n d).addr=n.addr:=by
 unfold deliver;split<;>exact ⟨rfl,rfl⟩
structure Good (n m:Nd):Prop where
 ord:Ord m
 addr:m.addr=n.addr
 kept:Kept n.table m.table
theorem Good.refl {n:Nd} (h:Ord n):Good n n:=⟨h,rfl,Kept.refl _⟩
theorem Good.trans {a b c:Nd} (h:Good a b) (h':Good b c):Good a c:=⟨h'.ord,h'.addr.trans h.addr,h.kept.trans h'.kept⟩
theorem Good.of_eq {n m:Nd} (h:Ord m) (h1:m.table=n.table) (h2:m.addr=n.addr):Good n m:=⟨h,h2,by rw[h1];exact Kept.refl _⟩
theorem Good.lose {n m:Nd} (h:Good n m):Good n (lose m):=⟨h.ord.lose,h.addr,h.kept⟩
theorem Good.queue {n m:Nd} (h:Good n m) (f:Fr):Good n (queue m f).1:=h.trans (.of_eq (h.ord.queue f) (kX m f).1 (kX m f).2)
theorem Good.box {n m:Nd} (h:Good n m) (f:Fr) (now:Int):Good n (box m f now):=h.trans (.of_eq (h.ord.box f now) (jHB m f now).1 (jHB m f now).2)
theorem Good.deliver {n m:Nd} (h:Good n m) (d:De):Good n (deliver m d):=h.trans (.of_eq (h.ord.deliver d) (jBA m d).1 (jBA m d).2)
theorem Good.out {n m:Nd} (h:Good n m) {q:List Sn} (hq:q.length<=16):Good n { m with out:=q }:=⟨h.ord.Zr hq,h.addr,h.kept⟩
theorem kr (q:List Sn) (i:Nat) (ok:Bool):(ZU q i ok).1.length<=16:=by
 have h16:(q.take 16).length<=16:=by simp;omega
 have he:((q.take 16).eraseIdx i).length<=16:=Nat.le_trans (List.length_eraseIdx_le _ _) h16;unfold ZU
 split
 ·exact h16
 ·split
  ·exact he
  ·split
   ·exact he
   ·show ((q.take 16).set i _).length<=16;rw[List.length_set];exact h16
theorem jBg {n:Nd} (now:Int):∀(l:List Fr) {m:Nd},Good n m->Good n (l.foldl (fun n f=>box n f now) m)
 |[],_,h=>h
 |f::l,_,h=>jBg now l (h.box f now)
theorem Zn {n m:Nd} (h:Good n m):Good n (bumped m):=by
 obtain ⟨g1,g2⟩:=jMX h.ord.table;exact ⟨h.ord.setTable g1,h.addr,h.kept.trans g2⟩
theorem jAo {n m:Nd} (h:Good n m):Good n (zP m):=by
 unfold zP;split
 ·exact (Zn h).queue _
 ·exact Zn h
theorem jMk {n m:Nd} (h:Good n m):Good n (poll m):=by
 unfold poll;split
 ·exact (Zn h).queue _
 ·exact Zn h
theorem jDX {n m:Nd} (h:Good n m) (now:Int):Good n (asleep m now):=by
 unfold asleep;exact jBg now _ (h.out (Nat.le_trans (List.length_filter_le _ _) h.ord.out))
theorem jC4 (q:List Sn):(ZL q).length<=16:=by unfold ZL;simp;omega
theorem jLy (n:Nd) (now:Int):Good (order n) (Zb n now):=by
 have ho:=JJ n
 have h1:Good (order n) (asleep { order n with out:=ZL (order n).out,boxes:=jAn (order n).boxes (tick now) 120,parts:=jAr (order n).parts (tick now) 120 } (tick now)):=
  jDX (n:=order n) ⟨((ho.Zr (jC4 (order n).out)).ZK (jBD (order n).boxes (tick now) 120)).jAw (jAr (order n).parts (tick now) 120),rfl,Kept.refl (order n).table⟩ (tick now)
 unfold Zb;simp only;generalize asleep { order n with out:=ZL (order n).out,boxes:=jAn (order n).boxes (tick now) 120,parts:=jAr (order n).parts (tick now) 120 } (tick now)=a at h1 ⊢;have h2:Good (order n) (if a.poll=0/\tick now%8=a.addr%8 then zP a else a):=by
  split
  ·exact jAo h1
  ·exact h1
 generalize (if a.poll=0/\tick now%8=a.addr%8 then zP a else a)=b at h2 ⊢
 split
 ·exact jMk h2
 ·exact h2
theorem Z8 {n:Nd} {now:Int}:∀(k:Nat) {m:Nd} {i:Nat},Good n m->Good n (J7 now k m i).1
 |0,m,i,h=>h
 |k+1,m,i,h=>by
  unfold J7
  split
  ·exact h
  ·split
   ·exact Z8 k h
   ·split
    ·exact h
    ·split
     ·exact Z8 k ((h.out (Nat.le_trans (List.length_eraseIdx_le _ _) h.ord.out)).box _ _)
     ·split
      ·exact h
      ·split
       ·exact Z8 k (h.out (kr _ _ _)).lose
       ·exact Z8 k (h.out (kr _ _ _))
theorem jL0 (n:Nd) (now:Int):Good (order n) (talk n now).1:=Z8 _ (Good.refl (JJ n))
theorem jJB {n m:Nd} (h:Good n m) (to:Int):Good n (giveUp m to):=by
 unfold giveUp;split
 ·exact h.lose
 ·obtain ⟨g1,g2⟩:=jPd (next:=to) h.ord.table;have hl:=h.ord.lose;refine ⟨{ hl with table:=g1,links:=jLF _ _,kids:=h.ord.kids.filter _,kid:=fun x hx=>h.ord.kid x (List.mem_filter.1 hx).1,parent:=?_ },h.addr,h.kept.trans g2⟩;show (if m.parent=to then (255:Int)else m.parent)=255\/(okN (if m.parent=to then (255:Int)else m.parent)=true/\(if m.parent=to then (255:Int)else m.parent)≠m.addr)
  split
  ·exact .inl I
  ·exact h.ord.parent
theorem jHk (n:Nd) (f:Fr) (ok:Bool):Good (order n) (result n f ok):=by
 have ho:=Good.refl (JJ n);unfold result;simp only
 split
 ·exact ho
 ·rename_i i hi
  have k1:∀a,Good (order n) a->Good (order n) (if okN f.dst=true then { a with links:=JD a.links f.dst ok } else a):=by
   intro a h1
   split
   ·exact ⟨h1.ord.jCG (jAA _ _ _),h1.addr,h1.kept⟩
   ·exact h1
  have h2:=k1 { order n with out:=(ZU (order n).out i ok).1 } (ho.out (kr _ _ _))
  split
  ·exact jJB h2 _
  ·exact h2
theorem jDZ {n m:Nd} {f:Fr} (h:Good n m) (hf:okN f.fr=true) (hne:f.fr≠m.addr):Good n (jT m f):=by
 unfold jT;simp only;have k1:∀a:Nd,Good n a->a.addr=m.addr->Good n (if a.poll>0/\a.parent=255/\(zy (jAp f.da).1 0).2=true then { a with parent:=f.fr } else a):=by
  intro a h2 e2
  split
  ·exact ⟨{ h2.ord with parent:= .inr ⟨hf,fun e=>hne (e.trans e2)⟩ },h2.addr,h2.kept⟩
  ·exact h2
 have k2:∀a:Nd,Good n a->a.addr=m.addr->Good n { a with table:=jBR a.table a.addr f.fr (kM a.links f.fr) (jAp f.da).1 }:=by
  intro a h1 e1;obtain ⟨g1,g2⟩:=jCH (fr:=f.fr) (cost:=kM a.links f.fr) (adv:=(jAp f.da).1) h1.ord.table;exact ⟨h1.ord.setTable g1,h1.addr,h1.kept.trans g2⟩
 have h1:Good n { m with links:=JD m.links f.fr true }:=⟨h.ord.jCG (jAA _ _ _),h.addr,h.kept⟩
 split
 ·exact h1
 ·exact k1 _ (k2 _ h1 I) I
theorem jEZ {n:Nd} {fr now:Int}:∀(k:Nat) {m:Nd},Good n m->Good n (drain fr now k m)
 |0,_,h=>h
 |k+1,m,h=>by
  unfold drain;simp only;have hb:=(jDR m.boxes fr now 120).1
  split
  ·exact jEZ k (Good.queue (m:={ m with boxes:=(Js m.boxes fr now 120).2.1 }) ⟨h.ord.ZK hb,h.addr,h.kept⟩ _)
  ·exact ⟨h.ord.ZK hb,h.addr,h.kept⟩
theorem jHt {n m:Nd} {f:Fr} {now:Int} (h:Good n m) (hf:okN f.fr=true) (hne:f.fr≠m.addr):Good n (polled m f now):=by
 unfold polled;refine jEZ _ ?_;obtain ⟨g1,g2⟩:=jCH (fr:=f.fr) (cost:=10) (adv:=[⟨f.fr,f.sq,0,0⟩]) h.ord.table;obtain ⟨c1,c2⟩:=kQ h.ord.kids f.fr;refine ⟨{ h.ord with table:=g1,kids:=c1,kid:=fun x hx=>?_ },h.addr,h.kept.trans g2⟩;rcases (c2 x).1 hx with rfl|hx
 ·exact ⟨hf,hne⟩
 ·exact h.ord.kid x hx
theorem jBZ (l:List Pr) (p:Pr):(ZA l p).1.length<=32:=by
 unfold ZA;split<;>exact jFK _ _
theorem jE0 {n m:Nd} {f:Fr} {now:Int} (h:Good n m):Good n (received m f now):=by
 unfold received;simp only;have h1:Good n { m with seen:=(ZA m.seen ⟨f.so,f.sq⟩).1 }:=⟨{ h.ord with seen:=jBZ _ _ },h.addr,h.kept⟩;have hp:∀q,Good n { m with seen:=(ZA m.seen ⟨f.so,f.sq⟩).1,parts:=q }:=fun q=>⟨h1.ord.jAw q,h1.addr,h1.kept⟩
 split
 ·exact h1
 ·split
  ·split
   ·exact h1
   ·split
    ·exact (hp _).deliver _
    ·exact hp _
  ·split
   ·exact h1.lose
   ·exact h1.queue _
theorem jFT {f:Fr} (h:Kv f=0):okN f.fr=true/\okN f.so=true/\0<=f.sq/\f.sq<=65535/\0<=f.hp/\f.hp<=15/\f.da.length<=109:=by
 unfold Kv at h
 split at h
 ·cases h
 ·split at h
  ·cases h
  ·rename_i h2
   split at h
   ·cases h
   ·rename_i h3
    have h2:Kr f=false:=by cases e:Kr f;rfl;exact absurd e h2
    unfold Kr at h2;simp only[Bool.or_eq_false_iff,Bool.not_eq_false',decide_eq_false_iff_not]at h2;obtain ⟨⟨⟨⟨⟨⟨⟨a,b⟩,c⟩,d⟩,e⟩,g⟩,i⟩,j⟩:=h2;exact ⟨a,b,by omega,by omega,by omega,by omega,by omega⟩
theorem jNg (n:Nd) (now:Int) (f:Fr):Good (order n) (hear n now f):=by
 have ho:=Good.refl (JJ n);unfold hear;simp only
 split
 ·exact ho
 ·rename_i h1
  have hc:Kv f=0:=by
   rcases Int.lt_trichotomy (Kv f) 0 with h|h|h
   ·exact absurd (Or.inl (by omega)) h1
   ·exact h
   ·exact absurd (Or.inl (by omega)) h1
  have hf:=(jFT hc).1;have hne:f.fr≠(order n).addr:=fun e=>h1 (.inr (.inl e))
  split
  ·exact jDZ ho hf hne
  ·split
   ·exact jHt ho hf hne
   ·split
    ·exact jE0 ho
    ·exact ho
end Nd
namespace Go.Proofs.YtgfdoognildoeaaGreat
open Go.GX Go.RowKit
attribute [local irreducible] Calls Run JH JL zU HR HL HD jS jM ZN Rd jg Jf
open Nd
theorem jSj:IsFn Tryz.prog 294:=zF Tryz.func294 I
theorem jSm:IsFn Tryz.prog 279:=zF Tryz.func279 I
theorem fn275:IsFn Tryz.prog 275:=zF Tryz.func275 I
theorem fn283:IsFn Tryz.prog 283:=zF Tryz.func283 I
theorem jG0 (i c n:Int) (w:World) (hc:-1000000<=c/\c<=1000000):Calls Tryz.prog 294 #[.int .i64 i,.int .i64 c,.int .i64 n] w fun e w'=>e= .returned (.bool (fits i c n))/\Below w.heap.size w w':=by
 unfold Nd.fits;refine zE Tryz.func294 I [(0,.int .i64 i),(1,.int .i64 c),(2,.int .i64 n)] (zh ?_);refine HR.cond I (fun h=>?_) (fun h=>?_)
 ·have h:i≠c-1:=by have h:(i != c-1)=true:=h;simpa using h
  rw[if_pos h];refine zh ?_;exact zR Tryz.func294
 have h:¬i≠c-1:=by have h:(i != c-1)=false:=h;simpa using h
 rw[if_neg h];refine zh ?_;refine HR.cond I (fun h=>?_) (fun h=>?_)
 ·have h:c=1:=eq_of_beq h;rw[if_pos h];refine zh ?_;exact zR Tryz.func294
 have h:¬c=1:=by have h:(c==1)=false:=h;simpa using h
 rw[if_neg h];refine zh ?_;refine HR.cond I (fun h=>?_) (fun h=>?_)
 ·have h:c=16:=eq_of_beq h;rw[if_pos h]
  repeat' (first|refine zh ?_|apply zb ?_ ?_|exact zc|(refine zi fun hb=>?_;try simp at hb)|fail)
  exact zR Tryz.func294
 have h:¬c=16:=by have h:(c==16)=false:=h;simpa using h
 rw[if_neg h]
 repeat' (first|refine zh ?_|apply zb ?_ ?_|exact zc|(refine zi fun hb=>?_;try simp at hb)|fail)
 exact zR Tryz.func294
theorem jFq (i c n:Int) (w:World) (hc:-1000000<=c/\c<=1000000) (hi:i<c):Calls Tryz.prog 279 #[.int .i64 i,.int .i64 c,.int .i64 n] w fun e w'=>e= .returned (.bool (fits i c n))/\Below w.heap.size w w':=by
 unfold Nd.fits;refine zE Tryz.func279 I [(0,.int .i64 i),(1,.int .i64 c),(2,.int .i64 n)] (zh ?_);refine HR.cond I (fun h=>?_) (fun h=>?_)
 ·have h:i<c-1:=of_decide_eq_true h;rw[if_pos (by omega)];refine zh ?_;exact zR Tryz.func279
 have h:¬i<c-1:=of_decide_eq_false h;rw[if_neg (by omega)];refine zh ?_;refine HR.cond I (fun h=>?_) (fun h=>?_)
 ·have h:c=1:=eq_of_beq h;rw[if_pos h];refine zh ?_;exact zR Tryz.func279
 have h:¬c=1:=by have h:(c==1)=false:=h;simpa using h
 rw[if_neg h];refine zh ?_;refine HR.cond I (fun h=>?_) (fun h=>?_)
 ·have h:c=16:=eq_of_beq h;rw[if_pos h]
  repeat' (first|refine zh ?_|apply zb ?_ ?_|exact zc|(refine zi fun hb=>?_;try simp at hb)|fail)
  exact zR Tryz.func279
 have h:¬c=16:=by have h:(c==16)=false:=h;simpa using h
 rw[if_neg h]
 repeat' (first|refine zh ?_|apply zb ?_ ?_|exact zc|(refine zi fun hb=>?_;try simp at hb)|fail)
 exact zR Tryz.func279
theorem jMv {s:By} {x1 x2:Int} (h:¬s.length<3) (h1:x1=b8 s 1) (h2:x2=b8 s 2):jDa s=if (((decide (x2<1)||decide (x2>16))||decide (x1>=x2))||!fits x1 x2 ((s.length:Int)-3))=true then 4 else 0:=by
 subst h1;subst h2;unfold jDa;rw[if_neg h]
 congr 1
 simp[Bool.or_assoc,or_assoc]
theorem jJD (s:By) (w:World) (hs:s.length<=9223372036854775807):Calls Tryz.prog 275 #[str s] w fun e w'=>e= .returned (.int .i64 (jDa s))/\Below w.heap.size w w':=by
 refine zE Tryz.func275 I [(0,str s)] (zh ?_);refine HR.cond I (fun h=>?_) (fun h=>?_)
 ·have h:s.length<3:=by have:=of_decide_eq_true h;omega
  rw[show jDa s=5 from if_pos h];refine zh ?_;exact zR Tryz.func275
 have h:¬s.length<3:=by have:=of_decide_eq_false h;omega
 have b1:=(s.getD 1 0).toNat_lt;have b2:=(s.getD 2 0).toNat_lt;obtain ⟨x1,h1⟩:∃x1:Int,x1=b8 s 1:=⟨_,rfl⟩;obtain ⟨x2,h2⟩:∃x2:Int,x2=b8 s 2:=⟨_,rfl⟩;rw[jMv h h1 h2];refine zh ?_;refine qK j3 (by kernel_rfl) (zq ?_);refine QC 3 (v':= .int .i64 x1) I (by rw[h1];rfl) ?_;refine QC 4 (v':= .int .i64 x2) I (by rw[h2];rfl) ?_;have b1:0<=x1/\x1<=255:=by rw[h1];unfold b8;omega
 have b2:0<=x2/\x2<=255:=by rw[h2];unfold b8;omega
 repeat' (first|refine zh ?_|refine qB jSj I I (fun w _=>jG0 _ _ _ w (by omega)) ?_|apply zb ?_ ?_|exact zc|(refine zi fun hb=>?_;try simp at hb)|fail)
 refine HR.cond I (fun h2=>?_) (fun h2=>?_)
 ·rw [if_pos h2];refine zh ?_;exact zR Tryz.func275
 ·have h2:(((decide (x2<1)||decide (x2>16))||decide (x1>=x2))||!fits x1 x2 ((s.length:Int)-3))=false:=h2;rw[if_neg (by rw[h2];decide)];refine zh ?_;exact zR Tryz.func275
theorem jF9 (s:By) (w:World) (hs:s.length<=9223372036854775807):Calls Tryz.prog 283 #[str s] w fun e w'=>e= .returned (.int .i64 (jDa s))/\Below w.heap.size w w':=by
 refine zE Tryz.func283 I [(0,str s)] (zh ?_);refine HR.cond I (fun h=>?_) (fun h=>?_)
 ·have h:s.length<3:=by have:=of_decide_eq_true h;omega
  rw[show jDa s=5 from if_pos h];refine zh ?_;exact zR Tryz.func283
 have h:¬s.length<3:=by have:=of_decide_eq_false h;omega
 have b1:=(s.getD 1 0).toNat_lt;have b2:=(s.getD 2 0).toNat_lt;obtain ⟨x1,h1⟩:∃x1:Int,x1=b8 s 1:=⟨_,rfl⟩;obtain ⟨x2,h2⟩:∃x2:Int,x2=b8 s 2:=⟨_,rfl⟩;rw[jMv h h1 h2];refine zh ?_;refine qK j3 (by kernel_rfl) (zq ?_);refine QC 3 (v':= .int .i64 x1) I (by rw[h1];rfl) ?_;refine QC 4 (v':= .int .i64 x2) I (by rw[h2];rfl) ?_;have b1:0<=x1/\x1<=255:=by rw[h1];unfold b8;omega
 have b2:0<=x2/\x2<=255:=by rw[h2];unfold b8;omega
 repeat' (first|refine zh ?_|refine qB jSm I I (fun w _=>jFq _ _ _ w (by omega) (by omega)) ?_|apply zb ?_ ?_|exact zc|(refine zi fun hb=>?_;try simp at hb)|fail)
 refine HR.cond I (fun h2=>?_) (fun h2=>?_)
 ·rw [if_pos h2];refine zh ?_;exact zR Tryz.func283
 ·have h2:(((decide (x2<1)||decide (x2>16))||decide (x1>=x2))||!fits x1 x2 ((s.length:Int)-3))=false:=h2;rw[if_neg (by rw[h2];decide)];refine zh ?_;exact zR Tryz.func283
theorem fn260:IsFn Tryz.prog 260:=zF Tryz.func260 I
theorem fn262:IsFn Tryz.prog 262:=zF Tryz.func262 I
theorem jSn:IsFn Tryz.prog 261:=zF Tryz.func261 I
theorem jS3:IsFn Tryz.prog 207:=zF Tryz.func207 I
theorem jRb:IsFn Tryz.prog 276:=zF Tryz.func276 I
theorem fn152:IsFn Tryz.prog 152:=zF Tryz.func152 I
theorem fn223:IsFn Tryz.prog 223:=zF Tryz.func223 I
structure RdPt (w:World) (p:PtV):Prop where
 h:Sl w p.vh (cellsOf bC p.pt.hv) p.pt.hv.length
 d:Sl w p.vd (cellsOf sC p.pt.da) p.pt.da.length
theorem RdPt.ext {w w':World} {p:PtV} (h:RdPt w p) (hb:Below w.heap.size w w'):RdPt w' p:=⟨h.h.ext hb,h.d.ext hb⟩
def jAS (p:Pt):Prop:=p.hv.length<=140737488355328/\p.da.length<=8796093022208/\∀s∈p.da,s.length<=9223372036854775807
theorem jCu {p:Pt} {k:Nat} (hk:k<p.hv.length) (h:jE4 p k=false):JU p=false:=by
 unfold JU;have:(List.range p.hv.length).all (jE4 p)=false:=by
  rw[<- Bool.not_eq_true,List.all_eq_true];intro h2;rw[h2 k (List.mem_range.2 hk)]at h;cases h
 rw[this];simp
theorem jGE {p:Pt} (h:jE6 p=true):JU p=false:=by unfold JU;rw[h];rfl
theorem Z6 {f:Nat->Bool} {k:Nat} (h:(List.range k).all f=true) (h2:f k=true):(List.range (k+1)).all f=true:=by
 rw[List.range_succ,List.all_append,h];simp[h2]
theorem jLL (p:PtV) (w:World) (hr:RdPt w p) (hs:jAS p.pt):Calls Tryz.prog 260 #[.agg ⟨ptC p⟩] w fun e w'=>e= .returned (.bool (JU p.pt))/\Below w.heap.size w w':=by
 obtain ⟨vh,vd,q⟩:=p;obtain ⟨hh,hd⟩:=hr;obtain ⟨s1,s2,s3⟩:=hs;have hh:Sl w vh (cellsOf bC q.hv) q.hv.length:=hh;have hd:Sl w vd (cellsOf sC q.da) q.da.length:=hd;refine zE Tryz.func260 I [(0,.agg ⟨ptC ⟨vh,vd,q⟩⟩)] ?_
 repeat' (first|refine zh ?_|refine qD (qA hh) I I I ?_|refine qD (qA hd) I I I ?_|apply zb ?_ ?_|exact zc|(refine zi fun hb=>?_;try simp at hb)|intro (bk:Nat))
 refine HR.cond I (fun h=>?_) (fun h=>?_)
 ·have h:jE6 q=true:=h;rw[jGE h];refine zh ?_;exact zR Tryz.func260
 have h:jE6 q=false:=h;have H:=zf h;have e1:=H.hv;have e2:=H.da;have c0:=H.ct0;have c1:=H.ct1;refine zh ?_;refine qD (qA hh) I I I (zh ?_);refine HR.loop (ι:=Nat) (fun k=>k<=q.hv.length/\(List.range k).all (jE4 q)=true) (fun k=>[(1,.pointer (some ⟨bk,0,none⟩)),(3,.int .i64 ((jJr (q.hv.take k):Nat):Int)),(51,vh),(52,.int .i64 (q.hv.length:Int)),(53,.int .i64 (k:Int))]) (fun _=>[jS bk (ptC ⟨vh,vd,q⟩) 173]) (fun k=>q.hv.length-k) 0 ⟨Nat.zero_le _,rfl⟩ ⟨I,I,I,I,I,trivial⟩ Ent.refl ?_
 rintro k ⟨hk,hall⟩ ih
 have hpl:=jMm (q.hv.take k);have htl:(q.hv.take k).length<=k:=by simp;omega
 refine zh ?_;refine HR.cond I (fun h2=>?_) (fun h2=>?_)
 ·have hlt:k<q.hv.length:=by have:=of_decide_eq_true h2;omega
  obtain ⟨b,hb⟩:=jG hlt;obtain ⟨d,hdk⟩:=jG (show k<q.da.length by omega);have hpo:jE4 q k=if b then fits k q.ct (d.length:Int)else decide (d=[]):=by
   unfold jE4;rw[List.getD_eq_getElem?_getD,List.getD_eq_getElem?_getD,hb,hdk];rfl
  have hps:=jGH hb;have hdl:=s3 d (List.mem_of_getElem? hdk);refine zh ?_;refine qE (qA hh) J4 k I I I I hlt ?_;refine qF (qA hh) I I I I (jN hb) (zh ?_);refine HR.join (ι:=Unit) (fun _=>True) (fun _=>[(1,.pointer (some ⟨bk,0,none⟩)),(3,.int .i64 ((jJr (q.hv.take k):Nat):Int)),(5,.bool b),(51,vh),(52,.int .i64 (q.hv.length:Int)),(53,.int .i64 (k:Int)),(83,.bool (!jE4 q k))]) (fun _=>[jS bk (ptC ⟨vh,vd,q⟩) 173]) (fun _ _=>?_) (fun hj=>?_)
  ·refine HR.cond I (fun h3=>?_) (fun h3=>?_)
   ·have h3:jE4 q k=false:=by have h3:(!jE4 q k)=true:=h3;simpa using h3
    rw[jCu hlt h3];refine zh ?_;exact zR Tryz.func260
   ·have h3:jE4 q k=true:=by have h3:(!jE4 q k)=false:=h3;simpa using h3
    have hall':=Z6 hall h3;refine zh ?_;refine HR.cond I (fun h4=>?_) (fun h4=>?_)
    ·have h4:b=true:=h4;rw[h4,if_pos rfl]at hps;refine zh ?_;exact ih (k+1) _ _ ⟨hlt,hall'⟩ (by omega) ⟨rfl,by rw[hps];rfl,rfl,rfl,rfl,trivial⟩ Ent.refl
    ·have h4:b=false:=h4;rw[h4,if_neg (by decide)]at hps;refine zh ?_;exact ih (k+1) _ _ ⟨hlt,hall'⟩ (by omega) ⟨rfl,by rw[hps];rfl,rfl,rfl,rfl,trivial⟩ Ent.refl
  ·refine qO [(0,true),(1,true),(2,true),(3,true),(4,true),(5,true),(6,true),(7,true),(8,true),(9,true),(10,true),(11,true),(12,true),(13,true),(14,true),(15,true),(16,true),(17,true),(18,true),(19,true),(20,true),(21,true),(22,false),(23,true),(24,true),(25,true)] [0] I I j3 (by kernel_rfl) ?_;cases b with
   |true=>
    rw[if_pos rfl]at hpo;rw[hpo]at hj;refine zd ?_;refine qc (qA hd) ZB k I I I I I (by omega) ?_;refine QD (qA hd) I I I I I (jN hdk) (zd ?_);refine Qb [0] I I jSj I I I (fun w _=>jG0 k q.ct d.length w (by omega)) (zd ?_);refine HD.nil ?_;exact hj () _ _ trivial ⟨I,I,I,I,I,I,I,trivial⟩ Ent.refl
   |false=>
    rw[if_neg (by decide)]at hpo;rw[hpo]at hj
    by_cases hd0:d=[]
    ·subst hd0;refine zd ?_;refine qc (qA hd) ZB k I I I I I (by omega) ?_;refine QD (qA hd) I I I I I (jN hdk) (zd ?_);refine HD.nil ?_;exact hj () _ _ trivial ⟨I,I,I,I,I,I,I,trivial⟩ Ent.refl
    ·rw [decide_eq_false hd0]at hj;refine zd ?_;refine qc (qA hd) ZB k I I I I I (by omega) ?_;refine QD (qA hd) I I I I I (jN hdk) (zd ?_);refine yt 68 true I (by show (d != ([]:By))=true;simpa using hd0) ?_;refine zd ?_;refine HD.nil ?_;exact hj () _ _ trivial ⟨I,I,I,I,I,I,I,trivial⟩ Ent.refl
 ·have hke:k=q.hv.length:=by have:=of_decide_eq_false h2;omega
  subst hke;rw[List.take_length];have hpv:JU q=(decide (((jJr q.hv:Nat):Int)>0)&&decide (((jJr q.hv:Nat):Int)<q.ct)):=by
   unfold JU;rw[h,hall]
   simp
  rw[hpv]
  repeat' (first|refine zh ?_|apply zb ?_ ?_|exact zc|(refine zi fun hb=>?_;try simp at hb)|fail)
  exact zR Tryz.func260
def pfi (l:List Pt) (s i:Int):Int:=fidx (pis s i) l
def pts (L:List PtV):List Pt:=L.map (·.pt)
theorem J3 {L:List PtV} {k:Nat} {x:PtV} (h:L[k]? =some x):(pts L)[k]? =some x.pt:=by unfold pts;rw[List.getElem?_map,h];rfl
theorem jW (L:List PtV):(pts L).length=L.length:=by unfold pts;simp
def kR (p:PtV):Prop:=(∃ a n c,p.vh= .slice a n c)/\∃a n c,p.vd= .slice a n c
theorem RdPt.sh {w:World} {p:PtV} (h:RdPt w p):kR p:=by
 obtain ⟨a,c,e,_⟩:=h.h.2;obtain ⟨a',c',e',_⟩:=h.d.2;exact ⟨⟨a,_,c,e⟩,⟨a',_,c',e'⟩⟩
theorem jG1 (L:List PtV) (s id:Int) (v:Value) (w:World) (hv:Sl w v (cellsOf ptC L) L.length) (hl:L.length<=1000000) (hsh:∀p∈L,kR p):
  Calls Tryz.prog 261 #[v,.int .i64 s,.int .i64 id] w fun e w'=>e= .returned (.int .i64 (pfi (pts L) s id))/\Below w.heap.size w w':=by
 refine zE Tryz.func261 I [(0,v),(1,.int .i64 s),(2,.int .i64 id)] (zh ?_);refine qD (qA hv) I I I (zh ?_);refine HR.loop (ι:=Nat) (fun k=>k<=L.length/\∀j b,j<k->(pts L)[j]? =some b->pis s id b=false) (fun k=>[(1,.int .i64 s),(2,.int .i64 id),(9,v),(10,.int .i64 (L.length:Int)),(11,.int .i64 (k:Int))]) (fun _=>[]) (fun k=>L.length-k) 0 ⟨Nat.zero_le _,fun j b hj=>absurd hj (Nat.not_lt_zero _)⟩ ⟨I,I,I,I,I,trivial⟩ Ent.refl ?_
 rintro k ⟨hk,hno⟩ ih
 refine zh ?_;refine HR.cond I (fun h2=>?_) (fun h2=>?_)
 ·have hlt:k<L.length:=by have:=of_decide_eq_true h2;omega
  obtain ⟨x,hx⟩:=jG hlt;have hs:=hsh x (List.mem_of_getElem? hx);obtain ⟨xh,xd,q⟩:=x;obtain ⟨⟨ah,nh,ch,e1⟩,⟨ad,nd,cd,e2⟩⟩:=hs;have e1:xh=_:=e1;have e2:xd=_:=e2;subst e1;subst e2
  repeat' (first|refine zh ?_|refine qE (qA hv) jX k I I I I hlt ?_|refine qN (qA hv) I I I I (by simp) I (jD jY hx) ?_|apply zb ?_ ?_|exact zc|(refine zi fun hb=>?_;try simp at hb)|intro (bk:Nat))
  refine HR.cond I (fun h3=>?_) (fun h3=>?_)
  ·have h3:pis s id q=true:=h3;refine zh ?_;refine HR.ret Tryz.func261 I [_] (fun _ _=>⟨I,trivial⟩) ?_;have e:pfi (pts L) s id=k:=Zk (J3 hx) h3 hno;rw[e]
   exact fun w' hw=>⟨rfl,hw.jF⟩
  ·have h3:pis s id q=false:=h3;refine zh ?_;refine ih (k+1) _ _ ⟨hlt,fun j b hj hb=>?_⟩ (by omega) ⟨I,I,I,I,I,trivial⟩ (Ent.pick [] I I)
   by_cases e:j=k
   ·subst e;rw[J3 hx]at hb;cases hb;exact h3
   ·exact hno j b (by omega) hb
 ·have hke:k=L.length:=by have:=of_decide_eq_false h2;omega
  subst hke;have e:pfi (pts L) s id= -1:=Jq (fun j b hj hb=>hno j b (by rw[jW]at hj;exact hj) hb);rw[e];refine zh ?_;exact zR Tryz.func261
def ptH (p:PtV):Chunk:=jM p.vh 4 1 p.pt.hv.length (cellsOf bC p.pt.hv)
def ptD (p:PtV):Chunk:=jM p.vd 9 1 p.pt.da.length (cellsOf sC p.pt.da)
theorem zH {α:Type} {E:α->List Value} (hE:∀a,(E a).length=1) (l:List α):(cellsOf E l).length=l.length:=by rw[jA hE,Nat.mul_one]
theorem jQC (p:PtV) (w:World) (hr:RdPt w p) (h0:0<p.pt.hv.length) (h1:0<p.pt.da.length) (h2:p.pt.hv.length<=1000) (h3:p.pt.da.length<=1000):
  Calls Tryz.prog 262 #[.agg ⟨ptC p⟩] w fun e w'=>∃x:Value×Value,e= .returned (.agg ⟨ptC ⟨x.1,x.2,p.pt⟩⟩)/\True/\Sat (base w) [ptH ⟨x.1,x.2,p.pt⟩,ptD ⟨x.1,x.2,p.pt⟩] w':=by
 obtain ⟨vh,vd,q⟩:=p;obtain ⟨hh,hd⟩:=hr;have hh:Sl w vh (cellsOf bC q.hv) q.hv.length:=hh;have hd:Sl w vd (cellsOf sC q.da) q.da.length:=hd;have h0:0<q.hv.length:=h0;have h1:0<q.da.length:=h1;have h2:q.hv.length<=1000:=h2;have h3:q.da.length<=1000:=h3;obtain ⟨ah,ch,evh,_⟩:=hh.2;obtain ⟨ad,cd,evd,_⟩:=hd.2;subst evh;subst evd;refine zE Tryz.func262 I [(0,.agg ⟨ptC ⟨.slice ah q.hv.length ch,.slice ad q.da.length cd,q⟩⟩)] ?_;refine HR.ctl I (HR.region ?_);refine HL.box I I ?_;intro b1;refine HL.alloc I I ?_;intro b2;refine zh ?_;obtain ⟨zc,hzc⟩:∃zc:List Value,zc=[.int .i64 0,.int .i64 0,.int .i64 0,.int .i64 0,.slice none 0 0,.slice none 0 0]:=⟨_,rfl⟩;refine HR.join (ι:=Value×Value) (fun _=>True) (fun x=>[(1,.pointer (some ⟨b1,0,none⟩)),(2,.pointer (some ⟨b2,0,none⟩)),(3,x.1),(4,x.2)]) (fun x=>[jM x.1 4 1 q.hv.length ((List.replicate q.hv.length (ji (.bool false))).flatten),jM x.2 9 1 q.da.length ((List.replicate q.da.length (ji (str []))).flatten),jS b2 [.int .i64 0,.int .i64 0,.int .i64 0,.int .i64 0,.slice none 0 0,.slice none 0 0] 173,jS b1 (ptC ⟨.slice ah q.hv.length ch,.slice ad q.da.length cd,q⟩) 173]) (fun x _=>?_) (fun hj=>?_)
 ·obtain ⟨x1,x2⟩:=x;have e1:(cellsOf bC q.hv).take (q.hv.length*1)++((List.replicate q.hv.length (ji (.bool false))).flatten).drop (q.hv.length*1)=cellsOf bC q.hv:=by
   rw[List.take_of_length_le (by rw[zH jBF];omega),List.drop_eq_nil_of_le (by rw[je];exact Nat.le_refl _),List.append_nil]
  have e2:(cellsOf sC q.da).take (q.da.length*1)++((List.replicate q.da.length (ji (str []))).flatten).drop (q.da.length*1)=cellsOf sC q.da:=by
   rw[List.take_of_length_le (by rw[zH jCg];omega),List.drop_eq_nil_of_le (by rw[je];exact Nat.le_refl _),List.append_nil]
  refine Qi 0 I h0 fun g1 o1 c1 hv1 _ _=>?_
  have hv1:x1=_:=hv1;subst hv1;refine Qi 1 I h1 fun g2 o2 c2 hv2 _ _=>?_
  have hv2:x2=_:=hv2;subst hv2;refine zh ?_;refine yR q.hv.length 0 I (qA hh) I I I I I (by rw[zH jBF];omega) (fun u hu=>jR jPC _ u (List.mem_of_mem_take hu)) (Nat.min_self _) ?_;refine zh ?_;refine yR q.da.length 1 I (qA hd) I I I I I (by rw[zH jCg];omega) (fun u hu=>jR jMD _ u (List.mem_of_mem_take hu)) (Nat.min_self _) ?_;refine zh ?_;refine HR.ret Tryz.func262 I [_] (fun w hw=>⟨⟨_,rfl,jQ hw 2 I I I I rfl⟩,trivial⟩) ?_;refine fun w' hw=>⟨(.slice (some ⟨g1,o1,none⟩) q.hv.length c1,.slice (some ⟨g2,o2,none⟩) q.da.length c2),rfl,trivial,?_⟩
  have:=hw.pick [0,1] I I;rw[e1,e2]at this;exact this
 ·refine QO [1] I I j3 ?_;refine za 0 ?_;refine za 1 ?_;refine za 2 ?_;refine za 4 ?_;refine za 5 ?_;refine za 6 ?_;refine HA.two 3 7 (by kernel_rfl) I I ?_ ?_
  ·refine qg q.hv.length q.hv.length J4 I I I I I I (Nat.le_refl _) (show 1*q.hv.length<=_ by omega) (by omega) ?_;intro v3;refine qG [2] I I ?_;refine za 8 ?_;refine HA.one 7 (by kernel_rfl) I (qg q.da.length q.da.length ZB I I I I I I (Nat.le_refl _) (show 16*q.da.length<=_ by omega) (by omega) ?_);intro v4;refine qG [3] I I ?_;refine za 9 ?_;refine HA.done (by kernel_rfl) ?_;exact hj (v3,v4) _ _ trivial ⟨I,I,I,I,trivial⟩ (Ent.pick [1,0,2,3] I I)
  ·refine qg q.da.length q.da.length ZB I I I I I I (Nat.le_refl _) (show 16*q.da.length<=_ by omega) (by omega) ?_;intro v4;refine qG [2] I I (HA.one 3 (by kernel_rfl) I ?_);refine qg q.hv.length q.hv.length J4 I I I I I I (Nat.le_refl _) (show 1*q.hv.length<=_ by omega) (by omega) ?_;intro v3;refine qG [3] I I ?_;refine za 8 ?_;refine za 9 ?_;refine HA.done (by kernel_rfl) ?_;exact hj (v3,v4) _ _ trivial ⟨I,I,I,I,trivial⟩ (Ent.pick [0,1,2,3] I I)
theorem kR.lit {p:PtV} (h:kR p):∃a n c a' n' c',p=⟨.slice a n c,.slice a' n' c',p.pt⟩:=by
 obtain ⟨⟨a,n,c,e⟩,⟨a',n',c',e'⟩⟩:=h;obtain ⟨vh,vd,q⟩:=p;have e:vh=_:=e;have e':vd=_:=e';subst e;subst e';exact ⟨a,n,c,a',n',c',rfl⟩
theorem kR.one {p:PtV} (h:kR p):Ju (ptC p)=true:=by
 obtain ⟨a,n,c,a',n',c',e⟩:=h.lit;rw[e];rfl
theorem jMf {L:List PtV} (h:∀p∈L,kR p):∀u∈cellsOf ptC L,u.oneCell'=true:=by
 intro u hu;unfold cellsOf at hu;obtain ⟨l,hl,hu⟩:=List.mem_flatten.1 hu;obtain ⟨p,hp,rfl⟩:=List.mem_map.1 hl;exact jH (h p hp).one u hu
def ptG (L:List PtV):List Chunk:=L.flatMap fun p=>[ptH p,ptD p]
theorem Zi (L L':List PtV):ptG (L++L')=ptG L++ptG L':=List.flatMap_append
theorem jAc (p:PtV):ptG [p]=[ptH p,ptD p]:=by unfold ptG;simp
theorem jMg (L:List PtV) (d:Nat):(ptG L).Perm (ptG (L.drop d)++ptG (L.take d)):=by
 conv=>lhs;rw[<- List.take_append_drop d L]
 rw[Zi];exact List.perm_append_comm
theorem zJ {L:List PtV} {i:Nat} {p:PtV} (h:L[i]? =some p):(ptG L).Perm (ptG (L.eraseIdx i)++[ptH p,ptD p]):=by
 obtain ⟨hi,rfl⟩:=List.getElem?_eq_some_iff.1 h;have e:L=L.take i++L[i]::L.drop (i+1):=by rw[List.getElem_cons_drop,List.take_append_drop]
 conv=>lhs;rw[e]
 rw[List.eraseIdx_eq_take_drop_succ,Zi,show L[i]::L.drop (i+1)=[L[i]]++L.drop (i+1)from rfl,Zi,Zi,jAc,List.append_assoc];exact List.Perm.append_left _ List.perm_append_comm
theorem jD9 (p:PtV->Bool) (L:List PtV):(ptG L).Perm (ptG (L.filter p)++ptG (L.filter fun x=>!p x)):=by
 rw[<- Zi];unfold ptG;exact (List.filter_append_perm p L).symm.flatMap_right _
theorem jCv (L L':List PtV):pts (L++L')=pts L++pts L':=List.map_append
theorem jJu {l:List Pt} {s i:Int}:(Z0 l s i).isNone=decide (pfi l s i<0):=by
 unfold Z0 pfi;rcases JF (pis s i) l with ⟨e1,e2,_⟩|⟨k,a,e1,e2,_⟩
 ·rw [e1,e2];rfl
 ·rw [e1,e2];simp
theorem jCw (l:List Pt) (k:Nat):((l.take k).foldl ZE []).length<=k:=by
 have:=jEA (l.take k) []
 simp at this ⊢;omega
theorem max0n (n m:Nat):(if (n:Int)-m>0 then (n:Int)-m else 0)=((n-m:Nat):Int):=by split<;>omega
structure RdPts (w:World) (v:Value) (l:List PtV):Prop where
 s:Sl w v (cellsOf ptC l) l.length
 r:∀p∈l,RdPt w p
theorem RdPts.ext {w w':World} {v:Value} {l:List PtV} (h:RdPts w v l) (hb:Below w.heap.size w w'):RdPts w' v l:=⟨h.s.ext hb,fun p hp=>(h.r p hp).ext hb⟩
def jAT (x:Value×List PtV) (l:List Pt):Prop:=pts x.2=l/\∀p∈x.2,kR p
abbrev jAq (x:Value×List PtV):List Chunk:=[jM x.1 173 6 x.2.length (cellsOf ptC x.2),jC (ptG x.2)]
theorem jET (l:List PtV) (v:Value) (w:World) (hv:RdPts w v l) (hs:∀p∈l,jAS p.pt) (hl:l.length<=1000):
  Calls Tryz.prog 207 #[v] w fun e w'=>∃x:Value×List PtV,e= .returned x.1/\jAT x (Ja (pts l))/\Sat (base w) (jAq x) w':=by
 refine zE Tryz.func207 I [(0,v)] (zh ?_);refine qD (qA hv.s) I I I (zh ?_);refine HR.J6 173 6 (qR (H':=[jM (.slice none 0 0) 173 6 0 [],jC []]) (Ent.trans QJ (Ent.pick [1,0] I I)) ?_);refine Qw (α:=Nat) (β:=Value) (γ:=List PtV) (fun k o L=>k<=l.length/\pts L=((pts l).take k).foldl ZE []/\∀p∈L,kR p) (fun k o L=>[(3,o),(6,v),(7,.int .i64 (l.length:Int)),(8,.int .i64 (k:Int))]) (fun k o L=>jAq (o,L)) (fun k _ _=>l.length-k) 0 (.slice none 0 0) [] ⟨Nat.zero_le _,rfl,fun p hp=>by cases hp⟩ ⟨I,I,I,I,trivial⟩ Ent.refl ?_
 rintro k o L ⟨hk,hL,hsh⟩ ih
 have hLl:L.length<=k:=by have:=jCw (pts l) k;rw[<- hL,jW]at this;exact this
 refine zh ?_;refine HR.cond I (fun h2=>?_) (fun h2=>?_)
 ·have hlt:k<l.length:=by have:=of_decide_eq_true h2;omega
  obtain ⟨x,hx⟩:=jG hlt;have hxm:=List.mem_of_getElem? hx;have hrx:=hv.r x hxm;have hsx:=hs x hxm;have hst:((pts l).take (k+1)).foldl ZE []=ZE (((pts l).take k).foldl ZE []) x.pt:=Kt _ _ (J3 hx);rw[<- hL]at hst;obtain ⟨a,n,c,a',n',c',ex⟩:=hrx.sh.lit;obtain ⟨q,hq⟩:∃q,q=x.pt:=⟨_,rfl⟩;rw[<- hq]at hst ex hsx;subst ex;have hn:=jJu (l:=pts L) (s:=q.so) (i:=q.id)
  repeat' (first|refine zh ?_|refine qE (qA hv.s) jX k I I I I hlt ?_|refine qN (qA hv.s) I I I I (by simp) I (jD jY hx) ?_|refine qB fn260 I I (fun w1 hw1=>jLL ⟨.slice a n c,.slice a' n' c',q⟩ w1 (hrx.ext hw1.jF) hsx) ?_|refine qB jSn I I (fun w1 hw1=>jG1 L q.so q.id o w1 ((Rd.own 1 rfl).at hw1) (by omega) hsh) ?_|apply zb ?_ ?_|exact zc|(refine zi fun hb=>?_;try simp at hb)|intro (bk:Nat))
  refine HR.cond I (fun h3=>?_) (fun h3=>?_)
  ·have h3:(JU q&&decide (pfi (pts L) q.so q.id<0))=true:=h3;have hp:ZE (pts L) q=pts L++[q]:=by unfold ZE;rw[hn,if_pos h3]
   rw[hp]at hst;have hpv:JU q=true:=by simp only[Bool.and_eq_true]at h3;exact h3.1
   have H:=zf (Jk hpv);have i1:=H.hv;have i2:=H.da;have i3:=H.ct0;have i4:=H.ct1;refine zh ?_;refine qL (r:=fun y:Value×Value=> .agg ⟨ptC ⟨y.1,y.2,q⟩⟩) (Q:=fun _=>True) (G:=fun y=>[ptH ⟨y.1,y.2,q⟩,ptD ⟨y.1,y.2,q⟩]) fn262 I I (fun w1 hw1=>jQC ⟨.slice a n c,.slice a' n' c',q⟩ w1 (hrx.ext hw1.jF) (show 0<q.hv.length by omega) (show 0<q.da.length by omega) (show q.hv.length<=1000 by omega) (show q.da.length<=1000 by omega)) ?_
   rintro ⟨y1,y2⟩ _
   refine Qs (v:=y1) (e:=4) (sz:=1) (n:=q.hv.length) (xs:=cellsOf bC q.hv) 0 I (by omega) fun g1 o1 c1 hv1 _ _=>?_
   subst hv1;refine Qs (v:=y2) (e:=9) (sz:=1) (n:=q.da.length) (xs:=cellsOf sC q.da) 1 I (by omega) fun g2 o2 c2 hv2 _ _=>?_
   subst hv2;obtain ⟨P,hP⟩:∃P:PtV,P=⟨.slice (some ⟨g1,o1,none⟩) q.hv.length c1,.slice (some ⟨g2,o2,none⟩) q.da.length c2,q⟩:=⟨_,rfl⟩;refine qH jX I I I I I (by decide) (by decide) ?_;intro va;refine qJ 4 I jX (Rd.own 0 I) I I I I (jH I) (by show (L.length+1)*80<=_;omega) (by show L.length+1<=_;omega) ?_;intro o3;refine zh ?_;refine ih (k+1) o3 (L++[P]) _ _ ⟨hlt,?_,?_⟩ (by omega) ⟨I,I,I,I,trivial⟩ ?_
   ·rw [jCv,hst,hP];rfl
   ·intro p hp;rcases List.mem_append.1 hp with hp|hp
    ·exact hsh p hp
    ·rw [List.mem_singleton]at hp;rw[hp,hP];exact ⟨⟨_,_,_,rfl⟩,⟨_,_,_,rfl⟩⟩
   ·refine Ent.trans (Ent.pick (H':=[ptH P,ptD P,jC (ptG L),jM o3 173 6 (L++[P]).length (cellsOf ptC (L++[P]))]) [1,2,5,4] ?_ I) (Ent.trans (Ent.group (G:=[ptH P,ptD P])) (Ent.trans QV ?_))
    ·rw [jL,hP];simp;rfl
    ·show Ent _ _ [_,jC (ptG (L++[P]))];rw[Zi,jAc];exact Ent.pick [1,0] I I
  ·have h3:(JU q&&decide (pfi (pts L) q.so q.id<0))=false:=h3;have hp:ZE (pts L) q=pts L:=by unfold ZE;rw[hn,h3];rfl
   rw[hp]at hst;refine zh ?_;exact ih (k+1) o L _ _ ⟨hlt,hst.symm,hsh⟩ (by omega) ⟨I,I,I,I,trivial⟩ (Ent.pick [1,2] I I)
 ·have hke:k=l.length:=by have:=of_decide_eq_false h2;omega
  subst hke;have hpo:Ja (pts l)=(pts L).drop (L.length-8):=by
   unfold Ja last;rw[hL,List.take_of_length_le (by rw[jW];exact Nat.le_refl _),<- jW L,hL,List.take_of_length_le (by rw[jW];exact Nat.le_refl _)]
  refine zh ?_;refine qD (Rd.own 0 I) I I I (zh ?_);refine QB 33 (v':= .int .i64 ((L.length-8:Nat):Int)) I (by rw[<- max0n];rfl) ?_;refine yF (sz:=6) (L.length-8) L.length 0 I I I I I (.inr ⟨_,_,rfl,rfl⟩) (.inl ⟨rfl,rfl⟩) (Nat.sub_le _ _) (Nat.le_refl _) (zh ?_);refine HR.ret Tryz.func207 I [_] (fun _ _=>⟨I,trivial⟩) ?_;refine fun w' hw=>⟨(_,L.drop (L.length-8)),rfl,⟨?_,fun p hp=>hsh p (List.mem_of_mem_drop hp)⟩,?_⟩
  ·rw [hpo];unfold pts;rw[List.map_drop]
  ·have hw2:=hw.pick [1,0] I I;have hw3:=(QH _ (jMg L (L.length-8))) w' hw2;have hw4:=hw3.pick [1,0] I I;refine qC (by simp) ?_ w' hw4;rw[jo jY,List.take_of_length_le (by rw[jA jY,List.length_drop];exact Nat.le_refl _)]
theorem Ko (L:List PtV) (i:Nat) (v:Value) (w:World) (hv:Sl w v (cellsOf ptC L) L.length) (hsh:∀p∈L,kR p) (hi:i<L.length) (hl:L.length<=1000):
  Calls Tryz.prog 276 #[v,.int .i64 (i:Int)] w fun e w'=>∃v',e= .returned v'/\Sat (base w) [jM v' 173 6 (L.eraseIdx i).length (cellsOf ptC (L.eraseIdx i))] w':=by
 refine zE Tryz.func276 I [(0,v),(1,.int .i64 (i:Int))] (zh ?_);refine qD (qA hv) I I I (qg 0 L.length jX I I I I I I (Nat.zero_le _) (show 80*L.length<=_ by omega) (by omega) ?_);intro v1;have hR1:=Qq (B:=base w) (H:=[jM v1 173 6 0 []]) jY (l:=L) (qA hv) (n:=i) (by omega);refine zh ?_;refine qX (sz:=6) 0 i (qA hv) I I I I (.inl ⟨rfl,rfl⟩) (.inr ⟨_,_,_,rfl,rfl,rfl⟩) (Nat.zero_le _) (by omega) ?_;refine qJ 0 I jX hR1 I I I (jA jY _) (jMf fun p hp=>hsh p (List.mem_of_mem_take hp)) (by simp;omega) (by simp;omega) ?_;intro v2;have hR2:=yK (B:=base w) (H:=[jM v2 173 6 (0+(L.take i).length) ([]++cellsOf ptC (L.take i))]) jY (l:=L) (qA hv) (n:=i+1) (by omega);refine zh ?_;refine qX (sz:=6) (i+1) L.length (qA hv) I I I I (.inr ⟨_,_,_,rfl,rfl,rfl⟩) (.inl ⟨rfl,rfl⟩) (by omega) (Nat.le_refl _) ?_;refine qJ 0 I jX hR2 I I I (jA jY _) (jMf fun p hp=>hsh p (List.mem_of_mem_drop hp)) (by simp;omega) (by simp;omega) ?_;intro v3;refine zh ?_;refine HR.ret Tryz.func276 I [_] (fun _ _=>⟨I,trivial⟩) ?_;refine fun w' hw=>⟨v3,rfl,qC ?_ ?_ w' hw⟩
 ·rw [List.eraseIdx_eq_take_drop_succ];simp
 ·rw [List.eraseIdx_eq_take_drop_succ,jL];rfl
theorem jGh (xs:List By):Lib.join xs []=xs.flatten:=by
 unfold Lib.join
 induction xs with
 |nil=>rfl
 |cons x xs ih=>
  cases xs with
  |nil=>simp[List.intercalate]
  |cons y ys=>
   have:([]:By).intercalate (x::y::ys)=x++([]:By).intercalate (y::ys):=by simp[List.intercalate]
   rw[this,ih];rfl
theorem jP4 (l:List By) (v:Value) (w:World) (hv:Sl w v (cellsOf sC l) l.length) (h0:0<l.length) (hl:l.length<=1000000) (hb:l.flatten.length<=140737488355328):
  Calls Tryz.prog 277 #[v,str []] w fun e w'=>e= .returned (str l.flatten)/\Below w.heap.size w w':=by
 obtain ⟨h1,a,c,rfl,hc⟩:=hv;rcases h1 with ⟨_,h2,_⟩|⟨b,off,cap,he,h1⟩
 ·omega
 ·cases he;have hcell:∀(j:Nat) s,l[j]? =some s->w.cell? ⟨b,off+j,none⟩=some (str s):=by
   intro j s hj;have:=h1 j (str s) (by rw[<- jN (f:=fun s:By=>str s) hj,Nat.mul_one]);exact this
  obtain ⟨x,hx⟩:=jG h0;have hbk:=World.block_lt_of_cell? w _ (hcell 0 x hx);have hm:((l.map fun s=>(⟨⟨s⟩⟩:ByteArray)).map (·.data.toList))=l:=by rw[List.map_map];exact List.map_id l
  have key:=Tryz.strings_Join b off c (l.map fun s=>⟨⟨s⟩⟩) ⟨#[]⟩ w (fun j y hy=>by
   rw[List.getElem?_map]at hy;cases hs:l[j]? with
   |none=>rw[hs]at hy;cases hy
   |some s=>rw[hs]at hy;cases hy;exact hcell j s hs) hbk (by simp;omega) (by simp;omega) (by rw[hm];show (Lib.join l []).length<=_;rw[jGh];exact hb)
  rw[hm]at key;have e2:Lib.join l (⟨#[]⟩:ByteArray).data.toList=l.flatten:=jGh l;rw[e2,List.length_map]at key;exact key
theorem jQS (l:List PtV) (now life:Int) (v:Value) (w:World) (hv:RdPts w v l) (hs:∀p∈l,jAS p.pt) (hl:l.length<=1000):
  Calls Tryz.prog 152 #[v,.int .i64 now,.int .i64 life] w fun e w'=>∃x:Value×List PtV,e= .returned x.1/\jAT x (jAr (pts l) now life)/\Sat (base w) (jAq x) w':=by
 have t1:=zY now;have t3:=zY life;refine zE Tryz.func152 I [(0,v),(1,.int .i64 now),(2,.int .i64 life)] (zh ?_);refine qL (r:=fun x:Value×List PtV=>x.1) (Q:=fun x=>jAT x (Ja (pts l))) (G:=fun x=>jAq x) jS3 I I (fun w1 hw1=>jET l v w1 (hv.ext hw1.jF) hs hl) ?_
 rintro ⟨v1,L⟩ ⟨hL,hsh⟩
 have hL:pts L=Ja (pts l):=hL;have hsh:∀p∈L,kR p:=hsh;have hLl:L.length<=8:=by have:=ZT (pts l);rw[<- hL,jW]at this;exact this
 have hpv:∀p∈L,Head p.pt:=fun p hp=>zf (Jk (Jm p.pt (by rw[<- hL];exact List.mem_map_of_mem hp)))
 refine qD (Rd.own 0 I) I I I (zh ?_);refine HR.J6 173 6 ?_;obtain ⟨p,hp⟩:∃p:PtV->Bool,p=fun x=>decide (tick now-x.pt.si<=tick life):=⟨_,rfl⟩
 refine qd (α:=Nat) (β:=Value) (fun k o=>k<=L.length) (fun k o=>[(1,.int .i64 now),(2,.int .i64 life),(7,o),(11,v1),(12,.int .i64 (L.length:Int)),(13,.int .i64 (k:Int))]) (fun k o=>[jM o 173 6 ((L.take k).filter p).length (cellsOf ptC ((L.take k).filter p)),jM v1 173 6 L.length (cellsOf ptC L),jC (ptG L)]) (fun k _=>L.length-k) 0 (.slice none 0 0) (Nat.zero_le _) ⟨I,I,I,I,I,I,trivial⟩ (Ent.pick [0,1,2] I I) ?_
 rintro k o hk ih
 have hfl:((L.take k).filter p).length<=8:=Nat.le_trans (List.length_filter_le _ _) (by simp;omega);refine zh ?_;refine HR.cond I (fun h2=>?_) (fun h2=>?_)
 ·have hlt:k<L.length:=by have:=of_decide_eq_true h2;omega
  obtain ⟨x,hx⟩:=jG hlt;have hxm:=List.mem_of_getElem? hx;have hft:=jA7 p hx;have H:=hpv x hxm;obtain ⟨a,n,c,a',n',c',ex⟩:=(hsh x hxm).lit;obtain ⟨q,hq⟩:∃q,q=x.pt:=⟨_,rfl⟩;rw[<- hq]at ex H;subst ex;have s0:=H.si0;have s1:q.si<=1099511627776:=H.si1
  repeat' (first|refine zh ?_|refine qE (Rd.own 1 I) jX k I I I I hlt ?_|refine qN (Rd.own 1 I) I I I I (by simp) I (jD jY hx) ?_|intro (bk:Nat))
  refine qO [(0,true),(2,true),(3,true),(5,true),(1,false),(4,true),(6,false),(7,true)] [0] I I j3 (by kernel_rfl) ?_
  repeat' (first|refine zd ?_|refine Qb [0] I I jLN I I I (fun w _=>jAG _ w) ?_|fail)
  refine HD.nil (HR.cond I (fun h3=>?_) (fun h3=>?_))
  ·have h3:p ⟨.slice a n c,.slice a' n' c',q⟩=true:=by rw[hp];exact h3
   rw[if_pos h3]at hft;refine zh ?_;refine qH jX I I I I I (by decide) (by decide) ?_;intro va;refine qJ 2 I jX (Rd.own 0 I) I I I I (jH I) (by omega) (by omega) ?_;intro o2;refine zh ?_;refine ih (k+1) o2 _ _ hlt (by omega) ⟨I,I,I,I,I,I,trivial⟩ (Ent.trans (Ent.pick [2,3,4] I I) (qC ?_ ?_))
   ·rw [hft];simp
   ·rw [hft,jL];rfl
  ·have h3:p ⟨.slice a n c,.slice a' n' c',q⟩=false:=by rw[hp];exact h3
   rw[if_neg (by rw[h3];decide)]at hft;refine zh ?_;refine ih (k+1) o _ _ hlt (by omega) ⟨I,I,I,I,I,I,trivial⟩ (Ent.trans (Ent.pick [1,2,3] I I) (qC ?_ ?_))
   ·rw [hft]
   ·rw [hft]
 ·have hke:k=L.length:=by have:=of_decide_eq_false h2;omega
  subst hke;rw[List.take_length];refine zh ?_;refine HR.ret Tryz.func152 I [_] (fun _ _=>⟨I,trivial⟩) ?_;refine fun w' hw=>⟨(o,L.filter p),rfl,⟨?_,fun y hy=>hsh y (List.mem_filter.1 hy).1⟩,?_⟩
  ·unfold jAr;rw[<- hL,hp];unfold pts;rw[List.filter_map];rfl
  ·have hw2:=hw.pick [2,0] I I;have hw3:=(QH _ (jD9 p L)) w' hw2;exact hw3.pick [1,0] I I
end Go.Proofs.YtgfdoognildoeaaGreat
