/- Part of a proof. Conditions: none. -/
import Derived.Test.YtgfdoognildoeaaGreatSB11
set_option linter.unusedVariables false
set_option linter.unusedSectionVars false
set_option linter.unusedSimpArgs false
set_option maxRecDepth 100000
set_option maxHeartbeats 4000000
namespace Go.Proofs.YtgfdoognildoeaaGreat
open Go.GX Go.RowKit
attribute [local irreducible] Calls Run JH JL zU HR HL HD jS jM ZN Rd jg Jf
open Nd
theorem fn80:IsFn Tryz.prog 80:=zF Tryz.func80 I
theorem jEH {q:List Sn} {i:Nat} (h16:q.length<=16) (hi:i<q.length):((ZU q i false).2=true/\(ZU q i false).1.length+1=q.length)\/((ZU q i false).2=false/\(ZU q i false).1.length=q.length):=by
 have ht:q.take 16=q:=List.take_of_length_le h16;unfold ZU;rw[ht,List.getElem?_eq_getElem hi];simp only[Bool.false_eq_true,if_false]
 split
 ·exact .inl ⟨rfl,by show (q.eraseIdx i).length+1=_;rw[List.length_eraseIdx_of_lt hi];omega⟩
 ·exact .inr ⟨rfl,by show (q.set i _).length=_;rw[List.length_set]⟩
abbrev zerF:List Value:=[.int .i64 0,.int .i64 0,.int .i64 0,.int .i64 0,.int .i64 0,.int .i64 0,.int .i64 0,.bool false,str []]
abbrev rsC (bk:Nat):Chunk:=jS bk zerC 62
abbrev rfC (bk:Nat):Chunk:=jS bk zerF 75
theorem jDn {T : Int} {K : Nat} {p : Nd} {i : Nat} {x : Sn} (hx : p.out[i]? = some x) : J7 T (K + 1) p i =
      if x.wt > 0 then J7 T K p (i + 1)
      else if x.f.kd ≠ 2 \/ x.f.dst ≠ 255 then (p, x.f, true)
      else if p.poll = 0 /\ Ji p x.f.ta = true then J7 T K (box { p with out := p.out.eraseIdx i } { x.f with dst := x.f.ta } T) i
      else if (hop p x.f.ta).2 then (p, { x.f with dst := (hop p x.f.ta).1 }, true)
      else if (ZU p.out i false).2 then J7 T K (lose { p with out := (ZU p.out i false).1 }) i
      else J7 T K { p with out := (ZU p.out i false).1 } (i + 1) := by
  rw [J7, hx]
theorem jL2 (V:NV) (n:Nd) (now:Int) (w:World) (h:OkN w V n) (hs:SmN n):
  Calls Tryz.prog 80 #[.agg ⟨ndC V n⟩,.int .i64 now] w fun e w'=>∃V':NV,e= .returned (.tuple ⟨[.agg ⟨ndC V' (talk n now).1⟩,.agg ⟨frC (talk n now).2.1⟩,.bool (talk n now).2.2]⟩)/\Pts V' (talk n now).1/\Sat (base w) (ndH V' (talk n now).1) w':=by
 obtain ⟨m,hm⟩:∃m,m=order n:=⟨_,rfl⟩;have ho:Ord m:=by rw[hm];exact JJ n
 have h16:=ho.out;obtain ⟨T,hT⟩:∃T,T=tick now:=⟨_,rfl⟩;obtain ⟨Z,hZ⟩:∃Z,Z=talk n now:=⟨_,rfl⟩;have hZ0:Z=J7 T 17 m 0:=by rw[hZ,hT,hm];rfl
 rw[<- hZ];refine zE Tryz.func80 I [(0,.agg ⟨ndC V n⟩),(1,.int .i64 now)] ?_;refine HR.ctl I (HR.region ?_);refine HL.box I I ?_;intro bn;refine HL.alloc I I ?_;intro br;refine HL.alloc I I ?_;intro bf;refine zh ?_;refine qL (r:=fun x:Nat×NV=>ptr x.1) (Q:=fun x=>Pts x.2 m) (G:=fun x=>stH x.1 x.2 m T) jSB I I (fun w1 hw1=>by rw[hm,hT];exact kP V n now w1 (h.ext hw1.jF) hs) ?_
 rintro ⟨b,V2⟩ hP
 have hP:Pts V2 m:=hP;refine qM (H':=rsC br::rfC bf::stH b V2 m T) (Ent.pick [11,10,0,1,2,3,4,5,6,7,8,9] I I) (zh ?_);refine HR.loop (ι:=Nat×Nat×Nd×SV×SV) (fun x=>Ord x.2.2.1/\x.2.2.1.parts=m.parts/\Z=J7 T x.2.1 x.2.2.1 x.1/\x.1<=x.2.2.1.out.length/\x.2.2.1.out.length<x.1+x.2.1) (fun x=>[(4,ptr br),(5,ptr bf),(7,ptr b),(8,.int .i64 (x.1:Int))]) (fun x=>rsC br::rfC bf::stH b { V2 with ou:=x.2.2.2.1,bo:=x.2.2.2.2 } x.2.2.1 T) (fun x=>x.2.2.1.out.length-x.1) (0,17,m,V2.ou,V2.bo) ⟨ho,rfl,hZ0,Nat.zero_le _,by show m.out.length<0+17;omega⟩ ⟨I,I,I,I,trivial⟩ Ent.refl ?_
 rintro ⟨i,K,p,y1,y2⟩ ⟨hpo,hpp,hZ1,hi,hK⟩ ih
 have hpo:Ord p:=hpo;have hpp:p.parts=m.parts:=hpp;have hZ1:Z=J7 T K p i:=hZ1;have hi:i<=p.out.length:=hi;have hK:p.out.length<i+K:=hK;have hp16:=hpo.out;have hp24:=jFa hpo;have hpk:=jRM hpo;obtain ⟨K,rfl⟩:∃K',K=K'+1:=⟨K-1,by omega⟩;refine zh ?_;refine HR.cond I (fun h1=>?_) (fun h1=>?_)
 rotate_left
 ·have h1:¬(i:Int)<(p.out.length:Int):=of_decide_eq_false h1;have hie:i=p.out.length:=by omega
  have hZ2:Z=(p,fr0,false):=by
   rw[hZ1,J7,show p.out[i]? =none from List.getElem?_eq_none (by omega)]
  rw[hZ2];refine zh ?_;refine HR.ret Tryz.func80 I [_,_,_] (fun w hw=>⟨⟨_,rfl,jQ hw 0 I I I I rfl⟩,⟨_,rfl,jQ hw 1 I I I I rfl⟩,rfl,trivial⟩) ?_
  exact fun w' hw=>⟨{ V2 with ou:=y1,bo:=y2 },rfl,⟨by rw[show (p,fr0,false).1.parts=m.parts from hpp];exact hP.eq,hP.sh⟩,hw.pick [3,4,5,6,7,8,9,10,11] I rfl⟩
 have h1:(i:Int)<(p.out.length:Int):=of_decide_eq_true h1;have hlt:i<p.out.length:=by omega
 obtain ⟨x,hx⟩:=jG hlt;rw[jDn hx]at hZ1
 repeat' (first|refine zh ?_|refine qE (Rd.own 5 I) jy i I I I I hlt ?_|refine qN (Rd.own 5 I) I I I I (by simp) I (jD jU hx) ?_|intro (bk:Nat))
 refine HR.cond I (fun h2=>?_) (fun h2=>?_)
 ·have h2:x.wt>0:=of_decide_eq_true h2;rw[if_pos h2]at hZ1;refine zh ?_;exact ih (i+1,K,p,y1,y2) _ _ ⟨hpo,hpp,hZ1,hlt,by show p.out.length<i+1+K;omega⟩ (by show p.out.length-(i+1)<p.out.length-i;omega) ⟨I,I,I,I,trivial⟩ (Ent.pick [2,3,4,5,6,7,8,9,10,11,12,13] I I)
 have h2:¬x.wt>0:=of_decide_eq_false h2;rw[if_neg h2]at hZ1
 repeat' (first|refine zh ?_|apply zb ?_ ?_|exact zc|(refine zi fun hb=>?_;try simp at hb)|fail)
 refine HR.cond I (fun h3=>?_) (fun h3=>?_)
 ·have h3:(!(x.f.kd==2)||!(x.f.dst==255))=true:=h3;have h4:x.f.kd≠2\/x.f.dst≠255:=by simpa using h3
  rw[if_pos h4]at hZ1;rw[hZ1];refine zh ?_;refine qO [(0,true),(1,true),(2,true),(3,true),(4,true),(5,false),(6,false),(7,true)] [0,4] I I j3 (by kernel_rfl) (zd ?_);refine HD.one I (qV 2 I I I I I ?_);refine HL.back [0,4] I I (HD.one I ?_);refine qV 3 I I I I I (HL.back [0,4] I I (zd ?_));refine HD.nil (HR.ret Tryz.func80 I [_,_,_] (fun w hw=>⟨⟨_,rfl,jQ hw 2 I I I I rfl⟩,⟨_,rfl,jQ hw 3 I I I I rfl⟩,rfl,trivial⟩) ?_)
  exact fun w' hw=>⟨{ V2 with ou:=y1,bo:=y2 },rfl,⟨by rw[show (p,x.f,true).1.parts=m.parts from hpp];exact hP.eq,hP.sh⟩,hw.pick [5,6,7,8,9,10,11,12,13] I rfl⟩
 have h3:(!(x.f.kd==2)||!(x.f.dst==255))=false:=h3;have h4:¬(x.f.kd≠2\/x.f.dst≠255):=by
  intro e;have:(!(x.f.kd==2)||!(x.f.dst==255))=true:=by simpa using e
  rw[h3]at this;cases this
 rw[if_neg h4]at hZ1;refine HR.skip (HR.ctl I ?_);refine HR.join (ι:=Unit) (fun _=>True) (fun _=>[(4,ptr br),(5,ptr bf),(7,ptr b),(8,.int .i64 (i:Int)),(10,ptr bk),(66,.bool ((p.poll==0)&&Ji p x.f.ta))]) (fun _=>jS bk (frC x.f) 75::rsC br::rfC bf::stH b { V2 with ou:=y1,bo:=y2 } p T) (fun _ _=>?_) (fun hj=>?_)
 rotate_left
 ·refine HR.region ?_;refine zn ?_;refine HL.split 61 I (fun hb=>?_) (fun hb=>?_)
  ·refine zn ?_;refine qM (Ent.pick [4,5,6,7,8,9,10,11,12,13,0,2,3] I I) (qQ (r:=fun _:Unit=> .bool (Ji p x.f.ta)) (Q:=fun _=>True) (G0:=stH b { V2 with ou:=y1,bo:=y2 } p T) (H0:=[_,_,_]) (G:=fun _=>stH b { V2 with ou:=y1,bo:=y2 } p T) fn156 I I I (fun w1 hw1=>jKT b { V2 with ou:=y1,bo:=y2 } p T x.f.ta _ w1 (hw1.pick [0,1,2,3,4,5,6,7,8,9] I I) (by omega) (by omega)) ?_);intro _ _;refine zn ?_;refine hj () _ _ trivial ⟨rfl,rfl,rfl,rfl,rfl,?_,trivial⟩ (Ent.pick [10,11,12,0,1,2,3,4,5,6,7,8,9] I I);show some (Value.bool (Ji p x.f.ta))=some (Value.bool ((p.poll==0)&&Ji p x.f.ta));rw[show (p.poll==0)=true from hb];rfl
  ·refine zn ?_;refine hj () _ _ trivial ⟨rfl,rfl,rfl,rfl,rfl,?_,trivial⟩ (Ent.pick [0,2,3,4,5,6,7,8,9,10,11,12,13] I I);show some (Value.bool false)=some (Value.bool ((p.poll==0)&&Ji p x.f.ta));rw[show (p.poll==0)=false from hb];rfl
 refine HR.cond I (fun h5=>?_) (fun h5=>?_)
 ·have h5:((p.poll==0)&&Ji p x.f.ta)=true:=h5;have h6:p.poll=0/\Ji p x.f.ta=true:=by simpa using h5
  rw[if_pos h6]at hZ1;have hel:(p.out.eraseIdx i).length=p.out.length-1:=List.length_eraseIdx_of_lt hlt;have ho1:Ord { p with out:=p.out.eraseIdx i }:=hpo.Zr (by omega);refine zh ?_;refine qI jQL I I (fun w1 hw1=>KJ p.out _ w1 ((Rd.own 6 rfl).at hw1) (by omega)) ?_;intro v1;refine zh ?_;refine qQ (r:=fun r:Value=>r) (Q:=fun _=>True) (G0:=[cSn v1 p.out]) (H0:=[_,_,_,_,_,_,_,_,_,_,_,_,_]) (G:=fun r=>[cSn r (p.out.eraseIdx i)]) jQK I I I (fun w1 hw1=>jBC p.out i v1 _ w1 (hw1.pick [0] I I) hlt (by omega)) ?_;intro v2 _;refine HL.shape 0 I fun a c hv=>?_
  subst hv;refine zh ?_;refine qM (Ent.pick [4,5,6,0,8,9,10,11,12,13,2,3] I I) (qQ (r:=fun _:SV=> .tuple ⟨[]⟩) (Q:=fun _=>True) (G0:=stH b { V2 with ou:=(a,c),bo:=y2 } { p with out:=p.out.eraseIdx i } T) (H0:=[_,_]) (G:=fun z=>stH b { V2 with ou:=(a,c),bo:=z } (box { p with out:=p.out.eraseIdx i } { x.f with dst:=x.f.ta } T) T) jTE I I I (fun w1 hw1=>jJY b { V2 with ou:=(a,c),bo:=y2 } { p with out:=p.out.eraseIdx i } T { x.f with dst:=x.f.ta } _ w1 (hw1.pick [0,1,2,3,4,5,6,7,8,9] I I) ho1) ?_);intro z _;have hbo:(box { p with out:=p.out.eraseIdx i } { x.f with dst:=x.f.ta } T).out.length=p.out.length-1:=by
   obtain ⟨q,l,e⟩:=jKJ { p with out:=p.out.eraseIdx i } { x.f with dst:=x.f.ta } T;rw[e];exact hel
  refine zh ?_;exact ih (i,K,box { p with out:=p.out.eraseIdx i } { x.f with dst:=x.f.ta } T,(a,c),z) _ _ ⟨ho1.box _ _,(jDU _ _ _).trans hpp,hZ1,by rw[show (i,K,box { p with out:=p.out.eraseIdx i } { x.f with dst:=x.f.ta } T,(a,c),z).2.2.1.out.length=_ from hbo];show i<=_;omega,by rw[show (i,K,box { p with out:=p.out.eraseIdx i } { x.f with dst:=x.f.ta } T,(a,c),z).2.2.1.out.length=_ from hbo];show _<i+K;omega⟩ (by show (box { p with out:=p.out.eraseIdx i } { x.f with dst:=x.f.ta } T).out.length-i<p.out.length-i;omega) ⟨I,I,I,I,trivial⟩ (Ent.pick [10,11,0,1,2,3,4,5,6,7,8,9] I I)
 have h5:((p.poll==0)&&Ji p x.f.ta)=false:=h5;have h6:¬(p.poll=0/\Ji p x.f.ta=true):=by
  intro e;have:((p.poll==0)&&Ji p x.f.ta)=true:=by simpa using e
  rw[h5]at this;cases this
 rw[if_neg h6]at hZ1;refine zh ?_;refine qM (Ent.pick [3,4,5,6,7,8,9,10,11,12,0,1,2] I I) (qQ (r:=fun _:Unit=> .tuple ⟨[.int .i64 (hop p x.f.ta).1,.bool (hop p x.f.ta).2]⟩) (Q:=fun _=>True) (G0:=stH b { V2 with ou:=y1,bo:=y2 } p T) (H0:=[_,_,_]) (G:=fun _=>stH b { V2 with ou:=y1,bo:=y2 } p T) fn159 I I I (fun w1 hw1=>jPU b { V2 with ou:=y1,bo:=y2 } p T x.f _ w1 (hw1.pick [0,1,2,3,4,5,6,7,8,9] I I) (by omega)) ?_);intro _ _;refine qM (Ent.pick [10,11,12,0,1,2,3,4,5,6,7,8,9] I I) (zh ?_);refine HR.cond I (fun h7=>?_) (fun h7=>?_)
 ·have h7:(hop p x.f.ta).2=true:=h7;rw[if_pos h7]at hZ1;rw[hZ1];refine zh ?_;refine qO [(0,true),(1,true),(2,true),(3,true),(4,true),(5,false),(6,false),(7,true)] [0,3] I I j3 (by kernel_rfl) (zd ?_);refine HD.one I (qV 1 I I I I I ?_);refine HL.back [0,3] I I (HD.one I ?_);refine qV 2 I I I I I (HL.back [0,3] I I (zd ?_));refine HD.nil (HR.ret Tryz.func80 I [_,_,_] (fun w hw=>⟨⟨_,rfl,jQ hw 1 I I I I rfl⟩,⟨_,rfl,jQ hw 2 I I I I rfl⟩,rfl,trivial⟩) ?_)
  exact fun w' hw=>⟨{ V2 with ou:=y1,bo:=y2 },rfl,⟨by rw[show (p,({ x.f with dst:=(hop p x.f.ta).1 }:Fr),true).1.parts=m.parts from hpp];exact hP.eq,hP.sh⟩,hw.pick [4,5,6,7,8,9,10,11,12] I rfl⟩
 have h7:¬(hop p x.f.ta).2=true:=by rw[show (hop p x.f.ta).2=false from h7];decide
 rw[if_neg h7]at hZ1;have hmf:=jEH hp16 hlt;have hml:=kr p.out i false;obtain ⟨r,hr⟩:∃r,r=ZU p.out i false:=⟨_,rfl⟩;rw[<- hr]at hZ1 hmf hml;have hor:Ord { p with out:=r.1 }:=hpo.Zr hml;refine zh ?_;refine qL (r:=fun v':Value=> .tuple ⟨[v',.bool r.2]⟩) (Q:=fun _=>True) (G:=fun v'=>[cSn v' r.1]) fn90 I I (fun w1 hw1=>by rw[hr];exact jC5 p.out i false _ w1 ((Rd.own 6 rfl).at hw1) (by omega)) ?_;intro v1 _;refine HL.shape 0 I fun a c hv=>?_
 subst hv;refine zh ?_;refine qR (Ent.pick [4,2,3,5,6,0,8,9,10,11,12,13] I I) (HR.cond I (fun h8=>?_) (fun h8=>?_))
 ·have h8:r.2=true:=h8;rw[if_pos h8]at hZ1;have hlen:r.1.length+1=p.out.length:=by
   rcases hmf with e|e
   ·exact e.2
   ·rw [h8]at e;cases e.1
  refine zh ?_;refine qQ (r:=fun _:Unit=> .tuple ⟨[]⟩) (Q:=fun _=>True) (G0:=[jDW b { V2 with ou:=(a,c),bo:=y2 } { p with out:=r.1 } T]) (H0:=[_,_,_,_,_,_,_,_,_,_,_]) (G:=fun _=>[jDW b { V2 with ou:=(a,c),bo:=y2 } (lose { p with out:=r.1 }) T]) jLQ I I I (fun w1 hw1=>kC b { V2 with ou:=(a,c),bo:=y2 } { p with out:=r.1 } T _ w1 (hw1.pick [0] I I) hpo.lost) ?_;intro _ _;refine zh ?_;refine HR.cond I (fun h9=>?_) (fun h9=>?_)
  ·exact absurd (eq_of_beq h9:(r.1.length:Int)=(p.out.length:Int)) (by omega)
  refine zh ?_;exact ih (i,K,lose { p with out:=r.1 },(a,c),y2) _ _ ⟨hor.lose,hpp,hZ1,by show i<=r.1.length;omega,by show r.1.length<i+K;omega⟩ (by show r.1.length-i<p.out.length-i;omega) ⟨I,I,I,I,trivial⟩ (Ent.pick [1,2,0,3,4,5,6,7,8,9,10,11] I I)
 ·have h8:r.2=false:=h8;rw[if_neg (by rw[h8];decide)]at hZ1;have hlen:r.1.length=p.out.length:=by
   rcases hmf with e|e
   ·rw [h8]at e;cases e.1
   ·exact e.2
  refine zh ?_;refine HR.cond I (fun h9=>?_) (fun h9=>?_)
  ·refine zh ?_;exact ih (i+1,K,{ p with out:=r.1 },(a,c),y2) _ _ ⟨hor,hpp,hZ1,by show i+1<=r.1.length;omega,by show r.1.length<i+1+K;omega⟩ (by show r.1.length-(i+1)<p.out.length-i;omega) ⟨I,I,I,I,trivial⟩ (Ent.pick [1,2,0,3,4,5,6,7,8,9,10,11] I I)
  ·have h9:((r.1.length:Int)==(p.out.length:Int))=false:=h9
   simp at h9
   omega
end Go.Proofs.YtgfdoognildoeaaGreat
namespace Nd
open Go.GX Tp
theorem jMU {s:By} (h:(jAp s).2=0):(jAp s).1.length<=24/\(∀ r∈(jAp s).1,usable r=true)/\Asc (·.dest) (jAp s).1:=by
 unfold jAp at h ⊢
 by_cases h1:s.length%4≠0
 ·rw [if_pos h1]at h;cases h
 rw[if_neg h1]at h ⊢
 by_cases h2:s.length>96
 ·rw [if_pos h2]at h;cases h
 rw[if_neg h2]at h ⊢
 by_cases h3:jf (jEd (JZ s (s.length / 4))) (s.length / 4)≠0
 ·rw [if_pos h3]at h;exact absurd h h3
 rw[if_neg h3];have h3:jf (jEd (JZ s (s.length / 4))) (s.length / 4)=0:=Decidable.not_not.1 h3;have hl:=Zf s (s.length / 4);have key:=zX h3;show (JZ s (s.length / 4)).length<=24/\(∀ r∈JZ s (s.length / 4),usable r=true)/\Asc (·.dest) (JZ s (s.length / 4));generalize JZ s (s.length / 4)=l at hl key;refine ⟨by omega,fun r hr=>?_,jHE fun i a b ha hb=>?_⟩
 ·obtain ⟨i,hi⟩:=List.getElem?_of_mem hr;have hk:=key i (by have:=(List.getElem?_eq_some_iff.1 hi).1;omega);unfold jEd at hk;rw[hi]at hk;simp only at hk
  by_cases hu:usable r=false
  ·rw [if_pos hu]at hk;cases hk
  ·exact Bool.not_eq_false _▸hu
 ·have hk:=key (i+1) (by have:=(List.getElem?_eq_some_iff.1 hb).1;omega);unfold jEd at hk;rw[hb]at hk;simp only[Nat.add_sub_cancel,ha]at hk
  by_cases hu:usable b=false
  ·rw [if_pos hu]at hk;cases hk
  ·rw [if_neg hu]at hk
   by_cases hd:b.dest<=a.dest
   ·rw [if_pos ⟨by omega,by simpa using hd⟩]at hk;cases hk
   ·show a.dest<b.dest;omega
theorem jNN {l:List Ro} (hu:∀r∈l,usable r=true) (ha:Asc (·.dest) l):(l.any fun r=>(r.dest==0)&&decide (r.cost<=200))=(zy l 0).2:=by
 have hfin:∀r∈l,fin r=decide (r.cost<=200):=by
  intro r hr;have h1:=hu r hr;unfold usable at h1
  by_cases hc:r.cost<=200
  ·rw [decide_eq_true hc];simp only[Bool.and_eq_true,Bool.or_eq_true,beq_iff_eq]at h1;rcases h1.2 with h|h
   ·exact h.1
   ·omega
  ·unfold fin;rw[decide_eq_false hc,Bool.and_false]
 unfold zy rat;cases hf:l.find? (fun x=>x.dest==0)with
 |none=>
  rw[<- Bool.not_eq_true,List.any_eq_true]
  ·rintro ⟨r,hr,h2⟩
   have:=List.find?_eq_none.1 hf r hr;simp only[Bool.and_eq_true]at h2;exact this h2.1
 |some r=>
  have hr:=List.mem_of_find?_eq_some hf;have hd:(r.dest==0)=true:=List.find?_some (p:=fun x:Ro=>x.dest==0) hf;simp only;rw[hfin r hr]
  by_cases hc:r.cost<=200
  ·rw [decide_eq_true hc,if_pos rfl];show _=true;rw[List.any_eq_true];exact ⟨r,hr,by rw[hd,decide_eq_true hc];rfl⟩
  ·rw [decide_eq_false hc,if_neg (by decide)];show _=false;rw[<- Bool.not_eq_true,List.any_eq_true]
   rintro ⟨q,hq,h2⟩
   simp only[Bool.and_eq_true,beq_iff_eq,decide_eq_true_eq]at h2;obtain ⟨i,hi⟩:=List.getElem?_of_mem hr;obtain ⟨j,hj⟩:=List.getElem?_of_mem hq;have hd:r.dest=0:=by simpa using hd
   rcases Nat.lt_trichotomy i j with h|h|h
   ·have:r.dest<q.dest:=ha.lt h hi hj;omega
   ·subst h;rw[hi]at hj;cases hj;exact hc h2.2
   ·have:q.dest<r.dest:=ha.lt h hj hi;omega
theorem jEp {l:List Int} (h:l.Pairwise fun x y=>x<=y) (hn:l.Nodup):Asc id l:=by
 have:=List.Pairwise.and h hn;exact this.imp fun {a b} ⟨h1,h2⟩=>by
  have h2:a≠b:=h2;show a<b;omega
theorem jG6 {l:List Int} {c:Int} (h:Asc id l) (hc:¬c∈l):Tf.srt (l++[c])=child l c:=by
 have hp:(Tf.srt (l++[c])).Perm (l++[c]):=List.mergeSort_perm _ _;have hn:(l++[c]).Nodup:=by
  rw[List.nodup_append];refine ⟨h.nodup,by simp,fun a ha b hb=>?_⟩;rw[List.mem_singleton]at hb
  rintro rfl
  subst hb;exact hc ha
 refine jJM (jEp (Tf.jBP _) (hp.nodup_iff.2 hn)) (kQ h c).1 fun x=>?_
 rw[hp.mem_iff,(kQ h c).2]
 simp[or_comm]
end Nd
namespace Go.Proofs.YtgfdoognildoeaaGreat
open Go.GX Go.RowKit
attribute [local irreducible] Calls Run JH JL zU HR HL HD jS jM ZN Rd jg Jf
open Nd
theorem fn163:IsFn Tryz.prog 163:=zF Tryz.func163 I
theorem fn220:IsFn Tryz.prog 220:=zF Tryz.func220 I
theorem fn164:IsFn Tryz.prog 164:=zF Tryz.func164 I
theorem jQg (r:Ro) (w:World):Calls Tryz.prog 220 #[.agg ⟨roC r⟩] w fun e w'=>e= .returned (.bool ((r.dest==0)&&decide (r.cost<=200)))/\Below w.heap.size w w':=by
 refine zE Tryz.func220 I [(0,.agg ⟨roC r⟩)] ?_
 repeat' (first|refine zh ?_|apply zb ?_ ?_|exact zc|(refine zi fun hb=>?_;try simp at hb)|intro (bk:Nat))
 exact zR Tryz.func220
theorem jPV (b:Nat) (V:NV) (n:Nd) (now:Int) (f:Fr) (B:Base) (w:World) (hw:Sat B (stH b V n now) w) (ho:Ord n) (hfd:f.da.length<=1000):
  Calls Tryz.prog 163 #[ptr b,.agg ⟨frC f⟩] w fun e w'=>∃x:SV×SV,e= .returned (.tuple ⟨[]⟩)/\True/\Sat ⟨w,zN (stH b V n now)⟩ (stH b { V with ta:=x.1,li:=x.2 } (jT n f) now) w':=by
 have h24:=jFa ho;have l24:=llen ho;obtain ⟨a,ha⟩:∃a:Nd,a={ n with links:=JD n.links f.fr true }:=⟨_,rfl⟩;have hal:a.links.length<=24:=by rw[ha];exact jDA (jAA _ _ _)
 have hat:a.table.length<=24:=by rw[ha];exact h24
 obtain ⟨d,hd⟩:∃d,d=jAp f.da:=⟨_,rfl⟩;obtain ⟨g,hg⟩:∃g:Nd,g={ a with table:=jBR a.table a.addr f.fr (kM a.links f.fr) d.1 }:=⟨_,rfl⟩;have hsp:jT n f=if d.2≠0 then a else if g.poll>0/\g.parent=255/\(zy d.1 0).2=true then { g with parent:=f.fr } else g:=by rw[hg,hd,ha];rfl
 rw[hsp];refine jc (stH b V n now) (hw) Tryz.func163 I (Nat.le_of_ble_eq_true I) (HR.sub (σ':=[(0,ptr b),(1,.agg ⟨frC f⟩)]) ⟨I,I,trivial⟩ ?_);refine HR.ctl I (HR.region ?_);refine HL.box I I ?_;intro bf;refine zh ?_;refine qU [(0,true),(1,true),(2,true),(3,true),(4,true),(5,true),(6,true),(7,true),(8,false),(9,true),(10,true),(11,true)] 12 [0,1] I I j3 (by kernel_rfl) (zd ?_);refine HD.one I (qI fn92 I I (fun w1 hw1=>jGd n.links f.fr true _ w1 ((Rd.own 3 rfl).at hw1) (by omega)) ?_);intro v1;refine HL.shape 0 I fun a1 c1 hv=>?_
 subst hv;refine HL.back [1,2] I I (zd ?_);refine qo I (zn ?_);refine qR (H':=jS bf (frC f) 75::stH b { V with li:=(a1,c1) } { n with links:=JD n.links f.fr true } now) (Ent.pick [1,2,3,0,5,6,7,8,9,10,11] I I) ?_;rw[<- ha];refine zh ?_;refine qL (r:=fun v':Value=> .tuple ⟨[v',.int .i64 d.2]⟩) (Q:=fun _=>True) (G:=fun v'=>[cTa v' d.1]) fn216 I I (fun w1 _=>by rw[hd];exact jLZ f.da w1 (by omega)) ?_;intro v2 _;refine zh ?_;refine HR.cond I (fun h1=>?_) (fun h1=>?_)
 ·have h1:d.2≠0:=by simpa using h1
  rw[if_pos h1];refine HR.ret Tryz.func163 I [] (fun _ _=>trivial) ?_
  exact fun w' hw=>⟨(V.ta,(a1,c1)),rfl,trivial,hw.pick [2,3,4,5,6,7,8,9,10,11] I rfl⟩
 have h1:¬d.2≠0:=by simpa using h1
 rw[if_neg h1];have h0:(jAp f.da).2=0:=by rw[<- hd];omega
 obtain ⟨g1,g2,g3⟩:=jMU h0;rw[<- hd]at g1 g2 g3;have hld:=jNN g2 g3;refine zh ?_;refine qU [(0,true),(1,true),(2,true),(3,true),(4,true),(5,true),(6,true),(7,true),(8,true),(9,true),(10,true),(11,true),(12,true),(13,true),(14,true),(15,true),(16,true),(17,true),(18,true),(19,true),(21,true),(20,false),(22,false),(23,true),(24,true),(25,true)] 26 [1,2] I I j3 (by kernel_rfl) (zd ?_);refine HD.one I (qB fn218 I I (fun w1 hw1=>jNP a.links f.fr _ w1 ((Rd.own 4 rfl).at hw1) (by omega)) ?_);refine HL.back [1,2] I I (HD.one I ?_);refine qI jSy I I (fun w1 hw1=>jJZ a.table a.addr f.fr (kM a.links f.fr) d.1 _ v2 w1 ((Rd.own 3 rfl).at hw1) ((Rd.own 0 rfl).at hw1) (by omega) (by omega)) ?_;intro v3;refine HL.shape 0 I fun a3 c3 hv=>?_
 subst hv;refine HL.back [2,3] I I (zd ?_);refine qo I (zn ?_);refine qR (H':=cTa v2 d.1::jS bf (frC f) 75::stH b { V with li:=(a1,c1),ta:=(a3,c3) } { a with table:=jBR a.table a.addr f.fr (kM a.links f.fr) d.1 } now) (Ent.pick [1,2,3,0,5,6,7,8,9,10,11,12] I I) ?_;rw[<- hg];refine zh ?_;refine qB fn219 I I (fun w1 hw1=>jJG d.1 (fun r=>(r.dest==0)&&decide (r.cost<=200)) 220 [] v2 w1 fn220 (fun r _ w2 _=>jQg r w2) ((Rd.own 0 rfl).at hw1) (by omega)) (zh ?_);rw[hld]
 repeat' (first|refine zh ?_|apply zb ?_ ?_|exact zc|(refine zi fun hb=>?_;try simp at hb)|fail)
 refine HR.cond I (fun h2=>?_) (fun h2=>?_)
 ·have h2:(decide (g.poll>0)&&(g.parent==255)&&(zy d.1 0).2)=true:=h2;have h3:g.poll>0/\g.parent=255/\(zy d.1 0).2=true:=by simpa[and_assoc]using h2
  rw[if_pos h3];refine zh ?_;refine QS Tryz.func163 I [] (fun _ _=>trivial) ?_
  exact fun w' hw=>⟨((a3,c3),(a1,c1)),rfl,trivial,hw.pick [2,3,4,5,6,7,8,9,10,11] I rfl⟩
 ·have h2:(decide (g.poll>0)&&(g.parent==255)&&(zy d.1 0).2)=false:=h2;have h3:¬(g.poll>0/\g.parent=255/\(zy d.1 0).2=true):=by
   intro e;have:(decide (g.poll>0)&&(g.parent==255)&&(zy d.1 0).2)=true:=by simpa[and_assoc]using e
   rw[h2]at this;cases this
  rw[if_neg h3];refine zh ?_;refine QS Tryz.func163 I [] (fun _ _=>trivial) ?_
  exact fun w' hw=>⟨((a3,c3),(a1,c1)),rfl,trivial,hw.pick [2,3,4,5,6,7,8,9,10,11] I rfl⟩
theorem jAJ (fr now:Int) (k:Nat) (n:Nd):Nd.drain fr now (k+1) n=if (Js n.boxes fr now 120).2.2 then Nd.drain fr now k (queue { n with boxes:=(Js n.boxes fr now 120).2.1 } { (Js n.boxes fr now 120).1 with fr:=n.addr }).1 else { n with boxes:=(Js n.boxes fr now 120).2.1 }:=rfl
theorem jHT (b:Nat) (V:NV) (n:Nd) (now:Int) (f:Fr) (B:Base) (w:World) (hw:Sat B (stH b V n now) w) (ho:Ord n) (hf:Tp.okN f.fr=true) (hne:f.fr≠n.addr):
  Calls Tryz.prog 164 #[ptr b,.agg ⟨frC f⟩] w fun e w'=>∃x:SV×SV×SV×SV,e= .returned (.tuple ⟨[]⟩)/\True/\Sat ⟨w,zN (stH b V n now)⟩ (stH b { V with ch:=x.1,ta:=x.2.1,ou:=x.2.2.1,bo:=x.2.2.2 } (polled n f now) now) w':=by
 have h24:=jFa ho;have hk251:=jRM ho;have hb16:=ho.boxes;obtain ⟨C,hC⟩:∃C,C=child n.children f.fr:=⟨_,rfl⟩;obtain ⟨TT,hTT⟩:∃TT,TT=jBR n.table n.addr f.fr 10 [⟨f.fr,f.sq,0,0⟩]:=⟨_,rfl⟩;have ho2:Ord { n with children:=C,table:=TT }:=by
  rw[hC,hTT];obtain ⟨g1,g2⟩:=jCH (fr:=f.fr) (cost:=10) (adv:=[⟨f.fr,f.sq,0,0⟩]) ho.table;obtain ⟨c1,c2⟩:=kQ ho.kids f.fr;refine { ho with table:=g1,kids:=c1,kid:=fun x hx=>?_ };rcases (c2 x).1 hx with rfl|hx
  ·exact ⟨hf,hne⟩
  ·exact ho.kid x hx
 have hsp:polled n f now=Nd.drain f.fr now 17 { n with children:=C,table:=TT }:=by rw[hC,hTT];rfl
 obtain ⟨Z,hZ⟩:∃Z,Z=polled n f now:=⟨_,rfl⟩;rw[<- hZ];rw[hsp]at hZ;refine jc (stH b V n now) (hw) Tryz.func164 I (Nat.le_of_ble_eq_true I) (HR.sub (σ':=[(0,ptr b),(1,.agg ⟨frC f⟩)]) ⟨I,I,trivial⟩ ?_);refine HR.ctl I (HR.region ?_);refine HL.box I I ?_;intro bf;refine zh ?_;refine qO [(0,true),(1,true),(2,true),(3,true),(4,true),(5,true),(6,true),(7,false),(8,true)] [0,1] I I j3 (by kernel_rfl) (zd ?_);refine HD.one I (qB jQy I I (fun w1 hw1=>ZC n.children f.fr _ w1 ((Rd.own 5 rfl).at hw1) (by omega)) ?_);refine HL.back [0,1] I I (zd ?_);refine HD.nil (HR.join (ι:=SV) (fun _=>True) (fun _=>[(0,ptr b),(3,ptr bf)]) (fun x=>jS bf (frC f) 75::stH b { V with ch:=x } { n with children:=C } now) (fun x _=>?_) (fun hj=>?_))
 rotate_left
 ·refine HR.cond I (fun h1=>?_) (fun h1=>?_)
  ·have h1:(!decide (f.fr∈n.children))=true:=h1;have h2:¬f.fr∈n.children:=by simpa using h1
   have hcs:=jG6 ho.kids h2;obtain ⟨L,hL⟩:∃L,L=n.children++[f.fr]:=⟨_,rfl⟩;have hLl:L.length=n.children.length+1:=by rw[hL];simp
   have hLs:Tf.srt L=C:=by rw[hL,hcs,hC]
   have hLp:L.length=C.length:=by rw[<- hLs];exact (List.mergeSort_perm _ _).length_eq.symm
   refine zh ?_;refine qU [(0,true),(1,true),(2,true),(3,true),(4,true),(5,true),(6,true),(7,true),(8,false),(9,false),(10,true),(11,true),(12,true)] 13 [0,1] I I j3 (by kernel_rfl) (zd ?_);refine HD.one I (qH j5 I I I I I (by decide) (by decide) ?_);intro va;refine HL.back [1,2] I I (HD.one I ?_);refine qJ 6 I j5 (Rd.own 0 I) I I I I (jH I) (by omega) (by omega) ?_;intro v1;refine HL.back [1,2] I I (zd ?_);refine qo I ?_;refine HL.shape 6 I fun a1 c1 hv=>?_
   subst hv;refine zn ?_;refine qR (H':=[jM (.slice a1 (n.children.length+1) c1) 3 1 (n.children.length+1) (cellsOf iC n.children++iC f.fr),_,_,_,_,_,_,_,_,_,_]) (Ent.pick [6,1,2,3,4,5,7,8,9,10,11] I I) ?_;rw[<- hLl,show cellsOf iC n.children++iC f.fr=cellsOf iC L from by rw[hL,jL];rfl];refine zh ?_;refine qQ (r:=fun _:Unit=> .tuple #[]) (Q:=fun _=>True) (G0:=[cI (.slice a1 L.length c1) L]) (H0:=[_,_,_,_,_,_,_,_,_,_]) (G:=fun _=>[jM (.slice a1 L.length c1) 3 1 L.length (cellsOf iC (Tf.srt L))]) jRn I I I (fun w1 hw1=>jCc _ _ L w1 (hw1.vw (i:=0) I) (by omega)) ?_;intro _ _;rw[hLs];refine zn ?_;refine hj (a1,c1) _ _ trivial ⟨I,I,trivial⟩ ?_;rw[hLp];exact Ent.pick [1,2,3,4,5,0,6,7,8,9,10] I I
  ·have h1:(!decide (f.fr∈n.children))=false:=h1;have h2:f.fr∈n.children:=by simpa using h1
   have hCn:C=n.children:=by rw[hC];unfold child;rw[if_pos h2]
   refine HR.skip (hj V.ch _ _ trivial ⟨I,I,trivial⟩ ?_);rw[hCn];exact Ent.refl
 refine zh ?_;refine qU [(0,true),(1,true),(2,true),(3,true),(4,true),(5,true),(6,true),(7,true),(8,true),(9,true),(10,true),(11,true),(12,true),(13,true),(14,true),(15,true),(16,true),(17,true),(18,false),(19,false),(20,true),(21,true),(22,true)] 23 [0,1] I I j3 (by kernel_rfl) (zd ?_);refine HD.one I (qH jZ I I I I I (by decide) (by decide) ?_);intro va;refine HL.back [1,2] I I (HD.one I ?_);refine qI jSy I I (fun w1 hw1=>jJZ n.table n.addr f.fr 10 [⟨f.fr,f.sq,0,0⟩] _ va w1 ((Rd.own 3 rfl).at hw1) ((Rd.own 0 rfl).at hw1) (by omega) (show 1<=1000 by decide)) ?_;intro v2;refine HL.shape 0 I fun a2 c2 hv=>?_
 subst hv;rw[<- hTT];refine HL.back [2,3] I I (zd ?_);refine qo I (zn ?_);refine qR (H':=jS bf (frC f) 75::stH b { V with ch:=x,ta:=(a2,c2) } { n with children:=C,table:=TT } now) (Ent.pick [2,3,0,5,6,7,8,9,10,11,12] I I) (zh ?_);refine HR.loop (ι:=Nat×Nd×SV×SV) (fun y=>Ord y.2.1/\Z=Nd.drain f.fr now y.1 y.2.1/\y.2.1.boxes.length<y.1) (fun _=>[(0,ptr b),(3,ptr bf)]) (fun y=>jS bf (frC f) 75::stH b { V with ch:=x,ta:=(a2,c2),ou:=y.2.2.1,bo:=y.2.2.2 } y.2.1 now) (fun y=>y.2.1.boxes.length) (17,{ n with children:=C,table:=TT },V.ou,V.bo) ⟨ho2,hZ,by show n.boxes.length<17;omega⟩ ⟨I,I,trivial⟩ Ent.refl ?_
 rintro ⟨K,p,y1,y2⟩ ⟨hpo,hZ1,hK⟩ ih
 have hpo:Ord p:=hpo;have hZ1:Z=Nd.drain f.fr now K p:=hZ1;have hK:p.boxes.length<K:=hK;have hp16:=hpo.boxes;obtain ⟨K,rfl⟩:∃K',K=K'+1:=⟨K-1,by omega⟩;rw[jAJ]at hZ1;have hbl:=jDR p.boxes f.fr now 120;obtain ⟨r,hr⟩:∃r,r=Js p.boxes f.fr now 120:=⟨_,rfl⟩;rw[<- hr]at hZ1 hbl;obtain ⟨hbl1,hbl2⟩:=hbl;have hpb:Ord { p with boxes:=r.2.1 }:=hpo.ZK hbl1;refine zh ?_;refine HR.join (ι:=Value×Nat) (fun _=>True) (fun z=>[(0,ptr b),(3,ptr bf),(4,ptr z.2),(5,z.1),(6,.bool r.2.2)]) (fun z=>jS z.2 (frC r.1) 75::cMa z.1 r.2.1::jS bf (frC f) 75::stH b { V with ch:=x,ta:=(a2,c2),ou:=y1,bo:=y2 } p now) (fun z _=>?_) (fun hj=>?_)
 rotate_left
 ·refine QO [0,1] I I j3 ?_;refine za 0 ?_;refine za 1 ?_;refine za 2 ?_;refine za 3 ?_;refine za 4 ?_;refine za 5 ?_;refine za 6 ?_;refine za 7 ?_;refine za 8 ?_;refine za 9 ?_;refine za 10 ?_;refine HA.two 11 16 (by kernel_rfl) I I ?_ ?_
  ·refine qL (r:=fun v':Value=> .tuple ⟨[.agg ⟨frC r.1⟩,v',.bool r.2.2]⟩) (Q:=fun _=>True) (G:=fun v'=>[cMa v' r.2.1]) jSx I I (fun w1 hw1=>by rw[hr];exact jG9 p.boxes f.fr now 120 _ w1 ((Rd.own 6 rfl).at hw1) (by omega)) ?_;intro v3 _;refine qG [1,2] I I ?_;refine za 12 ?_;refine za 13 ?_;refine za 14 ?_;refine za 15 ?_;refine HA.one 16 (by kernel_rfl) I (HL.alloc I I ?_);intro b4;refine qG [2,3] I I (HA.one 17 (by kernel_rfl) I ?_);refine qV 0 I I I I I (qG [2,3] I I ?_);refine za 18 ?_;refine za 19 ?_;refine HA.done (by kernel_rfl) ?_;exact hj (v3,b4) _ _ trivial ⟨I,I,I,I,I,trivial⟩ Ent.refl
  ·refine HL.alloc I I ?_;intro b4;refine qG [1,2] I I (HA.one 11 (by kernel_rfl) I ?_);refine qL (r:=fun v':Value=> .tuple ⟨[.agg ⟨frC r.1⟩,v',.bool r.2.2]⟩) (Q:=fun _=>True) (G:=fun v'=>[cMa v' r.2.1]) jSx I I (fun w1 hw1=>by rw[hr];exact jG9 p.boxes f.fr now 120 _ w1 ((Rd.own 7 rfl).at hw1) (by omega)) ?_;intro v3 _;refine qG [2,3] I I ?_;refine za 12 ?_;refine za 13 ?_;refine za 14 ?_;refine za 15 ?_;refine HA.one 17 (by kernel_rfl) I (qV 1 I I I I I ?_);refine qG [2,3] I I ?_;refine za 18 ?_;refine za 19 ?_;refine HA.done (by kernel_rfl) ?_;exact hj (v3,b4) _ _ trivial ⟨I,I,I,I,I,trivial⟩ (Ent.pick [1,0,2,3,4,5,6,7,8,9,10,11,12] I I)
 obtain ⟨v3,b4⟩:=z;refine zh ?_;refine HL.shape (v:=v3) (e:=166) (sz:=10) (n:=r.2.1.length) (xs:=cellsOf maC r.2.1) 1 I fun a3 c3 hv=>?_
 subst hv;refine zh ?_;refine HR.cond I (fun h1=>?_) (fun h1=>?_)
 ·have h1:r.2.2=false:=by simpa using h1
  rw[if_neg (by rw[h1];decide)]at hZ1;rw[hZ1];refine HR.ret Tryz.func164 I [] (fun _ _=>trivial) ?_
  exact fun w' hw=>⟨(x,(a2,c2),y1,(a3,c3)),rfl,trivial,hw.pick [3,4,5,6,7,1,9,10,11,12] I rfl⟩
 have h1:r.2.2=true:=by simpa using h1
 rw[if_pos h1]at hZ1;refine zh ?_;refine qM (Ent.pick [3,4,5,6,7,1,9,10,11,12,2] I I) (qQ (r:=fun _:SV=> .bool (queue { p with boxes:=r.2.1 } { r.1 with fr:=p.addr }).2) (Q:=fun _=>True) (G0:=stH b { V with ch:=x,ta:=(a2,c2),ou:=y1,bo:=(a3,c3) } { p with boxes:=r.2.1 } now) (H0:=[_]) (G:=fun z=>stH b { V with ch:=x,ta:=(a2,c2),ou:=z,bo:=(a3,c3) } (queue { p with boxes:=r.2.1 } { r.1 with fr:=p.addr }).1 now) jQP I I I (fun w1 hw1=>K5 b { V with ch:=x,ta:=(a2,c2),ou:=y1,bo:=(a3,c3) } { p with boxes:=r.2.1 } now { r.1 with fr:=p.addr } _ w1 (hw1.pick [0,1,2,3,4,5,6,7,8,9] I I) hpb) ?_);intro z _;have hqb:(queue { p with boxes:=r.2.1 } { r.1 with fr:=p.addr }).1.boxes.length=r.2.1.length:=by
  obtain ⟨q,l,e⟩:=Zu { p with boxes:=r.2.1 } { r.1 with fr:=p.addr };rw[e]
 refine zh ?_;exact ih (K,(queue { p with boxes:=r.2.1 } { r.1 with fr:=p.addr }).1,z,(a3,c3)) _ _ ⟨hpb.queue _,hZ1,by show (queue { p with boxes:=r.2.1 } { r.1 with fr:=p.addr }).1.boxes.length<K;have:=hbl2 h1;omega⟩ (by show (queue { p with boxes:=r.2.1 } { r.1 with fr:=p.addr }).1.boxes.length<p.boxes.length;have:=hbl2 h1;omega) ⟨I,I,trivial⟩ (Ent.pick [10,0,1,2,3,4,5,6,7,8,9] I I)
theorem fn165:IsFn Tryz.prog 165:=zF Tryz.func165 I
theorem jEo (b:Nat) (V:NV) (n:Nd) (now:Int) (f:Fr) (B:Base) (w:World) (hw:Sat B (stH b V n now) w) (ho:Ord n) (hP:Pts V n) (hsm:∀p∈n.parts,jAS p) (hpl:n.parts.length<=1000) (hfd:f.da.length<=1000) (hhp:0<=f.hp/\f.hp<=15):
  Calls Tryz.prog 165 #[ptr b,.agg ⟨frC f⟩] w fun e w'=>∃V':NV,e= .returned (.tuple ⟨[]⟩)/\Pts V' (received n f now)/\Sat ⟨w,zN (stH b V n now)⟩ (stH b V' (received n f now) now) w':=by
 obtain ⟨hhp0,hhp1⟩:=hhp;have hse:=ho.seen;have hml:=jBZ n.seen ⟨f.so,f.sq⟩;obtain ⟨r,hr⟩:∃r,r=ZA n.seen ⟨f.so,f.sq⟩:=⟨_,rfl⟩;obtain ⟨a,ha⟩:∃a:Nd,a={ n with seen:=r.1 }:=⟨_,rfl⟩;obtain ⟨q,hq⟩:∃q,q=jDb a.parts f.so now f.da:=⟨_,rfl⟩;rw[<- hr]at hml;have hao:Ord a:=by rw[ha];exact { ho with seen:=hml }
 have hap:a.parts=n.parts:=by rw[ha]
 have hPa:Pts V a:=⟨by rw[hap];exact hP.eq,hP.sh⟩;have hps:V.ps.length<=1000:=by rw[<- jW,hP.eq];exact hpl
 have hpm:∀p∈V.ps,jAS p.pt:=fun p hp=>hsm p.pt (by rw[<- hP.eq];exact List.mem_map.2 ⟨p,hp,rfl⟩)
 have hsp:received n f now=if r.2=false then a else if f.ta=a.addr then (if q.e≠0 then a else if q.ok then deliver { a with parts:=q.l } ⟨f.so,q.t⟩else { a with parts:=q.l })else if a.poll>0\/f.hp=15 then lose a else (queue a { f with fr:=a.addr,dst:=255,hp:=f.hp+1 }).1:=by rw[hq,ha,hr];rfl
 rw[hsp];refine jc (stH b V n now) (hw) Tryz.func165 I (Nat.le_of_ble_eq_true I) (HR.sub (σ':=[(0,ptr b),(1,.agg ⟨frC f⟩)]) ⟨I,I,trivial⟩ ?_);refine HR.ctl I (HR.region ?_);refine HL.box I I ?_;intro bf;refine zh ?_;refine qO [(0,true),(1,true),(2,true),(3,true),(4,true),(5,true),(6,true),(7,true),(8,true),(9,true),(10,false),(11,true),(12,true),(13,true),(14,true),(15,true)] [0,1] I I j3 (by kernel_rfl) (zd ?_);refine HD.one I (qL (r:=fun v':Value=> .tuple ⟨[v',.bool r.2]⟩) (Q:=fun _=>True) (G:=fun v'=>[cPr v' r.1]) fn222 I I (fun w1 hw1=>by rw[hr];exact jLB n.seen ⟨f.so,f.sq⟩ _ w1 ((Rd.own 7 rfl).at hw1) (by omega)) ?_);intro v1 _;refine HL.shape 0 I fun a1 c1 hv=>?_
 subst hv;refine HL.back [1,2] I I (zd ?_);refine HD.nil (zh ?_);refine qR (H':=jS bf (frC f) 75::stH b { V with se:=(a1,c1) } { n with seen:=r.1 } now) (Ent.pick [1,2,3,4,5,6,7,0,9,10,11] I I) ?_;rw[<- ha];refine HR.cond I (fun h1=>?_) (fun h1=>?_)
 ·have h1:r.2=false:=by simpa using h1
  rw[if_pos h1];refine zh ?_;refine QS Tryz.func165 I [] (fun _ _=>trivial) ?_
  exact fun w' hw=>⟨{ V with se:=(a1,c1) },rfl,⟨hPa.eq,hPa.sh⟩,hw.pick [1,2,3,4,5,6,7,8,9,10] I rfl⟩
 have h1:¬r.2=false:=by simpa using h1
 rw[if_neg h1];refine zh ?_;refine qK j3 (by kernel_rfl) (zq ?_);refine HR.cond I (fun h2=>?_) (fun h2=>?_)
 ·have h2:f.ta=a.addr:=eq_of_beq h2;rw[if_pos h2];refine zh ?_;refine qO [(0,true),(1,true),(2,true),(3,true),(4,true),(5,true),(6,true),(7,true),(8,true),(9,true),(10,true),(11,true),(12,true),(13,false),(14,true),(15,true),(16,true),(17,true),(18,true),(19,true),(20,true),(21,true),(22,true)] [0,1] I I j3 (by kernel_rfl) (zd ?_);refine HD.one I (qL (r:=fun y:Value×List PtV=> .tuple ⟨[y.1,str q.t,.bool q.ok,.int .i64 q.e]⟩) (Q:=fun y=>jAT y q.l) (G:=fun y=>jAq y) fn223 I I (fun w1 hw1=>by rw[hq,<- hPa.eq];exact jQU V.ps f.so now f.da _ w1 (RdPts.own 8 9 hw1 I I) hpm hps hfd) ?_)
  rintro ⟨v3,ps⟩ ⟨hg1,hg2⟩
  refine HL.shape (v:=v3) (e:=173) (sz:=6) (n:=ps.length) (xs:=cellsOf ptC ps) 0 I fun a3 c3 hv=>?_
  subst hv;have hq1:pts ps=q.l:=hg1;have hq2:∀p∈ps,kR p:=hg2;refine HL.back [2,3] I I (zd ?_);refine HD.nil (zh ?_);refine HR.cond I (fun h3=>?_) (fun h3=>?_)
  ·have h3:q.e≠0:=by simpa using h3
   rw[if_pos h3];refine HR.ret Tryz.func165 I [] (fun _ _=>trivial) ?_
   exact fun w' hw=>⟨{ V with se:=(a1,c1) },rfl,⟨hPa.eq,hPa.sh⟩,hw.pick [3,4,5,6,7,8,9,10,11,12] I rfl⟩
  have h3:¬q.e≠0:=by simpa using h3
  rw[if_neg h3];refine zh ?_;obtain ⟨V3,hV3⟩:∃V3:NV,V3=⟨V.ta,V.li,V.ou,V.ch,V.bo,(a1,c1),(a3,c3),V.ib,ps⟩:=⟨_,rfl⟩;have hao3:Ord { a with parts:=q.l }:=hao.jAw _;refine qR (H':=jS bf (frC f) 75::stH b ⟨V.ta,V.li,V.ou,V.ch,V.bo,(a1,c1),(a3,c3),V.ib,ps⟩ { a with parts:=q.l } now) (Ent.pick [2,3,4,5,6,7,8,9,0,1,12] I I) ?_;rw[<- hV3];have hP3:∀(ib:SV) (z:Nd),z.parts=q.l->Pts { V3 with ib:=ib } z:=fun ib z hz=>⟨by rw[hz,hV3];exact hq1,by rw[hV3];exact hq2⟩
  refine HR.cond I (fun h4=>?_) (fun h4=>?_)
  ·have h4:q.ok=true:=h4;rw[if_pos h4];refine zh ?_;refine qM (Ent.pick [1,2,3,4,5,6,7,8,9,10] I I) (qQ (r:=fun _:SV=> .tuple ⟨[]⟩) (Q:=fun _=>True) (G0:=stH b V3 { a with parts:=q.l } now) (H0:=[]) (G:=fun x=>stH b { V3 with ib:=x } (deliver { a with parts:=q.l } ⟨f.so,q.t⟩) now) fn118 I I I (fun w1 hw1=>jFk b V3 { a with parts:=q.l } now ⟨f.so,q.t⟩ _ w1 (hw1.pick [0,1,2,3,4,5,6,7,8,9] I I) hao3) ?_);intro x _;refine zh ?_;refine QS Tryz.func165 I [] (fun _ _=>trivial) ?_
   exact fun w' hw=>⟨{ V3 with ib:=x },rfl,hP3 x _ (jBB _ _),hw.pick [0,1,2,3,4,5,6,7,8,9] I rfl⟩
  ·have h4:q.ok=false:=h4;rw[if_neg (by rw[h4];decide)];refine zh ?_;refine QS Tryz.func165 I [] (fun _ _=>trivial) ?_
   exact fun w' hw=>⟨V3,rfl,hP3 V3.ib _ rfl,hw.pick [1,2,3,4,5,6,7,8,9,10] I rfl⟩
 have h2:¬f.ta=a.addr:=by simpa using h2
 rw[if_neg h2]
 repeat' (first|refine zh ?_|apply zb ?_ ?_|exact zc|(refine zi fun hb=>?_;try simp at hb)|fail)
 refine HR.cond I (fun h3=>?_) (fun h3=>?_)
 ·have h3:(decide (a.poll>0)||(f.hp==15))=true:=h3;have h4:a.poll>0\/f.hp=15:=by simpa using h3
  rw[if_pos h4];refine zh ?_;refine qM (Ent.pick [1,2,3,4,5,6,7,8,9,10] I I) (qQ (r:=fun _:Unit=> .tuple ⟨[]⟩) (Q:=fun _=>True) (G0:=[jDW b { V with se:=(a1,c1) } a now]) (H0:=ndH { V with se:=(a1,c1) } a) (G:=fun _=>[jDW b { V with se:=(a1,c1) } (lose a) now]) jLQ I I I (fun w1 hw1=>kC b { V with se:=(a1,c1) } a now _ w1 (hw1.pick [0] I I) hao.lost) ?_);intro _ _;refine zh ?_;refine QS Tryz.func165 I [] (fun _ _=>trivial) ?_
  exact fun w' hw=>⟨{ V with se:=(a1,c1) },rfl,⟨hPa.eq,hPa.sh⟩,hw.pick [0,1,2,3,4,5,6,7,8,9] I rfl⟩
 ·have h3:(decide (a.poll>0)||(f.hp==15))=false:=h3;have h4:¬(a.poll>0\/f.hp=15):=by
   intro e;have:(decide (a.poll>0)||(f.hp==15))=true:=by simpa using e
   rw[h3]at this;cases this
  rw[if_neg h4];refine zh ?_;refine qM (Ent.pick [1,2,3,4,5,6,7,8,9,10] I I) (qQ (r:=fun _:SV=> .bool (queue a { f with fr:=a.addr,dst:=255,hp:=f.hp+1 }).2) (Q:=fun _=>True) (G0:=stH b { V with se:=(a1,c1) } a now) (H0:=[]) (G:=fun x=>stH b { V with se:=(a1,c1),ou:=x } (queue a { f with fr:=a.addr,dst:=255,hp:=f.hp+1 }).1 now) jQP I I I (fun w1 hw1=>K5 b { V with se:=(a1,c1) } a now { f with fr:=a.addr,dst:=255,hp:=f.hp+1 } _ w1 (hw1.pick [0,1,2,3,4,5,6,7,8,9] I I) hao) ?_);intro x _;refine zh ?_;refine QS Tryz.func165 I [] (fun _ _=>trivial) ?_
  exact fun w' hw=>⟨{ V with se:=(a1,c1),ou:=x },rfl,⟨by rw[Zh];exact hPa.eq,hPa.sh⟩,hw.pick [0,1,2,3,4,5,6,7,8,9] I rfl⟩
theorem fn87:IsFn Tryz.prog 87:=zF Tryz.func87 I
theorem ZH (n:Nd) (f:Fr):(jT n f).parts=n.parts:=by
 unfold jT;simp only
 split
 ·rfl
 ·split<;>rfl
theorem jDK (fr now:Int):∀(k:Nat) (n:Nd),(Nd.drain fr now k n).parts=n.parts
 |0,_=>rfl
 |k+1,n=>by
  rw[jAJ]
  split
  ·rw [jDK fr now k,Zh]
  ·rfl
theorem Kh (n:Nd) (f:Fr) (now:Int):(polled n f now).parts=n.parts:=by
 unfold polled;rw[jDK]
theorem jMA (V:NV) (n:Nd) (now:Int) (f:Fr) (w:World) (h:OkN w V n) (hs:SmN n) (hfl:f.da.length<=9223372036854775807):
  Calls Tryz.prog 87 #[.agg ⟨ndC V n⟩,.int .i64 now,.agg ⟨frC f⟩] w fun e w'=>∃V':NV,e= .returned (.agg ⟨ndC V' (hear n now f)⟩)/\Pts V' (hear n now f)/\Sat (base w) (ndH V' (hear n now f)) w':=by
 obtain ⟨m,hm⟩:∃m,m=order n:=⟨_,rfl⟩;have ho:Ord m:=by rw[hm];exact JJ n
 have hmp:m.parts=n.parts:=by rw[hm];rfl
 obtain ⟨T,hT⟩:∃T,T=tick now:=⟨_,rfl⟩;obtain ⟨c,hc⟩:∃c:Bool,c=((!(Kv f==0)||(f.fr==m.addr))||(!(f.dst==m.addr)&&!(f.dst==255))):=⟨_,rfl⟩;have hcc:c=true↔(Kv f≠0\/f.fr=m.addr\/(f.dst≠m.addr/\f.dst≠255)):=by
  rw[hc];simp[or_assoc]
 have hsp:hear n now f=if Kv f≠0\/f.fr=m.addr\/(f.dst≠m.addr/\f.dst≠255)then m else if f.kd=1 then jT m f else if f.kd=3/\f.dst=m.addr/\m.poll=0 then polled m f T else if f.kd=2/\f.dst=m.addr then received m f T else m:=by rw[hm,hT];rfl
 rw[hsp];refine zE Tryz.func87 I [(0,.agg ⟨ndC V n⟩),(1,.int .i64 now),(2,.agg ⟨frC f⟩)] ?_;refine HR.ctl I (HR.region ?_);refine HL.box I I ?_;intro bn;refine HL.box I I ?_;intro bf;refine HL.alloc I I ?_;intro br;refine zh ?_;refine qL (r:=fun x:Nat×NV=>ptr x.1) (Q:=fun x=>Pts x.2 m) (G:=fun x=>stH x.1 x.2 m T) jSB I I (fun w1 hw1=>by rw[hm,hT];exact kP V n now w1 (h.ext hw1.jF) hs) ?_
 rintro ⟨b,V2⟩ hP
 have hP:Pts V2 m:=hP;refine qM (H':=rsC br::jS bf (frC f) 75::stH b V2 m T) (Ent.pick [10,11,0,1,2,3,4,5,6,7,8,9] I I) (zh ?_);refine HR.join (ι:=Unit) (fun _=>True) (fun _=>[(5,ptr bf),(6,ptr br),(7,ptr b),(38,.bool c)]) (fun _=>rsC br::jS bf (frC f) 75::stH b V2 m T) (fun _ _=>?_) (fun hj=>?_)
 rotate_left
 ·refine qO [(0,true),(1,false),(2,true),(3,true),(4,true),(5,true),(6,true),(7,true),(8,true),(9,true),(10,true),(11,true),(12,true),(13,true),(14,true),(15,true),(16,true),(17,true),(18,true),(19,true),(20,true),(21,true),(22,true),(23,true),(24,true),(25,true),(26,true),(27,true)] [1,2] I I j3 (by kernel_rfl) ?_;refine zd ?_;refine HD.one I (qB fn162 I I (fun w1 _=>jLV f w1 (by omega)) ?_);refine HL.back [1,2] I I (zd ?_);refine HD.split 14 I (fun hb=>?_) (fun hb=>?_)
  ·have hb:(!(Kv f==0))=true:=hb;refine zd ?_;refine HD.nil (hj () _ _ trivial ⟨rfl,rfl,rfl,?_,trivial⟩ Ent.refl);show some (Value.bool true)=some (Value.bool c);rw[hc,hb];rfl
  ·have hb:(!(Kv f==0))=false:=hb;refine zd ?_;refine HD.split 24 I (fun hb2=>?_) (fun hb2=>?_)
   ·have hb2:(f.fr==m.addr)=true:=hb2;refine zd ?_;refine HD.nil (hj () _ _ trivial ⟨rfl,rfl,rfl,?_,trivial⟩ Ent.refl);show some (Value.bool true)=some (Value.bool c);rw[hc,hb,hb2];rfl
   ·have hb2:(f.fr==m.addr)=false:=hb2;refine zd ?_;refine HD.split 33 I (fun hb3=>?_) (fun hb3=>?_)
    ·have hb3:(!(f.dst==m.addr))=true:=hb3;refine zd ?_;refine HD.nil (hj () _ _ trivial ⟨rfl,rfl,rfl,?_,trivial⟩ Ent.refl);show some (Value.bool (!(f.dst==255)))=some (Value.bool c);rw[hc,hb,hb2,hb3];rfl
    ·have hb3:(!(f.dst==m.addr))=false:=hb3;refine zd ?_;refine HD.nil (hj () _ _ trivial ⟨rfl,rfl,rfl,?_,trivial⟩ Ent.refl);show some (Value.bool false)=some (Value.bool c);rw[hc,hb,hb2,hb3];rfl
 refine HR.cond I (fun h1=>?_) (fun h1=>?_)
 ·rw [if_pos (hcc.1 h1)];refine zh ?_;refine HR.ret Tryz.func87 I [_] (fun w hw=>⟨⟨_,rfl,jQ hw 0 I I I I rfl⟩,trivial⟩) ?_
  exact fun w' hw=>⟨V2,rfl,hP,hw.pick [3,4,5,6,7,8,9,10,11] I rfl⟩
 have h2:¬(Kv f≠0\/f.fr=m.addr\/(f.dst≠m.addr/\f.dst≠255)):=fun e=>by rw[hcc.2 e]at h1;cases h1
 rw[if_neg h2];have hck:Kv f=0:=Decidable.not_not.1 fun e=>h2 (.inl e)
 have hne:f.fr≠m.addr:=fun e=>h2 (.inr (.inl e))
 obtain ⟨k1,k2,k3,k4,k5,k6,k7⟩:=jFT hck;refine zh ?_;refine HR.cond I (fun h3=>?_) (fun h3=>?_)
 ·have h3:f.kd=1:=eq_of_beq h3;rw[if_pos h3];refine zh ?_;refine qM (Ent.pick [2,3,4,5,6,7,8,9,10,11,0] I I) (qQ (r:=fun _:SV×SV=> .tuple ⟨[]⟩) (Q:=fun _=>True) (G0:=stH b V2 m T) (H0:=[_]) (G:=fun x=>stH b { V2 with ta:=x.1,li:=x.2 } (jT m f) T) fn163 I I I (fun w1 hw1=>jPV b V2 m T f _ w1 (hw1.pick [0,1,2,3,4,5,6,7,8,9] I I) ho (by omega)) ?_);intro x _;refine qM (Ent.pick [10,0,1,2,3,4,5,6,7,8,9] I I) (zh ?_);refine HR.ret Tryz.func87 I [_] (fun w hw=>⟨⟨_,rfl,jQ hw 0 I I I I rfl⟩,trivial⟩) ?_
  exact fun w' hw=>⟨{ V2 with ta:=x.1,li:=x.2 },rfl,⟨by rw[ZH];exact hP.eq,hP.sh⟩,hw.pick [2,3,4,5,6,7,8,9,10] I rfl⟩
 have h3:¬f.kd=1:=by simpa using h3
 rw[if_neg h3];refine zh ?_;refine qK j3 (by kernel_rfl) ?_
 repeat' (first|refine zq ?_|apply zb ?_ ?_|exact zc|(refine zi fun hb=>?_;try simp at hb)|fail)
 refine HR.cond I (fun h4=>?_) (fun h4=>?_)
 ·have h4:((f.kd==3)&&(f.dst==m.addr)&&(m.poll==0))=true:=h4;have h5:f.kd=3/\f.dst=m.addr/\m.poll=0:=by simpa[and_assoc]using h4
  rw[if_pos h5];refine zh ?_;refine qM (Ent.pick [2,3,4,5,6,7,8,9,10,11,0] I I) (qQ (r:=fun _:SV×SV×SV×SV=> .tuple ⟨[]⟩) (Q:=fun _=>True) (G0:=stH b V2 m T) (H0:=[_]) (G:=fun x=>stH b { V2 with ch:=x.1,ta:=x.2.1,ou:=x.2.2.1,bo:=x.2.2.2 } (polled m f T) T) fn164 I I I (fun w1 hw1=>jHT b V2 m T f _ w1 (hw1.pick [0,1,2,3,4,5,6,7,8,9] I I) ho k1 hne) ?_);intro x _;refine qM (Ent.pick [10,0,1,2,3,4,5,6,7,8,9] I I) (zh ?_);refine HR.ret Tryz.func87 I [_] (fun w hw=>⟨⟨_,rfl,jQ hw 0 I I I I rfl⟩,trivial⟩) ?_
  exact fun w' hw=>⟨{ V2 with ch:=x.1,ta:=x.2.1,ou:=x.2.2.1,bo:=x.2.2.2 },rfl,⟨by rw[Kh];exact hP.eq,hP.sh⟩,hw.pick [2,3,4,5,6,7,8,9,10] I rfl⟩
 have h4:((f.kd==3)&&(f.dst==m.addr)&&(m.poll==0))=false:=h4;have h5:¬(f.kd=3/\f.dst=m.addr/\m.poll=0):=by
  intro e;have:((f.kd==3)&&(f.dst==m.addr)&&(m.poll==0))=true:=by simpa[and_assoc]using e
  rw[h4]at this;cases this
 rw[if_neg h5];refine zh ?_;refine qK j3 (by kernel_rfl) ?_
 repeat' (first|refine zq ?_|apply zb ?_ ?_|exact zc|(refine zi fun hb=>?_;try simp at hb)|fail)
 refine HR.cond I (fun h6=>?_) (fun h6=>?_)
 ·have h6:((f.kd==2)&&(f.dst==m.addr))=true:=h6;have h7:f.kd=2/\f.dst=m.addr:=by simpa using h6
  rw[if_pos h7];refine zh ?_;refine qM (Ent.pick [2,3,4,5,6,7,8,9,10,11,0] I I) (qQ (r:=fun _:NV=> .tuple ⟨[]⟩) (Q:=fun V'=>Pts V' (received m f T)) (G0:=stH b V2 m T) (H0:=[_]) (G:=fun V'=>stH b V' (received m f T) T) fn165 I I I (fun w1 hw1=>jEo b V2 m T f _ w1 (hw1.pick [0,1,2,3,4,5,6,7,8,9] I I) ho hP (by rw[hmp];exact hs.sm) (by rw[hmp];exact hs.pa) (by omega) ⟨k5,k6⟩) ?_);intro V3 hP3;refine qM (Ent.pick [10,0,1,2,3,4,5,6,7,8,9] I I) (zh ?_);refine HR.ret Tryz.func87 I [_] (fun w hw=>⟨⟨_,rfl,jQ hw 0 I I I I rfl⟩,trivial⟩) ?_
  exact fun w' hw=>⟨V3,rfl,hP3,hw.pick [2,3,4,5,6,7,8,9,10] I rfl⟩
 have h6:((f.kd==2)&&(f.dst==m.addr))=false:=h6;have h7:¬(f.kd=2/\f.dst=m.addr):=by
  intro e;have:((f.kd==2)&&(f.dst==m.addr))=true:=by simpa using e
  rw[h6]at this;cases this
 rw[if_neg h7];refine qR (Ent.pick [0,2,3,4,5,6,7,8,9,10,11] I I) (zh ?_);refine HR.ret Tryz.func87 I [_] (fun w hw=>⟨⟨_,rfl,jQ hw 0 I I I I rfl⟩,trivial⟩) ?_
 exact fun w' hw=>⟨V2,rfl,hP,hw.pick [2,3,4,5,6,7,8,9,10] I rfl⟩
theorem jLR:IsFn Tryz.prog 109:=zF Tryz.func109 I
theorem jQQ:IsFn Tryz.prog 103:=zF Tryz.func103 I
theorem jTW:IsFn Tryz.prog 100:=zF Tryz.func100 I
theorem fn122:IsFn Tryz.prog 122:=zF Tryz.func122 I
theorem fn99:IsFn Tryz.prog 99:=zF Tryz.func99 I
theorem jTT:IsFn Tryz.prog 104:=zF Tryz.func104 I
theorem jTU:IsFn Tryz.prog 102:=zF Tryz.func102 I
theorem fn107:IsFn Tryz.prog 107:=zF Tryz.func107 I
theorem fn106:IsFn Tryz.prog 106:=zF Tryz.func106 I
theorem kF (V:NV) (n:Nd) (w:World) (hl:0<=n.lost/\n.lost<=jw):
  Calls Tryz.prog 109 #[.agg ⟨ndC V n⟩] w fun e w'=>e= .returned (.agg ⟨ndC V (lose n)⟩)/\Below w.heap.size w w':=by
 obtain ⟨h0,h1⟩:=hl;have h1:n.lost<=1099511627776:=h1;refine zE Tryz.func109 I [(0,.agg ⟨ndC V n⟩)] ?_
 repeat' (first|refine zh ?_|intro (bk:Nat))
 refine HR.ret Tryz.func109 I [_] (fun w hw=>⟨⟨_,rfl,jQ hw 0 I I I I rfl⟩,trivial⟩) ?_;have e:(if 1099511627776<n.lost+1 then (1099511627776:Int)else n.lost+1)=min (n.lost+1) jw:=by
  show _=min (n.lost+1) 1099511627776
  split<;>omega
 refine fun w' hw=>⟨?_,hw.jF⟩
 show Ending.returned (.agg ⟨ndC V { n with lost:=if 1099511627776<n.lost+1 then (1099511627776:Int)else n.lost+1 }⟩)=_;rw[e];rfl
theorem jCJ (V:NV) (n:Nd) (f:Fr) (w:World) (hv:Sl w (sv V.ou n.out.length) (cellsOf snC n.out) n.out.length) (hl:n.out.length<=1000) (hlo:0<=n.lost/\n.lost<=jw):
  Calls Tryz.prog 103 #[.agg ⟨ndC V n⟩,.agg ⟨frC f⟩] w fun e w'=>∃x:SV,e= .returned (.tuple ⟨[.agg ⟨ndC { V with ou:=x } (queue n f).1⟩,.bool (queue n f).2]⟩)/\True/\Sat (base w) [cSn (sv x (queue n f).1.out.length) (queue n f).1.out] w':=by
 obtain ⟨q,hq⟩:∃q,q=jDf n.out f:=⟨_,rfl⟩;have hsp:queue n f=(if q.2=false\/q.1.length=n.out.length then lose { n with out:=q.1 } else { n with out:=q.1 },q.2):=by rw[hq];rfl
 obtain ⟨m,hm⟩:∃m:Nd,m=(if q.2=false\/q.1.length=n.out.length then lose n else n):=⟨_,rfl⟩;have hmo:(if q.2=false\/q.1.length=n.out.length then lose { n with out:=q.1 } else { n with out:=q.1 })={ m with out:=q.1 }:=by
  rw[hm];split<;>rfl
 rw[hmo]at hsp;rw[hsp];refine zE Tryz.func103 I [(0,.agg ⟨ndC V n⟩),(1,.agg ⟨frC f⟩)] ?_;refine HR.ctl I (HR.region ?_);refine HL.box I I ?_;intro b2;refine HL.box I I ?_;intro b3;refine HL.alloc I I ?_;intro b4
 repeat' (first|refine zh ?_|fail)
 refine qL (r:=fun v':Value=> .tuple ⟨[v',.bool q.2]⟩) (Q:=fun _=>True) (G:=fun v'=>[cSn v' q.1]) fn182 I I (fun w1 hw1=>by rw[hq];exact jKr n.out f _ w1 ((qA hv).at hw1) (by omega)) ?_;intro v1 _;refine HL.shape 0 I fun a c hv=>?_
 subst hv
 repeat' (first|refine zh ?_|apply zb ?_ ?_|exact zc|(refine zi fun hb=>?_;try simp at hb)|fail)
 refine HR.join (ι:=Unit) (fun _=>True) (fun _=>[(2,ptr b2),(4,ptr b4),(8,.bool q.2)]) (fun _=>[rsC b4,jS b2 (ndC { V with ou:=(a,c) } { m with out:=q.1 }) 62,cSn (.slice a q.1.length c) q.1]) (fun _ _=>?_) (fun hj=>?_)
 rotate_left
 ·refine HR.cond I (fun h=>?_) (fun h=>?_)
  ·have h:(!q.2||((q.1.length:Int)==(n.out.length:Int)))=true:=h;have h2:q.2=false\/(q.1.length:Int)=(n.out.length:Int):=by simpa using h
   have h:q.2=false\/q.1.length=n.out.length:=h2.imp id (fun e=>by omega);rw[if_pos h]at hm;refine HR.region ?_
   repeat' (first|refine zn ?_|refine qB jLR I I (fun w1 _=>kF { V with ou:=(a,c) } { n with out:=q.1 } w1 hlo) ?_|fail)
   refine hj () _ _ trivial ⟨I,I,I,trivial⟩ ?_;rw[hm];exact Ent.pick [1,3,0] I I
  ·have h:(!q.2||((q.1.length:Int)==(n.out.length:Int)))=false:=h;have h2:¬(q.2=false\/(q.1.length:Int)=(n.out.length:Int)):=by simpa using h
   have h:¬(q.2=false\/q.1.length=n.out.length):=fun e=>h2 (e.imp id (fun e=>by omega))
   rw[if_neg h]at hm;refine HR.skip (hj () _ _ trivial ⟨I,I,I,trivial⟩ ?_);rw[hm];exact Ent.pick [1,3,0] I I
 repeat' (first|refine zh ?_|fail)
 refine HR.ret Tryz.func103 I [_,_] (fun w hw=>⟨⟨_,rfl,jQ hw 0 I I I I rfl⟩,rfl,trivial⟩) ?_
 exact fun w' hw=>⟨(a,c),rfl,trivial,hw.pick [2] I rfl⟩
theorem jFv (V:NV) (n:Nd) (f:Fr) (now:Int) (w:World) (hv:Sl w (sv V.bo n.boxes.length) (cellsOf maC n.boxes) n.boxes.length) (hl:n.boxes.length<=1000) (hlo:0<=n.lost/\n.lost<=jw):
  Calls Tryz.prog 100 #[.agg ⟨ndC V n⟩,.agg ⟨frC f⟩,.int .i64 now] w fun e w'=>∃x:SV,e= .returned (.agg ⟨ndC { V with bo:=x } (box n f now)⟩)/\True/\Sat (base w) [cMa (sv x (box n f now).boxes.length) (box n f now).boxes] w':=by
 obtain ⟨q,hq⟩:∃q,q=jB1 n.boxes f now:=⟨_,rfl⟩;have hsp:box n f now=(if q.2=false\/q.1.length=n.boxes.length then lose { n with boxes:=q.1 } else { n with boxes:=q.1 }):=by rw[hq];rfl
 rw[hsp];refine zE Tryz.func100 I [(0,.agg ⟨ndC V n⟩),(1,.agg ⟨frC f⟩),(2,.int .i64 now)] ?_;refine HR.ctl I (HR.region ?_);refine HL.box I I ?_;intro b3;refine HL.box I I ?_;intro b4;refine HL.alloc I I ?_;intro b6;refine zh ?_;refine qL (r:=fun v':Value=> .tuple ⟨[v',.bool q.2]⟩) (Q:=fun _=>True) (G:=fun v'=>[cMa v' q.1]) fn180 I I (fun w1 hw1=>by rw[hq];exact jKu n.boxes f now _ w1 ((qA hv).at hw1) (by omega)) ?_;intro v1 _;refine HL.shape 0 I fun a c hv=>?_
 subst hv
 repeat' (first|refine zh ?_|apply zb ?_ ?_|exact zc|(refine zi fun hb=>?_;try simp at hb)|fail)
 refine HR.cond I (fun h=>?_) (fun h=>?_)
 ·have h:(!q.2||((q.1.length:Int)==(n.boxes.length:Int)))=true:=h;have h2:q.2=false\/(q.1.length:Int)=(n.boxes.length:Int):=by simpa using h
  have h:q.2=false\/q.1.length=n.boxes.length:=h2.imp id (fun e=>by omega);rw[if_pos h];refine zh ?_;refine qB jLR I I (fun w1 _=>kF { V with bo:=(a,c) } { n with boxes:=q.1 } w1 hlo) (zh ?_);refine HR.ret Tryz.func100 I [_] (fun w hw=>⟨⟨_,rfl,jQ hw 1 I I I I rfl⟩,trivial⟩) ?_
  exact fun w' hw=>⟨(a,c),rfl,trivial,hw.pick [0] I rfl⟩
 ·have h:(!q.2||((q.1.length:Int)==(n.boxes.length:Int)))=false:=h;have h2:¬(q.2=false\/(q.1.length:Int)=(n.boxes.length:Int)):=by simpa using h
  have h:¬(q.2=false\/q.1.length=n.boxes.length):=fun e=>h2 (e.imp id (fun e=>by omega))
  rw[if_neg h];refine zh ?_;refine HR.ret Tryz.func100 I [_] (fun w hw=>⟨⟨_,rfl,jQ hw 1 I I I I rfl⟩,trivial⟩) ?_
  exact fun w' hw=>⟨(a,c),rfl,trivial,hw.pick [0] I rfl⟩
theorem jFz (V:NV) (n:Nd) (s:Int) (t:By) (B0:Base) (w:World) (hw0:Sat B0 [cDe (sv V.ib n.inbox.length) n.inbox] w) (hl:n.inbox.length<=1000) (hlo:0<=n.lost/\n.lost<=jw):
  Calls Tryz.prog 122 #[.agg ⟨ndC V n⟩,.int .i64 s,str t] w fun e w'=>∃x:SV,e= .returned (.agg ⟨ndC { V with ib:=x } (deliver n ⟨s,t⟩)⟩)/\True/\Sat ⟨w,zN [cDe (sv V.ib n.inbox.length) n.inbox]⟩ [cDe (sv x (deliver n ⟨s,t⟩).inbox.length) (deliver n ⟨s,t⟩).inbox] w':=by
 refine jc [cDe (sv V.ib n.inbox.length) n.inbox] (hw0) Tryz.func122 I (Nat.le_of_ble_eq_true I) (HR.sub (σ':=[(0,.agg ⟨ndC V n⟩),(1,.int .i64 s),(2,str t)]) ⟨I,I,I,trivial⟩ ?_)
 repeat' (first|refine zh ?_|intro (bk:Nat))
 refine HR.cond I (fun h=>?_) (fun h=>?_)
 ·have h:n.inbox.length>=256:=by have:=of_decide_eq_true h;omega
  have e:deliver n ⟨s,t⟩=lose n:=by unfold deliver;rw[if_pos h]
  rw[e];refine zh ?_;refine qB jLR I I (fun w1 _=>kF V n w1 hlo) (zh ?_);refine HR.ret Tryz.func122 I [_] (fun w hw=>⟨⟨_,rfl,jQ hw 0 I I I I rfl⟩,trivial⟩) ?_
  exact fun w' hw=>⟨V.ib,rfl,trivial,hw.pick [2] I rfl⟩
 ·have h:¬n.inbox.length>=256:=by have:=of_decide_eq_false h;omega
  have e:deliver n ⟨s,t⟩={ n with inbox:=n.inbox++[⟨s,t⟩] }:=by unfold deliver;rw[if_neg h]
  rw[e];refine zh ?_;refine qH jAb I I I I I (by decide) (by decide) ?_;intro va;refine qJ 3 I jAb (Rd.own 0 I) I I I I (jH I) (by omega) (by omega) ?_;intro v2;refine HL.shape 3 I fun a c hv=>?_
  subst hv;refine zh ?_;have hl2:n.inbox.length+1=(n.inbox++[(⟨s,t⟩:De)]).length:=by simp
  have hc:cellsOf deC n.inbox++deC ⟨s,t⟩=cellsOf deC (n.inbox++[⟨s,t⟩]):=by rw[jL];rfl
  refine HR.ret Tryz.func122 I [_] (fun w hw=>⟨⟨_,rfl,jQ hw 1 I I I I rfl⟩,trivial⟩) ?_;refine fun w' hw=>⟨(a,c),?_,trivial,?_⟩
  ·show _=Ending.returned (.agg ⟨ndC { V with ib:=(a,c) } { n with inbox:=n.inbox++[⟨s,t⟩] }⟩);show Ending.returned (.agg ⟨[_,_,_,_,_,_,_,_,_,_,.slice a (n.inbox.length+1) c,_,_]⟩)=Ending.returned (.agg ⟨[_,_,_,_,_,_,_,_,_,_,.slice a (n.inbox++[(⟨s,t⟩:De)]).length c,_,_]⟩);rw[<- hl2]
  ·have w1:Sat _ [jM (.slice a (n.inbox.length+1) c) 65 2 (n.inbox.length+1) (cellsOf deC n.inbox++deC ⟨s,t⟩)] w':=hw.pick [3] I I;rw[hl2,hc]at w1;exact w1
theorem jBm (l:List Sn) (i:Nat) (v:Value) (w:World) (hv:Sl w v (cellsOf snC l) l.length) (hl:l.length<=1000) (hi:i<l.length):
  Calls Tryz.prog 99 #[v,.int .i64 (i:Int)] w fun e w'=>∃v',e= .returned v'/\Sat (base w) [jM v' 131 11 (l.eraseIdx i).length (cellsOf snC (l.eraseIdx i))] w':=by
 have s1:=Qp jU hv (Nat.le_of_lt hi) I;have s2:=YK jU hv (k:=i+1) hi I;have h1:(l.take i).length<=1000:=by rw[List.length_take];omega
 have h2:(l.drop (i+1)).length<=1000:=by rw[List.length_drop];omega
 refine zE Tryz.func99 I [(0,v),(1,.int .i64 (i:Int))] (zh ?_);refine qh jy I ?_;intro v0;refine zh ?_;refine qX (sz:=11) 0 i (qA hv) I I I I (.inl ⟨rfl,rfl⟩) (.inr ⟨_,_,_,rfl,rfl,rfl⟩) (Nat.zero_le _) (Nat.le_of_lt hi) ?_;refine qJ 0 I jy (qA s1) I I I (jA jU _) (jR KS _) (by omega) (by omega) ?_;intro v1;refine zh ?_;refine qX (sz:=11) (i+1) l.length (qA hv) I I I I (.inr ⟨_,_,_,rfl,rfl,rfl⟩) (.inl ⟨rfl,rfl⟩) hi (Nat.le_refl _) ?_;refine qJ 0 I jy (qA s2) I I I (jA jU _) (jR KS _) (by omega) (by omega) ?_;intro v2;refine zh ?_;refine HR.ret Tryz.func99 I [_] (fun _ _=>⟨I,trivial⟩) ?_;refine fun w' hw=>⟨v2,rfl,qC ?_ ?_ w' hw⟩
 ·rw [List.eraseIdx_eq_take_drop_succ,List.length_append];omega
 ·rw [List.eraseIdx_eq_take_drop_succ,jL];rfl
theorem jTF:IsFn Tryz.prog 145:=zF Tryz.func145 I
theorem jJg (V:NV) (n:Nd) (w:World) (ht:Sl w (sv V.ta n.table.length) (cellsOf roC n.table) n.table.length) (hl:n.table.length<=1000):
  Calls Tryz.prog 104 #[.agg ⟨ndC V n⟩] w fun e w'=>e= .returned (.int .i64 (number n))/\Below w.heap.size w w':=by
 refine zE Tryz.func104 I [(0,.agg ⟨ndC V n⟩)] ?_;refine HR.ctl I (HR.region ?_);refine HL.box I I ?_;intro b1;refine zh ?_;refine HR.loop (ι:=Nat) (fun k=>k<=n.table.length/\∀j a,j<k->n.table[j]? =some a->(a.dest==n.addr)=false) (fun k=>[(1,ptr b1),(3,.int .i64 (k:Int))]) (fun _=>[jS b1 (ndC V n) 62]) (fun k=>n.table.length-k) 0 ⟨Nat.zero_le _,fun j a hj=>by omega⟩ ⟨I,I,trivial⟩ Ent.refl ?_
 rintro k ⟨hk,hg⟩ ih
 refine zh ?_;refine HR.cond I (fun h2=>?_) (fun h2=>?_)
 ·have hlt:k<n.table.length:=by have:=of_decide_eq_true h2;omega
  obtain ⟨x,hx⟩:=jG hlt;have hcl:(cellsOf roC n.table).length=n.table.length*4:=jA jP _;refine zh ?_;refine qK j3 (by kernel_rfl) (zq ?_);refine qW (qA ht) jZ k I I I I hlt ?_;refine Yi 0 (qA ht) (by rw[hcl];omega) I I I I I I I ?_;refine qj (qA ht) I I I I (jJ jP hx (i:=0) I) (zq ?_);refine HR.cond I (fun h3=>?_) (fun h3=>?_)
  ·have h3:(x.dest==n.addr)=true:=h3;have hf:rat n.table n.addr=some x:=ZV hx h3 hg;refine zh ?_;refine qE (qA ht) jZ k I I I I hlt ?_;refine qP 1 (qA ht) (by rw[hcl];omega) I I I I I I I ?_;refine qF (qA ht) I I I I (jJ jP hx (i:=1) I) (zh ?_);refine HR.ret Tryz.func104 I [_] (fun _ _=>⟨I,trivial⟩) ?_
   exact fun w' hw=>⟨by rw[number,hf];rfl,hw.jF⟩
  ·have h3:(x.dest==n.addr)=false:=h3;refine zh ?_;refine ih (k+1) _ _ ⟨hlt,fun j a hj ha=>?_⟩ (by omega) ⟨I,I,trivial⟩ Ent.refl
   by_cases hjk:j=k
   ·subst hjk;rw[hx]at ha;cases ha;exact h3
   ·exact hg j a (by omega) ha
 ·have hke:k=n.table.length:=by have:=of_decide_eq_false h2;omega
  subst hke;have hf:rat n.table n.addr=none:=List.find?_eq_none.2 fun a ha=>by
   obtain ⟨j,hj⟩:=List.getElem?_of_mem ha;have:=hg j a (List.getElem?_eq_some_iff.1 hj).1 hj
   simp[this]
  refine zh ?_;refine HR.ret Tryz.func104 I [_] (fun _ _=>⟨I,trivial⟩) ?_
  exact fun w' hw=>⟨by rw[number,hf];rfl,hw.jF⟩
theorem jDs (V:NV) (n:Nd) (kd:Int) (w:World) (ht:Sl w (sv V.ou n.out.length) (cellsOf snC n.out) n.out.length) (hl:n.out.length<=1000):
  Calls Tryz.prog 102 #[.agg ⟨ndC V n⟩,.int .i64 kd] w fun e w'=>e= .returned (.bool (waits n kd))/\Below w.heap.size w w':=by
 refine zE Tryz.func102 I [(0,.agg ⟨ndC V n⟩),(1,.int .i64 kd)] ?_;refine HR.ctl I (HR.region ?_);refine HL.box I I ?_;intro b1;refine zh ?_;refine HR.loop (ι:=Nat) (fun k=>k<=n.out.length/\∀j a,j<k->n.out[j]? =some a->(a.f.kd==kd)=false) (fun k=>[(1,.int .i64 kd),(2,ptr b1),(5,.int .i64 (k:Int))]) (fun _=>[jS b1 (ndC V n) 62]) (fun k=>n.out.length-k) 0 ⟨Nat.zero_le _,fun j a hj=>by omega⟩ ⟨I,I,I,trivial⟩ Ent.refl ?_
 rintro k ⟨hk,hg⟩ ih
 refine zh ?_;refine HR.cond I (fun h2=>?_) (fun h2=>?_)
 ·have hlt:k<n.out.length:=by have:=of_decide_eq_true h2;omega
  obtain ⟨x,hx⟩:=jG hlt;have hcl:(cellsOf snC n.out).length=n.out.length*11:=jA jU _
  repeat' (first|refine zh ?_|refine qE (qA ht) jy k I I I I hlt ?_|refine qP 0 (qA ht) (by rw[hcl];omega) I I I I I I I ?_|refine qF (qA ht) I I I I (jJ jU hx (i:=0) I) ?_|fail)
  refine HR.cond I (fun h3=>?_) (fun h3=>?_)
  ·have h3:(x.f.kd==kd)=true:=h3;have hf:waits n kd=true:=List.any_eq_true.2 ⟨x,List.mem_of_getElem? hx,h3⟩;refine zh ?_;refine HR.ret Tryz.func102 I [_] (fun _ _=>⟨I,trivial⟩) ?_
   exact fun w' hw=>⟨by rw[hf];rfl,hw.jF⟩
  ·have h3:(x.f.kd==kd)=false:=h3;refine zh ?_;refine ih (k+1) _ _ ⟨hlt,fun j a hj ha=>?_⟩ (by omega) ⟨I,I,I,trivial⟩ Ent.refl
   by_cases hjk:j=k
   ·subst hjk;rw[hx]at ha;cases ha;exact h3
   ·exact hg j a (by omega) ha
 ·have hke:k=n.out.length:=by have:=of_decide_eq_false h2;omega
  subst hke;have hf:waits n kd=false:=by
   rw[<- Bool.not_eq_true];intro e;obtain ⟨a,ha,h4⟩:=List.any_eq_true.1 e;obtain ⟨j,hj⟩:=List.getElem?_of_mem ha;have:=hg j a (List.getElem?_eq_some_iff.1 hj).1 hj;rw[this]at h4;cases h4
  refine zh ?_;refine HR.ret Tryz.func102 I [_] (fun _ _=>⟨I,trivial⟩) ?_
  exact fun w' hw=>⟨by rw[hf];rfl,hw.jF⟩
theorem jKq (l:List Int) (c:Int) (v:Value) (w:World) (hv:Sl w v (cellsOf iC l) l.length) (hl:l.length<=1000):
  Calls Tryz.prog 107 #[v,.int .i64 c] w fun e w'=>e= .returned (.bool (decide (c∈l)))/\Below w.heap.size w w':=by
 refine zE Tryz.func107 I [(0,v),(1,.int .i64 c)] (zh ?_);refine HR.loop (ι:=Nat) (fun k=>k<=l.length/\∀j a,j<k->l[j]? =some a->(a==c)=false) (fun k=>[(0,v),(1,.int .i64 c),(5,.int .i64 (k:Int))]) (fun _=>[]) (fun k=>l.length-k) 0 ⟨Nat.zero_le _,fun j a hj=>by omega⟩ ⟨I,I,I,trivial⟩ Ent.refl ?_
 rintro k ⟨hk,hg⟩ ih
 refine zh ?_;refine qD (qA hv) I I I (zh ?_);refine HR.cond I (fun h2=>?_) (fun h2=>?_)
 ·have hlt:k<l.length:=by have:=of_decide_eq_true h2;omega
  obtain ⟨x,hx⟩:=jG hlt;refine zh ?_;refine qE (qA hv) j5 k I I I I hlt ?_;refine qF (qA hv) I I I I (jN hx) (zh ?_);refine HR.cond I (fun h3=>?_) (fun h3=>?_)
  ·have h3:x=c:=eq_of_beq h3;have hf:c∈l:=h3▸List.mem_of_getElem? hx
   refine zh ?_;refine HR.ret Tryz.func107 I [_] (fun _ _=>⟨I,trivial⟩) ?_
   exact fun w' hw=>⟨by rw[decide_eq_true hf];rfl,hw.jF⟩
  ·have h3:(x==c)=false:=h3;refine zh ?_;refine ih (k+1) _ _ ⟨hlt,fun j a hj ha=>?_⟩ (by omega) ⟨I,I,I,trivial⟩ Ent.refl
   by_cases hjk:j=k
   ·subst hjk;rw[hx]at ha;cases ha;exact h3
   ·exact hg j a (by omega) ha
 ·have hke:k=l.length:=by have:=of_decide_eq_false h2;omega
  subst hke;have hf:¬c∈l:=fun h=>by
   obtain ⟨j,hj⟩:=List.getElem?_of_mem h;have:=hg j c (List.getElem?_eq_some_iff.1 hj).1 hj
   simp at this
  refine zh ?_;refine HR.ret Tryz.func107 I [_] (fun _ _=>⟨I,trivial⟩) ?_
  exact fun w' hw=>⟨by rw[decide_eq_false hf];rfl,hw.jF⟩
theorem jKi (V:NV) (n:Nd) (ta:Int) (w:World) (ht:Sl w (sv V.ta n.table.length) (cellsOf roC n.table) n.table.length) (hl:n.table.length<=1000):
  Calls Tryz.prog 106 #[.agg ⟨ndC V n⟩,.int .i64 ta] w fun e w'=>e= .returned (.tuple ⟨[.int .i64 (hop n ta).1,.bool (hop n ta).2]⟩)/\Below w.heap.size w w':=by
 refine zE Tryz.func106 I [(0,.agg ⟨ndC V n⟩),(1,.int .i64 ta)] (zh ?_);intro (bk:Nat);refine zh ?_;refine HR.cond I (fun h=>?_) (fun h=>?_)
 ·have h:n.poll>0:=of_decide_eq_true h;have e:hop n ta=(n.parent,!(n.parent==255)):=by unfold hop;rw[if_pos h]
  rw[e];refine zh ?_;refine qK j3 (by kernel_rfl) (zq ?_);refine HR.ret Tryz.func106 I [_,_] (fun _ _=>⟨I,I,trivial⟩) ?_
  exact fun w' hw=>⟨rfl,hw.jF⟩
 ·have h:¬n.poll>0:=of_decide_eq_false h;have e:hop n ta=zy n.table ta:=by unfold hop;rw[if_neg h]
  rw[e];refine zh ?_;refine qB jTR I I (fun w1 hw1=>jD8 n.table ta _ w1 ((qA ht).at hw1) hl) (zh ?_);refine HR.ret Tryz.func106 I [_,_] (fun _ _=>⟨I,I,trivial⟩) ?_
  exact fun w' hw=>⟨rfl,hw.jF⟩
theorem jKP {p:Int->Bool}:∀ {l:List Int} {k:Nat},k<=l.length->(∀ j a,j<k->l[j]? =some a->p a=true)->(∀ a,l[k]? =some a->p a=false)->l.takeWhile p=l.take k/\l.dropWhile p=l.drop k
 |[],k,hk,_,_=>by
  have:k=0:=by simpa using hk
  subst this;exact ⟨rfl,rfl⟩
 |x::l,0,_,_,h2=>by
  have hx:=h2 x I;rw[List.takeWhile_cons_of_neg (by rw[hx];decide),List.dropWhile_cons_of_neg (by rw[hx];decide)];exact ⟨rfl,rfl⟩
 |x::l,k+1,hk,h1,h2=>by
  have hx:=h1 0 x (Nat.succ_pos _) I;obtain ⟨e1,e2⟩:=jKP (l:=l) (k:=k) (by simpa using hk) (fun j a hj ha=>h1 (j+1) a (by omega) ha) (fun a ha=>h2 a ha);rw[List.takeWhile_cons_of_pos hx,List.dropWhile_cons_of_pos hx,e1,e2];exact ⟨rfl,rfl⟩
theorem jQW {l:List Int} {c:Int} {k:Nat} (ha:Asc id l) (hk:k<=l.length) (h1:∀j a,j<k->l[j]? =some a->a<c) (h2:∀a,l[k]? =some a->¬a<c):child l c=if l[k]? =some c then l else l.take k++c::l.drop k:=by
 obtain ⟨e1,e2⟩:=jKP (p:=fun x=>decide (x<c)) hk (fun j a hj hja=>decide_eq_true (h1 j a hj hja)) (fun a hka=>decide_eq_false (h2 a hka));unfold child;rw[e1,e2];have hmem:c∈l↔l[k]? =some c:=by
  constructor
  ·intro h;obtain ⟨j,hj⟩:=List.getElem?_of_mem h;rcases Nat.lt_trichotomy j k with h3|h3|h3
   ·exact absurd (h1 j c h3 hj) (Int.lt_irrefl c)
   ·rw [<- h3];exact hj
   ·obtain ⟨x,hx⟩:=jG (show k<l.length by have:=(List.getElem?_eq_some_iff.1 hj).1;omega);have h4:x<c:=ha.lt h3 hx hj;exact absurd h4 (h2 x hx)
  ·exact fun h=>List.mem_of_getElem? h
 by_cases h:c∈l
 ·rw [if_pos h,if_pos (hmem.1 h)]
 ·rw [if_neg h,if_neg fun e=>h (hmem.2 e)]
theorem jQu (a:Int):Ju (iC a)=true:=rfl
theorem jD1 (l:List Int) (c:Int) (v:Value) (B0:Base) (w:World) (hw0:Sat B0 [cI v l] w) (hl:l.length<=1000) (ha:Asc id l):
  Calls Tryz.prog 145 #[v,.int .i64 c] w fun e w'=>∃r:Value,e= .returned r/\True/\Sat ⟨w,zN [cI v l]⟩ [cI r (child l c)] w':=by
 refine jc [cI v l] (hw0) Tryz.func145 I (Nat.le_of_ble_eq_true I) (HR.sub (σ':=[(0,v),(1,.int .i64 c)]) ⟨I,I,trivial⟩ (zh ?_));refine HR.J6 3 1 (yN (ι:=Nat×Value) (fun x=>x.1<=l.length/\(∀ j a,j<x.1->l[j]? =some a->a<c)/\∀a,l[x.1]? =some a->¬a<c) (fun x=>[(0,v),(1,.int .i64 c),(5,x.2),(6,.int .i64 (x.1:Int))]) (fun x=>[cI x.2 (l.take x.1),cI v l]) (fun x hx=>?_) (fun hj=>?_))
 rotate_left
 ·refine HR.loop (ι:=Nat×Value) (fun x=>x.1<=l.length/\∀j a,j<x.1->l[j]? =some a->a<c) (fun x=>[(0,v),(1,.int .i64 c),(5,x.2),(6,.int .i64 (x.1:Int))]) (fun x=>[cI x.2 (l.take x.1),cI v l]) (fun x=>l.length-x.1) (0,.slice none 0 0) ⟨Nat.zero_le _,fun j a hj=>absurd hj (Nat.not_lt_zero _)⟩ ⟨I,I,I,I,trivial⟩ Ent.refl ?_
  rintro ⟨k,o⟩ ⟨hk,hg⟩ ih
  have hk:k<=l.length:=hk;have hg:∀j a,j<k->l[j]? =some a->a<c:=hg;refine HR.ctl I (HR.region (zn ?_));refine qD (Rd.own 1 I) I I I (zn ?_);refine HL.split 11 I (fun hb=>?_) (fun hb=>?_)
  ·have hlt:k<l.length:=by have h1:(k:Int)<(l.length:Int):=of_decide_eq_true hb;omega
   obtain ⟨x,hx⟩:=jG hlt;refine zn ?_;refine qE (Rd.own 1 I) j5 k I I I I hlt ?_;refine qF (Rd.own 1 I) I I I I (jN hx) (zn ?_);refine HR.cond I (fun h2=>?_) (fun h2=>?_)
   ·have h2:x<c:=of_decide_eq_true h2;refine zh ?_;refine qE (Rd.own 1 I) j5 k I I I I hlt ?_;refine qF (Rd.own 1 I) I I I I (jN hx) ?_;refine qH j5 I I I I I (by decide) (by decide) ?_;intro va;refine qJ 1 I j5 (Rd.own 0 I) I I I I (jH I) (by show ((l.take k).length+1)*8<=_;rw[List.length_take];omega) (by show (l.take k).length+1<=_;rw[List.length_take];omega) ?_;intro v2;refine zh ?_;refine ih (k+1,v2) _ _ ⟨hlt,fun j a hj hja=>?_⟩ (by show l.length-(k+1)<l.length-k;omega) ⟨I,I,I,I,trivial⟩ ?_
    ·by_cases hjk:j=k
     ·subst hjk;rw[hx]at hja;cases hja;exact h2
     ·have hj:j<k+1:=hj;exact hg j a (by omega) hja
    ·show Ent _ _ [jM v2 3 1 (l.take (k+1)).length (cellsOf iC (l.take (k+1))),cI v l];rw[jE hx,List.length_append,jL];exact Ent.pick [1,2] I I
   ·have h2:¬x<c:=of_decide_eq_false h2;refine HR.exit I ?_;exact hj (k,o) _ _ ⟨hk,hg,fun a hka=>by have hka:l[k]? =some a:=hka;rw[hx]at hka;cases hka;exact h2⟩ ⟨I,I,I,I,trivial⟩ Ent.refl
  ·have hlt:¬k<l.length:=by have h1:¬(k:Int)<(l.length:Int):=of_decide_eq_false hb;omega
   refine zn ?_;refine QY I (HR.exit I ?_);exact hj (k,o) _ _ ⟨hk,hg,fun a hka=>absurd (List.getElem?_eq_some_iff.1 hka).1 hlt⟩ ⟨I,I,I,I,trivial⟩ Ent.refl
 obtain ⟨k,o⟩:=x;obtain ⟨hk,h1,h2⟩:=hx;have hk:k<=l.length:=hk;have hsp:=jQW ha hk h1 h2;rw[hsp];have htk:(l.take k).length=k:=by rw[List.length_take];omega
 refine HR.ctl I (HR.join (ι:=Unit) (fun _=>True) (fun _=>[(0,v),(1,.int .i64 c),(5,o),(6,.int .i64 (k:Int)),(39,.bool (decide (l[k]? =some c)))]) (fun _=>[cI o (l.take k),cI v l]) (fun _ _=>?_) (fun hj=>?_))
 rotate_left
 ·refine HR.region ?_;refine zn ?_;refine qD (Rd.own 1 I) I I I (zn ?_);refine HL.split 32 I (fun hb=>?_) (fun hb=>?_)
  ·have hlt:k<l.length:=by have h1:(k:Int)<(l.length:Int):=of_decide_eq_true hb;omega
   obtain ⟨x,hx⟩:=jG hlt;refine zn ?_;refine qE (Rd.own 1 I) j5 k I I I I hlt ?_;refine qF (Rd.own 1 I) I I I I (jN hx) (zn ?_);refine hj () _ _ trivial ⟨rfl,rfl,rfl,rfl,?_,trivial⟩ Ent.refl;show some (Value.bool (x==c))=some (Value.bool (decide (l[k]? =some c)));rw[hx]
   by_cases e:x=c
   ·subst e;simp
   ·simp [e]
  ·have hlt:¬k<l.length:=by have h1:¬(k:Int)<(l.length:Int):=of_decide_eq_false hb;omega
   refine zn ?_;refine hj () _ _ trivial ⟨rfl,rfl,rfl,rfl,?_,trivial⟩ Ent.refl;show some (Value.bool false)=some (Value.bool (decide (l[k]? =some c)));rw[List.getElem?_eq_none (by omega)];rfl
 refine HR.cond I (fun h3=>?_) (fun h3=>?_)
 ·have h3:l[k]? =some c:=of_decide_eq_true h3;rw[if_pos h3];refine zh ?_;refine HR.ret Tryz.func145 I [_] (fun _ _=>⟨I,trivial⟩) ?_
  exact fun w' hw=>⟨v,rfl,trivial,hw.pick [1] I rfl⟩
 have h3:¬l[k]? =some c:=of_decide_eq_false h3;rw[if_neg h3];refine zh ?_;refine qH j5 I I I I I (by decide) (by decide) ?_;intro va;refine qJ 1 I j5 (Rd.own 0 I) I I I I (jH I) (by omega) (by omega) ?_;intro v2;have hcl:(cellsOf iC l).length=l.length*1:=jA KP _;refine zh ?_;refine qX (sz:=1) k l.length (Rd.own 2 I) I I I I (.inr ⟨_,_,_,rfl,rfl,rfl⟩) (.inl ⟨rfl,rfl⟩) hk (Nat.le_refl _) (qJ 1 I j5 (Rd.sub (sz:=1) (Rd.own 2 I) hcl hk (Nat.le_refl _)) I I I (by rw[List.length_take,List.length_drop,hcl];omega) (fun u hu=>jR jQu _ u (List.mem_of_mem_drop (List.mem_of_mem_take hu))) (by omega) (by omega) ?_);intro v3;refine zh ?_;refine HR.ret Tryz.func145 I [_] (fun _ _=>⟨I,trivial⟩) ?_;refine fun w' hw=>⟨v3,rfl,trivial,?_⟩
 refine qC ?_ ?_ w' (hw.pick [1] I I)
 ·rw [List.length_append,List.length_cons,List.length_drop,htk];omega
 ·rw [jL,jo KP,List.take_of_length_le (l:=cellsOf iC (l.drop k)) (by rw[jA KP,List.length_drop];omega),List.append_assoc];rfl
end Go.Proofs.YtgfdoognildoeaaGreat
namespace Go.GX
open Go.RowKit
theorem jV {v:Value} {e sz n:Nat} {xs:List Value} {w:World} (h:(jM v e sz n xs).p w):Sl w v xs n:=(show Vw w v e sz n xs from h).sl
theorem jK {G:List Chunk} {c:Chunk} {w:World} (h:(jC G).p w) (hc:c∈G):c.p w:=jJQ.mem h c hc
theorem QF {B:Base} {H G:List Chunk} {w:World} (i:Nat) (hw:Sat B H w) (hi:J5 H i=some (jC G)):(jC G).p w:=hw.nth hi
end Go.GX
namespace Go.Proofs.YtgfdoognildoeaaGreat
open Go.GX Go.RowKit
attribute [local irreducible] Calls Run JH JL zU HR HL HD jS jM ZN Rd jg Jf
open Nd
theorem jSf:IsFn Tryz.prog 70:=zF Tryz.func70 I
structure ROk (V:NV) (n:Nd) (V':NV) (Gt:List Chunk) (m:Nd):Prop where
 pa:V'.pa=V.pa
 ps:V'.ps=V.ps
 ta:∀w2,Sl w2 (sv V.ta n.table.length) (cellsOf roC n.table) n.table.length->(jC Gt).p w2->Sl w2 (sv V'.ta m.table.length) (cellsOf roC m.table) m.table.length
 li:∀w2,Sl w2 (sv V.li n.links.length) (cellsOf liC n.links) n.links.length->Sl w2 (sv V'.li m.links.length) (cellsOf liC m.links) m.links.length
abbrev roH (V:NV) (Gt:List Chunk) (m:Nd):List Chunk:=[jC Gt,cSn (sv V.ou m.out.length) m.out,cMa (sv V.bo m.boxes.length) m.boxes,cI (sv V.ch m.children.length) m.children,cPr (sv V.se m.seen.length) m.seen,cDe (sv V.ib m.inbox.length) m.inbox]
theorem jNn (p:Int->Bool) {l:List Int} {k:Nat} {x:Int} (hx:l[k]? =some x):((l.take (k+1)).filter p).foldl child []=if p x=true then child (((l.take k).filter p).foldl child []) x else ((l.take k).filter p).foldl child []:=by
 rw[Zd hx]
 split
 ·rw [List.foldl_append];rfl
 ·rfl
theorem kE (V:NV) (n:Nd) (w:World) (h:OkN w V n) (hs:SmN n):
  Calls Tryz.prog 70 #[.agg ⟨ndC V n⟩] w fun e w'=>∃x:NV×List Chunk,e= .returned (.agg ⟨ndC x.1 (order n)⟩)/\ROk V n x.1 x.2 (order n)/\Sat (base w) (roH x.1 x.2 (order n)) w':=by
 have l1:=hs.ta;have l2:=hs.li;have l3:=hs.ou;have l4:=hs.ch;have l5:=hs.bo;have l6:=hs.se;have l7:=hs.ib;obtain ⟨m,hm⟩:∃m,m=order n:=⟨_,rfl⟩;have e_ad:m.addr=clamp n.addr 0 250:=by rw[hm];rfl
 have e_po:m.poll=if n.poll<1 then 0 else max n.poll 4:=by rw[hm];rfl
 have e_pr:m.parent=if Tp.okN n.parent=false\/n.parent=m.addr then 255 else n.parent:=by rw[hm];rfl
 have e_ta:m.table=if KR n.table m.addr=0 then n.table else [jHg m.addr]:=by rw[hm];rfl
 have e_li:m.links=if jAs n.links=0 then n.links else []:=by rw[hm];rfl
 have e_ou:m.out=n.out.take (min n.out.length 16):=by rw[hm,<- Z9];rfl
 have e_ch:m.children=(n.children.filter fun c=>Tp.okN c&&!(c==m.addr)).foldl child []:=by rw[hm];rfl
 have e_bo:m.boxes=n.boxes.take (min n.boxes.length 16):=by rw[hm,<- Z9];rfl
 have e_se:m.seen=n.seen.drop (n.seen.length-32):=by rw[hm];rfl
 have e_ib:m.inbox=n.inbox.take (min n.inbox.length 256):=by rw[hm,<- Z9];rfl
 have e_sq:m.seq=if n.seq<0\/n.seq>65535 then 0 else n.seq:=by rw[hm];rfl
 have e_lo:m.lost=clamp n.lost 0 1099511627776:=by rw[hm];rfl
 have e_nw:jDv m.addr=[jHg m.addr]:=by rw[e_ad];unfold jDv lim;rw[jNw]
 have s_ou:=Qp jU h.ou (Nat.min_le_left _ _) e_ou;have s_bo:=Qp j4 h.bo (Nat.min_le_left _ _) e_bo;have s_se:=YK J9 h.se (Nat.sub_le _ _) e_se;have s_ib:=Qp jAh h.ib (Nat.min_le_left _ _) e_ib;have k3:m.out.length<=16:=by rw[e_ou,List.length_take];omega
 have k5:m.boxes.length<=16:=by rw[e_bo,List.length_take];omega
 have k6:m.seen.length<=32:=by rw[e_se,List.length_drop];omega
 have k7:m.inbox.length<=256:=by rw[e_ib,List.length_take];omega
 rw[<- hm];refine zE Tryz.func70 I [(0,.agg ⟨ndC V n⟩)] ?_;refine HR.ctl I (HR.region ?_);refine HL.box I I ?_;intro b1;refine HL.alloc I I ?_;intro b2;refine zh ?_;refine qB jRk I I (fun w _=>jBU n.addr 0 250 (by decide) w) (zh ?_);refine qR (H':=[jS b1 [.int .i64 m.addr,.int .i64 n.poll,.int .i64 n.parent,sv V.ta n.table.length,sv V.li n.links.length,sv V.ou n.out.length,sv V.ch n.children.length,sv V.bo n.boxes.length,sv V.se n.seen.length,sv V.pa V.ps.length,sv V.ib n.inbox.length,.int .i64 n.seq,.int .i64 n.lost] 62,rsC b2]) (Ent.trans (Ent.pick [1,0] I I) (Ent.of_eq (by rw[e_ad];rfl))) ?_;refine HR.join (ι:=Unit) (fun _=>True) (fun _=>[(1,ptr b1),(2,ptr b2)]) (fun _=>[jS b1 [.int .i64 m.addr,.int .i64 m.poll,.int .i64 n.parent,sv V.ta n.table.length,sv V.li n.links.length,sv V.ou n.out.length,sv V.ch n.children.length,sv V.bo n.boxes.length,sv V.se n.seen.length,sv V.pa V.ps.length,sv V.ib n.inbox.length,.int .i64 n.seq,.int .i64 n.lost] 62,rsC b2]) (fun _ _=>?_) (fun hj=>?_)
 rotate_left
 ·refine HR.cond I (fun h=>?_) (fun h=>?_)
  ·have h:n.poll<1:=of_decide_eq_true h;refine HR.region (zn ?_);refine hj () _ _ trivial ⟨I,I,trivial⟩ (Ent.of_eq ?_);rw[e_po,if_pos h];rfl
  ·have h:¬n.poll<1:=of_decide_eq_false h;rw[if_neg h]at e_po;refine HR.ctl I (HR.region (zn ?_));refine HR.cond I (fun h2=>?_) (fun h2=>?_)
   ·have h2:n.poll<4:=of_decide_eq_true h2;refine HR.region (zn ?_);refine hj () _ _ trivial ⟨I,I,trivial⟩ (Ent.of_eq ?_);rw[show m.poll=4 from by rw[e_po];omega];rfl
   ·have h2:¬n.poll<4:=of_decide_eq_false h2;refine HR.skip (hj () _ _ trivial ⟨I,I,trivial⟩ (Ent.of_eq ?_));rw[show m.poll=n.poll from by rw[e_po];omega]
 repeat' (first|refine zh ?_|refine qB jQN I I (fun w _=>KL n.parent w) ?_|apply zb ?_ ?_|exact zc|(refine zi fun hb=>?_;try simp at hb)|fail)
 refine HR.join (ι:=Unit) (fun _=>True) (fun _=>[(1,ptr b1),(2,ptr b2)]) (fun _=>[jS b1 [.int .i64 m.addr,.int .i64 m.poll,.int .i64 m.parent,sv V.ta n.table.length,sv V.li n.links.length,sv V.ou n.out.length,sv V.ch n.children.length,sv V.bo n.boxes.length,sv V.se n.seen.length,sv V.pa V.ps.length,sv V.ib n.inbox.length,.int .i64 n.seq,.int .i64 n.lost] 62,rsC b2]) (fun _ _=>?_) (fun hj=>?_)
 rotate_left
 ·refine HR.cond I (fun h=>?_) (fun h=>?_)
  ·have h:(!Tp.okN n.parent||(n.parent==m.addr))=true:=h;have h2:Tp.okN n.parent=false\/n.parent=m.addr:=by simpa using h
   refine HR.region (zn ?_);refine hj () _ _ trivial ⟨I,I,trivial⟩ (Ent.of_eq ?_);rw[e_pr,if_pos h2];rfl
  ·have h:(!Tp.okN n.parent||(n.parent==m.addr))=false:=h;have h2:¬(Tp.okN n.parent=false\/n.parent=m.addr):=by simpa using h
   refine HR.skip (hj () _ _ trivial ⟨I,I,trivial⟩ (Ent.of_eq ?_));rw[e_pr,if_neg h2]
 refine zh ?_;refine qB jTJ I I (fun w hw=>jBp n.table m.addr _ w ((qA h.ta).at hw) l1) (zh ?_);refine HR.join (ι:=SV×List Chunk) (fun x=>∀w2,Sl w2 (sv V.ta n.table.length) (cellsOf roC n.table) n.table.length->(jC x.2).p w2->Sl w2 (sv x.1 m.table.length) (cellsOf roC m.table) m.table.length) (fun _=>[(1,ptr b1),(2,ptr b2)]) (fun x=>[jS b1 [.int .i64 m.addr,.int .i64 m.poll,.int .i64 m.parent,sv x.1 m.table.length,sv V.li n.links.length,sv V.ou n.out.length,sv V.ch n.children.length,sv V.bo n.boxes.length,sv V.se n.seen.length,sv V.pa V.ps.length,sv V.ib n.inbox.length,.int .i64 n.seq,.int .i64 n.lost] 62,rsC b2,jC x.2]) (fun xt ht=>?_) (fun hj=>?_)
 rotate_left
 ·refine HR.cond I (fun h2=>?_) (fun h2=>?_)
  ·have h2:¬KR n.table m.addr=0:=by simpa using h2
   rw[if_neg h2,<- e_nw]at e_ta;refine HR.region (zn ?_);refine qI jTH I I (fun w _=>jFs m.addr w) ?_;intro v2;refine HL.shape 0 I fun a2 c2 hv=>?_
   subst hv;refine zn ?_;refine hj ((a2,c2),[cTa (.slice a2 (jDv m.addr).length c2) (jDv m.addr)]) _ _ (fun w2 _ hp=>?_) ⟨I,I,trivial⟩ ?_
   ·rw [e_ta];exact jV hp.1
   ·rw [e_ta];exact Ent.trans (Ent.group (G:=[cTa (.slice a2 (jDv m.addr).length c2) (jDv m.addr)])) (Ent.pick [1,2,0] I I)
  ·have h2:KR n.table m.addr=0:=by simpa using h2
   rw[if_pos h2]at e_ta;refine HR.skip (hj (V.ta,[]) _ _ (fun w2 hw2 _=>?_) ⟨I,I,trivial⟩ ?_)
   ·rw [e_ta];exact hw2
   ·rw [e_ta];exact Ent.trans QJ (Ent.pick [1,2,0] I I)
 obtain ⟨xt,Gt⟩:=xt;have ht:∀w2,Sl w2 (sv V.ta n.table.length) (cellsOf roC n.table) n.table.length->(jC Gt).p w2->Sl w2 (sv xt m.table.length) (cellsOf roC m.table) m.table.length:=ht;refine zh ?_;refine qB jTG I I (fun w hw=>jBq n.links _ w ((qA h.li).at hw) l2) (zh ?_);refine HR.join (ι:=SV) (fun x=>∀w2,Sl w2 (sv V.li n.links.length) (cellsOf liC n.links) n.links.length->Sl w2 (sv x m.links.length) (cellsOf liC m.links) m.links.length) (fun _=>[(1,ptr b1),(2,ptr b2)]) (fun x=>[jS b1 [.int .i64 m.addr,.int .i64 m.poll,.int .i64 m.parent,sv xt m.table.length,sv x m.links.length,sv V.ou n.out.length,sv V.ch n.children.length,sv V.bo n.boxes.length,sv V.se n.seen.length,sv V.pa V.ps.length,sv V.ib n.inbox.length,.int .i64 n.seq,.int .i64 n.lost] 62,rsC b2,jC Gt]) (fun xl hli=>?_) (fun hj=>?_)
 rotate_left
 ·refine HR.cond I (fun h2=>?_) (fun h2=>?_)
  ·have h2:¬jAs n.links=0:=by simpa using h2
   rw[if_neg h2]at e_li;refine HR.region (zn ?_);refine hj (none,0) _ _ (fun w2 _=>?_) ⟨I,I,trivial⟩ ?_
   ·rw [e_li];exact Sl.nil w2
   ·rw [e_li];exact Ent.refl
  ·have h2:jAs n.links=0:=by simpa using h2
   rw[if_pos h2]at e_li;refine HR.skip (hj V.li _ _ (fun w2 hw2=>?_) ⟨I,I,trivial⟩ ?_)
   ·rw [e_li];exact hw2
   ·rw [e_li];exact Ent.refl
 refine zh ?_;refine qh jy I ?_;intro v0;refine zh ?_;refine QB 50 (v':= .int .i64 ((min n.out.length 16:Nat):Int)) I (by rw[<- jLA];rfl) ?_;refine qX (sz:=11) 0 (min n.out.length 16) (qA h.ou) I I I I (.inl ⟨rfl,rfl⟩) (.inr ⟨_,_,_,rfl,rfl,rfl⟩) (Nat.zero_le _) (Nat.min_le_left _ _) (qJ 0 I jy (qA s_ou) I I I (jA jU _) (jR KS _) (by omega) (by omega) ?_);intro v1;refine qM (H':=cSn v1 m.out::[jS b1 [.int .i64 m.addr,.int .i64 m.poll,.int .i64 m.parent,sv xt m.table.length,sv xl m.links.length,sv V.ou n.out.length,sv V.ch n.children.length,sv V.bo n.boxes.length,sv V.se n.seen.length,sv V.pa V.ps.length,sv V.ib n.inbox.length,.int .i64 n.seq,.int .i64 n.lost] 62,rsC b2,jC Gt]) (qC (Nat.zero_add _) (List.nil_append _)) ?_;refine HL.shape 0 I fun a3 c3 hv=>?_
 subst hv;refine qM (H':=[jS b1 [.int .i64 m.addr,.int .i64 m.poll,.int .i64 m.parent,sv xt m.table.length,sv xl m.links.length,sv V.ou n.out.length,sv V.ch n.children.length,sv V.bo n.boxes.length,sv V.se n.seen.length,sv V.pa V.ps.length,sv V.ib n.inbox.length,.int .i64 n.seq,.int .i64 n.lost] 62,rsC b2,jC Gt,cSn (.slice a3 m.out.length c3) m.out]) (Ent.pick [1,2,3,0] I I) (zh ?_);refine qh JB I ?_;intro v0;refine zh ?_;refine QB 60 (v':= .int .i64 ((min n.boxes.length 16:Nat):Int)) I (by rw[<- jLA];rfl) ?_;refine qX (sz:=10) 0 (min n.boxes.length 16) (qA h.bo) I I I I (.inl ⟨rfl,rfl⟩) (.inr ⟨_,_,_,rfl,rfl,rfl⟩) (Nat.zero_le _) (Nat.min_le_left _ _) (qJ 0 I JB (qA s_bo) I I I (jA j4 _) (jR jBa _) (by omega) (by omega) ?_);intro v1;refine qM (H':=cMa v1 m.boxes::[jS b1 [.int .i64 m.addr,.int .i64 m.poll,.int .i64 m.parent,sv xt m.table.length,sv xl m.links.length,.slice a3 m.out.length c3,sv V.ch n.children.length,sv V.bo n.boxes.length,sv V.se n.seen.length,sv V.pa V.ps.length,sv V.ib n.inbox.length,.int .i64 n.seq,.int .i64 n.lost] 62,rsC b2,jC Gt,cSn (.slice a3 m.out.length c3) m.out]) (qC (Nat.zero_add _) (List.nil_append _)) ?_;refine HL.shape 0 I fun a5 c5 hv=>?_
 subst hv;refine qM (H':=[jS b1 [.int .i64 m.addr,.int .i64 m.poll,.int .i64 m.parent,sv xt m.table.length,sv xl m.links.length,.slice a3 m.out.length c3,sv V.ch n.children.length,sv V.bo n.boxes.length,sv V.se n.seen.length,sv V.pa V.ps.length,sv V.ib n.inbox.length,.int .i64 n.seq,.int .i64 n.lost] 62,rsC b2,jC Gt,cSn (.slice a3 m.out.length c3) m.out,cMa (.slice a5 m.boxes.length c5) m.boxes]) (Ent.pick [1,2,3,4,0] I I) (zh ?_);refine HR.J6 3 1 ?_;obtain ⟨g,hg⟩:∃g:Nat->List Int,g=fun k=>((n.children.take k).filter fun c=>Tp.okN c&&!(c==m.addr)).foldl child []:=⟨_,rfl⟩
 have hga:∀k,Asc id (g k):=fun k=>by rw[hg];exact (jAK (l:=(n.children.take k).filter fun c=>Tp.okN c&&!(c==m.addr)) (acc:=[]) List.Pairwise.nil).1
 have hgl:∀k,(g k).length<=1000:=fun k=>Nat.le_trans (jHF (hga k) fun x hx=>by
  rw[hg]at hx;have hx:=((jAK (l:=(n.children.take k).filter fun c=>Tp.okN c&&!(c==m.addr)) (acc:=[]) List.Pairwise.nil).2 x).1 hx;rcases hx with hx|hx
  ·have:=(List.mem_filter.1 hx).2;simp only[Bool.and_eq_true]at this;exact this.1
  ·cases hx) (by decide)
 refine HR.loop (ι:=Nat×Value) (fun x=>x.1<=n.children.length) (fun x=>[(1,ptr b1),(2,ptr b2),(3,x.2),(4,.int .i64 (x.1:Int))]) (fun x=>[cI x.2 (g x.1),jS b1 [.int .i64 m.addr,.int .i64 m.poll,.int .i64 m.parent,sv xt m.table.length,sv xl m.links.length,.slice a3 m.out.length c3,sv V.ch n.children.length,.slice a5 m.boxes.length c5,sv V.se n.seen.length,sv V.pa V.ps.length,sv V.ib n.inbox.length,.int .i64 n.seq,.int .i64 n.lost] 62,rsC b2,jC Gt,cSn (.slice a3 m.out.length c3) m.out,cMa (.slice a5 m.boxes.length c5) m.boxes]) (fun x=>n.children.length-x.1) (0,.slice none 0 0) (Nat.zero_le _) ⟨I,I,I,I,trivial⟩ (by rw[hg];exact Ent.refl) ?_
 rintro ⟨k,v⟩ hk ih
 have hk:k<=n.children.length:=hk;refine zh ?_;refine HR.cond I (fun h2=>?_) (fun h2=>?_)
 ·have hlt:k<n.children.length:=by have:=of_decide_eq_true h2;omega
  obtain ⟨c,hc⟩:=jG hlt;have hgs:=jNn (fun c=>Tp.okN c&&!(c==m.addr)) hc;have hgs:g (k+1)=if (Tp.okN c&&!(c==m.addr))=true then child (g k) c else g k:=by rw[hg];exact hgs
  refine zh ?_;refine HR.join (ι:=Unit) (fun _=>True) (fun _=>[(1,ptr b1),(2,ptr b2),(3,v),(4,.int .i64 (k:Int)),(86,.bool (Tp.okN c&&!(c==m.addr)))]) (fun _=>[cI v (g k),jS b1 [.int .i64 m.addr,.int .i64 m.poll,.int .i64 m.parent,sv xt m.table.length,sv xl m.links.length,.slice a3 m.out.length c3,sv V.ch n.children.length,.slice a5 m.boxes.length c5,sv V.se n.seen.length,sv V.pa V.ps.length,sv V.ib n.inbox.length,.int .i64 n.seq,.int .i64 n.lost] 62,rsC b2,jC Gt,cSn (.slice a3 m.out.length c3) m.out,cMa (.slice a5 m.boxes.length c5) m.boxes]) (fun _ _=>?_) (fun hj=>?_)
  rotate_left
  ·refine qO [(0,true),(1,true),(2,true),(3,true),(4,true),(5,false),(6,true),(7,true),(8,true),(9,true),(10,true),(11,true),(12,true),(13,true),(14,true),(15,true)] [1] I I j3 (by kernel_rfl) ?_;refine zd ?_;refine qc (qA h.ch) j5 k I I I I I hlt ?_;refine QD (qA h.ch) I I I I I (jN hc) ?_;refine HD.one I (qB jQN I I (fun w _=>KL c w) ?_);refine HL.back [1] I I (zd ?_);refine HD.split 77 I (fun hb=>?_) (fun hb=>?_)
   ·refine zd ?_;refine qc (qA h.ch) j5 k I I I I I hlt ?_;refine QD (qA h.ch) I I I I I (jN hc) (zd ?_);refine HD.nil (hj () _ _ trivial ⟨rfl,rfl,rfl,rfl,?_,trivial⟩ Ent.refl);show some (Value.bool (!(c==m.addr)))=some (Value.bool (Tp.okN c&&!(c==m.addr)));rw[show Tp.okN c=true from hb];rfl
   ·refine zd ?_;refine HD.nil (hj () _ _ trivial ⟨rfl,rfl,rfl,rfl,?_,trivial⟩ Ent.refl);show some (Value.bool false)=some (Value.bool (Tp.okN c&&!(c==m.addr)));rw[show Tp.okN c=false from hb];rfl
  refine HR.cond I (fun h3=>?_) (fun h3=>?_)
  ·have h3:(Tp.okN c&&!(c==m.addr))=true:=h3;rw[if_pos h3]at hgs;refine zh ?_;refine qE (qA h.ch) j5 k I I I I hlt ?_;refine qF (qA h.ch) I I I I (jN hc) ?_;refine qQ (r:=fun r:Value=>r) (Q:=fun _=>True) (G0:=[cI v (g k)]) (H0:=[jS b1 [.int .i64 m.addr,.int .i64 m.poll,.int .i64 m.parent,sv xt m.table.length,sv xl m.links.length,.slice a3 m.out.length c3,sv V.ch n.children.length,.slice a5 m.boxes.length c5,sv V.se n.seen.length,sv V.pa V.ps.length,sv V.ib n.inbox.length,.int .i64 n.seq,.int .i64 n.lost] 62,rsC b2,jC Gt,cSn (.slice a3 m.out.length c3) m.out,cMa (.slice a5 m.boxes.length c5) m.boxes]) (G:=fun r=>[cI r (child (g k) c)]) jTF I I I (fun w1 hw1=>jD1 (g k) c v _ w1 (hw1.pick [0] I I) (hgl k) (hga k)) ?_;intro r _;refine zh ?_;refine ih (k+1,r) _ _ hlt (by show n.children.length-(k+1)<n.children.length-k;omega) ⟨I,I,I,I,trivial⟩ ?_;show Ent _ _ [cI r (g (k+1)),jS b1 [.int .i64 m.addr,.int .i64 m.poll,.int .i64 m.parent,sv xt m.table.length,sv xl m.links.length,.slice a3 m.out.length c3,sv V.ch n.children.length,.slice a5 m.boxes.length c5,sv V.se n.seen.length,sv V.pa V.ps.length,sv V.ib n.inbox.length,.int .i64 n.seq,.int .i64 n.lost] 62,rsC b2,jC Gt,cSn (.slice a3 m.out.length c3) m.out,cMa (.slice a5 m.boxes.length c5) m.boxes];rw[hgs];exact Ent.refl
  ·have h3:(Tp.okN c&&!(c==m.addr))=false:=h3;rw[if_neg (by rw[h3];decide)]at hgs;refine zh ?_;refine ih (k+1,v) _ _ hlt (by show n.children.length-(k+1)<n.children.length-k;omega) ⟨I,I,I,I,trivial⟩ ?_;show Ent _ _ [cI v (g (k+1)),jS b1 [.int .i64 m.addr,.int .i64 m.poll,.int .i64 m.parent,sv xt m.table.length,sv xl m.links.length,.slice a3 m.out.length c3,sv V.ch n.children.length,.slice a5 m.boxes.length c5,sv V.se n.seen.length,sv V.pa V.ps.length,sv V.ib n.inbox.length,.int .i64 n.seq,.int .i64 n.lost] 62,rsC b2,jC Gt,cSn (.slice a3 m.out.length c3) m.out,cMa (.slice a5 m.boxes.length c5) m.boxes];rw[hgs];exact Ent.refl
 have hke:k=n.children.length:=by have:=of_decide_eq_false h2;omega
 subst hke;have hgm:g n.children.length=m.children:=by rw[e_ch,hg];show ((n.children.take n.children.length).filter _).foldl child []=_;rw[List.take_length]
 refine qR (H':=[cI v m.children,jS b1 [.int .i64 m.addr,.int .i64 m.poll,.int .i64 m.parent,sv xt m.table.length,sv xl m.links.length,.slice a3 m.out.length c3,sv V.ch n.children.length,.slice a5 m.boxes.length c5,sv V.se n.seen.length,sv V.pa V.ps.length,sv V.ib n.inbox.length,.int .i64 n.seq,.int .i64 n.lost] 62,rsC b2,jC Gt,cSn (.slice a3 m.out.length c3) m.out,cMa (.slice a5 m.boxes.length c5) m.boxes]) (Ent.of_eq (by rw[<- hgm])) (zh ?_);refine HL.shape 0 I fun a4 c4 hv=>?_
 subst hv;refine qM (H':=[jS b1 [.int .i64 m.addr,.int .i64 m.poll,.int .i64 m.parent,sv xt m.table.length,sv xl m.links.length,.slice a3 m.out.length c3,sv V.ch n.children.length,.slice a5 m.boxes.length c5,sv V.se n.seen.length,sv V.pa V.ps.length,sv V.ib n.inbox.length,.int .i64 n.seq,.int .i64 n.lost] 62,rsC b2,jC Gt,cSn (.slice a3 m.out.length c3) m.out,cMa (.slice a5 m.boxes.length c5) m.boxes,cI (.slice a4 m.children.length c4) m.children]) (Ent.pick [1,2,3,4,5,0] I I) (zh ?_);refine qh Zm I ?_;intro v0;refine zh ?_;refine QB 103 (v':= .int .i64 ((n.seen.length-32:Nat):Int)) I (by rw[<- max0]) (qX (sz:=2) (n.seen.length-32) n.seen.length (qA h.se) I I I I (.inr ⟨_,_,_,rfl,rfl,rfl⟩) (.inl ⟨rfl,rfl⟩) (Nat.sub_le _ _) (Nat.le_refl _) ?_);refine qJ 0 I Zm (qA s_se) I I I (jA J9 _) (jR jMi _) (by omega) (by omega) ?_;intro v1;refine qM (H':=cPr v1 m.seen::[jS b1 [.int .i64 m.addr,.int .i64 m.poll,.int .i64 m.parent,sv xt m.table.length,sv xl m.links.length,.slice a3 m.out.length c3,.slice a4 m.children.length c4,.slice a5 m.boxes.length c5,sv V.se n.seen.length,sv V.pa V.ps.length,sv V.ib n.inbox.length,.int .i64 n.seq,.int .i64 n.lost] 62,rsC b2,jC Gt,cSn (.slice a3 m.out.length c3) m.out,cMa (.slice a5 m.boxes.length c5) m.boxes,cI (.slice a4 m.children.length c4) m.children]) (qC (Nat.zero_add _) (List.nil_append _)) ?_;refine HL.shape 0 I fun a6 c6 hv=>?_
 subst hv;refine qM (H':=[jS b1 [.int .i64 m.addr,.int .i64 m.poll,.int .i64 m.parent,sv xt m.table.length,sv xl m.links.length,.slice a3 m.out.length c3,.slice a4 m.children.length c4,.slice a5 m.boxes.length c5,sv V.se n.seen.length,sv V.pa V.ps.length,sv V.ib n.inbox.length,.int .i64 n.seq,.int .i64 n.lost] 62,rsC b2,jC Gt,cSn (.slice a3 m.out.length c3) m.out,cMa (.slice a5 m.boxes.length c5) m.boxes,cI (.slice a4 m.children.length c4) m.children,cPr (.slice a6 m.seen.length c6) m.seen]) (Ent.pick [1,2,3,4,5,6,0] I I) (zh ?_);refine qh jAb I ?_;intro v0;refine zh ?_;refine QB 113 (v':= .int .i64 ((min n.inbox.length 256:Nat):Int)) I (by rw[<- jLA];rfl) ?_;refine qX (sz:=2) 0 (min n.inbox.length 256) (qA h.ib) I I I I (.inl ⟨rfl,rfl⟩) (.inr ⟨_,_,_,rfl,rfl,rfl⟩) (Nat.zero_le _) (Nat.min_le_left _ _) (qJ 0 I jAb (qA s_ib) I I I (jA jAh _) (jR jNu _) (by omega) (by omega) ?_);intro v1;refine qM (H':=cDe v1 m.inbox::[jS b1 [.int .i64 m.addr,.int .i64 m.poll,.int .i64 m.parent,sv xt m.table.length,sv xl m.links.length,.slice a3 m.out.length c3,.slice a4 m.children.length c4,.slice a5 m.boxes.length c5,.slice a6 m.seen.length c6,sv V.pa V.ps.length,sv V.ib n.inbox.length,.int .i64 n.seq,.int .i64 n.lost] 62,rsC b2,jC Gt,cSn (.slice a3 m.out.length c3) m.out,cMa (.slice a5 m.boxes.length c5) m.boxes,cI (.slice a4 m.children.length c4) m.children,cPr (.slice a6 m.seen.length c6) m.seen]) (qC (Nat.zero_add _) (List.nil_append _)) ?_;refine HL.shape 0 I fun a7 c7 hv=>?_
 subst hv;refine qM (H':=[jS b1 [.int .i64 m.addr,.int .i64 m.poll,.int .i64 m.parent,sv xt m.table.length,sv xl m.links.length,.slice a3 m.out.length c3,.slice a4 m.children.length c4,.slice a5 m.boxes.length c5,.slice a6 m.seen.length c6,sv V.pa V.ps.length,sv V.ib n.inbox.length,.int .i64 n.seq,.int .i64 n.lost] 62,rsC b2,jC Gt,cSn (.slice a3 m.out.length c3) m.out,cMa (.slice a5 m.boxes.length c5) m.boxes,cI (.slice a4 m.children.length c4) m.children,cPr (.slice a6 m.seen.length c6) m.seen,cDe (.slice a7 m.inbox.length c7) m.inbox]) (Ent.pick [1,2,3,4,5,6,7,0] I I) ?_
 repeat' (first|refine zh ?_|apply zb ?_ ?_|exact zc|(refine zi fun hb=>?_;try simp at hb)|fail)
 refine HR.join (ι:=Unit) (fun _=>True) (fun _=>[(1,ptr b1),(2,ptr b2)]) (fun _=>[jS b1 [.int .i64 m.addr,.int .i64 m.poll,.int .i64 m.parent,sv xt m.table.length,sv xl m.links.length,.slice a3 m.out.length c3,.slice a4 m.children.length c4,.slice a5 m.boxes.length c5,.slice a6 m.seen.length c6,sv V.pa V.ps.length,.slice a7 m.inbox.length c7,.int .i64 m.seq,.int .i64 n.lost] 62,rsC b2,jC Gt,cSn (.slice a3 m.out.length c3) m.out,cMa (.slice a5 m.boxes.length c5) m.boxes,cI (.slice a4 m.children.length c4) m.children,cPr (.slice a6 m.seen.length c6) m.seen,cDe (.slice a7 m.inbox.length c7) m.inbox]) (fun _ _=>?_) (fun hj=>?_)
 rotate_left
 ·refine HR.cond I (fun h2=>?_) (fun h2=>?_)
  ·have h2:(decide (n.seq<0)||decide (n.seq>65535))=true:=h2;have h3:n.seq<0\/n.seq>65535:=by simpa using h2
   refine HR.region (zn ?_);refine hj () _ _ trivial ⟨I,I,trivial⟩ (Ent.of_eq ?_);rw[e_sq,if_pos h3];rfl
  ·have h2:(decide (n.seq<0)||decide (n.seq>65535))=false:=h2;have h3:¬(n.seq<0\/n.seq>65535):=by simpa using h2
   refine HR.skip (hj () _ _ trivial ⟨I,I,trivial⟩ (Ent.of_eq ?_));rw[e_sq,if_neg h3];rfl
 refine zh ?_;refine qB jRk I I (fun w _=>jBU n.lost 0 1099511627776 (by decide) w) (zh ?_);refine HR.ret Tryz.func70 I [_] (fun w hw=>⟨⟨_,rfl,jQ hw 1 I I I I rfl⟩,trivial⟩) ?_;refine fun w' hw=>⟨(⟨xt,xl,(a3,c3),(a4,c4),(a5,c5),(a6,c6),V.pa,(a7,c7),V.ps⟩,Gt),?_,⟨rfl,rfl,ht,hli⟩,hw.pick [2,3,4,5,6,7] I rfl⟩
 show _=Ending.returned (.agg ⟨ndC ⟨xt,xl,(a3,c3),(a4,c4),(a5,c5),(a6,c6),V.pa,(a7,c7),V.ps⟩ m⟩);rw[show ndC ⟨xt,xl,(a3,c3),(a4,c4),(a5,c5),(a6,c6),V.pa,(a7,c7),V.ps⟩ m=ndC ⟨xt,xl,(a3,c3),(a4,c4),(a5,c5),(a6,c6),V.pa,(a7,c7),V.ps⟩ { m with lost:=clamp n.lost 0 1099511627776 } from by rw[<- e_lo]];rfl
end Go.Proofs.YtgfdoognildoeaaGreat
