/- Part of a proof. Conditions: none. -/
import Derived.Test.YtgfdoognildoeaaGreatSB5
set_option linter.unusedVariables false
set_option linter.unusedSectionVars false
set_option linter.unusedSimpArgs false
set_option maxRecDepth 100000
set_option maxHeartbeats 4000000
namespace Go.Proofs.YtgfdoognildoeaaGreat
open Go.GX Go.RowKit
attribute [local irreducible] Calls Run JH JL zU HR HL HD jS jM ZN Rd jg Jf
open Nd
theorem jS2:IsFn Tryz.prog 209:=zF Tryz.func209 I
theorem jTV:IsFn Tryz.prog 101:=zF Tryz.func101 I
theorem fn270:IsFn Tryz.prog 270:=zF Tryz.func270 I
theorem jSy:IsFn Tryz.prog 217:=zF Tryz.func217 I
theorem fn62:IsFn Tryz.prog 62:=zF Tryz.func62 I
theorem fn63:IsFn Tryz.prog 63:=zF Tryz.func63 I
theorem fn307:IsFn Tryz.prog 307:=zF Tryz.func307 I
theorem fn280:IsFn Tryz.prog 280:=zF Tryz.func280 I
theorem jSp:IsFn Tryz.prog 239:=zF Tryz.func239 I
theorem jF4 (t:List Ro) (self:Int) (v:Value) (w:World) (hv:Sl w v (cellsOf roC t) t.length) (hl:t.length<=1000):
  Calls Tryz.prog 209 #[v,.int .i64 self] w fun e w'=>∃v',e= .returned v'/\Sat (base w) [jM v' 94 4 (jB6 t self).length (cellsOf roC (jB6 t self))] w':=by
 have ht:=ze t self;obtain ⟨x,hx,hd,hat⟩:=jJc t self;have hxo:=KX (ht.rng x (List.mem_of_getElem? hx));have hlt:=(List.getElem?_eq_some_iff.1 hx).1;have hrb:=jF3 hx hd;have hhas:=jMS hx hd;have h24:=ht.len;refine zE Tryz.func209 I [(0,v),(1,.int .i64 self)] (zh ?_);refine qB jQM I I (fun w _=>jCK self w) (zh ?_);refine qI jRr I I (fun w hw=>jEr t self v w ((qA hv).at hw) hl) ?_;intro v1;obtain ⟨T,hT⟩:∃T,T=ZR t self:=⟨_,rfl⟩;rw[<- hT]at hx hlt hrb hhas h24 ⊢;obtain ⟨P,hP⟩:∃P,P=rpos T (lim self):=⟨_,rfl⟩;rw[<- hP]at hx hlt hrb;refine zh ?_;refine qB jRc I I (fun w hw=>by have:=jCj T (lim self) v1 w ((Rd.own 0 rfl).at hw) (by omega) (hT▸ht.asc) (hT▸jJb) (jJ7 self);rw[hhas,<- hP]at this;exact this) ?_;refine zh ?_;refine qE (Rd.own 0 I) jZ P I I I I hlt ?_;refine qY (Rd.own 0 I) (by rw[jA jP];omega) I I I I I I ?_;refine qF (Rd.own 0 I) I I I I (jJ jP hx (i:=1) I) (zh ?_);refine HR.cond I (fun h=>?_) (fun h=>?_)
 ·have h:x.sq<65534:=of_decide_eq_true h;rw[if_pos h]at hrb
  repeat' (first|refine zh ?_|refine qE (Rd.own 0 I) jZ P I I I I hlt ?_|refine qY (Rd.own 0 I) (by rw[jA jP];omega) I I I I I I ?_|refine qF (Rd.own 0 I) I I I I (jJ jP hx (i:=1) I) ?_|refine qw (j:=P*4+1) 0 I I I I I I I (by rw[jA jP];omega) ?_|fail)
  refine HR.ret Tryz.func209 I [_] (fun _ _=>⟨I,trivial⟩) ?_;refine fun w' hw=>⟨v1,rfl,qC ?_ ?_ w' hw⟩
  ·rw [hrb,List.length_set]
  ·rw [hrb];exact JR (i:=1) jP hx I (by decide)
 ·have h:¬x.sq<65534:=of_decide_eq_false h;rw[if_neg h]at hrb;refine zh ?_;refine HR.ret Tryz.func209 I [_] (fun _ _=>⟨I,trivial⟩) ?_;refine fun w' hw=>⟨v1,rfl,?_⟩
  rw[hrb];exact hw
theorem jCq (t:List Ro) (self:Int) (v:Value) (w:World) (hv:Sl w v (cellsOf roC t) t.length) (hl:t.length<=1000):
  Calls Tryz.prog 101 #[v,.int .i64 self] w fun e w'=>∃v',e= .returned v'/\Sat (base w) [jM v' 94 4 (jB6 t self).length (cellsOf roC (jB6 t self))] w':=by
 have ht:=ze t self;obtain ⟨x,hx,hd,hat⟩:=jJc t self;have hxo:=KX (ht.rng x (List.mem_of_getElem? hx));have hlt:=(List.getElem?_eq_some_iff.1 hx).1;have hrb:=jF3 hx hd;have h24:=ht.len;have hlk:jB4 (ZR t self) (lim self)=rpos (ZR t self) (lim self):=by
  rcases zV (ZR t self) (lim self)with ⟨_,e⟩|⟨i,y,e,hy,hyd,_⟩
  ·rw [hat]at e;cases e
  ·rw [e,(jCi ht.asc hy hyd).1]
 refine zE Tryz.func101 I [(0,v),(1,.int .i64 self)] (zh ?_);refine qI jRq I I (fun w hw=>Kc t self v w ((qA hv).at hw) hl) ?_;intro v1;obtain ⟨T,hT⟩:∃T,T=ZR t self:=⟨_,rfl⟩;rw[<- hT]at hx hlt hrb hlk h24 ⊢;obtain ⟨P,hP⟩:∃P,P=rpos T (lim self):=⟨_,rfl⟩;rw[<- hP]at hx hlt hrb hlk;refine zh ?_;refine qB jGx I I (fun w _=>zx self w) ?_;refine qB jQJ I I (fun w hw=>by have:=kW T (lim self) v1 w ((Rd.own 0 rfl).at hw) (by omega);rw[hlk]at this;exact this) ?_;refine zh ?_;refine qE (Rd.own 0 I) jZ P I I I I hlt ?_;refine qY (Rd.own 0 I) (by rw[jA jP];omega) I I I I I I ?_;refine qF (Rd.own 0 I) I I I I (jJ jP hx (i:=1) I) (zh ?_);refine HR.cond I (fun h=>?_) (fun h=>?_)
 ·have h:x.sq<65534:=of_decide_eq_true h;rw[if_pos h]at hrb
  repeat' (first|refine zh ?_|refine qE (Rd.own 0 I) jZ P I I I I hlt ?_|refine qY (Rd.own 0 I) (by rw[jA jP];omega) I I I I I I ?_|refine qF (Rd.own 0 I) I I I I (jJ jP hx (i:=1) I) ?_|refine qw (j:=P*4+1) 0 I I I I I I I (by rw[jA jP];omega) ?_|fail)
  refine HR.ret Tryz.func101 I [_] (fun _ _=>⟨I,trivial⟩) ?_;refine fun w' hw=>⟨v1,rfl,qC ?_ ?_ w' hw⟩
  ·rw [hrb,List.length_set]
  ·rw [hrb];exact JR (i:=1) jP hx I (by decide)
 ·have h:¬x.sq<65534:=of_decide_eq_false h;rw[if_neg h]at hrb;refine zh ?_;refine HR.ret Tryz.func101 I [_] (fun _ _=>⟨I,trivial⟩) ?_;refine fun w' hw=>⟨v1,rfl,?_⟩
  rw[hrb];exact hw
theorem jPe (t:List Ro) (self next:Int) (v:Value) (w:World) (hv:Sl w v (cellsOf roC t) t.length) (hl:t.length<=1000):
  Calls Tryz.prog 62 #[v,.int .i64 self,.int .i64 next] w fun e w'=>∃v',e= .returned v'/\Sat (base w) [jM v' 94 4 (jMY t self next).length (cellsOf roC (jMY t self next))] w':=by
 have ht:=ze t self;have h24:=ht.len;rw[jE1];refine zE Tryz.func62 I [(0,v),(1,.int .i64 self),(2,.int .i64 next)] (zh ?_);refine qB jQM I I (fun w _=>jCK self w) (zh ?_);refine qI jRr I I (fun w hw=>jEr t self v w ((qA hv).at hw) hl) ?_;intro v1;have hrng:=ht.rng;obtain ⟨T,hT⟩:∃T,T=ZR t self:=⟨_,rfl⟩;rw[<- hT]at h24 hrng ⊢;refine zh ?_;refine qB jNo I I (fun w _=>kD next w) (zh ?_);refine HR.cond I (fun h0=>?_) (fun h0=>?_)
 ·have h0:Tp.okN next=false:=by simpa using h0
  refine zh ?_;refine HR.ret Tryz.func62 I [_] (fun _ _=>⟨I,trivial⟩) ?_;refine fun w' hw=>⟨v1,rfl,?_⟩
  rw[show T.map (jDS self next)=T from (List.map_congr_left fun a _=>by unfold jDS;rw[if_neg (by rw[h0];simp)];rfl).trans (List.map_id T)];exact hw
 have h0:Tp.okN next=true:=by simpa using h0
 refine zh ?_;refine qD (Rd.own 0 I) I I I (zh ?_);refine HR.loop (ι:=Nat) (fun k=>k<=T.length) (fun k=>[(0,v1),(1,.int .i64 (lim self)),(2,.int .i64 next),(18,v1),(19,.int .i64 (T.length:Int)),(20,.int .i64 (k:Int))]) (fun k=>[jM v1 94 4 T.length (cellsOf roC ((T.take k).map (jDS self next)++T.drop k))]) (fun k=>T.length-k) 0 (Nat.zero_le _) ⟨I,I,I,I,I,I,trivial⟩ Ent.refl ?_;intro k hk ih;have hml:=Zv (jDS self next) T k;refine zh ?_;refine HR.cond I (fun h2=>?_) (fun h2=>?_)
 ·have hlt:k<T.length:=by have:=of_decide_eq_true h2;omega
  obtain ⟨x,hx⟩:=jG hlt;have hmg:=zC (jDS self next) hx;have hms:=K9 (jDS self next) hx;have hxo:=KX (hrng x (List.mem_of_getElem? hx))
  repeat' (first|refine zh ?_|refine qE (Rd.own 0 I) jZ k I I I I hlt ?_|refine qN (Rd.own 0 I) I I I I (by simp) I (jD jP hmg) ?_|intro (bk:Nat))
  repeat' (first|refine zh ?_|apply zb ?_ ?_|exact zc|(refine zi fun hb=>?_;try simp at hb)|fail)
  refine HR.cond I (fun h3=>?_) (fun h3=>?_)
  ·have h3:((x.nx==next)&&(x.dest != lim self))=true:=h3;simp only[Bool.and_eq_true,beq_iff_eq,bne_iff_ne,ne_eq]at h3;have hb:jDS self next x=⟨x.dest,x.sq+1,255,255⟩:=by unfold jDS;rw[if_pos ⟨h0,h3.1,h3.2⟩]
   rw[hb]at hms;refine zh ?_;refine qE (Rd.own 1 I) jZ k I I I I hlt ?_;refine ql (us:=roC ⟨x.dest,x.sq+1,255,255⟩) (j:=k*4) 1 I I I I I I I (by rw[jA jP,hml];show k*4+4<=_;omega) (by simp) ?_;refine zh ?_;refine ih (k+1) _ _ hlt (by omega) ⟨I,I,I,I,I,I,trivial⟩ (Ent.trans (Ent.pick (H':=[jM v1 94 4 T.length _]) [1] I I) (qC I ?_));rw[<- hms];exact j6 (i:=0) jP hmg I (show 0+4<=4 by decide)
  ·have h3:((x.nx==next)&&(x.dest != lim self))=false:=h3;have hb:jDS self next x=x:=by
    unfold jDS;rw[if_neg]
    rintro ⟨_,e1,e2⟩
    rw[show (x.nx==next)=true by simpa using e1,show (x.dest != lim self)=true by simpa using e2]at h3;cases h3
   refine zh ?_;refine ih (k+1) _ _ hlt (by omega) ⟨I,I,I,I,I,I,trivial⟩ (Ent.trans (Ent.pick [1] I I) (qC I ?_));rw[ZM _ hx hb]
 ·have hke:k=T.length:=by have:=of_decide_eq_false h2;omega
  subst hke;rw[List.take_length,List.drop_length,List.append_nil];refine zh ?_;refine HR.ret Tryz.func62 I [_] (fun _ _=>⟨I,trivial⟩) ?_
  exact fun w' hw=>⟨v1,rfl,qC (by simp) I w' hw⟩
theorem jKx (t:List Ro) (self next:Int) (v:Value) (w:World) (hv:Sl w v (cellsOf roC t) t.length) (hl:t.length<=1000):
  Calls Tryz.prog 63 #[v,.int .i64 self,.int .i64 next] w fun e w'=>∃v',e= .returned v'/\Sat (base w) [jM v' 94 4 (jMY t self next).length (cellsOf roC (jMY t self next))] w':=by
 have ht:=ze t self;have h24:=ht.len;rw[jE1];refine zE Tryz.func63 I [(0,v),(1,.int .i64 self),(2,.int .i64 next)] (zh ?_);refine qI jRq I I (fun w hw=>Kc t self v w ((qA hv).at hw) hl) ?_;intro v1;have hrng:=ht.rng;obtain ⟨T,hT⟩:∃T,T=ZR t self:=⟨_,rfl⟩;rw[<- hT]at h24 hrng ⊢;refine zh ?_;refine HR.loop (ι:=Nat) (fun k=>k<=T.length) (fun k=>[(1,.int .i64 self),(2,.int .i64 next),(7,v1),(8,.int .i64 (k:Int))]) (fun k=>[jM v1 94 4 T.length (cellsOf roC ((T.take k).map (jDS self next)++T.drop k))]) (fun k=>T.length-k) 0 (Nat.zero_le _) ⟨I,I,I,I,trivial⟩ Ent.refl ?_;intro k hk ih;have hml:=Zv (jDS self next) T k;refine zh ?_;refine qD (Rd.own 0 I) I I I (zh ?_);refine HR.cond I (fun h2=>?_) (fun h2=>?_)
 ·have hlt:k<T.length:=by have:=of_decide_eq_true h2;omega
  obtain ⟨x,hx⟩:=jG hlt;have hmg:=zC (jDS self next) hx;have hms:=K9 (jDS self next) hx;have hxo:=KX (hrng x (List.mem_of_getElem? hx));refine zh ?_;refine qK j3 (by kernel_rfl) ?_
  repeat' (first|refine zq ?_|refine qz jGx I I (fun w _=>zx _ w) ?_|refine qW (Rd.own 0 I) jZ k I I I I hlt ?_|refine QE (Rd.own 0 I) (by rw[jA jP,hml];omega) I I I I I I ?_|refine qj (Rd.own 0 I) I I I I (jJ jP hmg (i:=3) I) ?_|refine qj (Rd.own 0 I) I I I I (jJ jP hmg (i:=0) I) ?_|apply zb ?_ ?_|exact zc|(refine zi fun hb=>?_;try simp at hb)|fail)
  refine HR.cond I (fun h3=>?_) (fun h3=>?_)
  ·have h3:(((next==lim next)&&(x.nx==next))&&(x.dest != lim self))=true:=h3;rw[jQz]at h3;simp only[Bool.and_eq_true,beq_iff_eq,bne_iff_ne,ne_eq]at h3;have hb:jDS self next x=⟨x.dest,x.sq+1,255,255⟩:=by unfold jDS;rw[if_pos ⟨h3.1.1,h3.1.2,h3.2⟩]
   rw[hb]at hms;refine yL [(0,true),(1,true),(2,true),(3,true),(4,true),(5,true),(6,true),(7,true),(8,true),(9,true),(10,true),(11,true),(12,true),(13,true),(14,true)] 15 [0] I I j3 (by kernel_rfl) ?_
   repeat' (first|refine zd ?_|refine qc (Rd.own 0 I) jZ k I I I I I hlt ?_|refine Q9 (Rd.own 0 I) (by rw[jA jP,hml];omega) I I I I I I I ?_|refine QD (Rd.own 0 I) I I I I I (jJ jP hmg (i:=0) I) ?_|refine QD (Rd.own 0 I) I I I I I (jJ jP hmg (i:=1) I) ?_|fail)
   refine qo I (ql (us:=roC ⟨x.dest,x.sq+1,255,255⟩) (j:=k*4) 0 I I I I I I I (by rw[jA jP,hml];show k*4+4<=_;omega) (by simp) ?_);refine zn ?_;refine zh ?_;refine ih (k+1) _ _ hlt (by omega) ⟨I,I,I,I,trivial⟩ (qC I ?_);rw[<- hms];exact j6 (i:=0) jP hmg I (show 0+4<=4 by decide)
  ·have h3:(((next==lim next)&&(x.nx==next))&&(x.dest != lim self))=false:=h3;rw[jQz]at h3;have hb:jDS self next x=x:=by
    unfold jDS;rw[if_neg]
    rintro ⟨e0,e1,e2⟩
    rw[e0,show (x.nx==next)=true by simpa using e1,show (x.dest != lim self)=true by simpa using e2]at h3;cases h3
   refine zh ?_;refine ih (k+1) _ _ hlt (by omega) ⟨I,I,I,I,trivial⟩ (qC I ?_);rw[ZM _ hx hb]
 ·have hke:k=T.length:=by have:=of_decide_eq_false h2;omega
  subst hke;rw[List.take_length,List.drop_length,List.append_nil];refine zh ?_;refine HR.ret Tryz.func63 I [_] (fun _ _=>⟨I,trivial⟩) ?_
  exact fun w' hw=>⟨v1,rfl,qC (by simp) I w' hw⟩
theorem jMT {t:List Ro} (ha:Asc (·.dest) t) {d:Int} (h:rat t d=none):jQm t d=false:=by
 unfold jQm;have:=yu ha (n:=d) h
 split
 ·rename_i x hx
  simpa using this x hx
 ·rfl
theorem jKh (t:List Ro) (fr:Int) (r:Ro) (v:Value) (B0:Base) (w:World) (hw0:Sat B0 [jM v 94 4 t.length (cellsOf roC t)] w) (hl:t.length<=24) (hasc:Asc (·.dest) t) (hok:∀x∈t,Tp.okN x.dest=true) (hr:Tp.okN r.dest=true):
  Calls Tryz.prog 270 #[v,.int .i64 fr,.agg ⟨roC r⟩] w fun e w'=>∃x:Value,e= .returned x/\True/\Sat ⟨w,zN [jM v 94 4 t.length (cellsOf roC t)]⟩ [jM x 94 4 (jr t fr r).length (cellsOf roC (jr t fr r))] w':=by
 have hple:=jML t r.dest;refine jc [jM v 94 4 t.length (cellsOf roC t)] (hw0) Tryz.func270 I (Nat.le_of_ble_eq_true I) (HR.sub (σ':=[(0,v),(1,.int .i64 fr),(2,.agg ⟨roC r⟩)]) ⟨I,I,I,trivial⟩ ?_);rcases hf:rat t r.dest with _|o
 ·have hh:=jMT hasc hf
  repeat' (first|refine zh ?_|refine qB (r:= .tuple ⟨[.int .i64 (rpos t r.dest:Int),.bool false]⟩) jRc I I (fun w hw=>by have:=jCj t r.dest v w ((Rd.own 1 rfl).at hw) (by omega) hasc hok hr;rw[hh]at this;exact this) ?_|intro (bk:Nat))
  cases hfin:fin r
  ·refine qK j3 (by kernel_rfl) ?_;refine zq ?_;refine qz (r:= .bool false) jAP I I (fun w _=>by have:=JY r w;rw[hfin]at this;exact this) ?_;refine zq ?_;refine zh ?_;refine qB (r:= .bool false) jAP I I (fun w _=>by have:=JY r w;rw[hfin]at this;exact this) ?_;refine zh ?_;refine qK j3 (by kernel_rfl) (zq ?_);refine qz (r:= .bool false) jAP I I (fun w _=>by have:=JY r w;rw[hfin]at this;exact this) ?_;refine zq ?_;refine zh ?_;refine HR.ret Tryz.func270 I [_] (fun _ _=>⟨I,trivial⟩) ?_;refine fun w' hw=>⟨_,rfl,trivial,?_⟩
   have e:jr t fr r=t:=by unfold jr;rw[hf];simp only;rw[if_neg (by rw[hfin];simp)]
   rw[e];exact hw.pick [1] I I
  ·refine qK j3 (by kernel_rfl) ?_;refine zq ?_;refine qz (r:= .bool true) jAP I I (fun w _=>by have:=JY r w;rw[hfin]at this;exact this) ?_;refine zq ?_;refine zh ?_;refine qB (r:= .bool true) jAP I I (fun w _=>by have:=JY r w;rw[hfin]at this;exact this) ?_;refine zh ?_;refine qD (Rd.own 1 I) I I I (zh ?_);refine HR.cond I (fun h3=>?_) (fun h3=>?_)
   ·have h3:t.length<24:=by have:=of_decide_eq_true h3;omega
    refine zh ?_;refine qH jZ I I I I I (by decide) (by decide) ?_;intro va;refine qM (Ent.pick (H':=[jM va 94 4 1 (roC r),jM v 94 4 t.length (cellsOf roC t)]) [0,2] I I) (qQ (r:=fun r:Value=>r) (Q:=fun _=>True) (G0:=[jM va 94 4 1 (roC r),jM v 94 4 t.length (cellsOf roC t)]) (H0:=[]) (G:=fun x=>[jM x 94 4 (t.take (rpos t r.dest)++r::t.drop (rpos t r.dest)).length (cellsOf roC (t.take (rpos t r.dest)++r::t.drop (rpos t r.dest)))]) fn300 I I I (fun w hw=>jNU t r (rpos t r.dest) v va _ w hw hple (by omega)) ?_);intro v2 _;refine zh ?_;refine HR.ret Tryz.func270 I [_] (fun _ _=>⟨I,trivial⟩) ?_;refine fun w' hw=>⟨_,rfl,trivial,?_⟩
    have e:jr t fr r=t.take (rpos t r.dest)++r::t.drop (rpos t r.dest):=by unfold jr;rw[hf];simp only;rw[if_pos ⟨hfin,h3⟩]
    rw[e];exact hw
   ·have h3:¬t.length<24:=by have:=of_decide_eq_false h3;omega
    refine HR.ctl I (qK j3 (by kernel_rfl) (zq ?_));refine qz (r:= .bool true) jAP I I (fun w _=>by have:=JY r w;rw[hfin]at this;exact this) ?_;refine zq ?_;refine zh ?_;refine HR.ret Tryz.func270 I [_] (fun _ _=>⟨I,trivial⟩) ?_;refine fun w' hw=>⟨_,rfl,trivial,?_⟩
    have e:jr t fr r=t:=by unfold jr;rw[hf];simp only;rw[if_neg (by omega)]
    rw[e];exact hw.pick [1] I I
 ·obtain ⟨hx,hd,hlt⟩:=Asc.pos hasc hf;have hx:t[rpos t r.dest]? =some o:=hx;have hlt:rpos t r.dest<t.length:=hlt;have hh:=jMS hx hd
  repeat' (first|refine zh ?_|refine qB (r:= .tuple ⟨[.int .i64 (rpos t r.dest:Int),.bool true]⟩) jRc I I (fun w hw=>by have:=jCj t r.dest v w ((Rd.own 1 rfl).at hw) (by omega) hasc hok hr;rw[hh]at this;exact this) ?_|intro (bk:Nat))
  cases hfin:fin r
  ·refine qK j3 (by kernel_rfl) ?_;refine zq ?_;refine qz (r:= .bool false) jAP I I (fun w _=>by have:=JY r w;rw[hfin]at this;exact this) ?_;refine zq ?_;refine zh ?_;refine qB (r:= .bool false) jAP I I (fun w _=>by have:=JY r w;rw[hfin]at this;exact this) ?_;refine zh ?_;refine qK j3 (by kernel_rfl) ?_
   repeat' (first|refine zq ?_|refine qz (r:= .bool false) jAP I I (fun w _=>by have:=JY r w;rw[hfin]at this;exact this) ?_|refine qW (Rd.own 1 I) jZ (rpos t r.dest) I I I I hlt ?_|refine QE (Rd.own 1 I) (by rw[jA jP];omega) I I I I I I ?_|refine qj (Rd.own 1 I) I I I I (jJ jP hx (i:=3) I) ?_|refine qj (Rd.own 1 I) I I I I (jJ jP hx (i:=1) I) ?_|apply zb ?_ ?_|exact zc|(refine zi fun hb=>?_;try simp at hb)|fail)
   refine HR.cond I (fun h3=>?_) (fun h3=>?_)
   ·have h3:((o.nx==fr)&&decide (o.sq<r.sq))=true:=h3;have e:jr t fr r=t.set (rpos t r.dest) r:=by unfold jr;rw[hf];simp only;rw[hfin];exact if_pos (by simpa using h3)
    refine zh ?_;refine qE (Rd.own 1 I) jZ (rpos t r.dest) I I I I hlt ?_;refine ql (us:=roC r) (j:=rpos t r.dest*4) 1 I I I I I I I (by rw[jA jP];show rpos t r.dest*4+4<=_;omega) (by simp) ?_;refine zh ?_;refine HR.ret Tryz.func270 I [_] (fun _ _=>⟨I,trivial⟩) ?_;refine fun w' hw=>⟨_,rfl,trivial,qC ?_ ?_ w' (hw.pick [1] I rfl)⟩
    ·rw [e];simp
    ·rw [e];exact j6 (i:=0) jP hx I (show 0+4<=4 by decide)
   ·have h3:((o.nx==fr)&&decide (o.sq<r.sq))=false:=h3;have e:jr t fr r=t:=by unfold jr;rw[hf];simp only;rw[hfin];exact if_neg (by simpa using h3)
    refine zh ?_;refine HR.ret Tryz.func270 I [_] (fun _ _=>⟨I,trivial⟩) ?_;refine fun w' hw=>⟨_,rfl,trivial,?_⟩
    rw[e];exact hw.pick [1] I I
  ·refine qK j3 (by kernel_rfl) ?_;refine zq ?_;refine qz (r:= .bool true) jAP I I (fun w _=>by have:=JY r w;rw[hfin]at this;exact this) ?_;refine zq ?_;refine qW (Rd.own 1 I) jZ (rpos t r.dest) I I I I hlt ?_;refine qy (Rd.own 1 I) I I I I (by simp) I (jD jP hx) ?_;refine qz fn299 I I (fun w _=>jHn r o w) (zq ?_);refine HR.cond I (fun h3=>?_) (fun h3=>?_)
   ·have h3:better r o=true:=h3;have e:jr t fr r=t.set (rpos t r.dest) r:=by unfold jr;rw[hf];simp only;rw[hfin];exact if_pos h3
    refine zh ?_;refine qE (Rd.own 1 I) jZ (rpos t r.dest) I I I I hlt ?_;refine ql (us:=roC r) (j:=rpos t r.dest*4) 1 I I I I I I I (by rw[jA jP];show rpos t r.dest*4+4<=_;omega) (by simp) ?_;refine zh ?_;refine HR.ret Tryz.func270 I [_] (fun _ _=>⟨I,trivial⟩) ?_;refine fun w' hw=>⟨_,rfl,trivial,qC ?_ ?_ w' (hw.pick [1] I rfl)⟩
    ·rw [e];simp
    ·rw [e];exact j6 (i:=0) jP hx I (show 0+4<=4 by decide)
   ·have h3:better r o=false:=h3;have e:jr t fr r=t:=by unfold jr;rw[hf];simp only;rw[hfin];exact if_neg (by simpa using h3)
    refine zh ?_;refine qB (r:= .bool true) jAP I I (fun w _=>by have:=JY r w;rw[hfin]at this;exact this) ?_;refine zh ?_;refine qK j3 (by kernel_rfl) (zq ?_);refine qz (r:= .bool true) jAP I I (fun w _=>by have:=JY r w;rw[hfin]at this;exact this) ?_;refine zq ?_;refine zh ?_;refine HR.ret Tryz.func270 I [_] (fun _ _=>⟨I,trivial⟩) ?_;refine fun w' hw=>⟨_,rfl,trivial,?_⟩
    rw[e];exact hw.pick [1] I I
theorem jJZ (t:List Ro) (self fr cost:Int) (adv:List Ro) (v va:Value) (w:World) (hv:Sl w v (cellsOf roC t) t.length) (hva:Sl w va (cellsOf roC adv) adv.length) (hl:t.length<=1000) (hla:adv.length<=1000):
  Calls Tryz.prog 217 #[v,.int .i64 self,.int .i64 fr,.int .i64 cost,va] w fun e w'=>∃v',e= .returned v'/\Sat (base w) [jM v' 94 4 (jBR t self fr cost adv).length (cellsOf roC (jBR t self fr cost adv))] w':=by
 have ht:=ze t self;have hokt:∀r∈ZR t self,Tp.okN r.dest=true:=jJb;refine zE Tryz.func217 I [(0,v),(1,.int .i64 self),(2,.int .i64 fr),(3,.int .i64 cost),(4,va)] (zh ?_);refine qB jQM I I (fun w _=>jCK self w) (zh ?_);refine qI jRr I I (fun w hw=>jEr t self v w ((qA hv).at hw) hl) ?_;intro v1
 repeat' (first|refine zh ?_|refine qB jNo I I (fun w _=>kD fr w) ?_|apply zb ?_ ?_|exact zc|(refine zi fun hb=>?_;try simp at hb)|fail)
 refine HR.cond I (fun h0=>?_) (fun h0=>?_)
 ·have h0:((((!Tp.okN fr)||(fr==lim self))||decide (cost<1))||decide (cost>200))=true:=h0;have e:jBR t self fr cost adv=ZR t self:=by
   unfold jBR;rw[if_pos];simp only[Bool.or_eq_true,Bool.not_eq_true',beq_iff_eq,decide_eq_true_eq]at h0;rcases h0 with ((h|h)|h)|h
   ·exact .inl h
   ·exact .inr (.inl h)
   ·exact .inr (.inr (.inl h))
   ·exact .inr (.inr (.inr h))
  refine zh ?_;refine HR.ret Tryz.func217 I [_] (fun _ _=>⟨I,trivial⟩) ?_
  exact fun w' hw=>⟨v1,rfl,by rw[e];exact hw⟩
 have h0:((((!Tp.okN fr)||(fr==lim self))||decide (cost<1))||decide (cost>200))=false:=h0;simp only[Bool.or_eq_false_iff,Bool.not_eq_false',beq_eq_false_iff_ne,decide_eq_false_iff_not]at h0;have e:jBR t self fr cost adv=adv.foldl (J2 self fr cost) (ZR t self):=by
  unfold jBR;rw[if_neg]
  rintro (h|h|h|h)
  ·rw [h0.1.1.1]at h;cases h
  ·exact h0.1.1.2 h
  ·exact h0.1.2 h
  ·exact h0.2 h
 rw[e];have hasc:=ht.asc;have h24:=ht.len;obtain ⟨T,hT⟩:∃T,T=ZR t self:=⟨_,rfl⟩;rw[<- hT]at hokt hasc h24 ⊢;refine zh ?_;refine qD (qA hva) I I I (zh ?_);refine qd (α:=Nat) (β:=Value) (fun k _=>k<=adv.length) (fun k u=>[(0,u),(1,.int .i64 (lim self)),(2,.int .i64 fr),(3,.int .i64 cost),(36,va),(37,.int .i64 (adv.length:Int)),(38,.int .i64 (k:Int))]) (fun k u=>[jM u 94 4 ((adv.take k).foldl (J2 self fr cost) T).length (cellsOf roC ((adv.take k).foldl (J2 self fr cost) T))]) (fun k _=>adv.length-k) 0 v1 (Nat.zero_le _) ⟨I,I,I,I,I,I,I,trivial⟩ Ent.refl ?_;intro k u hk ih;refine zh ?_;refine HR.cond I (fun h2=>?_) (fun h2=>?_)
 ·have hlt:k<adv.length:=by have:=of_decide_eq_true h2;omega
  obtain ⟨x,hx⟩:=jG hlt;have hft:=Kt (J2 self fr cost) T hx;obtain ⟨hS1,hS2⟩:=jCb (self:=self) (fr:=fr) (cost:=cost) (adv:=adv.take k) hasc h24;have hS3:=jJW (self:=self) (fr:=fr) (cost:=cost) (adv:=adv.take k) hokt;obtain ⟨S,hS⟩:∃S,S=(adv.take k).foldl (J2 self fr cost) T:=⟨_,rfl⟩;rw[<- hS]at hft hS1 hS2 hS3 ⊢
  repeat' (first|refine zh ?_|refine qE (qA hva) jZ k I I I I hlt ?_|refine qN (qA hva) I I I I (by simp) I (jD jP hx) ?_|intro (bk:Nat))
  repeat' (first|refine zh ?_|refine qB jQE I I (fun w _=>K3 x w) ?_|apply zb ?_ ?_|exact zc|(refine zi fun hb=>?_;try simp at hb)|fail)
  refine HR.cond I (fun h3=>?_) (fun h3=>?_)
  ·have h3:((!usable x)||(x.dest==lim self))=true:=h3;have hst:J2 self fr cost S x=S:=by
    unfold J2;rw[if_pos];simp only[Bool.or_eq_true,Bool.not_eq_true',beq_iff_eq]at h3;exact h3
   rw[hst]at hft;refine zh ?_;exact ih (k+1) u _ _ hlt (by omega) ⟨I,I,I,I,I,I,I,trivial⟩ (Ent.trans (Ent.pick [1] I I) (qC (by rw[hft]) (by rw[hft])))
  ·have h3:((!usable x)||(x.dest==lim self))=false:=h3;simp only[Bool.or_eq_false_iff,Bool.not_eq_false',beq_eq_false_iff_ne]at h3;have hst:J2 self fr cost S x=jr S fr (jBL fr cost x):=by
    unfold J2;rw[if_neg]
    rintro (h|h)
    ·rw [h3.1]at h;cases h
    ·exact h3.2 h
   rw[hst]at hft;have hxo:=zo h3.1;have hrd:Tp.okN (jBL fr cost x).dest=true:=by rw[jCo];exact hxo.1
   refine HR.skip ?_
   repeat' (first|refine zh ?_|refine qB jAP I I (fun w _=>JY x w) ?_|intro (bk:Nat))
   repeat' (first|refine zh ?_|apply zb ?_ ?_|exact zc|(refine zi fun hb=>?_;try simp at hb)|fail)
   refine HR.join (ι:=Unit) (fun _=>True) (fun _=>[(0,u),(1,.int .i64 (lim self)),(2,.int .i64 fr),(3,.int .i64 cost),(36,va),(37,.int .i64 (adv.length:Int)),(38,.int .i64 (k:Int)),(13,.pointer (some ⟨bk,0,none⟩))]) (fun _=>[jM u 94 4 S.length (cellsOf roC S),jS bk (roC (jBL fr cost x)) 94]) (fun _ _=>?_) (fun hj=>?_)
   ·refine zh ?_;refine qQ (r:=fun r:Value=>r) (Q:=fun _=>True) (G0:=[jM u 94 4 S.length (cellsOf roC S)]) (H0:=[jS bk (roC (jBL fr cost x)) 94]) (G:=fun y=>[jM y 94 4 (jr S fr (jBL fr cost x)).length (cellsOf roC (jr S fr (jBL fr cost x)))]) fn270 I I I (fun w hw=>jKh S fr (jBL fr cost x) u _ w (hw.pick [0] I I) hS2 hS1 hS3 hrd) ?_;intro y _;refine zh ?_;exact ih (k+1) y _ _ hlt (by omega) ⟨I,I,I,I,I,I,I,trivial⟩ (Ent.trans (Ent.pick [0] I I) (qC (by rw[hft]) (by rw[hft])))
   ·refine HR.cond I (fun h4=>?_) (fun h4=>?_)
    ·have h4:(fin x&&decide (x.cost+cost<=200))=true:=h4;have hra:jBL fr cost x=⟨x.dest,x.sq,x.cost+cost,fr⟩:=by
      unfold jBL;rw[if_pos];simpa using h4
     rw[hra]at hj;refine HR.region (zn ?_);exact hj () _ _ trivial ⟨I,I,I,I,I,I,I,I,trivial⟩ (Ent.pick [2,0] I I)
    ·have h4:(fin x&&decide (x.cost+cost<=200))=false:=h4;have hra:jBL fr cost x=⟨x.dest,x.sq,255,255⟩:=by
      unfold jBL;rw[if_neg];intro hh;simp[hh.1,hh.2]at h4
     rw[hra]at hj;refine HR.skip ?_;exact hj () _ _ trivial ⟨I,I,I,I,I,I,I,I,trivial⟩ (Ent.pick [2,0] I I)
 ·have hke:k=adv.length:=by have:=of_decide_eq_false h2;omega
  subst hke;rw[List.take_length];refine zh ?_;refine HR.ret Tryz.func217 I [_] (fun _ _=>⟨I,trivial⟩) ?_
  exact fun w' hw=>⟨u,rfl,hw⟩
theorem jKy (t:List Ro) (r:Ro) (v:Value) (w:World) (hv:Sl w v (cellsOf roC t) t.length) (hl:t.length<=24):
  Calls Tryz.prog 307 #[v,.agg ⟨roC r⟩] w fun e w'=>∃v',e= .returned v'/\Sat (base w) [jM v' 94 4 (t.take (rpos t r.dest)++r::t.drop (rpos t r.dest)).length (cellsOf roC (t.take (rpos t r.dest)++r::t.drop (rpos t r.dest)))] w':=by
 refine zE Tryz.func307 I [(0,v),(1,.agg ⟨roC r⟩)] (zh ?_);intro (bk:Nat);refine zh ?_;refine HR.J6 94 4 (qd (α:=Nat) (β:=Value) (fun k o=>k<=t.length/\∀j a,j<k->t[j]? =some a->a.dest<r.dest) (fun k o=>[(0,v),(3,.pointer (some ⟨bk,0,none⟩)),(5,o),(6,.int .i64 (k:Int))]) (fun k o=>[jM o 94 4 (t.take k).length (cellsOf roC (t.take k)),jS bk (roC r) 94]) (fun k _=>t.length-k) 0 (.slice none 0 0) ⟨Nat.zero_le _,fun j a hj=>by omega⟩ ⟨I,I,I,I,trivial⟩ (Ent.pick [0,1] I I) ?_)
 rintro k o ⟨hk,hg⟩ ih
 have htl:(t.take k).length=k:=by simp;omega
 refine zh ?_;refine qK j3 (by kernel_rfl) ?_
 repeat' (first|refine zq ?_|refine yE (qA hv) I I I ?_|refine qW (qA hv) jZ k I I I I (by omega) ?_|refine QE (qA hv) (by rw[jA jP];omega) I I I I I I ?_|refine qj (qA hv) I I I I (jJ jP (Jb (by omega) ro0) (i:=0) I) ?_|apply zb ?_ ?_|exact zc|(refine zi fun hb=>?_;try simp at hb)|fail)
 refine HR.cond I (fun h2=>?_) (fun h2=>?_)
 ·have h2:(decide ((k:Int)<t.length)&&decide ((t.getD k ro0).dest<r.dest))=true:=h2;simp only[Bool.and_eq_true,decide_eq_true_eq]at h2;have hlt:k<t.length:=by omega
  have hx:t[k]? =some (t.getD k ro0):=Jb hlt ro0;refine zh ?_;refine qE (qA hv) jZ k I I I I hlt ?_;refine qN (qA hv) I I I I (by simp) I (jD jP hx) ?_;refine qH jZ I I I I I (by decide) (by decide) ?_;intro va;refine qJ 1 I jZ (Rd.own 0 I) I I I I (jH I) (by omega) (by omega) ?_;intro o2;refine zh ?_;refine ih (k+1) o2 _ _ ⟨hlt,fun j a hj ha=>?_⟩ (by omega) ⟨I,I,I,I,trivial⟩ (Ent.trans (Ent.pick [1,2] I I) (qC ?_ ?_))
  ·by_cases hjk:j=k
   ·subst hjk;rw[hx]at ha;cases ha;exact h2.2
   ·exact hg j a (by omega) ha
  ·rw [jE hx];simp
  ·rw [jE hx,jL];rfl
 ·have h2:(decide ((k:Int)<t.length)&&decide ((t.getD k ro0).dest<r.dest))=false:=h2;have hp:rpos t r.dest=k:=jMM hk hg fun a ha=>by
   have hlt:=(List.getElem?_eq_some_iff.1 ha).1;rw[Jb hlt ro0]at ha;cases ha;rw[decide_eq_true (show (k:Int)<t.length by omega),Bool.true_and,decide_eq_false_iff_not]at h2;omega
  rw[hp];refine zh ?_;refine qD (Rd.own 0 I) I I I (zh ?_);refine qH jZ I I I I I (by decide) (by decide) ?_;intro va;refine qJ 1 I jZ (Rd.own 0 I) I I I I (jH I) (by omega) (by omega) ?_;intro o2;rw[htl];refine zh ?_;refine qX (sz:=4) k t.length (qA hv) I I I I (.inr ⟨_,_,_,rfl,rfl,by omega⟩) (.inl ⟨rfl,rfl⟩) hk (Nat.le_refl _) ?_;refine qJ 1 I jZ (Rd.sub (sz:=4) (qA hv) (jA jP _) hk (Nat.le_refl _)) I I I (by rw[List.length_take,List.length_drop,jA jP];omega) (fun u hu=>jR jEw _ u (List.mem_of_mem_drop (List.mem_of_mem_take hu))) (by omega) (by omega) ?_;intro o3;refine zh ?_;refine HR.ret Tryz.func307 I [_] (fun _ _=>⟨I,trivial⟩) ?_;refine fun w' hw=>⟨o3,rfl,qC ?_ ?_ w' (hw.pick [1] I rfl)⟩
  ·simp;omega
  ·have e9:((cellsOf roC t).drop (k*4)).take ((t.length-k)*4)=cellsOf roC (t.drop k):=by
    rw[jo jP];exact List.take_of_length_le (by rw[jA jP,List.length_drop];exact Nat.le_refl _)
   rw[e9,jL,List.append_assoc]
   congr 1
theorem jGA (t:List Ro) (fr cost:Int) (a:Ro) (v:Value) (B0:Base) (w:World) (hw0:Sat B0 [jM v 94 4 t.length (cellsOf roC t)] w) (hl:t.length<=24) (hasc:Asc (·.dest) t) (hc:1<=cost/\cost<=200) (ha:usable a=true):
  Calls Tryz.prog 280 #[v,.int .i64 fr,.int .i64 cost,.agg ⟨roC a⟩] w fun e w'=>∃x:Value,e= .returned x/\True/\Sat ⟨w,zN [jM v 94 4 t.length (cellsOf roC t)]⟩ [jM x 94 4 (jr t fr (jBL fr cost a)).length (cellsOf roC (jr t fr (jBL fr cost a)))] w':=by
 have hao:=zo ha;have hfa:=jPf (fr:=fr) hc ha;have hda:=jCo fr cost a;refine jc [jM v 94 4 t.length (cellsOf roC t)] (hw0) Tryz.func280 I (Nat.le_of_ble_eq_true I) (HR.sub (σ':=[(0,v),(1,.int .i64 fr),(2,.int .i64 cost),(3,.agg ⟨roC a⟩)]) ⟨I,I,I,I,trivial⟩ ?_)
 repeat' (first|refine zh ?_|refine qB jQJ I I (fun w hw=>kW t a.dest v w ((Rd.own 1 rfl).at hw) (by omega)) ?_|intro (bk:Nat))
 obtain ⟨L,hL⟩:∃L,L=jB4 t a.dest:=⟨_,rfl⟩;rw[<- hL]
 repeat' (first|refine zh ?_|refine qB jQF I I (fun w _=>jAy a w) ?_|apply zb ?_ ?_|exact zc|(refine zi fun hb=>?_;try simp at hb)|fail)
 refine HR.cond I (fun h=>?_) (fun h=>?_)
 ·have h:(fin a&&decide (a.cost+cost<=200))=true:=h;rw[h]at hfa;have hra:jBL fr cost a=⟨a.dest,a.sq,a.cost+cost,fr⟩:=by
   unfold jBL;rw[if_pos];simpa using h
  rw[hra]at hfa ⊢;obtain ⟨x,hx⟩:∃x:Ro,x=⟨a.dest,a.sq,a.cost+cost,fr⟩:=⟨_,rfl⟩;have hxd:x.dest=a.dest:=by rw[hx]
  refine zh ?_;intro (bk:Nat);refine zh ?_;rcases zV t a.dest with ⟨e,hf⟩|⟨i,o,e,ho,hod,hf⟩
  ·have hR1:rat t x.dest=none:=by rw[hxd];exact hf
   rw[hL,e];rw[<- hx]at hfa ⊢;refine zh ?_;refine qD (Rd.own 2 I) I I I (zh ?_);refine HR.cond I (fun h3=>?_) (fun h3=>?_)
   ·have h3:t.length<24:=by have:=of_decide_eq_true h3;omega
    have er:jr t fr x=t.take (rpos t x.dest)++x::t.drop (rpos t x.dest):=by unfold jr;rw[hR1];simp only;rw[if_pos ⟨hfa,h3⟩]
    subst hx;refine zh ?_;refine qI fn307 I I (fun w hw=>jKy t ⟨a.dest,a.sq,a.cost+cost,fr⟩ v w ((Rd.own 2 rfl).at hw) hl) ?_;intro v2;refine zh ?_;refine HR.ret Tryz.func280 I [_] (fun _ _=>⟨I,trivial⟩) ?_;refine fun w' hw=>⟨_,rfl,trivial,?_⟩
    rw[er];exact hw.pick [0] I I
   ·have h3:¬t.length<24:=by have:=of_decide_eq_false h3;omega
    have er:jr t fr x=t:=by unfold jr;rw[hR1];simp only;rw[if_neg (by omega)]
    refine HR.skip (HR.ctl I ?_);refine qK j3 (by kernel_rfl) (zq ?_);refine zh ?_;refine HR.ret Tryz.func280 I [_] (fun _ _=>⟨I,trivial⟩) ?_;refine fun w' hw=>⟨_,rfl,trivial,?_⟩
    rw[er];exact hw.pick [2] I I
  ·have hlt:=(List.getElem?_eq_some_iff.1 ho).1;have hR1:rat t x.dest=some o:=by rw[hxd];exact hf
   have hR2:rpos t x.dest=i:=by rw[hxd];exact (jCi hasc ho hod).1
   rw[hL,e];rw[<- hx]at hfa ⊢;refine zh ?_;refine qK j3 (by kernel_rfl) (zq ?_);refine qW (Rd.own 2 I) jZ i I I I I hlt ?_;refine qy (Rd.own 2 I) I I I I (by simp) I (jD jP ho) ?_;refine qz fn308 I I (fun w _=>jFt ⟨a.dest,a.sq,a.cost+cost,fr⟩ o w) (zq ?_);refine HR.cond I (fun h3=>?_) (fun h3=>?_)
   ·have h3:(decide ((i:Int)>=0)&&better ⟨a.dest,a.sq,a.cost+cost,fr⟩ o)=true:=h3;rw[Bool.and_eq_true,<- hx]at h3;have er:jr t fr x=t.set i x:=by unfold jr;rw[hR1,hR2];simp only;rw[hfa];exact if_pos h3.2
    subst hx;refine zh ?_;refine qE (Rd.own 2 I) jZ i I I I I hlt ?_;refine ql (us:=roC ⟨a.dest,a.sq,a.cost+cost,fr⟩) (j:=i*4) 2 I I I I I I I (by rw[jA jP];show i*4+4<=_;omega) (by simp) ?_;refine zh ?_;refine HR.ret Tryz.func280 I [_] (fun _ _=>⟨I,trivial⟩) ?_;refine fun w' hw=>⟨_,rfl,trivial,qC ?_ ?_ w' (hw.pick [2] I rfl)⟩
    ·rw [er];simp
    ·rw [er];exact j6 (i:=0) jP ho I (show 0+4<=4 by decide)
   ·have h3:(decide ((i:Int)>=0)&&better ⟨a.dest,a.sq,a.cost+cost,fr⟩ o)=false:=h3;rw[decide_eq_true (show (i:Int)>=0 by omega),Bool.true_and,<- hx]at h3;have er:jr t fr x=t:=by unfold jr;rw[hR1];simp only;rw[hfa];exact if_neg (by simpa using h3)
    refine zh ?_;refine HR.ret Tryz.func280 I [_] (fun _ _=>⟨I,trivial⟩) ?_;refine fun w' hw=>⟨_,rfl,trivial,?_⟩
    rw[er];exact hw.pick [2] I I
 ·have h:(fin a&&decide (a.cost+cost<=200))=false:=h;rw[h]at hfa;have hra:jBL fr cost a=⟨a.dest,a.sq,255,255⟩:=by
   unfold jBL;rw[if_neg];intro hh;simp[hh.1,hh.2]at h
  rw[hra]at hfa ⊢;obtain ⟨x,hx⟩:∃x:Ro,x=⟨a.dest,a.sq,255,255⟩:=⟨_,rfl⟩;have hxd:x.dest=a.dest:=by rw[hx]
  rcases zV t a.dest with ⟨e,hf⟩|⟨i,o,e,ho,hod,hf⟩
  ·have hR1:rat t x.dest=none:=by rw[hxd];exact hf
   rw[hL,e];rw[<- hx]at hfa ⊢;have er:jr t fr x=t:=by unfold jr;rw[hR1];simp only;rw[if_neg (by rw[hfa];simp)]
   refine zh ?_;refine qK j3 (by kernel_rfl) (zq ?_);refine zh ?_;refine HR.ret Tryz.func280 I [_] (fun _ _=>⟨I,trivial⟩) ?_;refine fun w' hw=>⟨_,rfl,trivial,?_⟩
   rw[er];exact hw.pick [1] I I
  ·have hlt:=(List.getElem?_eq_some_iff.1 ho).1;have hR1:rat t x.dest=some o:=by rw[hxd];exact hf
   have hR2:rpos t x.dest=i:=by rw[hxd];exact (jCi hasc ho hod).1
   rw[hL,e];rw[<- hx]at hfa ⊢;refine zh ?_;refine qK j3 (by kernel_rfl) ?_
   repeat' (first|refine zq ?_|refine qW (Rd.own 1 I) jZ i I I I I hlt ?_|refine QE (Rd.own 1 I) (by rw[jA jP];omega) I I I I I I ?_|refine qj (Rd.own 1 I) I I I I (jJ jP ho (i:=3) I) ?_|refine qj (Rd.own 1 I) I I I I (jJ jP ho (i:=1) I) ?_|apply zb ?_ ?_|exact zc|(refine zi fun hb=>?_;try simp at hb)|fail)
   refine HR.cond I (fun h3=>?_) (fun h3=>?_)
   ·have h3:((decide ((i:Int)>=0)&&(o.nx==fr))&&decide (a.sq>o.sq))=true:=h3;rw[decide_eq_true (show (i:Int)>=0 by omega),Bool.true_and]at h3;have er:jr t fr x=t.set i x:=by unfold jr;rw[hR1,hR2];simp only;rw[hfa];exact if_pos (by rw[hx];simpa using h3)
    subst hx;refine zh ?_;refine qE (Rd.own 1 I) jZ i I I I I hlt ?_;refine ql (us:=roC ⟨a.dest,a.sq,255,255⟩) (j:=i*4) 1 I I I I I I I (by rw[jA jP];show i*4+4<=_;omega) (by simp) ?_;refine zh ?_;refine HR.ret Tryz.func280 I [_] (fun _ _=>⟨I,trivial⟩) ?_;refine fun w' hw=>⟨_,rfl,trivial,qC ?_ ?_ w' (hw.pick [1] I rfl)⟩
    ·rw [er];simp
    ·rw [er];exact j6 (i:=0) jP ho I (show 0+4<=4 by decide)
   ·have h3:((decide ((i:Int)>=0)&&(o.nx==fr))&&decide (a.sq>o.sq))=false:=h3;rw[decide_eq_true (show (i:Int)>=0 by omega),Bool.true_and]at h3;have er:jr t fr x=t:=by unfold jr;rw[hR1];simp only;rw[hfa];exact if_neg (by rw[hx];simpa using h3)
    refine zh ?_;refine HR.ret Tryz.func280 I [_] (fun _ _=>⟨I,trivial⟩) ?_;refine fun w' hw=>⟨_,rfl,trivial,?_⟩
    rw[er];exact hw.pick [1] I I
theorem jD7 (t:List Ro) (self fr cost:Int) (adv:List Ro) (v va:Value) (w:World) (hv:Sl w v (cellsOf roC t) t.length) (hva:Sl w va (cellsOf roC adv) adv.length) (hl:t.length<=1000) (hla:adv.length<=1000):
  Calls Tryz.prog 239 #[v,.int .i64 self,.int .i64 fr,.int .i64 cost,va] w fun e w'=>∃v',e= .returned v'/\Sat (base w) [jM v' 94 4 (jBR t self fr cost adv).length (cellsOf roC (jBR t self fr cost adv))] w':=by
 have ht:=ze t self;refine zE Tryz.func239 I [(0,v),(1,.int .i64 self),(2,.int .i64 fr),(3,.int .i64 cost),(4,va)] (zh ?_);refine qI jRq I I (fun w hw=>Kc t self v w ((qA hv).at hw) hl) ?_;intro v1
 repeat' (first|refine zh ?_|refine qB jGx I I (fun w _=>zx _ w) ?_|apply zb ?_ ?_|exact zc|(refine zi fun hb=>?_;try simp at hb)|fail)
 refine HR.cond I (fun h0=>?_) (fun h0=>?_)
 ·have h0:((((fr != lim fr)||(fr==lim self))||decide (cost<1))||decide (cost>200))=true:=h0;rw[jGU]at h0;have e:jBR t self fr cost adv=ZR t self:=by
   unfold jBR;rw[if_pos];simp only[Bool.or_eq_true,Bool.not_eq_true',beq_iff_eq,decide_eq_true_eq]at h0;rcases h0 with ((h|h)|h)|h
   ·exact .inl h
   ·exact .inr (.inl h)
   ·exact .inr (.inr (.inl h))
   ·exact .inr (.inr (.inr h))
  refine zh ?_;refine HR.ret Tryz.func239 I [_] (fun _ _=>⟨I,trivial⟩) ?_
  exact fun w' hw=>⟨v1,rfl,by rw[e];exact hw⟩
 have h0:((((fr != lim fr)||(fr==lim self))||decide (cost<1))||decide (cost>200))=false:=h0;rw[jGU]at h0;simp only[Bool.or_eq_false_iff,Bool.not_eq_false',beq_eq_false_iff_ne,decide_eq_false_iff_not]at h0;have e:jBR t self fr cost adv=adv.foldl (J2 self fr cost) (ZR t self):=by
  unfold jBR;rw[if_neg]
  rintro (h|h|h|h)
  ·rw [h0.1.1.1]at h;cases h
  ·exact h0.1.1.2 h
  ·exact h0.1.2 h
  ·exact h0.2 h
 rw[e];have hasc:=ht.asc;have h24:=ht.len;obtain ⟨T,hT⟩:∃T,T=ZR t self:=⟨_,rfl⟩;rw[<- hT]at hasc h24 ⊢;refine zh ?_;refine qd (α:=Nat) (β:=Value) (fun k _=>k<=adv.length) (fun k u=>[(1,.int .i64 self),(2,.int .i64 fr),(3,.int .i64 cost),(4,va),(11,u),(12,.int .i64 (k:Int))]) (fun k u=>[jM u 94 4 ((adv.take k).foldl (J2 self fr cost) T).length (cellsOf roC ((adv.take k).foldl (J2 self fr cost) T))]) (fun k _=>adv.length-k) 0 v1 (Nat.zero_le _) ⟨I,I,I,I,I,I,trivial⟩ Ent.refl ?_;intro k u hk ih;refine zh ?_;refine qD (qA hva) I I I (zh ?_);refine HR.cond I (fun h2=>?_) (fun h2=>?_)
 ·have hlt:k<adv.length:=by have:=of_decide_eq_true h2;omega
  obtain ⟨x,hx⟩:=jG hlt;have hft:=Kt (J2 self fr cost) T hx;obtain ⟨hS1,hS2⟩:=jCb (self:=self) (fr:=fr) (cost:=cost) (adv:=adv.take k) hasc h24;obtain ⟨S,hS⟩:∃S,S=(adv.take k).foldl (J2 self fr cost) T:=⟨_,rfl⟩;rw[<- hS]at hft hS1 hS2 ⊢;refine zh ?_;refine qK j3 (by kernel_rfl) ?_
  repeat' (first|refine zq ?_|refine qW (qA hva) jZ k I I I I hlt ?_|refine qy (qA hva) I I I I (by simp) I (jD jP hx) ?_|refine QE (qA hva) (by rw[jA jP];omega) I I I I I I ?_|refine qj (qA hva) I I I I (jJ jP hx (i:=0) I) ?_|refine qz jQH I I (fun w _=>Zt x w) ?_|refine qz jGx I I (fun w _=>zx _ w) ?_|apply zb ?_ ?_|exact zc|(refine zi fun hb=>?_;try simp at hb)|fail)
  refine HR.cond I (fun h3=>?_) (fun h3=>?_)
  ·have h3:(usable x&&(x.dest != lim self))=true:=h3;simp only[Bool.and_eq_true,bne_iff_ne]at h3;have hst:J2 self fr cost S x=jr S fr (jBL fr cost x):=by
    unfold J2;rw[if_neg]
    rintro (h|h)
    ·rw [h3.1]at h;cases h
    ·exact h3.2 h
   rw[hst]at hft;refine zh ?_;refine qE (qA hva) jZ k I I I I hlt ?_;refine qN (qA hva) I I I I (by simp) I (jD jP hx) ?_;refine qQ (r:=fun r:Value=>r) (Q:=fun _=>True) (G0:=[jM u 94 4 S.length (cellsOf roC S)]) (H0:=[]) (G:=fun y=>[jM y 94 4 (jr S fr (jBL fr cost x)).length (cellsOf roC (jr S fr (jBL fr cost x)))]) fn280 I I I (fun w hw=>jGA S fr cost x u _ w hw hS2 hS1 (by omega) h3.1) ?_;intro y _;refine zh ?_;exact ih (k+1) y _ _ hlt (by omega) ⟨I,I,I,I,I,I,trivial⟩ (qC (by rw[hft]) (by rw[hft]))
  ·have h3:(usable x&&(x.dest != lim self))=false:=h3;have hst:J2 self fr cost S x=S:=by
    unfold J2;rw[if_pos];cases hu:usable x
    ·exact .inl I
    ·rw [hu,Bool.true_and]at h3;exact .inr (by simpa using h3)
   rw[hst]at hft;refine zh ?_;exact ih (k+1) u _ _ hlt (by omega) ⟨I,I,I,I,I,I,trivial⟩ (qC (by rw[hft]) (by rw[hft]))
 ·have hke:k=adv.length:=by have:=of_decide_eq_false h2;omega
  subst hke;rw[List.take_length];refine zh ?_;refine HR.ret Tryz.func239 I [_] (fun _ _=>⟨I,trivial⟩) ?_
  exact fun w' hw=>⟨u,rfl,hw⟩
theorem fn212:IsFn Tryz.prog 212:=zF Tryz.func212 I
theorem fn105:IsFn Tryz.prog 105:=zF Tryz.func105 I
theorem fn216:IsFn Tryz.prog 216:=zF Tryz.func216 I
theorem fn238:IsFn Tryz.prog 238:=zF Tryz.func238 I
theorem jKF:Elem Tryz.prog 198 5 1 1:=⟨rfl,⟨_,_,rfl,rfl,rfl,rfl,rfl⟩,by decide⟩
theorem jLu {n:Int} (h:0<=n/\n<=255):((u8 n).toNat:Int)=n:=by
 unfold u8;rw[u8n];omega
theorem jSE {n:Int} (h:0<=n):((u8 n).toNat:Int)=n%256:=by
 unfold u8;rw[u8n];omega
theorem jCn {x:Ro} (h:usable x=true):Zo (jFy x)=[.int .u8 x.dest,.int .u8 (x.sq / 256),.int .u8 (x.sq%256),.int .u8 x.cost]:=by
 obtain ⟨h1,h2,h3,h4,h5⟩:=zo h;rw[zL]at h1;unfold jFy Zo;simp only[List.map_cons,List.map_nil];rw[jLu (n:=x.dest) (by omega),jLu (n:=x.sq / 256) (by omega),jSE h2,jLu (n:=x.cost) (by omega)]
theorem jDz (t:List Ro):(jD0 t).length<=96:=by
 unfold jD0;rw[jEz,List.length_take];omega
theorem jPb (t:List Ro) (v:Value) (w:World) (hv:Sl w v (cellsOf roC t) t.length) (hl:t.length<=1000):
  Calls Tryz.prog 212 #[v] w fun e w'=>e= .returned (str (jD0 t))/\Below w.heap.size w w':=by
 refine zE Tryz.func212 I [(0,v)] (zh ?_);refine qD (qA hv) I I I (zh ?_);refine HR.J6 5 1 (qd (α:=Nat) (β:=Value) (fun k _=>k<=t.length) (fun k u=>[(3,u),(6,v),(7,.int .i64 (t.length:Int)),(8,.int .i64 (k:Int))]) (fun k u=>[jM u 5 1 (jD0 (t.take k)).length (Zo (jD0 (t.take k)))]) (fun k _=>t.length-k) 0 (.slice none 0 0) (Nat.zero_le _) ⟨I,I,I,I,trivial⟩ (Ent.pick [0] I I) ?_);intro k u hk ih;refine zh ?_;refine HR.cond I (fun h2=>?_) (fun h2=>?_)
 ·have hlt:k<t.length:=by have:=of_decide_eq_true h2;omega
  obtain ⟨x,hx⟩:=jG hlt;have hst:=jFx (t.take k) x;rw[<- jE hx]at hst;have hb:=jDz (t.take k);obtain ⟨S,hS⟩:∃S,S=jD0 (t.take k):=⟨_,rfl⟩;rw[<- hS]at hst hb ⊢
  repeat' (first|refine zh ?_|refine qE (qA hv) jZ k I I I I hlt ?_|refine qN (qA hv) I I I I (by simp) I (jD jP hx) ?_|intro (bk:Nat))
  repeat' (first|refine zh ?_|refine qB jQE I I (fun w _=>K3 x w) ?_|refine qD (Rd.own 1 I) I I I ?_|apply zb ?_ ?_|exact zc|(refine zi fun hb=>?_;try simp at hb)|fail)
  refine HR.cond I (fun h3=>?_) (fun h3=>?_)
  ·have h3:(usable x&&decide ((S.length:Int)<96))=true:=h3;simp only[Bool.and_eq_true,decide_eq_true_eq]at h3;rw[if_pos ⟨h3.1,by omega⟩]at hst;have hxo:=zo h3.1;have hd:=(zL _).1 hxo.1;have hcl:=jCn h3.1;refine zh ?_;refine HL.cv (x.sq%256) I I I I (by simp[IntKind.wrap,IntKind.bits,IntKind.signed]) (zh ?_);refine qH jKF I I I I I (by decide) (by decide) ?_;intro va;refine qJ 2 I jKF (Rd.own 0 I) I I I I (jH I) (by omega) (by omega) ?_;intro o2;refine zh ?_;refine ih (k+1) o2 _ _ hlt (by omega) ⟨I,I,I,I,trivial⟩ (Ent.trans (Ent.pick [2] I I) (qC ?_ ?_))
   ·rw [hst];simp[jFy]
   ·rw [hst,jBE,hcl]
  ·have h3:(usable x&&decide ((S.length:Int)<96))=false:=h3;rw[if_neg (by rintro ⟨ha,hb⟩;rw[ha,decide_eq_true (by omega)]at h3;cases h3)]at hst;refine zh ?_;exact ih (k+1) u _ _ hlt (by omega) ⟨I,I,I,I,trivial⟩ (Ent.trans (Ent.pick [1] I I) (qC (by rw[hst]) (by rw[hst])))
 ·have hke:k=t.length:=by have:=of_decide_eq_false h2;omega
  subst hke;rw[List.take_length];refine zh ?_;refine YZ (Rd.own 0 I) I I I I I (zh ?_);exact zR Tryz.func212
theorem jKv (t:List Ro) (v:Value) (w:World) (hv:Sl w v (cellsOf roC t) t.length) (hl:t.length<=1000):
  Calls Tryz.prog 105 #[v] w fun e w'=>e= .returned (str (jD0 t))/\Below w.heap.size w w':=by
 refine zE Tryz.func105 I [(0,v)] (zh ?_);refine HR.J6 5 1 (qd (α:=Nat) (β:=Value) (fun k _=>k<=t.length) (fun k u=>[(0,v),(3,u),(4,.int .i64 (k:Int))]) (fun k u=>[jM u 5 1 (jD0 (t.take k)).length (Zo (jD0 (t.take k)))]) (fun k _=>t.length-k) 0 (.slice none 0 0) (Nat.zero_le _) ⟨I,I,I,trivial⟩ (Ent.pick [0] I I) ?_);intro k u hk ih;refine zh ?_;refine qD (qA hv) I I I (zh ?_);refine HR.cond I (fun h2=>?_) (fun h2=>?_)
 ·have hlt:k<t.length:=by have:=of_decide_eq_true h2;omega
  obtain ⟨x,hx⟩:=jG hlt;have hst:=jFx (t.take k) x;rw[<- jE hx]at hst;have hb:=jDz (t.take k);obtain ⟨S,hS⟩:∃S,S=jD0 (t.take k):=⟨_,rfl⟩;rw[<- hS]at hst hb ⊢
  repeat' (first|refine zh ?_|refine qE (qA hv) jZ k I I I I hlt ?_|refine qN (qA hv) I I I I (by simp) I (jD jP hx) ?_|refine qB jQH I I (fun w _=>Zt x w) ?_|refine qD (Rd.own 0 I) I I I ?_|apply zb ?_ ?_|exact zc|(refine zi fun hb=>?_;try simp at hb)|fail)
  refine HR.cond I (fun h3=>?_) (fun h3=>?_)
  ·have h3:(usable x&&decide ((S.length:Int)<96))=true:=h3;simp only[Bool.and_eq_true,decide_eq_true_eq]at h3;rw[if_pos ⟨h3.1,by omega⟩]at hst;have hxo:=zo h3.1;have hd:=(zL _).1 hxo.1;have hcl:=jCn h3.1;refine qO [(0,true),(1,true),(2,true),(3,true),(4,true),(5,true),(6,true),(7,true),(8,true),(9,true),(10,true),(11,true),(12,true),(13,true),(14,true),(15,true),(16,true),(17,true),(18,true),(19,true),(20,true),(21,true),(22,true),(23,true),(24,true),(25,true),(26,true),(27,false),(28,false),(29,true)] [] I I j3 (by kernel_rfl) ?_
   repeat' (first|refine QM I I I ?_|refine QK I I I (by first|omega|(simp;done)|(simp;omega)) ?_|refine qc (qA hv) jZ k I I I I I hlt ?_|refine Q9 (qA hv) (by rw[jA jP];omega) I I I I I I I ?_|refine QD (qA hv) I I I I I (jJ jP hx (i:=0) I) ?_|refine QD (qA hv) I I I I I (jJ jP hx (i:=1) I) ?_|refine QD (qA hv) I I I I I (jJ jP hx (i:=2) I) ?_|(refine HD.one I ?_;first|refine QT I I ?_|(refine qH jKF I I I I I (by decide) (by decide) ?_;intro va)|(refine qJ 1 I jKF (Rd.own 0 I) I I I I (jH I) (by omega) (by omega) ?_;intro o2)|(refine qm ?_;first|refine qZ 0 I I I I ?_|refine qZ 1 I I I I ?_|refine qZ 2 I I I I ?_|refine qZ 3 I I I I ?_)|(refine qb ?_;first|refine qV 0 I I I I I ?_|refine qV 1 I I I I I ?_|refine qV 2 I I I I I ?_|refine qV 3 I I I I I ?_)|(refine HL.alloc I I ?_;intro bk))|refine HL.back [] rfl rfl ?_|refine HD.nil ?_|fail)
   refine zh ?_;refine ih (k+1) o2 _ _ hlt (by omega) ⟨I,I,I,trivial⟩ (Ent.trans (Ent.pick [1] I I) (qC ?_ ?_))
   ·rw [hst];simp[jFy]
   ·rw [hst,jBE,hcl]
  ·have h3:(usable x&&decide ((S.length:Int)<96))=false:=h3;rw[if_neg (by rintro ⟨ha,hb⟩;rw[ha,decide_eq_true (by omega)]at h3;cases h3)]at hst;refine zh ?_;exact ih (k+1) u _ _ hlt (by omega) ⟨I,I,I,trivial⟩ (qC (by rw[hst]) (by rw[hst]))
 ·have hke:k=t.length:=by have:=of_decide_eq_false h2;omega
  subst hke;rw[List.take_length];refine zh ?_;refine YZ (Rd.own 0 I) I I I I I (zh ?_);exact zR Tryz.func105
theorem jEb {l:List Ro} {k:Nat} {x:Ro} (hx:l[k]? =some x) (h:usable x=false):jEd l k=2:=by unfold jEd;rw[hx];simp only;rw[if_pos h]
theorem jEc {l:List Ro} {k:Nat} {x y:Ro} (hx:l[k]? =some x) (h:usable x=true) (h0:0<k) (hy:l[k-1]? =some y) (hle:x.dest<=y.dest):jEd l k=14:=by
 unfold jEd;rw[hx];simp only;rw[if_neg (by rw[h];decide),if_pos ⟨h0,by rw[hy];exact decide_eq_true hle⟩]
theorem jNv {l:List Ro} {k:Nat} {x:Ro} (hx:l[k]? =some x) (h:usable x=true) (h2:∀y,0<k->l[k-1]? =some y->¬x.dest<=y.dest):jEd l k=0:=by
 unfold jEd;rw[hx];simp only;rw[if_neg (by rw[h];decide),if_neg]
 rintro ⟨h0,h3⟩
 split at h3
 ·rename_i y hy
  exact h2 y h0 hy (of_decide_eq_true h3)
 ·cases h3
theorem Ku {f:Nat->Int} {k n:Nat} (h1:jf f k=0) (h2:f k≠0) (hk:k<n):jf f n=f k:=by
 induction n with
 |zero=>omega
 |succ n ih=>
  unfold jf
  by_cases hkn:k=n
  ·subst hkn;rw[if_neg (by rw[h1];simp)]
  ·rw [ih (by omega),if_pos h2]
theorem jJi {s:By} (h:s.length%4≠0):jAp s=([],5):=by unfold jAp;rw[if_pos h]
theorem jF0 {s:By} (h:s.length%4=0) (h2:s.length>96):jAp s=([],3):=by unfold jAp;rw[if_neg (by omega),if_pos h2]
theorem jCM {s:By} {k:Nat} (h:s.length%4=0) (h2:¬s.length>96) (h1:jf (jEd (JZ s (s.length / 4))) k=0) (h3:jEd (JZ s (s.length / 4)) k≠0) (hk:k<s.length / 4):jAp s=([],jEd (JZ s (s.length / 4)) k):=by
 have:=Ku h1 h3 hk;unfold jAp;rw[if_neg (by omega),if_neg h2,this,if_pos h3]
theorem jF1 {s:By} (h:s.length%4=0) (h2:¬s.length>96) (h1:jf (jEd (JZ s (s.length / 4))) (s.length / 4)=0):jAp s=(JZ s (s.length / 4),0):=by
 unfold jAp;rw[if_neg (by omega),if_neg h2,if_neg (by rw[h1];simp)]
theorem jSK (a b:Nat) (h:b<256):(a*256 ||| b)=a*256+b:=by
 have:=Nat.shiftLeft_add_eq_or_of_lt (i:=8) (b:=b) (by omega) a;rw[Nat.shiftLeft_eq]at this;exact this.symm
theorem jLZ (s:By) (w:World) (hs:s.length<=9223372036854775807):
  Calls Tryz.prog 216 #[str s] w fun e w'=>∃v',e= .returned (.tuple ⟨[v',.int .i64 (jAp s).2]⟩)/\True/\Sat (base w) [jM v' 94 4 (jAp s).1.length (cellsOf roC (jAp s).1)] w':=by
 refine zE Tryz.func216 I [(0,str s)] (zh ?_);refine HR.cond I (fun h=>?_) (fun h=>?_)
 ·have h:(((s.length:Int)%4) != 0)=true:=h;have h:s.length%4≠0:=by simp at h;omega
  rw[jJi h];refine zh ?_;refine HR.J6 94 4 (HR.ret Tryz.func216 I [_,_] (fun _ _=>⟨I,I,trivial⟩) ?_)
  exact fun w' hw=>⟨_,rfl,trivial,hw⟩
 have h:(((s.length:Int)%4) != 0)=false:=h;have h:s.length%4=0:=by simp at h;omega
 refine zh ?_;refine HR.cond I (fun h2=>?_) (fun h2=>?_)
 ·have h2:s.length>96:=by have:=of_decide_eq_true h2;omega
  rw[jF0 h h2];refine zh ?_;refine HR.J6 94 4 (HR.ret Tryz.func216 I [_,_] (fun _ _=>⟨I,I,trivial⟩) ?_)
  exact fun w' hw=>⟨_,rfl,trivial,hw⟩
 have h2:¬s.length>96:=by have:=of_decide_eq_false h2;omega
 obtain ⟨n,hn⟩:∃n,n=s.length / 4:=⟨_,rfl⟩;have hsn:s.length=4*n:=by omega
 refine zh ?_;refine HR.J6 94 4 (qd (α:=Nat) (β:=Value) (fun k _=>k<=n/\jf (jEd (JZ s n)) k=0) (fun k u=>[(0,str (s.drop (4*k))),(4,u)]) (fun k u=>[jM u 94 4 (JZ s k).length (cellsOf roC (JZ s k))]) (fun k _=>n-k) 0 (.slice none 0 0) ⟨Nat.zero_le _,rfl⟩ ⟨I,I,trivial⟩ Ent.refl ?_)
 rintro k u ⟨hk,hg⟩ ih
 have hdl:(s.drop (4*k)).length=4*(n-k):=by rw[List.length_drop];omega
 refine zh ?_;refine HR.cond I (fun h3=>?_) (fun h3=>?_)
 ·have hlt:k<n:=by have:=of_decide_eq_true h3;omega
  have hx:(JZ s n)[k]? =some (jB5 (s.drop (4*k))):=Zg s hlt;have hrk:JZ s (k+1)=JZ s k++[jB5 (s.drop (4*k))]:=rfl;have hkl:=Zf s k;have hdr:(s.drop (4*k)).drop 4=s.drop (4*(k+1)):=by rw[List.drop_drop];congr 1
  obtain ⟨S,hS⟩:∃S,S=s.drop (4*k):=⟨_,rfl⟩;rw[<- hS]at hdl hx hrk hdr ⊢;have b0:=(S.getD 0 0).toNat_lt;have b1:=(S.getD 1 0).toNat_lt;have b3:=(S.getD 3 0).toNat_lt;have b2:=(S.getD 2 0).toNat_lt;refine HR.ctl I (qO [(0,true),(1,true),(2,true),(3,true),(4,true),(5,true),(6,true),(7,true),(8,true),(9,true),(10,true),(11,true),(12,true),(13,true),(14,true),(15,false),(16,false)] [] I I j3 (by kernel_rfl) ?_)
  repeat' (first|refine QM I I I ?_|refine QK I I I (by first|omega|(simp;done)|(simp;omega)) ?_|fail)
  refine yI 24 (v':= .int .i64 (((S.getD 1 0).toNat*256:Nat):Int)) I (by rw[Int.natCast_mul];rfl) ?_;refine QK I I I (by omega) (yI 28 (v':= .int .i64 (((S.getD 1 0).toNat*256+(S.getD 2 0).toNat:Nat):Int)) I (by rw[jSK _ _ b2]) ?_)
  repeat' (first|refine QM I I I ?_|refine QK I I I (by first|omega|(simp;done)|(simp;omega)) ?_|refine HD.build I I I ?_|(refine HD.one I ?_;first|refine QT I I ?_|(refine qm ?_;first|refine qZ 0 I I I I ?_|refine qZ 1 I I I I ?_|refine qZ 2 I I I I ?_|refine qZ 3 I I I I ?_)|(refine qb ?_;first|refine qV 0 I I I I I ?_|refine qV 1 I I I I I ?_|refine qV 2 I I I I I ?_|refine qV 3 I I I I I ?_)|(refine HL.alloc I I ?_;intro bk))|refine HL.back [] rfl rfl ?_|refine HD.nil ?_|fail)
  obtain ⟨x,hxe⟩:∃x,x=jB5 S:=⟨_,rfl⟩;refine qR (Ent.pick (H':=[jS bk (roC (jB5 S)) 94,jM u 94 4 (JZ s k).length (cellsOf roC (JZ s k))]) [0,1] I I) ?_;rw[<- hxe]at hx hrk ⊢;rw[hkl];refine zh ?_;refine qB jQE I I (fun w _=>K3 x w) (zh ?_);refine HR.cond I (fun h4=>?_) (fun h4=>?_)
  ·have h4:usable x=false:=by simpa using h4
   have e:=jEb hx h4;rw[jCM h h2 (by rw[<- hn];exact hg) (by rw[<- hn,e];decide) (by omega),<- hn,e];refine zh ?_;refine HR.J6 94 4 (HR.ret Tryz.func216 I [_,_] (fun _ _=>⟨I,I,trivial⟩) ?_)
   exact fun w' hw=>⟨_,rfl,trivial,hw.pick [0] I rfl⟩
  have h4:usable x=true:=by simpa using h4
  have hxo:=zo h4;obtain ⟨y,hy⟩:∃y,(k=0\/(JZ s n)[k-1]? =some y)/\(k=0\/(JZ s k)[k-1]? =some y):=by
   by_cases h0:k=0
   ·exact ⟨x,.inl h0,.inl h0⟩
   ·exact ⟨jB5 (s.drop (4*(k-1))),.inr (Zg s (by omega)),.inr (Zg s (by omega))⟩
  refine zh ?_;refine qK j3 (by kernel_rfl) ?_
  repeat' (first|refine zq ?_|refine yE (Rd.own 1 I) I I I ?_|refine qW (Rd.own 1 I) jZ (k-1) I I I (by omega) (by omega) ?_|refine QE (Rd.own 1 I) (by rw[jA jP];omega) I I I I I I ?_|refine qj (Rd.own 1 I) I I I I (jJ jP (hy.2.resolve_left (by omega)) (i:=0) I) ?_|apply zb ?_ ?_|exact zc|(refine zi fun hb=>?_;try simp at hb)|fail)
  refine HR.cond I (fun h5=>?_) (fun h5=>?_)
  ·have h5:(decide ((k:Int)>0)&&decide (x.dest<=y.dest))=true:=h5;simp only[Bool.and_eq_true,decide_eq_true_eq]at h5;have e:=jEc hx h4 (by omega) (hy.1.resolve_left (by omega)) h5.2;rw[jCM h h2 (by rw[<- hn];exact hg) (by rw[<- hn,e];decide) (by omega),<- hn,e];refine zh ?_;refine HR.J6 94 4 (HR.ret Tryz.func216 I [_,_] (fun _ _=>⟨I,I,trivial⟩) ?_)
   exact fun w' hw=>⟨_,rfl,trivial,hw.pick [0] I rfl⟩
  ·have h5:(decide ((k:Int)>0)&&decide (x.dest<=y.dest))=false:=h5;have hg2:jf (jEd (JZ s n)) (k+1)=0:=Jo hg (jNv hx h4 fun y' h0 hy' hle=>by
    have:=hy.1.resolve_left (by omega);rw[this]at hy';cases hy';rw[decide_eq_true (show (k:Int)>0 by omega),decide_eq_true hle]at h5;cases h5)
   refine HR.skip (zh ?_);refine qH jZ I I I I I (by decide) (by decide) ?_;intro va;refine qJ 2 I jZ (Rd.own 0 I) I I I I (jH I) (by omega) (by omega) ?_;intro o2;refine zh ?_;refine ih (k+1) o2 _ _ ⟨hlt,hg2⟩ (by omega) ⟨by rw[<- hdr];rfl,rfl,trivial⟩ (Ent.trans (Ent.pick [2] I I) (qC ?_ ?_))
   ·rw [hrk];simp[hkl]
   ·rw [hrk,jL];rfl
 ·have hke:k=n:=by have:=of_decide_eq_false h3;omega
  subst hke;rw[jF1 h h2 (by rw[<- hn];exact hg),<- hn];refine zh ?_;refine HR.ret Tryz.func216 I [_,_] (fun _ _=>⟨I,I,trivial⟩) ?_
  exact fun w' hw=>⟨_,rfl,trivial,hw⟩
theorem u8_f (b:UInt8):-9223372036854775808<=(b.toNat:Int)/\(b.toNat:Int)<=9223372036854775807:=by have:=b.toNat_lt;constructor<;>omega
theorem u8_f2 (b:UInt8):-9223372036854775808<=(b.toNat:Int)*256/\(b.toNat:Int)*256<=9223372036854775807:=by have:=b.toNat_lt;constructor<;>omega
theorem u8_f3 (b c:UInt8):-9223372036854775808<=(b.toNat:Int)*256+(c.toNat:Int)/\(b.toNat:Int)*256+(c.toNat:Int)<=9223372036854775807:=by have:=b.toNat_lt;have:=c.toNat_lt;constructor<;>omega
theorem jKw (s:By) (w:World) (hs:s.length<=9223372036854775807):
  Calls Tryz.prog 238 #[str s] w fun e w'=>∃v',e= .returned (.tuple ⟨[v',.int .i64 (jAp s).2]⟩)/\True/\Sat (base w) [jM v' 94 4 (jAp s).1.length (cellsOf roC (jAp s).1)] w':=by
 refine zE Tryz.func238 I [(0,str s)] (zh ?_);refine HR.cond I (fun h=>?_) (fun h=>?_)
 ·have h:(((s.length:Int)%4) != 0)=true:=h;have h:s.length%4≠0:=by simp at h;omega
  rw[jJi h];refine zh ?_;refine HR.J6 94 4 (HR.ret Tryz.func238 I [_,_] (fun _ _=>⟨I,I,trivial⟩) ?_)
  exact fun w' hw=>⟨_,rfl,trivial,hw⟩
 have h:(((s.length:Int)%4) != 0)=false:=h;have h:s.length%4=0:=by simp at h;omega
 refine zh ?_;refine HR.cond I (fun h2=>?_) (fun h2=>?_)
 ·have h2:s.length>96:=by have:=of_decide_eq_true h2;omega
  rw[jF0 h h2];refine zh ?_;refine HR.J6 94 4 (HR.ret Tryz.func238 I [_,_] (fun _ _=>⟨I,I,trivial⟩) ?_)
  exact fun w' hw=>⟨_,rfl,trivial,hw⟩
 have h2:¬s.length>96:=by have:=of_decide_eq_false h2;omega
 obtain ⟨n,hn⟩:∃n,n=s.length / 4:=⟨_,rfl⟩;have hsn:s.length=4*n:=by omega
 refine zh ?_;refine HR.J6 94 4 (qd (α:=Nat) (β:=Value) (fun k _=>k<=n/\jf (jEd (JZ s n)) k=0) (fun k u=>[(0,str s),(4,u),(5,.int .i64 ((4*k:Nat):Int))]) (fun k u=>[jM u 94 4 (JZ s k).length (cellsOf roC (JZ s k))]) (fun k _=>n-k) 0 (.slice none 0 0) ⟨Nat.zero_le _,rfl⟩ ⟨I,I,I,trivial⟩ Ent.refl ?_)
 rintro k u ⟨hk,hg⟩ ih
 have hdl:(s.drop (4*k)).length=4*(n-k):=by rw[List.length_drop];omega
 refine zh ?_;refine HR.cond I (fun h3=>?_) (fun h3=>?_)
 ·have hlt:k<n:=by have:=of_decide_eq_true h3;omega
  have hx:(JZ s n)[k]? =some (jB5 (s.drop (4*k))):=Zg s hlt;have hrk:JZ s (k+1)=JZ s k++[jB5 (s.drop (4*k))]:=rfl;have hkl:=Zf s k;have b0:=(s.getD (4*k) 0).toNat_lt;have b1:=(s.getD (4*k+1) 0).toNat_lt;have b2:=(s.getD (4*k+2) 0).toNat_lt;have b3:=(s.getD (4*k+3) 0).toNat_lt;refine HR.ctl I (qO [(0,true),(1,true),(2,true),(3,true),(4,true),(5,true),(6,true),(7,true),(8,true),(9,true),(10,true),(11,true),(12,true),(13,true),(14,true),(15,true),(16,true),(17,true),(18,true),(19,true),(20,true),(21,true),(22,false),(23,false)] [] I I j3 (by kernel_rfl) ?_)
  repeat' (first|refine QM I I I ?_|refine QK I I I (by first|omega|(simp;done)|(simp;omega)) ?_|refine QK I I I (by with_reducible first|exact u8_f _|exact u8_f2 _|exact u8_f3 _ _) ?_|refine HD.build I I I ?_|(refine HD.one I ?_;first|refine QT I I ?_|(refine qm ?_;first|refine qZ 0 I I I I ?_|refine qZ 1 I I I I ?_|refine qZ 2 I I I I ?_|refine qZ 3 I I I I ?_)|(refine qb ?_;first|refine qV 0 I I I I I ?_|refine qV 1 I I I I I ?_|refine qV 2 I I I I I ?_|refine qV 3 I I I I I ?_)|(refine HL.alloc I I ?_;intro bk))|refine HL.back [] rfl rfl ?_|refine HD.nil ?_|fail)
  obtain ⟨x,hxe⟩:∃x,x=jB5 (s.drop (4*k)):=⟨_,rfl⟩;have hgd:∀i,(s.drop (4*k)).getD i 0=s.getD (4*k+i) 0:=fun i=>by simp[List.getD_eq_getElem?_getD]
  have he:[Value.int .i64 ((s.getD (4*k) 0).toNat:Int),.int .i64 (((s.getD (4*k+1) 0).toNat:Int)*256+((s.getD (4*k+2) 0).toNat:Int)),.int .i64 ((s.getD (4*k+3) 0).toNat:Int),.int .i64 255]=roC x:=by
   rw[hxe];unfold jB5;simp only[hgd,Nat.add_zero]
   simp
  refine qR (Ent.pick (H':=[jS bk [Value.int .i64 ((s.getD (4*k) 0).toNat:Int),.int .i64 (((s.getD (4*k+1) 0).toNat:Int)*256+((s.getD (4*k+2) 0).toNat:Int)),.int .i64 ((s.getD (4*k+3) 0).toNat:Int),.int .i64 255] 94,jM u 94 4 (JZ s k).length (cellsOf roC (JZ s k))]) [0,1] I I) ?_;rw[he];rw[<- hxe]at hx hrk;rw[hkl];refine zh ?_;refine qB jQH I I (fun w _=>Zt x w) (zh ?_);refine HR.cond I (fun h4=>?_) (fun h4=>?_)
  ·have h4:usable x=false:=by simpa using h4
   have e:=jEb hx h4;rw[jCM h h2 (by rw[<- hn];exact hg) (by rw[<- hn,e];decide) (by omega),<- hn,e];refine zh ?_;refine HR.J6 94 4 (HR.ret Tryz.func238 I [_,_] (fun _ _=>⟨I,I,trivial⟩) ?_)
   exact fun w' hw=>⟨_,rfl,trivial,hw.pick [0] I rfl⟩
  have h4:usable x=true:=by simpa using h4
  have hxo:=zo h4;obtain ⟨y,hy⟩:∃y,(k=0\/(JZ s n)[k-1]? =some y)/\(k=0\/(JZ s k)[k-1]? =some y):=by
   by_cases h0:k=0
   ·exact ⟨x,.inl h0,.inl h0⟩
   ·exact ⟨jB5 (s.drop (4*(k-1))),.inr (Zg s (by omega)),.inr (Zg s (by omega))⟩
  refine zh ?_;refine qK j3 (by kernel_rfl) ?_
  repeat' (first|refine zq ?_|refine yE (Rd.own 1 I) I I I ?_|refine qW (Rd.own 1 I) jZ (k-1) I I I (by omega) (by omega) ?_|refine QE (Rd.own 1 I) (by rw[jA jP];omega) I I I I I I ?_|refine qj (Rd.own 1 I) I I I I (jJ jP (hy.2.resolve_left (by omega)) (i:=0) I) ?_|apply zb ?_ ?_|exact zc|(refine zi fun hb=>?_;try simp at hb)|fail)
  refine HR.cond I (fun h5=>?_) (fun h5=>?_)
  ·have h5:(decide ((k:Int)>0)&&decide (x.dest<=y.dest))=true:=h5;simp only[Bool.and_eq_true,decide_eq_true_eq]at h5;have e:=jEc hx h4 (by omega) (hy.1.resolve_left (by omega)) h5.2;rw[jCM h h2 (by rw[<- hn];exact hg) (by rw[<- hn,e];decide) (by omega),<- hn,e];refine zh ?_;refine HR.J6 94 4 (HR.ret Tryz.func238 I [_,_] (fun _ _=>⟨I,I,trivial⟩) ?_)
   exact fun w' hw=>⟨_,rfl,trivial,hw.pick [0] I rfl⟩
  ·have h5:(decide ((k:Int)>0)&&decide (x.dest<=y.dest))=false:=h5;have hg2:jf (jEd (JZ s n)) (k+1)=0:=Jo hg (jNv hx h4 fun y' h0 hy' hle=>by
    have:=hy.1.resolve_left (by omega);rw[this]at hy';cases hy';rw[decide_eq_true (show (k:Int)>0 by omega),decide_eq_true hle]at h5;cases h5)
   refine HR.skip (zh ?_);refine qH jZ I I I I I (by decide) (by decide) ?_;intro va;refine qJ 2 I jZ (Rd.own 0 I) I I I I (jH I) (by omega) (by omega) ?_;intro o2;refine zh ?_;refine ih (k+1) o2 _ _ ⟨hlt,hg2⟩ (by omega) ⟨rfl,rfl,by show some _=some _;congr 2,trivial⟩ (Ent.trans (Ent.pick [2] I I) (qC ?_ ?_))
   ·rw [hrk];simp[hkl]
   ·rw [hrk,jL];rfl
 ·have hke:k=n:=by have:=of_decide_eq_false h3;omega
  subst hke;rw[jF1 h h2 (by rw[<- hn];exact hg),<- hn];refine zh ?_;refine HR.ret Tryz.func238 I [_,_] (fun _ _=>⟨I,I,trivial⟩) ?_
  exact fun w' hw=>⟨_,rfl,trivial,hw⟩
theorem jRj:IsFn Tryz.prog 166:=zF Tryz.func166 I
theorem fn150:IsFn Tryz.prog 150:=zF Tryz.func150 I
theorem jRg:IsFn Tryz.prog 175:=zF Tryz.func175 I
section
variable {α : Type} {E : α -> List Value} {sz : Nat} {B : Base} {H : List Chunk}
theorem Qq (hE:∀a,(E a).length=sz) {l:List α} {v:Value} (hv:Rd B H v (cellsOf E l) l.length) {n:Nat} (hn:n<=l.length):Rd B H (kS sz v 0 n) (cellsOf E (l.take n)) (l.take n).length:=by
 have h:=Rd.sub (sz:=sz) hv (jA hE _) (Nat.zero_le n) hn;rw[Nat.zero_mul,List.drop_zero,Nat.sub_zero,JC hE]at h;rw[List.length_take,Nat.min_eq_left hn];exact h
theorem yK (hE:∀a,(E a).length=sz) {l:List α} {v:Value} (hv:Rd B H v (cellsOf E l) l.length) {n:Nat} (hn:n<=l.length):Rd B H (kS sz v n l.length) (cellsOf E (l.drop n)) (l.drop n).length:=by
 have h:=Rd.sub (sz:=sz) hv (jA hE _) hn (Nat.le_refl _);rw[jo hE,List.take_of_length_le (by rw[jA hE,List.length_drop];exact Nat.le_refl _)]at h;rw[List.length_drop];exact h
end
theorem jRH (n:Nat):(if (16:Int)<(n:Int)then (16:Int)else (n:Int))=((min 16 n:Nat):Int):=by split<;>omega
theorem jPQ {α:Type} (k:Nat) (l:List α):l.take (min k l.length)=l.take k:=by
 rcases Nat.le_total k l.length with h|h
 ·rw [Nat.min_eq_left h]
 ·rw [Nat.min_eq_right h,List.take_of_length_le (Nat.le_refl _),List.take_of_length_le h]
theorem jBX (l:List Sn) (v:Value) (w:World) (hv:Sl w v (cellsOf snC l) l.length) (hl:l.length<=1000):
  Calls Tryz.prog 166 #[v] w fun e w'=>∃v',e= .returned v'/\Sat (base w) [jM v' 131 11 (l.take 16).length (cellsOf snC (l.take 16))] w':=by
 refine zE Tryz.func166 I [(0,v)] (zh ?_);refine qD (qA hv) I I I (zh ?_);refine QB 6 (v':= .int .i64 ((min 16 l.length:Nat):Int)) I (by rw[jRH]) ?_;have hp:=Qq jU (B:=base w) (H:=[]) (qA hv) (n:=min 16 l.length) (Nat.min_le_right _ _);rw[jPQ]at hp;refine qX (sz:=11) 0 (min 16 l.length) (qA hv) I I I I (.inl ⟨rfl,rfl⟩) (.inr ⟨_,_,_,rfl,rfl,rfl⟩) (Nat.zero_le _) (Nat.min_le_right _ _) ?_;refine qI jQL I I (fun w hw=>KJ (l.take 16) _ w (hp.at hw) (by simp;omega)) ?_;intro v1;refine zh ?_;refine HR.ret Tryz.func166 I [_] (fun _ _=>⟨I,trivial⟩) ?_
 exact fun w' hw=>⟨v1,rfl,hw⟩
theorem jM6 (l:List Sn) (v:Value) (w:World) (hv:Sl w v (cellsOf snC l) l.length) (hl:l.length<=1000) (hf:∀s∈l,fits .i64 s.wt):
  Calls Tryz.prog 150 #[v] w fun e w'=>∃v',e= .returned v'/\Sat (base w) [jM v' 131 11 (ZL l).length (cellsOf snC (ZL l))] w':=by
 have hf16:∀s∈l.take 16,fits .i64 s.wt:=fun s hs=>hf s (List.mem_of_mem_take hs)
 have h16:(l.take 16).length<=16:=by simp;omega
 unfold ZL;refine zE Tryz.func150 I [(0,v)] (zh ?_);refine qI jRj I I (fun w hw=>jBX l v w ((qA hv).at hw) hl) ?_;intro v1;obtain ⟨T,hT⟩:∃T,T=l.take 16:=⟨_,rfl⟩;rw[<- hT]at hf16 h16 ⊢;refine zh ?_;refine qD (Rd.own 0 I) I I I (zh ?_);refine HR.loop (ι:=Nat) (fun k=>k<=T.length) (fun k=>[(3,v1),(8,.int .i64 (T.length:Int)),(9,.int .i64 (k:Int))]) (fun k=>[jM v1 131 11 T.length (cellsOf snC ((T.take k).map zS++T.drop k))]) (fun k=>T.length-k) 0 (Nat.zero_le _) ⟨I,I,I,trivial⟩ Ent.refl ?_;intro k hk ih;have hml:=Zv zS T k;refine zh ?_;refine HR.cond I (fun h2=>?_) (fun h2=>?_)
 ·have hlt:k<T.length:=by have:=of_decide_eq_true h2;omega
  obtain ⟨x,hx⟩:=jG hlt;have hmg:=zC zS hx;have hms:=K9 zS hx;have hxf:-9223372036854775808<=x.wt/\x.wt<=9223372036854775807:=hf16 x (List.mem_of_getElem? hx);refine zh ?_;refine qE (Rd.own 0 I) jy k I I I I hlt ?_;refine qY (Rd.own 0 I) (by rw[jA jU,hml];omega) I I I I I I ?_;refine qF (Rd.own 0 I) I I I I (jJ jU hmg (i:=10) I) (zh ?_);refine HR.cond I (fun h3=>?_) (fun h3=>?_)
  ·have h3:x.wt>0:=of_decide_eq_true h3;have e:zS x=⟨x.f,x.tr,x.wt-1⟩:=by unfold zS;rw[if_pos h3]
   rw[e]at hms
   repeat' (first|refine zh ?_|refine qE (Rd.own 0 I) jy k I I I I hlt ?_|refine qY (Rd.own 0 I) (by rw[jA jU,hml];omega) I I I I I I ?_|refine qF (Rd.own 0 I) I I I I (jJ jU hmg (i:=10) I) ?_|refine qw (j:=k*11+10) 0 I I I I I I I (by rw[jA jU,hml];omega) ?_|fail)
   refine ih (k+1) _ _ hlt (by omega) ⟨I,I,I,trivial⟩ (qC I ?_);rw[<- hms];exact JR (i:=10) jU hmg I (by decide)
  ·have h3:¬x.wt>0:=of_decide_eq_false h3;have e:zS x=x:=by unfold zS;rw[if_neg h3]
   refine zh ?_;refine ih (k+1) _ _ hlt (by omega) ⟨I,I,I,trivial⟩ (qC I ?_);rw[ZM _ hx e]
 ·have hke:k=T.length:=by have:=of_decide_eq_false h2;omega
  subst hke;rw[List.take_length,List.drop_length,List.append_nil];refine zh ?_;refine HR.ret Tryz.func150 I [_] (fun _ _=>⟨I,trivial⟩) ?_
  exact fun w' hw=>⟨v1,rfl,qC (by simp) I w' hw⟩
theorem jS8:IsFn Tryz.prog 184:=zF Tryz.func184 I
theorem fn96:IsFn Tryz.prog 96:=zF Tryz.func96 I
def sn0:Sn:=⟨fr0,0,0⟩
theorem Ka (l:List Sn) (v:Value) (w:World) (hv:Sl w v (cellsOf snC l) l.length) (hl:l.length<=1000):
  Calls Tryz.prog 175 #[v] w fun e w'=>∃v',e= .returned v'/\Sat (base w) [jM v' 131 11 (l.take 16).length (cellsOf snC (l.take 16))] w':=by
 refine zE Tryz.func175 I [(0,v)] (zh ?_);refine HR.J6 131 11 (qd (α:=Nat) (β:=Value) (fun k o=>k<=l.length/\k<=16) (fun k o=>[(0,v),(3,o),(4,.int .i64 (k:Int))]) (fun k o=>[jM o 131 11 (l.take k).length (cellsOf snC (l.take k))]) (fun k _=>l.length-k) 0 (.slice none 0 0) ⟨Nat.zero_le _,by omega⟩ ⟨I,I,I,trivial⟩ Ent.refl ?_)
 rintro k o ⟨hk,hk16⟩ ih
 have htl:(l.take k).length=k:=by simp;omega
 repeat' (first|refine zh ?_|refine qD (qA hv) I I I ?_|apply zb ?_ ?_|exact zc|(refine zi fun hb=>?_;try simp at hb)|fail)
 refine HR.cond I (fun h2=>?_) (fun h2=>?_)
 ·have h2:(decide ((k:Int)<l.length)&&decide ((k:Int)<16))=true:=h2;simp only[Bool.and_eq_true,decide_eq_true_eq]at h2;have hlt:k<l.length:=by omega
  obtain ⟨x,hx⟩:=jG hlt;refine zh ?_;refine qE (qA hv) jy k I I I I hlt ?_;refine qN (qA hv) I I I I (by simp) I (jD jU hx) ?_;refine qH jy I I I I I (by decide) (by decide) ?_;intro va;refine qJ 1 I jy (Rd.own 0 I) I I I I (jH I) (by omega) (by omega) ?_;intro o2;refine zh ?_;refine ih (k+1) o2 _ _ ⟨hlt,by omega⟩ (by omega) ⟨I,I,I,trivial⟩ (Ent.trans (Ent.pick [1] I I) (qC ?_ ?_))
  ·rw [jE hx];simp
  ·rw [jE hx,jL];rfl
 ·have h2:(decide ((k:Int)<l.length)&&decide ((k:Int)<16))=false:=h2;have e:l.take k=l.take 16:=by
   by_cases h3:k<l.length
   ·rw [decide_eq_true (show (k:Int)<l.length by omega),Bool.true_and,decide_eq_false_iff_not]at h2;rw[show k=16 by omega]
   ·rw [List.take_of_length_le (by omega),List.take_of_length_le (by omega)]
  rw[e];refine zh ?_;refine HR.ret Tryz.func175 I [_] (fun _ _=>⟨I,trivial⟩) ?_
  exact fun w' hw=>⟨o,rfl,hw⟩
theorem jAZ (l:List Sn) (i:Nat) (v:Value) (w:World) (hv:Sl w v (cellsOf snC l) l.length) (hl:l.length<=1000) (hi:i<l.length):
  Calls Tryz.prog 184 #[v,.int .i64 (i:Int)] w fun e w'=>∃v',e= .returned v'/\Sat (base w) [jM v' 131 11 (l.eraseIdx i).length (cellsOf snC (l.eraseIdx i))] w':=by
 have hstep:∀ {k:Nat} {x:Sn},l[k]? =some x->(l.take (k+1)).eraseIdx i=if k=i then (l.take k).eraseIdx i else (l.take k).eraseIdx i++[x]:=by
  intro k x hx;have hkl:=(List.getElem?_eq_some_iff.1 hx).1;have htl:(l.take k).length=k:=by simp;omega
  rw[jE hx]
  split
  ·rename_i h
   subst h;rw[List.eraseIdx_append_of_length_le (by omega),htl,Nat.sub_self,List.eraseIdx_of_length_le (l:=l.take k) (by omega)];simp
  ·rename_i h
   by_cases h3:i<k
   ·rw [List.eraseIdx_append_of_lt_length (by omega)]
   ·rw [List.eraseIdx_append_of_length_le (by omega),htl,List.eraseIdx_of_length_le (l:=[x]) (by simp;omega),List.eraseIdx_of_length_le (l:=l.take k) (by omega)]
 refine zE Tryz.func184 I [(0,v),(1,.int .i64 (i:Int))] (zh ?_);refine HR.J6 131 11 (qd (α:=Nat) (β:=Value) (fun k o=>k<=l.length) (fun k o=>[(0,v),(1,.int .i64 (i:Int)),(5,o),(6,.int .i64 (k:Int))]) (fun k o=>[jM o 131 11 ((l.take k).eraseIdx i).length (cellsOf snC ((l.take k).eraseIdx i))]) (fun k _=>l.length-k) 0 (.slice none 0 0) (Nat.zero_le _) ⟨I,I,I,I,trivial⟩ (by rw[List.take_zero,List.eraseIdx_nil];exact Ent.refl) ?_)
 rintro k o hk ih
 have htl:((l.take k).eraseIdx i).length<=k:=Nat.le_trans (List.length_eraseIdx_le _ _) (by simp;omega);refine zh ?_;refine qD (qA hv) I I I (zh ?_);refine HR.cond I (fun h2=>?_) (fun h2=>?_)
 ·have hlt:k<l.length:=by have:=of_decide_eq_true h2;omega
  obtain ⟨x,hx⟩:=jG hlt;have hst:=hstep hx;refine zh ?_;refine HR.cond I (fun h3=>?_) (fun h3=>?_)
  ·have h3:¬k=i:=by have h3:((k:Int) != (i:Int))=true:=h3;simp at h3;omega
   rw[if_neg h3]at hst;refine zh ?_;refine qE (qA hv) jy k I I I I hlt ?_;refine qN (qA hv) I I I I (by simp) I (jD jU hx) ?_;refine qH jy I I I I I (by decide) (by decide) ?_;intro va;refine qJ 1 I jy (Rd.own 0 I) I I I I (jH I) (by omega) (by omega) ?_;intro o2;refine zh ?_;refine ih (k+1) o2 _ _ hlt (by omega) ⟨I,I,I,I,trivial⟩ (Ent.trans (Ent.pick [1] I I) (qC ?_ ?_))
   ·rw [hst];simp
   ·rw [hst,jL];rfl
  ·have h3:k=i:=by have h3:((k:Int) != (i:Int))=false:=h3;simp at h3;omega
   rw[if_pos h3]at hst;refine zh ?_;exact ih (k+1) o _ _ hlt (by omega) ⟨I,I,I,I,trivial⟩ (qC (by rw[hst]) (by rw[hst]))
 ·have hke:k=l.length:=by have:=of_decide_eq_false h2;omega
  subst hke;rw[List.take_length];refine zh ?_;refine HR.ret Tryz.func184 I [_] (fun _ _=>⟨I,trivial⟩) ?_
  exact fun w' hw=>⟨o,rfl,hw⟩
theorem jHo (l:List Sn) (v:Value) (w:World) (hv:Sl w v (cellsOf snC l) l.length) (hl:l.length<=1000) (hf:∀s∈l,fits .i64 s.wt):
  Calls Tryz.prog 96 #[v] w fun e w'=>∃v',e= .returned v'/\Sat (base w) [jM v' 131 11 (ZL l).length (cellsOf snC (ZL l))] w':=by
 have hf16:∀s∈l.take 16,fits .i64 s.wt:=fun s hs=>hf s (List.mem_of_mem_take hs)
 have h16:(l.take 16).length<=16:=by simp;omega
 unfold ZL;refine zE Tryz.func96 I [(0,v)] (zh ?_);refine qI jRg I I (fun w hw=>Ka l v w ((qA hv).at hw) hl) ?_;intro v1;obtain ⟨T,hT⟩:∃T,T=l.take 16:=⟨_,rfl⟩;rw[<- hT]at hf16 h16 ⊢;refine zh ?_;refine HR.loop (ι:=Nat) (fun k=>k<=T.length) (fun k=>[(3,v1),(4,.int .i64 (k:Int))]) (fun k=>[jM v1 131 11 T.length (cellsOf snC ((T.take k).map zS++T.drop k))]) (fun k=>T.length-k) 0 (Nat.zero_le _) ⟨I,I,trivial⟩ Ent.refl ?_;intro k hk ih;have hml:=Zv zS T k;refine zh ?_;refine qD (Rd.own 0 I) I I I (zh ?_);refine HR.cond I (fun h2=>?_) (fun h2=>?_)
 ·have hlt:k<T.length:=by have:=of_decide_eq_true h2;omega
  obtain ⟨x,hx⟩:=jG hlt;have hmg:=zC zS hx;have hms:=K9 zS hx;have hxf:-9223372036854775808<=x.wt/\x.wt<=9223372036854775807:=hf16 x (List.mem_of_getElem? hx);refine zh ?_;refine qE (Rd.own 0 I) jy k I I I I hlt ?_;refine qY (Rd.own 0 I) (by rw[jA jU,hml];omega) I I I I I I ?_;refine qF (Rd.own 0 I) I I I I (jJ jU hmg (i:=10) I) (zh ?_);refine HR.cond I (fun h3=>?_) (fun h3=>?_)
  ·have h3:x.wt>0:=of_decide_eq_true h3;have e:zS x=⟨x.f,x.tr,x.wt-1⟩:=by unfold zS;rw[if_pos h3]
   rw[e]at hms
   repeat' (first|refine zh ?_|refine qE (Rd.own 0 I) jy k I I I I hlt ?_|refine qY (Rd.own 0 I) (by rw[jA jU,hml];omega) I I I I I I ?_|refine qF (Rd.own 0 I) I I I I (jJ jU hmg (i:=10) I) ?_|refine qw (j:=k*11+10) 0 I I I I I I I (by rw[jA jU,hml];omega) ?_|fail)
   refine ih (k+1) _ _ hlt (by omega) ⟨I,I,trivial⟩ (qC I ?_);rw[<- hms];exact JR (i:=10) jU hmg I (by decide)
  ·have h3:¬x.wt>0:=of_decide_eq_false h3;have e:zS x=x:=by unfold zS;rw[if_neg h3]
   refine zh ?_;refine ih (k+1) _ _ hlt (by omega) ⟨I,I,trivial⟩ (qC I ?_);rw[ZM _ hx e]
 ·have hke:k=T.length:=by have:=of_decide_eq_false h2;omega
  subst hke;rw[List.take_length,List.drop_length,List.append_nil];refine zh ?_;refine HR.ret Tryz.func96 I [_] (fun _ _=>⟨I,trivial⟩) ?_
  exact fun w' hw=>⟨v1,rfl,qC (by simp) I w' hw⟩
theorem jGY {q:List Sn} {i:Nat} {ok:Bool} (h:(q.take 16).length<=i):ZU q i ok=(q.take 16,false):=by unfold ZU;rw[List.getElem?_eq_none h]
theorem jGX {q:List Sn} {i:Nat} {ok:Bool} {s:Sn} (h:(q.take 16)[i]? =some s):ZU q i ok=if ok then ((q.take 16).eraseIdx i,false)else if jm s=8 then ((q.take 16).eraseIdx i,true)
  else ((q.take 16).set i ⟨s.f,jm s,if s.f.ur then 0 else min (jm s) 4⟩,false):=by unfold ZU;rw[h]
theorem sn_fr {l:List Sn} {n:Nat} {s:Sn} (hs:l[n]? =some s):∀(i:Nat) u,(frC s.f)[i]? =some u->(cellsOf snC l)[n*11+i]? =some u:=fun i u h=>by
 refine jD jU hs i u ?_;show (frC s.f++[.int .i64 s.tr,.int .i64 s.wt])[i]? =some u;rw[List.getElem?_append_left (List.getElem?_eq_some_iff.1 h).1];exact h
theorem ma_fr {l:List Ma} {n:Nat} {s:Ma} (hs:l[n]? =some s):∀(i:Nat) u,(frC s.f)[i]? =some u->(cellsOf maC l)[n*10+i]? =some u:=fun i u h=>by
 refine jD j4 hs i u ?_;show (frC s.f++[.int .i64 s.si])[i]? =some u;rw[List.getElem?_append_left (List.getElem?_eq_some_iff.1 h).1];exact h
theorem jA0 (l:List Sn) (i:Int) (ok:Bool) (v:Value) (w:World) (hv:Sl w v (cellsOf snC l) l.length) (hl:l.length<=1000) (hf:∀s∈l,fits .i64 s.tr) (hi:0<=i):
  Calls Tryz.prog 108 #[v,.int .i64 i,.bool ok] w fun e w'=>∃v',e= .returned (.tuple ⟨[v',.bool (ZU l i.toNat ok).2]⟩)/\True/\Sat (base w) [jM v' 131 11 (ZU l i.toNat ok).1.length (cellsOf snC (ZU l i.toNat ok).1)] w':=by
 obtain ⟨n,rfl⟩:∃n:Nat,i=n:=⟨i.toNat,by omega⟩;rw[Int.toNat_natCast];have hf16:∀s∈l.take 16,fits .i64 s.tr:=fun s hs=>hf s (List.mem_of_mem_take hs)
 have h16:(l.take 16).length<=16:=by simp;omega
 refine zE Tryz.func108 I [(0,v),(1,.int .i64 (n:Int)),(2,.bool ok)] (zh ?_);refine qI jRg I I (fun w hw=>Ka l v w ((qA hv).at hw) hl) ?_;intro v1;refine zh ?_;refine qD (Rd.own 0 I) I I I (zh ?_);refine HR.cond I (fun h2=>?_) (fun h2=>?_)
 ·have h2:(l.take 16).length<=n:=by have:=of_decide_eq_true h2;omega
  rw[jGY h2];refine zh ?_;refine HR.ret Tryz.func108 I [_,_] (fun _ _=>⟨I,I,trivial⟩) ?_
  exact fun w' hw=>⟨v1,rfl,trivial,hw⟩
 have h2:n<(l.take 16).length:=by have:=of_decide_eq_false h2;omega
 obtain ⟨s,hs⟩:=jG h2;rw[jGX hs];obtain ⟨T,hT⟩:∃T,T=l.take 16:=⟨_,rfl⟩;rw[<- hT]at hf16 h16 h2 hs ⊢;have hsf:-9223372036854775808<=s.tr/\s.tr<=9223372036854775807:=hf16 s (List.mem_of_getElem? hs);refine zh ?_;refine qE (Rd.own 0 I) jy n I I I I h2 ?_;refine qY (Rd.own 0 I) (by rw[jA jU];omega) I I I I I I ?_;refine qF (Rd.own 0 I) I I I I (jJ jU hs (i:=9) I) (zh ?_);refine HR.join (ι:=Unit) (fun _=>True) (fun _=>[(1,.int .i64 (n:Int)),(2,.bool ok),(8,v1),(9,.int .i64 (max s.tr 0))]) (fun _=>[jM v1 131 11 T.length (cellsOf snC T)]) (fun _ _=>?_) (fun hj=>?_)
 ·have hm:jm s=min (max s.tr 0) 7+1:=rfl
  repeat' (first|refine zh ?_|apply zb ?_ ?_|exact zc|(refine zi fun hb=>?_;try simp at hb)|fail)
  refine HR.cond I (fun h3=>?_) (fun h3=>?_)
  ·have h3:(ok||decide (max s.tr 0>=7))=true:=h3;have e:(if ok=true then (T.eraseIdx n,false)else if jm s=8 then (T.eraseIdx n,true)else (T.set n ⟨s.f,jm s,if s.f.ur then 0 else min (jm s) 4⟩,false))=(T.eraseIdx n,!ok):=by
    cases ok
    ·rw [Bool.false_or,decide_eq_true_eq]at h3;rw[if_neg (by simp),if_pos (by omega)];rfl
    ·rfl
   rw[e];refine zh ?_;refine qI jS8 I I (fun w hw=>jAZ T n v1 w ((Rd.own 0 rfl).at hw) (by omega) h2) ?_;intro v2;refine zh ?_;refine HR.ret Tryz.func108 I [_,_] (fun _ _=>⟨I,I,trivial⟩) ?_
   exact fun w' hw=>⟨v2,rfl,trivial,hw.pick [0] I rfl⟩
  ·have h3:(ok||decide (max s.tr 0>=7))=false:=h3;rw[Bool.or_eq_false_iff,decide_eq_false_iff_not]at h3;obtain ⟨h3,h4⟩:=h3;rw[if_neg (by rw[h3];simp),if_neg (by omega)];refine HR.skip (zh ?_);refine HR.join (ι:=Unit) (fun _=>True) (fun _=>[(1,.int .i64 (n:Int)),(8,v1),(9,.int .i64 (max s.tr 0)),(10,.int .i64 (min (jm s) 4))]) (fun _=>[jM v1 131 11 T.length (cellsOf snC T)]) (fun _ _=>?_) (fun hj2=>?_)
   ·refine zh ?_;refine qE (Rd.own 0 I) jy n I I I I h2 ?_;refine qY (Rd.own 0 I) (by rw[jA jU];omega) I I I I I I ?_;refine QB 46 (v':=jv v1 (n*11)) I I (qY (Rd.own 0 I) (by rw[jA jU];omega) I I I I I I ?_);refine qF (Rd.own 0 I) I I I I (jJ jU hs (i:=7) I) (zh ?_);refine HR.join (ι:=Unit) (fun _=>True) (fun _=>[(1,.int .i64 (n:Int)),(8,v1),(9,.int .i64 (max s.tr 0)),(10,.int .i64 (if s.f.ur then 0 else min (jm s) 4))]) (fun _=>[jM v1 131 11 T.length (cellsOf snC T)]) (fun _ _=>?_) (fun hj3=>?_)
    ·have hc2:(cellsOf snC T).length=T.length*11:=jA jU T
     repeat' (first|refine zh ?_|refine qE (Rd.own 0 I) jy n I I I I h2 ?_|refine qY (Rd.own 0 I) (by rw[jA jU];omega) I I I I I I ?_|refine qN (us:=frC s.f) (Rd.own 0 I) I I I I (by simp) I (sn_fr hs) ?_|refine ql (us:=snC ⟨s.f,max s.tr 0+1,if s.f.ur then 0 else min (jm s) 4⟩) (j:=n*11) 0 I I I I I I I (by rw[hc2];show n*11+11<=_;omega) (by simp) ?_|fail)
     refine HR.ret Tryz.func108 I [_,_] (fun _ _=>⟨I,I,trivial⟩) ?_;refine fun w' hw=>⟨v1,rfl,trivial,qC (by rw[List.length_set]) ?_ w' hw⟩
     rw[hm,show min (max s.tr 0) 7=max s.tr 0 by omega];rw[hm,show min (max s.tr 0) 7=max s.tr 0 by omega]at*;exact j6 (i:=0) jU hs I (show 0+11<=11 by decide)
    ·refine HR.cond I (fun h5=>?_) (fun h5=>?_)
     ·have h5:s.f.ur=true:=h5;rw[h5]at hj3 ⊢;refine HR.region (zn ?_);exact hj3 () _ _ trivial ⟨I,I,I,I,trivial⟩ Ent.refl
     ·have h5:s.f.ur=false:=h5;rw[h5]at hj3 ⊢;refine HR.skip ?_;exact hj3 () _ _ trivial ⟨I,I,I,I,trivial⟩ Ent.refl
   ·refine HR.cond I (fun h5=>?_) (fun h5=>?_)
    ·have h5:max s.tr 0+1>4:=of_decide_eq_true h5;refine HR.region (zn ?_);exact hj2 () _ _ trivial ⟨rfl,rfl,rfl,by show some _=some _;congr 2;omega,trivial⟩ Ent.refl
    ·have h5:¬max s.tr 0+1>4:=of_decide_eq_false h5;refine HR.skip ?_;exact hj2 () _ _ trivial ⟨rfl,rfl,rfl,by show some _=some _;congr 2;omega,trivial⟩ Ent.refl
 ·refine HR.cond I (fun h3=>?_) (fun h3=>?_)
  ·have h3:s.tr<0:=of_decide_eq_true h3;refine HR.region (zn ?_);exact hj () _ _ trivial ⟨rfl,rfl,rfl,by show some _=some _;congr 2;omega,trivial⟩ Ent.refl
  ·have h3:¬s.tr<0:=of_decide_eq_false h3;refine HR.skip ?_;exact hj () _ _ trivial ⟨rfl,rfl,rfl,by show some _=some _;congr 2;omega,trivial⟩ Ent.refl
theorem fn226:IsFn Tryz.prog 226:=zF Tryz.func226 I
theorem jQK:IsFn Tryz.prog 157:=zF Tryz.func157 I
theorem fn266:IsFn Tryz.prog 266:=zF Tryz.func266 I
theorem jNs (l:List Li) (i:Nat) (v:Value) (B0:Base) (w:World) (hw0:Sat B0 [jM v 162 3 l.length (cellsOf liC l)] w) (hi:i<l.length) (hl:l.length<=1000):
  Calls Tryz.prog 226 #[v,.int .i64 (i:Int),.int .i64 ((i:Int)+1)] w fun e w'=>∃r:Value,e= .returned r/\True/\Sat ⟨w,zN [jM v 162 3 l.length (cellsOf liC l)]⟩ [jM r 162 3 (l.eraseIdx i).length (cellsOf liC (l.eraseIdx i))] w':=by
 obtain ⟨g,off,c,rfl,hnc,hcm⟩:=Qd (Sat.vw hw0 (i:=0) I) (by omega);have hcm:c<=9223372036854775807:=hcm;have hel:(l.eraseIdx i).length=l.length-1:=List.length_eraseIdx_of_lt hi;refine jc [jM (.slice (some ⟨g,off,none⟩) l.length c) 162 3 l.length (cellsOf liC l)] (hw0) Tryz.func226 I (Nat.le_of_ble_eq_true I) (HR.sub (σ':=[(0,.slice (some ⟨g,off,none⟩) l.length c),(1,.int .i64 (i:Int)),(2,.int .i64 ((i:Int)+1))]) ⟨I,I,I,trivial⟩ (zh ?_));refine HL.cut i (i+1) l.length I I I I (.inr ⟨_,_,rfl,rfl⟩) (.inr ⟨_,_,rfl,rfl⟩) (.inr ⟨_,_,rfl,rfl⟩) (by omega) (by omega) hnc (zh ?_);refine QX 16 false I (by simp;omega) ?_;refine zh ?_;refine qO [(0,true),(1,true),(2,true),(3,true),(4,true),(5,true),(6,false),(7,true)] [] I I j3 (by kernel_rfl) ?_
 repeat' (first|refine QM I I I ?_|refine HD.cut (sz:=3) 0 i c I I I I I (.inl ⟨rfl,rfl⟩) (.inr ⟨_,_,rfl,rfl⟩) (.inl ⟨rfl,rfl⟩) (by omega) (by omega) (by omega) ?_|refine HD.cut (sz:=3) (i+1) l.length c I I I I I (.inr ⟨_,_,rfl,rfl⟩) (.inl ⟨rfl,rfl,rfl⟩) (.inl ⟨rfl,rfl⟩) (by omega) (by omega) (by omega) ?_|(refine HD.one I ?_;first|refine QT I I ?_|refine Qu i (i+1) 0 I JG I I I (by omega) (by omega) hnc (jR jBc _) ?_|(refine qm ?_;first|refine qZ 0 I I I I ?_|refine qZ 1 I I I I ?_|refine qZ 2 I I I I ?_|refine qZ 3 I I I I ?_)|(refine qb ?_;first|refine qV 0 I I I I I ?_|refine qV 1 I I I I I ?_|refine qV 2 I I I I I ?_|refine qV 3 I I I I I ?_)|(refine HL.alloc I I ?_;intro bk))|refine HL.back [] rfl rfl ?_|refine HD.nil ?_|fail)
 have hx:(cellsOf liC l).take (i*3)++(cellsOf liC l).drop ((i+1)*3)++(cellsOf liC l).drop (i*3+(l.length-(i+1))*3)=cellsOf liC (l.eraseIdx i)++(cellsOf liC l).drop ((l.length-1)*3):=by
  rw[JC jd,jo jd,<- jL,List.eraseIdx_eq_take_drop_succ]
  congr 2
  omega
 refine qR (qC I hx) (QC 0 (v':= .slice (some ⟨g,off,none⟩) (l.length-1) c) I (by rw[show i+(l.length-(i+1))=l.length-1 by omega]) ?_);refine QC 7 (v':= .int .i64 (l.length:Int)) I I (zh ?_);refine HL.cut (sz:=3) (l.length-1) l.length c I I I I (.inr ⟨_,_,rfl,rfl⟩) (.inr ⟨_,_,rfl,rfl⟩) (.inl ⟨rfl,rfl⟩) (by omega) hnc (Nat.le_refl _) (QZ (zk (by omega)) ?_);refine Ql (l.length-1) 0 I I I I I I (by decide) I (by omega) (zh ?_);refine HR.ret Tryz.func226 I [_] (fun _ _=>⟨I,trivial⟩) ?_;have hcl:(cellsOf liC (l.eraseIdx i)).length=(l.length-1)*3:=by rw[jA jd,hel]
 refine fun w' hw=>⟨_,rfl,trivial,?_⟩
 rw[hel];refine Qv hw (by omega) ?_;rw[List.take_append_of_le_length (by simp[hcl]),List.take_take,Nat.min_self,List.take_append_of_le_length (by omega),List.take_of_length_le (by omega)]
theorem jBC (l:List Sn) (i:Nat) (v:Value) (B0:Base) (w:World) (hw0:Sat B0 [jM v 131 11 l.length (cellsOf snC l)] w) (hi:i<l.length) (hl:l.length<=1000):
  Calls Tryz.prog 157 #[v,.int .i64 (i:Int),.int .i64 ((i:Int)+1)] w fun e w'=>∃r:Value,e= .returned r/\True/\Sat ⟨w,zN [jM v 131 11 l.length (cellsOf snC l)]⟩ [jM r 131 11 (l.eraseIdx i).length (cellsOf snC (l.eraseIdx i))] w':=by
 obtain ⟨g,off,c,rfl,hnc,hcm⟩:=Qd (Sat.vw hw0 (i:=0) I) (by omega);have hcm:c<=9223372036854775807:=hcm;have hel:(l.eraseIdx i).length=l.length-1:=List.length_eraseIdx_of_lt hi;refine jc [jM (.slice (some ⟨g,off,none⟩) l.length c) 131 11 l.length (cellsOf snC l)] (hw0) Tryz.func157 I (Nat.le_of_ble_eq_true I) (HR.sub (σ':=[(0,.slice (some ⟨g,off,none⟩) l.length c),(1,.int .i64 (i:Int)),(2,.int .i64 ((i:Int)+1))]) ⟨I,I,I,trivial⟩ (zh ?_));refine HL.cut i (i+1) l.length I I I I (.inr ⟨_,_,rfl,rfl⟩) (.inr ⟨_,_,rfl,rfl⟩) (.inr ⟨_,_,rfl,rfl⟩) (by omega) (by omega) hnc (zh ?_);refine QX 16 false I (by simp;omega) ?_;refine zh ?_;refine qO [(0,true),(1,true),(2,true),(3,true),(4,true),(5,true),(6,false),(7,true)] [] I I j3 (by kernel_rfl) ?_
 repeat' (first|refine QM I I I ?_|refine HD.cut (sz:=11) 0 i c I I I I I (.inl ⟨rfl,rfl⟩) (.inr ⟨_,_,rfl,rfl⟩) (.inl ⟨rfl,rfl⟩) (by omega) (by omega) (by omega) ?_|refine HD.cut (sz:=11) (i+1) l.length c I I I I I (.inr ⟨_,_,rfl,rfl⟩) (.inl ⟨rfl,rfl,rfl⟩) (.inl ⟨rfl,rfl⟩) (by omega) (by omega) (by omega) ?_|(refine HD.one I ?_;first|refine QT I I ?_|refine Qu i (i+1) 0 I jy I I I (by omega) (by omega) hnc (jR KS _) ?_|(refine qm ?_;first|refine qZ 0 I I I I ?_|refine qZ 1 I I I I ?_|refine qZ 2 I I I I ?_|refine qZ 3 I I I I ?_)|(refine qb ?_;first|refine qV 0 I I I I I ?_|refine qV 1 I I I I I ?_|refine qV 2 I I I I I ?_|refine qV 3 I I I I I ?_)|(refine HL.alloc I I ?_;intro bk))|refine HL.back [] rfl rfl ?_|refine HD.nil ?_|fail)
 have hx:(cellsOf snC l).take (i*11)++(cellsOf snC l).drop ((i+1)*11)++(cellsOf snC l).drop (i*11+(l.length-(i+1))*11)=cellsOf snC (l.eraseIdx i)++(cellsOf snC l).drop ((l.length-1)*11):=by
  rw[JC jU,jo jU,<- jL,List.eraseIdx_eq_take_drop_succ]
  congr 2
  omega
 refine qR (qC I hx) (QC 0 (v':= .slice (some ⟨g,off,none⟩) (l.length-1) c) I (by rw[show i+(l.length-(i+1))=l.length-1 by omega]) ?_);refine QC 7 (v':= .int .i64 (l.length:Int)) I I (zh ?_);refine HL.cut (sz:=11) (l.length-1) l.length c I I I I (.inr ⟨_,_,rfl,rfl⟩) (.inr ⟨_,_,rfl,rfl⟩) (.inl ⟨rfl,rfl⟩) (by omega) hnc (Nat.le_refl _) (QZ (zk (by omega)) ?_);refine Ql (l.length-1) 0 I I I I I I (by decide) I (by omega) (zh ?_);refine HR.ret Tryz.func157 I [_] (fun _ _=>⟨I,trivial⟩) ?_;have hcl:(cellsOf snC (l.eraseIdx i)).length=(l.length-1)*11:=by rw[jA jU,hel]
 refine fun w' hw=>⟨_,rfl,trivial,?_⟩
 rw[hel];refine Qv hw (by omega) ?_;rw[List.take_append_of_le_length (by simp[hcl]),List.take_take,Nat.min_self,List.take_append_of_le_length (by omega),List.take_of_length_le (by omega)]
theorem jNr (l:List Ma) (i:Nat) (v:Value) (B0:Base) (w:World) (hw0:Sat B0 [jM v 166 10 l.length (cellsOf maC l)] w) (hi:i<l.length) (hl:l.length<=1000):
  Calls Tryz.prog 266 #[v,.int .i64 (i:Int),.int .i64 ((i:Int)+1)] w fun e w'=>∃r:Value,e= .returned r/\True/\Sat ⟨w,zN [jM v 166 10 l.length (cellsOf maC l)]⟩ [jM r 166 10 (l.eraseIdx i).length (cellsOf maC (l.eraseIdx i))] w':=by
 obtain ⟨g,off,c,rfl,hnc,hcm⟩:=Qd (Sat.vw hw0 (i:=0) I) (by omega);have hcm:c<=9223372036854775807:=hcm;have hel:(l.eraseIdx i).length=l.length-1:=List.length_eraseIdx_of_lt hi;refine jc [jM (.slice (some ⟨g,off,none⟩) l.length c) 166 10 l.length (cellsOf maC l)] (hw0) Tryz.func266 I (Nat.le_of_ble_eq_true I) (HR.sub (σ':=[(0,.slice (some ⟨g,off,none⟩) l.length c),(1,.int .i64 (i:Int)),(2,.int .i64 ((i:Int)+1))]) ⟨I,I,I,trivial⟩ (zh ?_));refine HL.cut i (i+1) l.length I I I I (.inr ⟨_,_,rfl,rfl⟩) (.inr ⟨_,_,rfl,rfl⟩) (.inr ⟨_,_,rfl,rfl⟩) (by omega) (by omega) hnc (zh ?_);refine QX 16 false I (by simp;omega) ?_;refine zh ?_;refine qO [(0,true),(1,true),(2,true),(3,true),(4,true),(5,true),(6,false),(7,true)] [] I I j3 (by kernel_rfl) ?_
 repeat' (first|refine QM I I I ?_|refine HD.cut (sz:=10) 0 i c I I I I I (.inl ⟨rfl,rfl⟩) (.inr ⟨_,_,rfl,rfl⟩) (.inl ⟨rfl,rfl⟩) (by omega) (by omega) (by omega) ?_|refine HD.cut (sz:=10) (i+1) l.length c I I I I I (.inr ⟨_,_,rfl,rfl⟩) (.inl ⟨rfl,rfl,rfl⟩) (.inl ⟨rfl,rfl⟩) (by omega) (by omega) (by omega) ?_|(refine HD.one I ?_;first|refine QT I I ?_|refine Qu i (i+1) 0 I JB I I I (by omega) (by omega) hnc (jR jBa _) ?_|(refine qm ?_;first|refine qZ 0 I I I I ?_|refine qZ 1 I I I I ?_|refine qZ 2 I I I I ?_|refine qZ 3 I I I I ?_)|(refine qb ?_;first|refine qV 0 I I I I I ?_|refine qV 1 I I I I I ?_|refine qV 2 I I I I I ?_|refine qV 3 I I I I I ?_)|(refine HL.alloc I I ?_;intro bk))|refine HL.back [] rfl rfl ?_|refine HD.nil ?_|fail)
 have hx:(cellsOf maC l).take (i*10)++(cellsOf maC l).drop ((i+1)*10)++(cellsOf maC l).drop (i*10+(l.length-(i+1))*10)=cellsOf maC (l.eraseIdx i)++(cellsOf maC l).drop ((l.length-1)*10):=by
  rw[JC j4,jo j4,<- jL,List.eraseIdx_eq_take_drop_succ]
  congr 2
  omega
 refine qR (qC I hx) (QC 0 (v':= .slice (some ⟨g,off,none⟩) (l.length-1) c) I (by rw[show i+(l.length-(i+1))=l.length-1 by omega]) ?_);refine QC 7 (v':= .int .i64 (l.length:Int)) I I (zh ?_);refine HL.cut (sz:=10) (l.length-1) l.length c I I I I (.inr ⟨_,_,rfl,rfl⟩) (.inr ⟨_,_,rfl,rfl⟩) (.inl ⟨rfl,rfl⟩) (by omega) hnc (Nat.le_refl _) (QZ (zk (by omega)) ?_);refine Ql (l.length-1) 0 I I I I I I (by decide) I (by omega) (zh ?_);refine HR.ret Tryz.func266 I [_] (fun _ _=>⟨I,trivial⟩) ?_;have hcl:(cellsOf maC (l.eraseIdx i)).length=(l.length-1)*10:=by rw[jA j4,hel]
 refine fun w' hw=>⟨_,rfl,trivial,?_⟩
 rw[hel];refine Qv hw (by omega) ?_;rw[List.take_append_of_le_length (by simp[hcl]),List.take_take,Nat.min_self,List.take_append_of_le_length (by omega),List.take_of_length_le (by omega)]
end Go.Proofs.YtgfdoognildoeaaGreat
