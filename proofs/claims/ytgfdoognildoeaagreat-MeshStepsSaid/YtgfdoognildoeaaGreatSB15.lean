/- Part of a proof. Conditions: none. -/
import Derived.Test.YtgfdoognildoeaaGreatSB14
set_option linter.unusedVariables false
set_option linter.unusedSectionVars false
set_option linter.unusedSimpArgs false
set_option maxRecDepth 100000
set_option maxHeartbeats 4000000
namespace Go.Proofs.YtgfdoognildoeaaGreat
open Go.GX Go.RowKit
attribute [local irreducible] Calls Run JH JL zU HR HL HD jS jM ZN Rd jg Jf
open Nd
theorem fn64:IsFn Tryz.prog 64:=zF Tryz.func64 I
theorem fn65:IsFn Tryz.prog 65:=zF Tryz.func65 I
theorem jSg:IsFn Tryz.prog 34:=zF Tryz.func34 I
theorem fn55:IsFn Tryz.prog 55:=zF Tryz.func55 I
theorem fn149:IsFn Tryz.prog 149:=zF Tryz.func149 I
theorem fn78:IsFn Tryz.prog 78:=zF Tryz.func78 I
theorem jGk (l:List (NV×Nd)) (p:NV×Nd->Bool) (g:FuncId) (caps:List Value) (v:Value) (w:World) (hg:IsFn Tryz.prog g) (hp:jQ4 Tryz.prog g caps (fun a=> .agg ⟨ZF a⟩) p l w) (hv:Sl w v (cellsOf ZF l) l.length) (hl:l.length<=1000000):
  Calls Tryz.prog 64 #[v,.func (.func g) #[] caps.toArray] w fun e w'=>e= .returned (.int .i64 (fidx p l))/\Below w.heap.size w w':=by
 refine zE Tryz.func64 I [(0,v),(1,.func (.func g) #[] caps.toArray)] (zh ?_);refine qD (qA hv) I I I (zh ?_);refine HR.loop (ι:=Nat) (fun k=>k<=l.length/\∀j b,j<k->l[j]? =some b->p b=false) (fun k=>[(0,v),(1,.func (.func g) #[] caps.toArray),(7,.int .i64 (l.length:Int)),(8,.int .i64 (k:Int))]) (fun _=>[]) (fun k=>l.length-k) 0 ⟨Nat.zero_le _,fun j b hj=>absurd hj (Nat.not_lt_zero _)⟩ ⟨I,I,I,I,trivial⟩ Ent.refl ?_
 rintro k ⟨hk,hno⟩ ih
 refine zh ?_;refine HR.cond I (fun h2=>?_) (fun h2=>?_)
 ·have hlt:k<l.length:=by have:=of_decide_eq_true h2;omega
  obtain ⟨x,hx⟩:=jG hlt;refine zh ?_;refine qE (qA hv) JQ k I I I I hlt ?_;refine qN (qA hv) I I I I (by simp) I (jD jh hx) ?_;refine Qa (caps:=caps) hg I I I (fun w' hw=>hp x (List.mem_of_getElem? hx) w' hw.jF) (zh ?_);refine HR.cond I (fun h3=>?_) (fun h3=>?_)
  ·have h3:p x=true:=h3;refine zh ?_;refine HR.ret Tryz.func64 I [_] (fun _ _=>⟨I,trivial⟩) ?_;rw[Zk hx h3 hno]
   exact fun w' hw=>⟨rfl,hw.jF⟩
  ·have h3:p x=false:=h3;refine zh ?_;refine ih (k+1) _ _ ⟨hlt,fun j b hj hb=>?_⟩ (by omega) ⟨I,I,I,I,trivial⟩ Ent.refl
   by_cases e:j=k
   ·subst e;rw[hx]at hb;cases hb;exact h3
   ·exact hno j b (by omega) hb
 ·have hke:k=l.length:=by have:=of_decide_eq_false h2;omega
  subst hke;rw[Jq hno];refine zh ?_;exact zR Tryz.func64
theorem jH3 (bt:Nat) (k:Int) (x:NV×Nd) (w:World) (hb:Sl w (.slice (some ⟨bt,0,none⟩) 1 1) [.int .i64 k] 1):Calls Tryz.prog 65 #[.agg ⟨ZF x⟩,.pointer (some ⟨bt,0,none⟩)] w fun e w'=>e= .returned (.bool (x.2.addr==k))/\Below w.heap.size w w':=by
 refine zE Tryz.func65 I [(0,.agg ⟨ZF x⟩),(1,.pointer (some ⟨bt,0,none⟩))] ?_
 repeat' (first|refine zh ?_|refine qF (j:=0) (qA hb) I I I I I ?_|intro (bk:Nat))
 exact zR Tryz.func65
theorem kK (xs:List (NV×Nd)) (a:Int) (v:Value) (w:World) (h:Sl w v (cellsOf ZF xs) xs.length) (hl:xs.length<=1000000):
  Calls Tryz.prog 34 #[v,.int .i64 a] w fun e w'=>e= .returned (.int .i64 (jNZ (nds xs) a))/\Below w.heap.size w w':=by
 rw[jGo];refine zE Tryz.func34 I [(0,v),(1,.int .i64 a)] ?_
 repeat' (first|refine zh ?_|refine yP (g:=65) (caps:=[_]) I I ?_|refine qB fn64 I I (fun w1 hw1=>jGk xs (fun x=>x.2.addr==a) 65 [.pointer (some ⟨bk,0,none⟩)] v w1 fn65 (fun x hx w2 hb=>jH3 bk a x w2 (((Qr (n:=1) 0 rfl).at hw1).ext hb)) ((qA h).at hw1) hl) ?_|intro (bk:Nat))
 exact zR Tryz.func34
theorem jF5 (xs:List (NV×Nd)) (t a:Int) (v:Value) (w:World) (h:Sl w v (cellsOf ZF xs) xs.length) (hl:xs.length<=1000000):
  Calls Tryz.prog 55 #[meV t v,.int .i64 a] w fun e w'=>e= .returned (.int .i64 (jNZ (nds xs) a))/\Below w.heap.size w w':=by
 rw[jGo];have cx:(cellsOf ZF xs).length=xs.length*13:=jA jh _;refine zE Tryz.func55 I [(0,meV t v),(1,.int .i64 a)] (zh ?_);intro (bk:Nat);refine zh ?_;refine HR.loop (ι:=Nat) (fun k=>k<=xs.length/\∀j b,j<k->xs[j]? =some b->(b.2.addr==a)=false) (fun k=>[(1,.int .i64 a),(2,ptr bk),(5,.int .i64 (k:Int))]) (fun _=>[jS bk (meC t v) 26]) (fun k=>xs.length-k) 0 ⟨Nat.zero_le _,fun j b hj=>absurd hj (Nat.not_lt_zero _)⟩ ⟨I,I,I,trivial⟩ Ent.refl ?_
 rintro k ⟨hk,hno⟩ ih
 refine zh ?_;refine qD (qA h) I I I (zh ?_);refine HR.cond I (fun h2=>?_) (fun h2=>?_)
 ·have hlt:k<xs.length:=by have:=of_decide_eq_true h2;omega
  obtain ⟨x,hx⟩:=jG hlt;refine zh ?_;refine qE (qA h) JQ k I I I I hlt ?_;refine qP 0 (qA h) (by rw[cx];omega) I I I I I I I ?_;refine qF (qA h) I I I I (jJ jh hx (i:=0) I) (zh ?_);refine HR.cond I (fun h3=>?_) (fun h3=>?_)
  ·have h3:(x.2.addr==a)=true:=h3;refine zh ?_;refine HR.ret Tryz.func55 I [_] (fun _ _=>⟨I,trivial⟩) ?_;rw[Zk hx h3 hno]
   exact fun w' hw=>⟨rfl,hw.jF⟩
  ·have h3:(x.2.addr==a)=false:=h3;refine zh ?_;refine ih (k+1) _ _ ⟨hlt,fun j b hj hb=>?_⟩ (by omega) ⟨I,I,I,trivial⟩ Ent.refl
   by_cases e:j=k
   ·subst e;rw[hx]at hb;cases hb;exact h3
   ·exact hno j b (by omega) hb
 ·have hke:k=xs.length:=by have:=of_decide_eq_false h2;omega
  subst hke;rw[Jq hno];refine zh ?_;exact zR Tryz.func55
theorem drop_at {α:Type} {l m:List α} {k:Nat} {x:α} (h:l.drop k=m.drop k) (hx:m[k]? =some x):l[k]? =some x:=by
 have e:(l.drop k)[0]? =(m.drop k)[0]? :=by rw[h]
 rw[List.getElem?_drop,List.getElem?_drop,Nat.add_zero,hx]at e;exact e
theorem jDh (L:List PtV) (v:Value) (w:World) (hv:RdPts w v L) (hs:∀p∈L,jAS p.pt) (hl:L.length<=1000):
  Calls Tryz.prog 149 #[v] w fun e w'=>∃x:Value×List PtV,e= .returned x.1/\jAT x (pts L)/\Sat (base w) (jAq x) w':=by
 have hsh:∀p∈L,kR p:=fun p hp=>(hv.r p hp).sh
 have cL:(cellsOf ptC L).length=L.length*6:=jA jY _;refine zE Tryz.func149 I [(0,v)] (zh ?_);refine qI fn204 I I (fun w1 hw1=>jJH L v w1 ((qA hv.s).at hw1) hsh hl) ?_;intro v1;refine zh ?_;refine qD (Rd.own 0 I) I I I (zh ?_);refine qd (α:=Nat) (β:=List PtV) (fun k M=>k<=L.length/\pts M=pts L/\M.drop k=L.drop k/\∀p∈M,kR p) (fun k M=>[(0,v),(3,v1),(8,.int .i64 (L.length:Int)),(9,.int .i64 (k:Int))]) (fun k M=>[jM v1 173 6 M.length (cellsOf ptC M),jC (ptG (M.take k))]) (fun k _=>L.length-k) 0 L ⟨Nat.zero_le _,rfl,rfl,hsh⟩ ⟨I,I,I,I,trivial⟩ (Ent.trans QJ (Ent.pick [1,0] I I)) ?_
 rintro k M ⟨hk,hpM,hdr,hshM⟩ ih
 have hk:k<=L.length:=hk;have hML:M.length=L.length:=by rw[<- jW,hpM,jW]
 have cM:(cellsOf ptC M).length=M.length*6:=jA jY _;refine zh ?_;refine HR.cond I (fun h2=>?_) (fun h2=>?_)
 ·have hlt:k<L.length:=by have:(k:Int)<(L.length:Int):=of_decide_eq_true h2;omega
  obtain ⟨p,hp⟩:=jG hlt;have hpm:=drop_at hdr hp;have hrp:=hv.r p (List.mem_of_getElem? hp);have hsp:=hs p (List.mem_of_getElem? hp);obtain ⟨aa,na,ca,ab,nb,cb,ex⟩:=hrp.sh.lit;obtain ⟨q,hq⟩:∃q,q=p.pt:=⟨_,rfl⟩;rw[<- hq]at ex hsp;subst ex;have hh:Sl w (.slice aa na ca) (cellsOf bC q.hv) q.hv.length:=hrp.h;have hd:Sl w (.slice ab nb cb) (cellsOf sC q.da) q.da.length:=hrp.d;have hs1:q.hv.length<=140737488355328:=hsp.1;have hs2:q.da.length<=8796093022208:=hsp.2.1;refine zh ?_;refine qE (qA hv.s) jX k I I I I hlt ?_;refine qP 4 (qA hv.s) (by rw[cL];omega) I I I I I I I ?_;refine qF (qA hv.s) I I I I (jJ jY hp (i:=4) I) ?_;refine qI jTM I I (fun w1 hw1=>jEf q.hv _ w1 ((qA hh).at hw1) hs1) ?_;intro u1;refine HL.shape 0 I fun a1 c1 hu=>?_
  subst hu;refine qE (Rd.own 1 I) jX k I I I I (by omega) ?_;refine qP 4 (Rd.own 1 I) (by rw[cM];omega) I I I I I I I ?_;refine qw (j:=k*6+4) 1 I I I I I I I (by rw[cM];omega) ?_;refine zh ?_;obtain ⟨M1,hM1⟩:∃M1,M1=M.set k ⟨.slice a1 q.hv.length c1,.slice ab nb cb,q⟩:=⟨_,rfl⟩;have hg1:M1[k]? =some ⟨.slice a1 q.hv.length c1,.slice ab nb cb,q⟩:=by rw[hM1];simp[hML,hlt]
  have hl1:M1.length=M.length:=by rw[hM1];exact List.length_set
  have cM1:(cellsOf ptC M1).length=M1.length*6:=jA jY _;refine qM (H':=[jM v1 173 6 M1.length (cellsOf ptC M1),jM (.slice a1 q.hv.length c1) 4 1 q.hv.length (cellsOf bC q.hv),jC (ptG (M.take k))]) (Ent.trans (Ent.pick [1,0,2] I I) (qC hl1.symm (by rw[hM1];exact JR (i:=4) jY hpm I (by decide)))) ?_;refine qE (qA hv.s) jX k I I I I hlt ?_;refine qP 5 (qA hv.s) (by rw[cL];omega) I I I I I I I ?_;refine qF (qA hv.s) I I I I (jJ jY hp (i:=5) I) ?_;refine qI jTL I I (fun w1 hw1=>jEe q.da _ w1 ((qA hd).at hw1) hs2) ?_;intro u2;refine HL.shape 0 I fun a2 c2 hu=>?_
  subst hu;refine qE (Rd.own 1 I) jX k I I I I (by omega) ?_;refine qP 5 (Rd.own 1 I) (by rw[cM1];omega) I I I I I I I ?_;refine qw (j:=k*6+5) 1 I I I I I I I (by rw[cM1];omega) ?_;refine zh ?_;obtain ⟨Q,hQ⟩:∃Q:PtV,Q=⟨.slice a1 q.hv.length c1,.slice a2 q.da.length c2,q⟩:=⟨_,rfl⟩;have hms:M1.set k Q=M.set k Q:=by rw[hM1,List.set_set]
  have htk:(M.set k Q).take (k+1)=M.take k++[Q]:=by
   rw[jE (show (M.set k Q)[k]? =some Q by simp[hML,hlt]),List.take_set_of_le (Nat.le_refl k)]
  refine ih (k+1) (M.set k Q) _ _ ⟨hlt,?_,?_,?_⟩ (by show L.length-(k+1)<L.length-k;omega) ⟨I,I,I,I,trivial⟩ ?_
  ·unfold pts;rw[List.map_set,hQ];show (pts M).set k q=pts L;have hqk:(pts M)[k]? =some q:=J3 hpm;rw[jCF hqk];exact hpM
  ·rw [List.drop_set_of_lt (Nat.lt_succ_self k)];have:=congrArg (List.drop 1) hdr
   rwa[List.drop_drop,List.drop_drop]at this
  ·intro x hx;rcases List.mem_or_eq_of_mem_set hx with hx|rfl
   ·exact hshM x hx
   ·rw [hQ];exact ⟨⟨_,_,_,rfl⟩,⟨_,_,_,rfl⟩⟩
  ·show Ent _ _ [jM v1 173 6 (M.set k Q).length (cellsOf ptC (M.set k Q)),jC (ptG ((M.set k Q).take (k+1)))];rw[htk,Zi,jAc,hQ];refine Ent.trans (Ent.pick (H':=[ptH ⟨.slice a1 q.hv.length c1,.slice a2 q.da.length c2,q⟩,ptD ⟨.slice a1 q.hv.length c1,.slice a2 q.da.length c2,q⟩,jC (ptG (M.take k)),_]) [2,0,3,1] I I) (Ent.trans (Ent.group (G:=[ptH _,ptD _])) (Ent.trans QV (Ent.trans (Ent.pick [1,0] I I) (qC (by rw[hl1,List.length_set]) ?_))));rw[<- hQ,<- hms,hQ];exact JR (i:=5) jY hg1 I (by decide)
 ·have hke:k=L.length:=by have:¬(k:Int)<(L.length:Int):=of_decide_eq_false h2;omega
  subst hke;refine zh ?_;refine HR.ret Tryz.func149 I [_] (fun _ _=>⟨I,trivial⟩) ?_;refine fun w' hw=>⟨(v1,M),rfl,⟨hpM,hshM⟩,?_⟩
  rw[<- hML,List.take_length]at hw;exact hw
theorem jLC (V:NV) (n:Nd) (w:World) (h:OkN w V n) (hs:SmN n):
  Calls Tryz.prog 78 #[.agg ⟨ndC V n⟩] w fun e w'=>∃x:NV×List Chunk,e= .returned (.agg ⟨ndC x.1 n⟩)/\Own x.1 x.2 n/\Sat (base w) [jC x.2] w':=by
 refine zE Tryz.func78 I [(0,.agg ⟨ndC V n⟩)] ?_
 repeat' (first|refine zh ?_|refine qI fn61 I I (fun w1 hw1=>jAi n.table _ w1 ((qA h.ta).at hw1) hs.ta) ?_|intro (bk:Nat))
 intro v1;refine HL.shape 0 I fun a1 c1 hv=>?_
 subst hv;refine zh ?_;refine qI jTP I I (fun w1 hw1=>jDL n.links _ w1 ((qA h.li).at hw1) hs.li) ?_;intro v2;refine HL.shape 0 I fun a2 c2 hv=>?_
 subst hv;refine zh ?_;refine qI jQL I I (fun w1 hw1=>KJ n.out _ w1 ((qA h.ou).at hw1) hs.ou) ?_;intro v3;refine HL.shape 0 I fun a3 c3 hv=>?_
 subst hv;refine zh ?_;refine qI fn148 I I (fun w1 hw1=>jLb n.children _ w1 ((qA h.ch).at hw1) hs.ch) ?_;intro v4;refine HL.shape 0 I fun a4 c4 hv=>?_
 subst hv;refine zh ?_;refine qI jRo I I (fun w1 hw1=>jAk n.boxes _ w1 ((qA h.bo).at hw1) hs.bo) ?_;intro v5;refine HL.shape 0 I fun a5 c5 hv=>?_
 subst hv;refine qM (Ent.pick [6,0,1,2,3,4,5] I I) (zh ?_);refine qI jRm I I (fun w1 hw1=>jAj n.seen _ w1 ((qA h.se).at hw1) hs.se) ?_;intro v6;refine HL.shape 0 I fun a6 c6 hv=>?_
 subst hv;refine zh ?_;refine qL (r:=fun x:Value×List PtV=>x.1) (Q:=fun x=>jAT x (pts V.ps)) (G:=fun x=>jAq x) fn149 I I (fun w1 hw1=>jDh V.ps _ w1 (h.pa.ext hw1.jF) (fun p hp=>hs.sm p.pt (by rw[<- h.eq];exact List.mem_map.2 ⟨p,hp,rfl⟩)) (by rw[<- jW,h.eq];exact hs.pa)) ?_
 rintro ⟨v7,L7⟩ ⟨hp7,hsh7⟩
 have hp7:pts L7=pts V.ps:=hp7;refine qM (H':=jM v7 173 6 L7.length (cellsOf ptC L7)::jC (ptG L7)::_) Ent.refl ?_;refine HL.shape 0 I fun a7 c7 hv=>?_
 subst hv;refine zh ?_;refine qI fn59 I I (fun w1 hw1=>jDM n.inbox _ w1 ((qA h.ib).at hw1) hs.ib) ?_;intro v8;refine HL.shape 0 I fun a8 c8 hv=>?_
 subst hv;refine qM (Ent.pick [10,4,0,1,2,3,5,6,7,8,9] I I) (zh ?_);refine HR.ret Tryz.func78 I [_] (fun w hw=>⟨⟨_,rfl,jQ hw 0 I I I I rfl⟩,trivial⟩) ?_;refine fun w' hw=>⟨(⟨(a1,c1),(a2,c2),(a3,c3),(a4,c4),(a5,c5),(a6,c6),(a7,c7),(a8,c8),L7⟩,ndH ⟨(a1,c1),(a2,c2),(a3,c3),(a4,c4),(a5,c5),(a6,c6),(a7,c7),(a8,c8),L7⟩ n),rfl,Pts.own ⟨by rw[<- h.eq];exact hp7,hsh7⟩,jBQ (hw.pick [10,9,8,7,6,5,3,4,2] I rfl)⟩
abbrev meZ:List Value:=[.int .i64 0,.slice none 0 0]
abbrev meB (b:Nat) (t:Int) (v:Value):Chunk:=jS b (meC t v) 26
abbrev MkL (x:SV×List (NV×Nd)×List Chunk) (l:List Nd):Prop:=nds x.2.1=l/\∀y∈x.2.1,Own y.1 x.2.2 y.2
end Go.Proofs.YtgfdoognildoeaaGreat
namespace Go.Proofs.YtgfdoognildoeaaGreat
open Go.GX Go.RowKit
attribute [local irreducible] Calls Run JH JL zU HR HL HD jS jM ZN Rd jg Jf
theorem jLX:Elem Tryz.prog 32 206 2 16:=⟨rfl,⟨_,_,rfl,rfl,rfl,rfl,rfl⟩,by decide⟩
theorem jP3:KeyK Tryz.prog 3 (fun z:Int=>Value.int .i64 z):=jRN I
theorem fn258:IsFn Tryz.prog 258:=zF Tryz.func258 I
theorem jS5:IsFn Tryz.prog 202:=zF Tryz.func202 I
theorem jQD:IsFn Tryz.prog 203:=zF Tryz.func203 I
theorem jSu:IsFn Tryz.prog 230:=zF Tryz.func230 I
theorem jSw:IsFn Tryz.prog 228:=zF Tryz.func228 I
theorem jSv:IsFn Tryz.prog 229:=zF Tryz.func229 I
theorem jQG:IsFn Tryz.prog 186:=zF Tryz.func186 I
theorem fn147:IsFn Tryz.prog 147:=zF Tryz.func147 I
theorem fn173:IsFn Tryz.prog 173:=zF Tryz.func173 I
theorem jPt (n:Int) (w:World):Calls Tryz.prog 258 #[.int .i64 n] w fun e w'=>e= .returned (.bool (Tp.okN n))/\Below w.heap.size w w':=by
 refine zE Tryz.func258 I [(0,.int .i64 n)] ?_
 repeat' (first|refine zh ?_|apply zb ?_ ?_|exact zc|(refine zi fun hb=>?_;try simp at hb)|fail)
 exact zR Tryz.func258
theorem jFu (n:Int) (w:World):Calls Tryz.prog 230 #[.int .i64 n] w fun e w'=>e= .returned (.bool (Tp.okN n))/\Below w.heap.size w w':=by
 refine zE Tryz.func230 I [(0,.int .i64 n)] ?_
 repeat' (first|refine zh ?_|apply zb ?_ ?_|exact zc|(refine zi fun hb=>?_;try simp at hb)|fail)
 exact zR Tryz.func230
theorem jFZ (e:Ed) (w:World):Calls Tryz.prog 202 #[.agg ⟨edC e⟩] w fun e' w'=>e'= .returned (.bool (Tp.okE e))/\Below w.heap.size w w':=by
 refine zE Tryz.func202 I [(0,.agg ⟨edC e⟩)] ?_
 repeat' (first|refine zh ?_|refine qB fn258 I I (fun w _=>jPt _ w) ?_|apply zb ?_ ?_|exact zc|(refine zi fun hb=>?_;try simp at hb)|intro (bk:Nat))
 exact zR Tryz.func202
theorem jDt (e:Ed) (w:World):Calls Tryz.prog 228 #[.agg ⟨edC e⟩] w fun e' w'=>e'= .returned (.bool (Tp.okE e))/\Below w.heap.size w w':=by
 refine zE Tryz.func228 I [(0,.agg ⟨edC e⟩)] ?_
 repeat' (first|refine zh ?_|refine qB jSu I I (fun w _=>jFu _ w) ?_|apply zb ?_ ?_|exact zc|(refine zi fun hb=>?_;try simp at hb)|intro (bk:Nat))
 exact zR Tryz.func228
theorem jCS (e:Ed) (w:World):Calls Tryz.prog 203 #[.agg ⟨edC e⟩] w fun e' w'=>e'= .returned (.agg ⟨edC (Tp.link e)⟩)/\Below w.heap.size w w':=by
 refine zE Tryz.func203 I [(0,.agg ⟨edC e⟩)] ?_
 repeat' (first|refine zh ?_|intro (bk:Nat))
 refine HR.ret Tryz.func203 I [_] (fun w hw=>⟨⟨_,rfl,jQ hw 0 I I I I rfl⟩,trivial⟩) ?_
 exact fun w' hw=>⟨rfl,hw.jF⟩
theorem jFr (a b:Ed) (w:World):Calls Tryz.prog 229 #[.agg ⟨edC a⟩,.agg ⟨edC b⟩] w fun e' w'=>e'= .returned (.bool (Tp.same a b))/\Below w.heap.size w w':=by
 refine zE Tryz.func229 I [(0,.agg ⟨edC a⟩),(1,.agg ⟨edC b⟩)] ?_
 repeat' (first|refine zh ?_|refine HL.eqS I (by kernel_rfl) (by kernel_rfl) I I I ?_|apply zb ?_ ?_|exact zc|(refine zi fun hb=>?_;try simp at hb)|intro (bk:Nat))
 exact zR Tryz.func229
theorem jBG (l:List Int) (n:Int) (v:Value) (w:World) (hv:Sl w v (cellsOf iC l) l.length) (hl:l.length<=1000000):Calls Tryz.prog 186 #[v,.int .i64 n] w fun e' w'=>e'= .returned (.bool (decide (n∈l)))/\Below w.heap.size w w':=by
 refine zE Tryz.func186 I [(0,v),(1,.int .i64 n)] (zh ?_);refine qD (qA hv) I I I (zh ?_);refine HR.loop (ι:=Nat) (fun k=>k<=l.length/\n ∉ l.take k) (fun k=>[(0,v),(1,.int .i64 n),(7,.int .i64 (l.length:Int)),(8,.int .i64 (k:Int))]) (fun _=>[]) (fun k=>l.length-k) 0 ⟨Nat.zero_le _,by simp⟩ ⟨I,I,I,I,trivial⟩ Ent.refl ?_
 rintro k ⟨hk,hg⟩ ih
 refine zh ?_;refine HR.cond I (fun h2=>?_) (fun h2=>?_)
 ·have hlt:k<l.length:=by have:=of_decide_eq_true h2;omega
  obtain ⟨a,ha⟩:=jG hlt;refine zh ?_;refine qE (qA hv) j5 k I I I I hlt ?_;refine qF (qA hv) I I I I (jN ha) (zh ?_);refine HR.cond I (fun h3=>?_) (fun h3=>?_)
  ·refine zh ?_;refine HR.ret Tryz.func186 I [_] (fun _ _=>⟨I,trivial⟩) ?_;have:n∈l:=by rw[<- eq_of_beq h3];exact List.mem_of_getElem? ha
   exact fun w' hw=>⟨by simp[this,ZJ],hw.jF⟩
  ·refine zh ?_;refine ih (k+1) _ _ ⟨hlt,?_⟩ (by omega) ⟨I,I,I,I,trivial⟩ Ent.refl;rw[jE ha];simp only[List.mem_append,List.mem_singleton,not_or];exact ⟨hg,fun e=>by rw[e]at h3;simp at h3⟩
 ·have hke:k=l.length:=by have:=of_decide_eq_false h2;omega
  subst hke;refine zh ?_;refine HR.ret Tryz.func186 I [_] (fun _ _=>⟨I,trivial⟩) ?_;rw[List.take_length]at hg
  exact fun w' hw=>⟨by simp[hg,ZJ],hw.jF⟩
theorem keyE:KeyK Tryz.prog 206 (fun e:Ed=>Value.agg ⟨edC e⟩):=by
 refine jLJ I (fun a b w=>?_) (fun e k w=>?_) (fun k w=>?_) (fun a b h=>?_)
 ·rw [Kw (xs:=edC a) (ys:=edC b) (by kernel_rfl) I w]
  congr 1
  obtain ⟨a1,a2⟩:=a;obtain ⟨b1,b2⟩:=b;rw[Bool.eq_iff_iff]
  simp
 ·exact jDN (fl:=_) I I e 9998 w
 ·exact jHQ (by intro v hv;simp[edC]at hv;rcases hv with rfl|rfl<;>simp[Instr.sameBits]) w
 ·obtain ⟨a1,a2⟩:=a;obtain ⟨b1,b2⟩:=b
  simpa[edC]using h
theorem jN0 (l:List Ed) (vl:Value) (w:World) (hl:Sl w vl (cellsOf edC l) l.length) (hll:l.length<=1000000):
  Calls Tryz.prog 147 #[vl] w fun e' w'=>e'= .returned (.int .i64 (Tp.check l))/\Below w.heap.size w w':=by
 refine zE Tryz.func147 I [(0,vl)] (zh ?_);refine qD (qA hl) I I I (zh ?_);refine HR.cond I (fun h1=>?_) (fun h1=>?_)
 ·refine zh ?_;refine HR.ret Tryz.func147 I [_] (fun _ _=>⟨I,trivial⟩) ?_;have:l.length>256:=by have:=of_decide_eq_true h1;omega
  exact fun w' hw=>⟨by simp[Tp.check,this,ZJ],hw.jF⟩
 have hl6:¬l.length>256:=by have:=of_decide_eq_false h1;omega
 have hck:Tp.check l=Tp.chk (l.take 0) (l.drop 0):=by simp[Tp.check,hl6]
 refine zh ?_;refine yQ (fun e:Ed=>Value.agg ⟨edC e⟩) I ?_;intro (bk:Nat);refine zh ?_;generalize bk=b;refine qD (qA hl) I I I (zh ?_);refine qd (α:=Nat) (β:=List (Ed×Value)) (fun k m=>k<=l.length/\Tp.check l=Tp.chk (l.take k) (l.drop k)/\∀z,(getM z m).getD (.bool false)= .bool (decide (z∈(l.take k).map Tp.link))) (fun k m=>[(3,.map (some b)),(10,vl),(11,.int .i64 (l.length:Int)),(12,.int .i64 (k:Int))]) (fun k m=>[ZN (fun e:Ed=>Value.agg ⟨edC e⟩) b m]) (fun k m=>l.length-k) 0 [] ⟨Nat.zero_le _,hck,fun z=>by simp[getM]⟩ ⟨I,I,I,I,trivial⟩ Ent.refl ?_
 rintro k m ⟨hk,hc,hg⟩ ih
 refine zh ?_;refine HR.cond I (fun h2=>?_) (fun h2=>?_)
 ·have hlt:k<l.length:=by have:=of_decide_eq_true h2;omega
  obtain ⟨e,he⟩:=jG hlt
  repeat' (first|refine zh ?_|refine qE (qA hl) jLX k I I I I hlt ?_|refine qN (qA hl) I I I I (by simp[edC]) I (jD jAg he) ?_|refine qB jS5 I I (fun w _=>jFZ e w) ?_|intro (bk:Nat))
  refine HR.cond I (fun h3=>?_) (fun h3=>?_)
  ·refine zh ?_;refine HR.ret Tryz.func147 I [_] (fun _ _=>⟨I,trivial⟩) ?_
   exact fun w' hw=>⟨by rw[hc,Tp.jNy he (by simpa using h3)];rfl,hw.jF⟩
  have hok:Tp.okE e=true:=by simpa using h3
  refine zh ?_;refine qB jQD I I (fun w _=>jCS e w) ?_;refine Qe 1 I keyE I I I I I (hg _) (zh ?_);refine HR.cond I (fun h4=>?_) (fun h4=>?_)
  ·refine zh ?_;refine HR.ret Tryz.func147 I [_] (fun _ _=>⟨I,trivial⟩) ?_
   exact fun w' hw=>⟨by rw[hc,Tp.jNx he hok (of_decide_eq_true h4)];rfl,hw.jF⟩
  refine zh ?_;refine qB jQD I I (fun w _=>jCS e w) ?_;refine Qk 1 I keyE I I I I I (zh ?_);refine ih (k+1) _ _ _ ⟨hlt,?_,fun z=>?_⟩ (by omega) ⟨I,I,I,I,trivial⟩ (Ent.pick [1] I I)
  ·rw [hc,Tp.jQ0 he hok (of_decide_eq_false h4)]
  ·rw [zM,jE he]
   by_cases hz:z=Tp.link e
   ·simp [hz]
   ·rw [if_neg hz,hg]
    simp[hz]
 ·have hke:k=l.length:=by have:=of_decide_eq_false h2;omega
  subst hke;refine zh ?_;refine HR.ret Tryz.func147 I [_] (fun _ _=>⟨I,trivial⟩) ?_
  exact fun w' hw=>⟨by rw[hc];simp[Tp.chk,ZJ],hw.jF⟩
theorem jF2 (l:List Ed) (vl:Value) (w:World) (hl:Sl w vl (cellsOf edC l) l.length) (hll:l.length<=1000000):
  Calls Tryz.prog 173 #[vl] w fun e' w'=>e'= .returned (.int .i64 (Tp.check l))/\Below w.heap.size w w':=by
 refine zE Tryz.func173 I [(0,vl)] (zh ?_);refine qD (qA hl) I I I (zh ?_);refine HR.cond I (fun h1=>?_) (fun h1=>?_)
 ·refine zh ?_;refine HR.ret Tryz.func173 I [_] (fun _ _=>⟨I,trivial⟩) ?_;have:l.length>256:=by have:=of_decide_eq_true h1;omega
  exact fun w' hw=>⟨by simp[Tp.check,this,ZJ],hw.jF⟩
 have hl6:¬l.length>256:=by have:=of_decide_eq_false h1;omega
 have hck:Tp.check l=Tp.chk (l.take 0) (l.drop 0):=by simp[Tp.check,hl6]
 refine zh ?_;refine qD (qA hl) I I I (zh ?_);refine HR.loop (ι:=Nat) (fun k=>k<=l.length/\Tp.check l=Tp.chk (l.take k) (l.drop k)) (fun k=>[(0,vl),(9,.int .i64 (l.length:Int)),(10,.int .i64 (k:Int))]) (fun k=>[]) (fun k=>l.length-k) 0 ⟨Nat.zero_le _,hck⟩ ⟨I,I,I,trivial⟩ Ent.refl ?_
 rintro k ⟨hk,hc⟩ ih
 refine zh ?_;refine HR.cond I (fun h2=>?_) (fun h2=>?_)
 ·have hlt:k<l.length:=by have:=of_decide_eq_true h2;omega
  obtain ⟨e,he⟩:=jG hlt;refine zh ?_;refine qE (qA hl) jLX k I I I I hlt ?_;refine qN (qA hl) I I I I (by simp[edC]) I (jD jAg he) ?_;refine qB jSw I I (fun w _=>jDt e w) (zh ?_);refine HR.cond I (fun h3=>?_) (fun h3=>?_)
  ·refine zh ?_;refine HR.ret Tryz.func173 I [_] (fun _ _=>⟨I,trivial⟩) ?_
   exact fun w' hw=>⟨by rw[hc,Tp.jNy he (by simpa using h3)];rfl,hw.jF⟩
  have hok:Tp.okE e=true:=by simpa using h3
  refine zh ?_;refine HR.loop (ι:=Nat) (fun j=>j<=k/\Tp.link e ∉ (l.take j).map Tp.link) (fun j=>[(0,vl),(9,.int .i64 (l.length:Int)),(10,.int .i64 (k:Int)),(3,.int .i64 (k:Int)),(4,.int .i64 (j:Int))]) (fun j=>[]) (fun j=>k-j) 0 ⟨Nat.zero_le _,by simp⟩ ⟨I,I,I,I,I,trivial⟩ Ent.refl ?_
  rintro j ⟨hj,hn⟩ ih2
  refine zh ?_;refine HR.cond I (fun h4=>?_) (fun h4=>?_)
  ·have hjk:j<k:=by have:=of_decide_eq_true h4;omega
   obtain ⟨e2,he2⟩:=jG (show j<l.length by omega);refine zh ?_;refine qK j3 (by kernel_rfl) (zq ?_);refine qW (qA hl) jLX j I I I I (by omega) ?_;refine qy (qA hl) I I I I (by simp[edC]) I (jD jAg he2) (zq ?_);refine qW (qA hl) jLX k I I I I hlt ?_;refine qy (qA hl) I I I I (by simp[edC]) I (jD jAg he) ?_;refine qz jSv I I (fun w _=>jFr e2 e w) (zq ?_);refine HR.cond I (fun h5=>?_) (fun h5=>?_)
   ·refine zh ?_;refine HR.ret Tryz.func173 I [_] (fun _ _=>⟨I,trivial⟩) ?_;rw[Tp.KU]at h5;have hin:Tp.link e∈(l.take k).map Tp.link:=by
     rw[<- of_decide_eq_true h5];exact List.mem_map_of_mem (List.mem_of_getElem? (show (l.take k)[j]? =some e2 by rw[List.getElem?_take_of_lt hjk];exact he2))
    exact fun w' hw=>⟨by rw[hc,Tp.jNx he hok hin];rfl,hw.jF⟩
   ·refine zh ?_;rw[Tp.KU]at h5;refine ih2 (j+1) _ _ ⟨hjk,?_⟩ (by omega) ⟨I,I,I,I,I,trivial⟩ Ent.refl;rw[jE he2];simp only[List.map_append,List.mem_append,List.map_cons,List.map_nil,List.mem_singleton,not_or];exact ⟨hn,fun h=>of_decide_eq_false h5 h.symm⟩
  ·have hke:j=k:=by have:=of_decide_eq_false h4;omega
   subst hke;refine zh ?_;refine ih (j+1) _ _ ⟨hlt,?_⟩ (by omega) ⟨I,I,I,trivial⟩ Ent.refl;rw[hc,Tp.jQ0 he hok hn]
 ·have hke:k=l.length:=by have:=of_decide_eq_false h2;omega
  subst hke;refine zh ?_;refine HR.ret Tryz.func173 I [_] (fun _ _=>⟨I,trivial⟩) ?_
  exact fun w' hw=>⟨by rw[hc];simp[Tp.chk,ZJ],hw.jF⟩
end Go.Proofs.YtgfdoognildoeaaGreat
namespace Go.GX
def jHV (l:List Int):List Int:=l.mergeSort fun x y=>decide (x<=y)
theorem jDq (l:List Int):(jHV l).Perm l:=List.mergeSort_perm _ _
theorem jFf (l:List Int):(jHV l).Pairwise (·<=·):=by
 have:=List.pairwise_mergeSort (le:=fun x y:Int=>decide (x<=y)) (by intro a b c h1 h2;simp at *;omega) (by intro a b;simp;omega) l;exact this.imp fun h=>by simpa using h
theorem jL9 (l:List Int):(jHV l).length=l.length:=(jDq l).length_eq
theorem jFg:jHV []=[]:=by simp[jHV]
namespace Tp
theorem Adj.sorted {l:List Ed} {adj:Int->List Int} (h:Adj l adj) (n:Int):jHV (adj n)=Z7 l n:=
 jHU (jDq _) (jFf _) (h.nodup n) (jC3 l n) fun x=>by rw[h.mem,jPz]
def upto (p:Int->Bool) (k:Nat):List Int:=((List.range k).map Int.ofNat).filter p
theorem jAv (p:Int->Bool) (k:Nat):upto p (k+1)=upto p k++if p (k:Int)=true then [(k:Int)]else []:=by
 unfold upto;rw[List.range_succ,List.map_append,List.filter_append]
 congr 1
 simp only[List.map_cons,List.map_nil,List.filter_cons,List.filter_nil];rfl
theorem jPN (p:Int->Bool) (k:Nat):(upto p k).length<=k:=by
 have:=List.length_filter_le p ((List.range k).map Int.ofNat)
 simpa[upto]using this
end Tp
end Go.GX
namespace Go.Proofs.YtgfdoognildoeaaGreat
open Go.GX Go.RowKit
attribute [local irreducible] Calls Run JH JL zU HR HL HD jS jM ZN Rd jg Jf
theorem fn161:IsFn Tryz.prog 161:=zF Tryz.func161 I
abbrev encI:Int->Value:=fun z=>Value.int .i64 z
abbrev jTa:Ed->Value:=fun e=>Value.agg ⟨edC e⟩
theorem jNj (l:List Ed) (vl:Value) (w:World) (hl:Sl w vl (cellsOf edC l) l.length) (hll:l.length<=1000):
  Calls Tryz.prog 161 #[vl] w fun e w'=>∃x:Nat×List (Int×Value),e= .returned (.map (some x.1))/\(∀ n,getM n x.2=none->Tp.Z7 l n=[])/\Sat (base w) [jg 3 x.2 (Tp.Z7 l),ZN encI x.1 x.2] w':=by
 refine zE Tryz.func161 I [(0,vl)] (zh ?_);refine yQ encI I ?_;intro b;refine zh ?_;refine yQ jTa I ?_;intro bs;refine zh ?_;refine qD (qA hl) I I I (zh ?_)
 refine Yw (α:=Nat) (β:=List (Int×Value)) (γ:=Int->List Int) (δ:=List (Ed×Value))
  (fun k m adj sm=>k<=l.length/\zQ m/\Tp.Adj (l.take k) adj/\(∀ n,getM n m=none->adj n=[])/\∀z,(getM z sm).getD (.bool false)= .bool (decide (∃ e∈l.take k,Tp.okE e=true/\Tp.link e=z)))
  (fun k m adj sm=>[(3,.map (some b)),(4,.map (some bs)),(11,vl),(12,.int .i64 (l.length:Int)),(13,.int .i64 (k:Int))])
  (fun k m adj sm=>[jg 3 m adj,ZN encI b m,ZN jTa bs sm]) (fun k m adj sm=>l.length-k) 0 [] (fun _=>[]) [] ⟨Nat.zero_le _,List.nodup_nil,Tp.Adj.nil,fun _ _=>rfl,fun z=>by simp[getM]⟩ ⟨I,I,I,I,I,trivial⟩ ?_ ?_
 ·exact Ent.trans (Ent.pick [1,0] I I) YS
 rintro k m adj sm ⟨hk,hnd,hadj,hnil,hsm⟩ ih
 refine zh ?_;refine HR.cond I (fun h2=>?_) (fun h2=>?_)
 ·have hlt:k<l.length:=by have:=of_decide_eq_true h2;omega
  obtain ⟨e,he⟩:=jG hlt;have hsmN:∀z,(getM z (kU (Tp.link e) (.bool true) sm)).getD (.bool false)= .bool (decide (z=Tp.link e\/∃e∈l.take k,Tp.okE e=true/\Tp.link e=z)):=fun z=>by
   rw[zM]
   by_cases hz:z=Tp.link e
   ·simp [hz]
   ·rw [if_neg hz,hsm];simp[hz]
  repeat' (first|refine zh ?_|refine qE (qA hl) jLX k I I I I hlt ?_|refine qN (qA hl) I I I I (by simp[edC]) I (jD jAg he) ?_|refine qB jS5 I I (fun w _=>jFZ e w) ?_|refine qB jQD I I (fun w _=>jCS e w) ?_|refine Qe 3 I keyE I I I I I (hsm _) ?_|apply zb ?_ ?_|exact zc|(refine zi fun hb=>?_;try simp at hb)|intro (bk:Nat))
  refine HR.cond I (fun h3=>?_) (fun h3=>?_)
  ·obtain ⟨hok,hnew⟩:=Bool.and_eq_true_iff.1 h3;have hnew:∀e'∈l.take k,Tp.okE e'=true->Tp.link e'≠Tp.link e:=by
    intro e' h4 h5 h6;simp only[Bool.not_eq_true',decide_eq_false_iff_not]at hnew;exact hnew ⟨e',h4,h5,h6⟩
   have hab:e.a≠e.b:=by simp[Tp.okE]at hok;exact hok.2
   have hadd:=hadj.add hok hnew;have hl1:=hadj.len e.a;have hl2:=hadj.len e.b;refine zh ?_;refine qB jQD I I (fun w _=>jCS e w) ?_;refine Qk 3 I keyE I I I I I (zh ?_)
   refine HR.join (ι:=Value) (fun v=>True) (fun v=>[(3,.map (some b)),(4,.map (some bs)),(6,.pointer (some ⟨bk,0,none⟩)),(11,vl),(12,.int .i64 (l.length:Int)),(13,.int .i64 (k:Int))])
    (fun v=>[jg 3 (kU e.a v m) (Tp.upd adj e.a (adj e.a++[e.b])),jS bk [.int .i64 e.a,.int .i64 e.b] 206,ZN encI b (kU e.a v m),ZN jTa bs (kU (Tp.link e) (.bool true) sm)]) (fun v _=>?_) (fun hj=>?_)
   ·have hba:e.b≠e.a:=fun h=>hab h.symm
    have hadj1:Tp.upd adj e.a (adj e.a++[e.b]) e.b=adj e.b:=by simp[Tp.upd,hba]
    have hnil1:getM e.b (kU e.a v m)=none->Tp.upd adj e.a (adj e.a++[e.b]) e.b=[]:=by
     rw[zM,if_neg hba,hadj1];exact hnil _
    refine qR (H':=[jM ((getM e.b (kU e.a v m)).getD (.slice none 0 0)) 3 1 (adj e.b).length (cellsOf iC (adj e.b)),jg 3 (jLs e.b (kU e.a v m)) (Tp.upd adj e.a (adj e.a++[e.b])),jS bk [.int .i64 e.a,.int .i64 e.b] 206,ZN encI b (kU e.a v m),ZN jTa bs (kU (Tp.link e) (.bool true) sm)]) (by rw[<- hadj1];exact Qm (Jv hnd) hnil1 I) ?_;refine QO [2] I I j3 ?_;refine za 0 ?_;refine za 1 ?_;refine za 2 ?_;refine za 3 ?_;refine za 4 ?_;refine za 5 ?_;refine za 7 ?_;refine za 8 ?_;refine HA.two 6 9 (by kernel_rfl) I I ?_ ?_
    ·refine Qe 3 I jP3 I I I I I I (qG [2] I I ?_);refine HA.one 9 (by kernel_rfl) I (qH j5 I I I I I (by decide) (by decide) ?_);intro v1;refine qG [3] I I (HA.one 10 (by kernel_rfl) I ?_);refine qJ 1 I j5 (Rd.own 0 I) I I I I (jH I) (by omega) (by omega) ?_;intro v2;refine qG [3] I I (HA.one 11 (by kernel_rfl) I ?_);refine Qk 4 I jP3 I I I I I (qG [3] I I ?_);refine HA.done (by kernel_rfl) (zh ?_);refine ih (k+1) (kU e.b v2 (kU e.a v m)) (Tp.upd (Tp.upd adj e.a (adj e.a++[e.b])) e.b (adj e.b++[e.a])) (kU (Tp.link e) (.bool true) sm) _ _ ⟨hlt,Jv (Jv hnd),by rw[jE he];exact hadd,?_,?_⟩ (by omega) ⟨I,I,I,I,I,trivial⟩ ?_
     ·intro n hn;rw[zM,zM]at hn
      by_cases h1:n=e.b
      ·rw [if_pos h1]at hn;cases hn
      ·rw [if_neg h1]at hn
       by_cases h2:n=e.a
       ·rw [if_pos h2]at hn;cases hn
       ·rw [if_neg h2]at hn;simp[Tp.upd,h1,h2,hnil n hn]
     ·intro z;rw[hsmN,jE he];congr 2;simp only[List.mem_append,List.mem_singleton,eq_iff_iff];constructor
      ·rintro (h|⟨e',h4,h5⟩)
       ·exact ⟨e,.inr rfl,hok,h.symm⟩
       ·exact ⟨e',.inl h4,h5⟩
      ·rintro ⟨e',h4|rfl,h5,h6⟩
       ·exact .inr ⟨e',h4,h5,h6⟩
       ·exact .inl h6.symm
     ·refine Ent.trans (Ent.pick [1,2,4,5] I I) (Ent.trans (qC ?_ ?_) (Qh (adj':=Tp.upd (Tp.upd adj e.a (adj e.a++[e.b])) e.b (adj e.b++[e.a])) (Jv hnd) ?_))
      ·simp [Tp.upd,hba]
      ·simp [Tp.upd,jL,JN]
      ·intro n hn;simp[Tp.upd,hn]
    ·refine qH j5 I I I I I (by decide) (by decide) ?_;intro v1;refine qG [3] I I (HA.one 6 (by kernel_rfl) I ?_);refine Qe 4 I jP3 I I I I I I (qG [3] I I ?_);refine HA.one 10 (by kernel_rfl) I (qJ 1 I j5 (Rd.own 0 I) I I I I (jH I) (by omega) (by omega) ?_);intro v2;refine qG [3] I I (HA.one 11 (by kernel_rfl) I ?_);refine Qk 4 I jP3 I I I I I (qG [3] I I ?_);refine HA.done (by kernel_rfl) (zh ?_);refine ih (k+1) (kU e.b v2 (kU e.a v m)) (Tp.upd (Tp.upd adj e.a (adj e.a++[e.b])) e.b (adj e.b++[e.a])) (kU (Tp.link e) (.bool true) sm) _ _ ⟨hlt,Jv (Jv hnd),by rw[jE he];exact hadd,?_,?_⟩ (by omega) ⟨I,I,I,I,I,trivial⟩ ?_
     ·intro n hn;rw[zM,zM]at hn
      by_cases h1:n=e.b
      ·rw [if_pos h1]at hn;cases hn
      ·rw [if_neg h1]at hn
       by_cases h2:n=e.a
       ·rw [if_pos h2]at hn;cases hn
       ·rw [if_neg h2]at hn;simp[Tp.upd,h1,h2,hnil n hn]
     ·intro z;rw[hsmN,jE he];congr 2;simp only[List.mem_append,List.mem_singleton,eq_iff_iff];constructor
      ·rintro (h|⟨e',h4,h5⟩)
       ·exact ⟨e,.inr rfl,hok,h.symm⟩
       ·exact ⟨e',.inl h4,h5⟩
      ·rintro ⟨e',h4|rfl,h5,h6⟩
       ·exact .inr ⟨e',h4,h5,h6⟩
       ·exact .inl h6.symm
     ·refine Ent.trans (Ent.pick [1,2,4,5] I I) (Ent.trans (qC ?_ ?_) (Qh (adj':=Tp.upd (Tp.upd adj e.a (adj e.a++[e.b])) e.b (adj e.b++[e.a])) (Jv hnd) ?_))
      ·simp [Tp.upd,hba]
      ·simp [Tp.upd,jL,JN]
      ·intro n hn;simp[Tp.upd,hn]
   ·refine qR (H':=[jM ((getM e.a m).getD (.slice none 0 0)) 3 1 (adj e.a).length (cellsOf iC (adj e.a)),jg 3 (jLs e.a m) adj,jS bk [.int .i64 e.a,.int .i64 e.b] 206,ZN encI b m,ZN jTa bs (kU (Tp.link e) (.bool true) sm)]) (Ent.trans (Ent.pick [1,0,2,3] I I) (Qm hnd (hnil _) I)) (QO [2] I I j3 ?_);refine za 0 ?_;refine za 1 ?_;refine za 2 ?_;refine za 3 ?_;refine za 4 ?_;refine za 5 ?_;refine za 7 ?_;refine za 8 ?_;refine HA.two 6 9 (by kernel_rfl) I I ?_ ?_
    ·refine Qe 3 I jP3 I I I I I I (qG [2] I I ?_);refine HA.one 9 (by kernel_rfl) I (qH j5 I I I I I (by decide) (by decide) ?_);intro v1;refine qG [3] I I (HA.one 10 (by kernel_rfl) I ?_);refine qJ 1 I j5 (Rd.own 0 I) I I I I (jH I) (by omega) (by omega) ?_;intro v2;refine qG [3] I I (HA.one 11 (by kernel_rfl) I ?_);refine Qk 4 I jP3 I I I I I (qG [3] I I ?_);refine HA.done (by kernel_rfl) (hj v2 _ _ trivial ⟨I,I,I,I,I,I,trivial⟩ (Ent.trans (Ent.pick [1,2,3,4,5] I I) (Ent.trans (qC ?_ ?_) (Qh (adj':=Tp.upd adj e.a (adj e.a++[e.b])) hnd ?_))))
     ·simp [Tp.upd]
     ·simp [Tp.upd,jL,JN]
     ·intro n hn;simp[Tp.upd,hn]
    ·refine qH j5 I I I I I (by decide) (by decide) ?_;intro v1;refine qG [3] I I (HA.one 6 (by kernel_rfl) I ?_);refine Qe 4 I jP3 I I I I I I (qG [3] I I ?_);refine HA.one 10 (by kernel_rfl) I (qJ 1 I j5 (Rd.own 0 I) I I I I (jH I) (by omega) (by omega) ?_);intro v2;refine qG [3] I I (HA.one 11 (by kernel_rfl) I ?_);refine Qk 4 I jP3 I I I I I (qG [3] I I ?_);refine HA.done (by kernel_rfl) (hj v2 _ _ trivial ⟨I,I,I,I,I,I,trivial⟩ (Ent.trans (Ent.pick [1,2,3,4,5] I I) (Ent.trans (qC ?_ ?_) (Qh (adj':=Tp.upd adj e.a (adj e.a++[e.b])) hnd ?_))))
     ·simp [Tp.upd]
     ·simp [Tp.upd,jL,JN]
     ·intro n hn;simp[Tp.upd,hn]
  ·refine zh ?_;have hst:Tp.okE e=false\/∃e'∈l.take k,Tp.okE e'=true/\Tp.link e'=Tp.link e:=by
    rcases Bool.and_eq_false_iff.1 h3 with h|h
    ·exact .inl h
    ·right;simpa using h
   refine ih (k+1) m adj sm _ _ ⟨hlt,hnd,by rw[jE he];exact hadj.skip hst,hnil,?_⟩ (by omega) ⟨I,I,I,I,I,trivial⟩ (Ent.pick [1,2,3] I I);intro z;rw[hsm,jE he]
   congr 2
   simp only[List.mem_append,List.mem_singleton,eq_iff_iff]
   constructor
   ·rintro ⟨e',h4,h5⟩;exact ⟨e',.inl h4,h5⟩
   ·rintro ⟨e',h4|rfl,h5,h6⟩
    ·exact ⟨e',h4,h5,h6⟩
    ·rcases hst with h|⟨e2,g1,g2,g3⟩
     ·rw [h]at h5;cases h5
     ·exact ⟨e2,g1,g2,by rw[g3,h6]⟩
 ·have hke:k=l.length:=by have:=of_decide_eq_false h2;omega
  subst hke;rw[List.take_length]at hadj;refine zh ?_;refine Yk 1 I I I I ?_;intro (bk:Nat);refine zh ?_;generalize bk=r;have hsame:∀n,(if n∈([]:List Int)then Tp.Z7 l n else adj n)=adj n:=fun n=>by simp
  refine HR.loop (ι:=List Int) (fun seen=>seen.Nodup/\seen.Subset (m.map (·.1))) (fun seen=>[(3,.map (some b)),(53,.pointer (some ⟨r,0,none⟩))]) (fun seen=>[jg 3 m (fun n=>if n∈seen then Tp.Z7 l n else adj n),Jf encI r b m seen]) (fun seen=>m.length-seen.length) [] ⟨List.nodup_nil,by intro x hx;cases hx⟩ ⟨I,I,trivial⟩ (Ent.trans (Ent.pick [0,1] I I) (Ya fun n=>(hsame n).symm)) ?_
  rintro seen ⟨hsn,hss⟩ ih2
  refine zh ?_;refine Yx 1 I (fun a b h=>by simpa using h) I I (fun hend=>?_) (fun a u hau hns=>?_)
  ·refine zh ?_;refine YQ 1 I ?_;have hfin:∀n,(if n∈seen then Tp.Z7 l n else adj n)=Tp.Z7 l n:=by
    intro n
    by_cases hn:n∈seen
    ·rw [if_pos hn]
    ·rw [if_neg hn];have h0:adj n=[]:=by
      refine hnil n (getM_none.2 fun hm=>?_);obtain ⟨p,hp,rfl⟩:=List.mem_map.1 hm;exact hn (hend p hp)
     rw[h0,<- hadj.sorted n,h0,jFg]
   refine qR (Ya hfin) (HR.ret Tryz.func161 I [_] (fun _ _=>⟨I,trivial⟩) ?_);refine fun w' hw=>⟨(b,m),rfl,fun n hn=>?_,hw⟩
   rw[<- hadj.sorted n,hnil n hn,jFg]
  ·have hg:=zB hnd hau;have hla:=hadj.len a;refine zh ?_;refine Yl 1 I (fun a b h=>by simpa using h) hau I I (zh ?_)
   refine qM (Qm (v:=u) hnd (fun h=>by rw[hg]at h;cases h) (by simp[hg])) ?_;rw[if_neg hns];refine qQ (r:=fun _:Unit=> .tuple #[]) (Q:=fun _=>True) (G:=fun _=>[jM u 3 1 (adj a).length (cellsOf iC (jHV (adj a)))]) jRn I I I (fun w hw=>jCc u _ _ w (by have:=hw.nth (i:=0) rfl;unfold jM at this;exact this) (by omega)) ?_;intro _ _;refine zh ?_;have hlen:(Tp.Z7 l a).length=(adj a).length:=by rw[<- hadj.sorted a,jL9]
   have hin:(a::seen).Nodup/\(a::seen).Subset (m.map (·.1)):=⟨List.nodup_cons.2 ⟨hns,hsn⟩,fun x hx=>by rcases List.mem_cons.1 hx with rfl|hx;exact List.mem_map.2 ⟨_,hau,rfl⟩;exact hss hx⟩;have hlt:(a::seen).length<=m.length:=by
    have:=List.Nodup.length_le_of_subset hin.1 hin.2
    simpa using this
   refine ih2 (a::seen) _ _ hin (by simp at hlt ⊢;omega) ⟨I,I,trivial⟩ (Ent.trans (qC (n':=(if a∈a::seen then Tp.Z7 l a else adj a).length) (xs':=cellsOf iC (if a∈a::seen then Tp.Z7 l a else adj a)) ?_ ?_) ?_)
   ·simp [hlen]
   ·simp [hadj.sorted a]
   ·have:=Qh (B:=base w) (H:=[Jf encI r b m (a::seen)]) (e:=3) (v:=u) (a:=a) (adj:=fun n=>if n∈seen then Tp.Z7 l n else adj n) (adj':=fun n=>if n∈a::seen then Tp.Z7 l n else adj n) hnd (fun n hn=>by simp[hn]);rw[jFi hg]at this;exact this
theorem fn83:IsFn Tryz.prog 83:=zF Tryz.func83 I
theorem fn235:IsFn Tryz.prog 235:=zF Tryz.func235 I
theorem fn187:IsFn Tryz.prog 187:=zF Tryz.func187 I
theorem jPw (l:List Ed) (n:Int) (vl:Value) (w:World) (hl:Sl w vl (cellsOf edC l) l.length) (hll:l.length<=1000):
  Calls Tryz.prog 83 #[vl,.int .i64 n] w fun e w'=>∃v,e= .returned v/\Sat (base w) [jM v 3 1 (Tp.Z7 l n).length (cellsOf iC (Tp.Z7 l n))] w':=by
 refine zE Tryz.func83 I [(0,vl),(1,.int .i64 n)] (zh ?_);refine qL fn161 I I (fun w hw=>jNj l vl w ((qA hl).at hw) hll) ?_
 rintro ⟨b,m⟩ h0
 refine yG (Q:=zQ m) (fun w hw=>hw.jSX (i:=1) I) fun hnd=>?_
 refine zh ?_;refine Qe 1 I jP3 I I I I I I (zh ?_);refine HR.ret Tryz.func83 I [_] (fun _ _=>⟨I,trivial⟩) ?_
 exact fun w' hw=>⟨_,rfl,(Qm hnd (h0 n) I w' hw).pick [0] I rfl⟩
theorem jHh (l:List Ed) (a b:Int) (vl:Value) (w:World) (hl:Sl w vl (cellsOf edC l) l.length) (hll:l.length<=1000):
  Calls Tryz.prog 235 #[vl,.int .i64 a,.int .i64 b] w fun e' w'=>e'= .returned (.bool (Tp.linked l a b))/\Below w.heap.size w w':=by
 refine zE Tryz.func235 I [(0,vl),(1,.int .i64 a),(2,.int .i64 b)] (zh ?_);refine qD (qA hl) I I I (zh ?_);refine HR.loop (ι:=Nat) (fun k=>k<=l.length/\Tp.linked (l.take k) a b=false) (fun k=>[(0,vl),(1,.int .i64 a),(2,.int .i64 b),(9,.int .i64 (l.length:Int)),(10,.int .i64 (k:Int))]) (fun _=>[]) (fun k=>l.length-k) 0 ⟨Nat.zero_le _,by simp[Tp.linked]⟩ ⟨I,I,I,I,I,trivial⟩ Ent.refl ?_
 rintro k ⟨hk,hg⟩ ih
 refine zh ?_;refine HR.cond I (fun h2=>?_) (fun h2=>?_)
 ·have hlt:k<l.length:=by have:=of_decide_eq_true h2;omega
  obtain ⟨e,he⟩:=jG hlt
  repeat' (first|refine zh ?_|refine qE (qA hl) jLX k I I I I hlt ?_|refine qN (qA hl) I I I I (by simp[edC]) I (jD jAg he) ?_|refine qB jSw I I (fun w _=>jDt e w) ?_|refine qB jSv I I (fun w _=>jFr e ⟨a,b⟩ w) ?_|apply zb ?_ ?_|exact zc|(refine zi fun hb=>?_;try simp at hb)|fail)
  refine HR.cond I (fun h3=>?_) (fun h3=>?_)
  ·refine zh ?_;refine HR.ret Tryz.func235 I [_] (fun _ _=>⟨I,trivial⟩) ?_;have:Tp.linked l a b=true:=by
    unfold Tp.linked;exact List.any_eq_true.2 ⟨e,List.mem_of_getElem? he,h3⟩
   exact fun w' hw=>⟨by rw[this];rfl,hw.jF⟩
  ·refine zh ?_;refine ih (k+1) _ _ ⟨hlt,?_⟩ (by omega) ⟨I,I,I,I,I,trivial⟩ Ent.refl;rw[jE he,Tp.jAd,hg];simpa using h3
 ·have hke:k=l.length:=by have:=of_decide_eq_false h2;omega
  subst hke;rw[List.take_length]at hg;refine zh ?_;refine HR.ret Tryz.func235 I [_] (fun _ _=>⟨I,trivial⟩) ?_
  exact fun w' hw=>⟨by rw[hg];rfl,hw.jF⟩
theorem jMP (l:List Ed) (n:Int) (vl:Value) (w:World) (hl:Sl w vl (cellsOf edC l) l.length) (hll:l.length<=1000):
  Calls Tryz.prog 187 #[vl,.int .i64 n] w fun e w'=>∃v,e= .returned v/\Sat (base w) [jM v 3 1 (Tp.Z7 l n).length (cellsOf iC (Tp.Z7 l n))] w':=by
 refine zE Tryz.func187 I [(0,vl),(1,.int .i64 n)] (zh ?_);refine HR.J6 3 1 (qd (α:=Nat) (β:=Value) (fun k v=>k<=251) (fun k v=>[(0,vl),(1,.int .i64 n),(5,v),(6,.int .i64 (k:Int))]) (fun k v=>[jM v 3 1 (Tp.upto (Tp.linked l n) k).length (cellsOf iC (Tp.upto (Tp.linked l n) k))]) (fun k v=>251-k) 0 (.slice none 0 0) (Nat.zero_le _) ⟨I,I,I,I,trivial⟩ Ent.refl ?_);intro k v hk ih;refine zh ?_;refine HR.cond I (fun h2=>?_) (fun h2=>?_)
 ·have hlt:k<251:=by have:=of_decide_eq_true h2;omega
  have hul:=Tp.jPN (Tp.linked l n) k;refine zh ?_;refine qB fn235 I I (fun w hw=>jHh l n k vl w ((qA hl).at hw) hll) (zh ?_);refine HR.cond I (fun h3=>?_) (fun h3=>?_)
  ·refine zh ?_;refine qH j5 I I I I I (by decide) (by decide) ?_;intro v1;refine qJ 1 I j5 (Rd.own 0 I) I I I I (jH I) (by omega) (by omega) ?_;intro v2;refine zh ?_;exact ih (k+1) v2 _ _ hlt (by omega) ⟨I,I,I,I,trivial⟩ (Ent.trans (Ent.pick [1] I I) (qC (by rw[Tp.jAv,h3];simp) (by rw[Tp.jAv,h3,if_pos rfl,jL,JN])))
  ·refine zh ?_;exact ih (k+1) v _ _ hlt (by omega) ⟨I,I,I,I,trivial⟩ (qC (by rw[Tp.jAv,h3];simp) (by rw[Tp.jAv,h3];simp))
 ·have hke:k=251:=by have:=of_decide_eq_false h2;omega
  subst hke;refine zh ?_;refine HR.ret Tryz.func187 I [_] (fun _ _=>⟨I,trivial⟩) ?_
  exact fun w' hw=>⟨v,rfl,hw⟩
open Ra
theorem fn77:IsFn Tryz.prog 77:=zF Tryz.func77 I
theorem fn94:IsFn Tryz.prog 94:=zF Tryz.func94 I
theorem fn82:IsFn Tryz.prog 82:=zF Tryz.func82 I
theorem jTC:IsFn Tryz.prog 174:=zF Tryz.func174 I
theorem fn81:IsFn Tryz.prog 81:=zF Tryz.func81 I
theorem fn185:IsFn Tryz.prog 185:=zF Tryz.func185 I
theorem fn188:IsFn Tryz.prog 188:=zF Tryz.func188 I
theorem jR3:Elem Tryz.prog 184 22 1 24:=⟨rfl,⟨_,_,rfl,rfl,rfl,rfl,rfl⟩,by decide⟩
abbrev jAt (ve vo vn:Value):Value:= .agg ⟨[ve,vo,vn]⟩
structure OkA (w:World) (a:Air) (ve vo vn:Value):Prop where
 e:Sl w ve (cellsOf edC a.e) a.e.length
 o:Sl w vo (cellsOf iC a.o) a.o.length
 n:Sl w vn (cellsOf iC a.n) a.n.length
 le:a.e.length<=300
 lo:a.o.length<=60
 ln:a.n.length<=60
theorem OkA.at {w0 w:World} {a:Air} {ve vo vn:Value} (h:OkA w0 a ve vo vn) {H:List Chunk} (hw:Sat (base w0) H w):OkA w a ve vo vn:=⟨(qA h.e).at hw,(qA h.o).at hw,(qA h.n).at hw,h.le,h.lo,h.ln⟩
theorem jLK (ls:List (Value×List Int)) (vl:Value) (w:World) (hl:Sl w vl (cellsOf (fun p:Value×List Int=>[p.1]) ls) ls.length) (hs:∀p∈ls,Sl w p.1 (cellsOf iC p.2) p.2.length) (hlen:ls.length<=2) (hb:∀p∈ls,p.2.length<=1000):
  Calls Tryz.prog 82 #[vl] w fun e w'=>∃v,e= .returned v/\Sat (base w) [jM v 3 1 (ls.map (·.2)).flatten.length (cellsOf iC (ls.map (·.2)).flatten)] w':=by
 refine zE Tryz.func82 I [(0,vl)] (zh ?_);refine qD (qA hl) I I I (zh ?_);refine HR.J6 3 1 (qd (α:=Nat) (β:=Value) (fun k v=>k<=ls.length/\((ls.take k).map (·.2)).flatten.length<=1000*k) (fun k v=>[(3,v),(6,vl),(7,.int .i64 (ls.length:Int)),(8,.int .i64 (k:Int))]) (fun k v=>[jM v 3 1 ((ls.take k).map (·.2)).flatten.length (cellsOf iC ((ls.take k).map (·.2)).flatten)]) (fun k v=>ls.length-k) 0 (.slice none 0 0) ⟨Nat.zero_le _,by simp⟩ ⟨I,I,I,I,trivial⟩ Ent.refl ?_)
 rintro k v ⟨hk,hkl⟩ ih
 refine zh ?_;refine HR.cond I (fun h2=>?_) (fun h2=>?_)
 ·have hlt:k<ls.length:=by have:=of_decide_eq_true h2;omega
  obtain ⟨p,hp⟩:=jG hlt;have hpl:=hb p (List.mem_of_getElem? hp);have hps:=hs p (List.mem_of_getElem? hp);refine zh ?_;refine qE (qA hl) jR3 k I I I I hlt ?_;refine qF (qA hl) I I I I (jN (f:=fun p:Value×List Int=>p.1) hp) (zh ?_);refine qJ 0 I j5 (qA hps) I I I (jA KP _) (jR (fun _=>rfl) _) (by omega) (by omega) ?_;intro v2;refine zh ?_;have et:((ls.take (k+1)).map (·.2)).flatten=((ls.take k).map (·.2)).flatten++p.2:=by rw[jE hp];simp
  refine ih (k+1) v2 _ _ ⟨hlt,by rw[et,List.length_append];omega⟩ (by omega) ⟨I,I,I,I,trivial⟩ (qC ?_ ?_)
  ·rw [et,List.length_append]
  ·rw [et,jL]
 ·have hke:k=ls.length:=by have:=of_decide_eq_false h2;omega
  subst hke;refine zh ?_;refine HR.ret Tryz.func82 I [_] (fun _ _=>⟨I,trivial⟩) ?_;rw[List.take_length]
  exact fun w' hw=>⟨v,rfl,hw⟩
theorem jNS {l m:List Int} {v1 v2 vl:Value} {w:World} (hl:Sl w vl [v1,v2] 2) (h1:Sl w v1 (cellsOf iC l) l.length) (h2:Sl w v2 (cellsOf iC m) m.length) (b1:l.length<=60) (b2:m.length<=60):
  Calls Tryz.prog 82 #[vl] w fun e w'=>∃v,e= .returned v/\Sat (base w) [jM v 3 1 (l++m).length (cellsOf iC (l++m))] w':=by
 have:=jLK [(v1,l),(v2,m)] vl w hl (fun p hp=>by simp only[List.mem_cons,List.not_mem_nil,or_false]at hp;rcases hp with rfl|rfl;exact h1;exact h2) (Nat.le_refl _) (fun p hp=>by simp at hp;rcases hp with rfl|rfl<;>simp<;>omega)
 simpa using this
theorem jGS (l:List Int) (v:Value) (w:World) (hv:Sl w v (cellsOf iC l) l.length) (hl:l.length<=1000000):
  Calls Tryz.prog 174 #[v] w fun e w'=>e= .returned (.bool (l.all Tp.okN))/\Below w.heap.size w w':=by
 refine zE Tryz.func174 I [(0,v)] (zh ?_);refine qD (qA hv) I I I (zh ?_);refine HR.loop (ι:=Nat) (fun k=>k<=l.length/\(l.take k).all Tp.okN=true) (fun k=>[(0,v),(5,.int .i64 (l.length:Int)),(6,.int .i64 (k:Int))]) (fun _=>[]) (fun k=>l.length-k) 0 ⟨Nat.zero_le _,by simp⟩ ⟨I,I,I,trivial⟩ Ent.refl ?_
 rintro k ⟨hk,hg⟩ ih
 refine zh ?_;refine HR.cond I (fun h2=>?_) (fun h2=>?_)
 ·have hlt:k<l.length:=by have:=of_decide_eq_true h2;omega
  obtain ⟨a,ha⟩:=jG hlt;refine zh ?_;refine qE (qA hv) j5 k I I I I hlt ?_;refine qF (qA hv) I I I I (jN ha) ?_;refine qB jSu I I (fun w _=>jFu a w) (zh ?_);refine HR.cond I (fun h3=>?_) (fun h3=>?_)
  ·refine zh ?_;refine HR.ret Tryz.func174 I [_] (fun _ _=>⟨I,trivial⟩) ?_
   exact fun w' hw=>⟨by rw[jQ3 ha (by simpa using h3)];rfl,hw.jF⟩
  ·refine zh ?_;exact ih (k+1) _ _ ⟨hlt,by rw[jKL ha,hg];simpa using h3⟩ (by omega) ⟨I,I,I,trivial⟩ Ent.refl
 ·have hke:k=l.length:=by have:=of_decide_eq_false h2;omega
  subst hke;rw[List.take_length]at hg;refine zh ?_;refine HR.ret Tryz.func174 I [_] (fun _ _=>⟨I,trivial⟩) ?_
  exact fun w' hw=>⟨by rw[hg];rfl,hw.jF⟩
theorem jAm (a:Air) (ve vo vn:Value) (w:World) (hv:OkA w a ve vo vn):
  Calls Tryz.prog 77 #[jAt ve vo vn] w fun e w'=>e= .returned (.int .i64 (Ra.check a))/\Below w.heap.size w w':=by
 have le:=hv.le;have lo:=hv.lo;have ln:=hv.ln;obtain ⟨o1,o2,rfl,_⟩:=hv.o.2;obtain ⟨n1,n2,rfl,_⟩:=hv.n.2;refine zE Tryz.func77 I [(0,jAt ve (.slice o1 a.o.length o2) (.slice n1 a.n.length n2))] ?_
 repeat' (first|refine zh ?_|refine qB fn147 I I (fun w hw=>jN0 a.e ve w ((qA hv.e).at hw) (by omega)) ?_|intro (bk:Nat))
 refine HR.cond I (fun h=>?_) (fun h=>?_)
 ·refine zh ?_;refine HR.ret Tryz.func77 I [_] (fun _ _=>⟨I,trivial⟩) ?_
  exact fun w' hw=>⟨by rw[jNz (by simpa using h)];rfl,hw.jF⟩
 have h0:Tp.check a.e=0:=by simpa using h
 refine zh ?_;refine qH jR3 I I I I I (by decide) (by decide) ?_;intro v1;refine qI fn82 I I (fun w hw=>jNS ((Rd.own 0 rfl).at hw) ((qA hv.o).at hw) ((qA hv.n).at hw) hv.lo hv.ln) ?_;intro v2;have hal:(a.o++a.n).length<=120:=by rw[List.length_append];omega
 refine qD (Rd.own 0 I) I I I (zh ?_);refine HR.loop (ι:=Nat) (fun k=>k<=(a.o++a.n).length/\((a.o++a.n).take k).all Tp.okN=true) (fun k=>[(1,.pointer (some ⟨bk,0,none⟩)),(17,v2),(18,.int .i64 ((a.o++a.n).length:Int)),(19,.int .i64 (k:Int))]) (fun _=>[jM v2 3 1 (a.o++a.n).length (cellsOf iC (a.o++a.n)),jS bk [ve,.slice o1 a.o.length o2,.slice n1 a.n.length n2] 34]) (fun k=>(a.o++a.n).length-k) 0 ⟨Nat.zero_le _,by simp⟩ ⟨I,I,I,I,trivial⟩ (Ent.pick [0,2] I I) ?_
 rintro k ⟨hk,hg⟩ ih
 refine zh ?_;refine HR.cond I (fun h2=>?_) (fun h2=>?_)
 ·have hlt:k<(a.o++a.n).length:=by have:=of_decide_eq_true h2;omega
  obtain ⟨x,hx⟩:=jG hlt
  repeat' (first|refine zh ?_|refine qE (Rd.own 0 I) j5 k I I I I hlt ?_|refine qF (Rd.own 0 I) I I I I (jN hx) ?_|apply zb ?_ ?_|exact zc|(refine zi fun hb=>?_;try simp at hb)|fail)
  have hx2:(decide (x<0)||decide (x>250))=!Tp.okN x:=by
   rw[Bool.eq_iff_iff];simp only[Tp.okN,Bool.or_eq_true,decide_eq_true_eq,Bool.not_eq_true',Bool.and_eq_false_iff,decide_eq_false_iff_not];omega
  refine HR.cond I (fun h3=>?_) (fun h3=>?_)
  ·rw [hx2]at h3;refine zh ?_;refine HR.ret Tryz.func77 I [_] (fun _ _=>⟨I,trivial⟩) ?_
   exact fun w' hw=>⟨by rw[jN2 h0 (jQ3 hx (by simpa using h3))];rfl,hw.jF⟩
  ·rw [hx2]at h3;refine zh ?_;exact ih (k+1) _ _ ⟨hlt,by rw[jKL hx,hg];simpa using h3⟩ (by omega) ⟨I,I,I,I,trivial⟩ Ent.refl
 have hke:k=(a.o++a.n).length:=by have:=of_decide_eq_false h2;omega
 subst hke;rw[List.take_length]at hg
 repeat' (first|refine zh ?_|apply zb ?_ ?_|exact zc|(refine zi fun hb=>?_;try simp at hb)|fail)
 refine HR.cond I (fun h3=>?_) (fun h3=>?_)
 ·have h3:(decide ((a.o.length:Int)>24)||decide ((a.n.length:Int)>24))=true:=h3;simp only[Bool.or_eq_true,decide_eq_true_eq]at h3;refine zh ?_;refine HR.ret Tryz.func77 I [_] (fun _ _=>⟨I,trivial⟩) ?_
  exact fun w' hw=>⟨by rw[jN1 h0 hg (by omega)];rfl,hw.jF⟩
 ·have h3:(decide ((a.o.length:Int)>24)||decide ((a.n.length:Int)>24))=false:=h3;simp only[Bool.or_eq_false_iff,decide_eq_false_iff_not]at h3;refine zh ?_;refine HR.ret Tryz.func77 I [_] (fun _ _=>⟨I,trivial⟩) ?_
  exact fun w' hw=>⟨by rw[jN3 h0 hg (by omega)];rfl,hw.jF⟩
theorem KY (a:Air) (ve vo vn:Value) (w:World) (hv:OkA w a ve vo vn):
  Calls Tryz.prog 94 #[jAt ve vo vn] w fun e w'=>e= .returned (.int .i64 (Ra.check a))/\Below w.heap.size w w':=by
 have le:=hv.le;have lo:=hv.lo;have ln:=hv.ln;refine zE Tryz.func94 I [(0,jAt ve vo vn)] ?_
 repeat' (first|refine zh ?_|refine qB fn173 I I (fun w hw=>jF2 a.e ve w ((qA hv.e).at hw) (by omega)) ?_|intro (bk:Nat))
 refine HR.cond I (fun h=>?_) (fun h=>?_)
 ·refine zh ?_;refine HR.ret Tryz.func94 I [_] (fun _ _=>⟨I,trivial⟩) ?_
  exact fun w' hw=>⟨by rw[jNz (by simpa using h)];rfl,hw.jF⟩
 have h0:Tp.check a.e=0:=by simpa using h
 have hall:(!a.o.all Tp.okN||!a.n.all Tp.okN)=!(a.o++a.n).all Tp.okN:=by rw[List.all_append];cases a.o.all Tp.okN<;>cases a.n.all Tp.okN<;>rfl
 repeat' (first|refine zh ?_|refine qB jTC I I (fun w hw=>jGS a.o vo w ((qA hv.o).at hw) (by omega)) ?_|refine qB jTC I I (fun w hw=>jGS a.n vn w ((qA hv.n).at hw) (by omega)) ?_|apply zb ?_ ?_|exact zc|(refine zi fun hb=>?_;try simp at hb)|fail)
 refine HR.cond I (fun h2=>?_) (fun h2=>?_)
 ·rw [hall]at h2
  repeat' (first|refine zh ?_|fail)
  refine HR.ret Tryz.func94 I [_] (fun _ _=>⟨I,trivial⟩) ?_
  exact fun w' hw=>⟨by rw[jN2 h0 (by rwa[Bool.not_eq_true']at h2)];rfl,hw.jF⟩
 rw[hall]at h2;have hg:(a.o++a.n).all Tp.okN=true:=by rwa[Bool.not_eq_false']at h2
 repeat' (first|refine zh ?_|refine qD (qA hv.o) I I I ?_|refine qD (qA hv.n) I I I ?_|apply zb ?_ ?_|exact zc|(refine zi fun hb=>?_;try simp at hb)|fail)
 refine HR.cond I (fun h3=>?_) (fun h3=>?_)
 ·have h3:(decide ((a.o.length:Int)>24)||decide ((a.n.length:Int)>24))=true:=h3;simp only[Bool.or_eq_true,decide_eq_true_eq]at h3
  repeat' (first|refine zh ?_|fail)
  refine HR.ret Tryz.func94 I [_] (fun _ _=>⟨I,trivial⟩) ?_
  exact fun w' hw=>⟨by rw[jN1 h0 hg (by omega)];rfl,hw.jF⟩
 ·have h3:(decide ((a.o.length:Int)>24)||decide ((a.n.length:Int)>24))=false:=h3;simp only[Bool.or_eq_false_iff,decide_eq_false_iff_not]at h3
  repeat' (first|refine zh ?_|fail)
  refine HR.ret Tryz.func94 I [_] (fun _ _=>⟨I,trivial⟩) ?_
  exact fun w' hw=>⟨by rw[jN3 h0 hg (by omega)];rfl,hw.jF⟩
theorem fn42:IsFn Tryz.prog 42:=zF Tryz.func42 I
theorem fn110:IsFn Tryz.prog 110:=zF Tryz.func110 I
theorem OkA.none (w:World):OkA w ⟨[],[],[]⟩ (.slice none 0 0) (.slice none 0 0) (.slice none 0 0):=⟨Sl.nil w,Sl.nil w,Sl.nil w,by decide,by decide,by decide⟩
theorem jPM {a:Air} {ve vo vn:Value} {w0:World} (hv:OkA w0 a ve vo vn):∃ve' vo' vn',OkA w0 (san a) ve' vo' vn'/\∀w,OkA w a ve vo vn->Calls Tryz.prog 81 #[jAt ve vo vn] w fun e w'=>e= .returned (jAt ve' vo' vn')/\Below w.heap.size w w':=by
 obtain ⟨e1,e2,rfl,_⟩:=hv.e.2;obtain ⟨o1,o2,rfl,_⟩:=hv.o.2;obtain ⟨n1,n2,rfl,_⟩:=hv.n.2
 by_cases h0:Ra.check a=0
 ·refine ⟨_,_,_,by rw[jQi h0];exact hv,fun w hv=>?_⟩;refine zE Tryz.func81 I [(0,jAt (.slice e1 a.e.length e2) (.slice o1 a.o.length o2) (.slice n1 a.n.length n2))] ?_
  repeat' (first|refine zh ?_|refine qB fn77 I I (fun w hw=>by have:=jAm a _ _ _ w (hv.at hw);rw[h0]at this;exact this) ?_|intro (bk:Nat))
  refine HR.ret Tryz.func81 I [_] (fun w hw=>⟨⟨_,rfl,jQ hw 0 I I I I rfl⟩,trivial⟩) ?_
  exact fun w' hw=>⟨rfl,hw.jF⟩
 ·refine ⟨_,_,_,by rw[jQj h0];exact OkA.none w0,fun w hv=>?_⟩;refine zE Tryz.func81 I [(0,jAt (.slice e1 a.e.length e2) (.slice o1 a.o.length o2) (.slice n1 a.n.length n2))] ?_
  repeat' (first|refine zh ?_|refine qB fn77 I I (fun w hw=>jAm a _ _ _ w (hv.at hw)) ?_|intro (bk:Nat))
  refine QX 5 true I (bne_iff_ne.2 h0) (zh ?_);refine HR.ret Tryz.func81 I [_] (fun w hw=>⟨⟨_,rfl,jQ hw 0 I I I I rfl⟩,trivial⟩) ?_
  exact fun w' hw=>⟨rfl,hw.jF⟩
theorem jQ8 {a:Air} {ve vo vn:Value} {w0:World} (hv:OkA w0 a ve vo vn):∃ve' vo' vn',OkA w0 (san a) ve' vo' vn'/\∀w,OkA w a ve vo vn->Calls Tryz.prog 185 #[jAt ve vo vn] w fun e w'=>e= .returned (jAt ve' vo' vn')/\Below w.heap.size w w':=by
 obtain ⟨e1,e2,rfl,_⟩:=hv.e.2;obtain ⟨o1,o2,rfl,_⟩:=hv.o.2;obtain ⟨n1,n2,rfl,_⟩:=hv.n.2
 by_cases h0:Ra.check a=0
 ·refine ⟨_,_,_,by rw[jQi h0];exact hv,fun w hv=>?_⟩;refine zE Tryz.func185 I [(0,jAt (.slice e1 a.e.length e2) (.slice o1 a.o.length o2) (.slice n1 a.n.length n2))] ?_
  repeat' (first|refine zh ?_|refine qB fn94 I I (fun w hw=>by have:=KY a _ _ _ w (hv.at hw);rw[h0]at this;exact this) ?_|intro (bk:Nat))
  refine HR.ret Tryz.func185 I [_] (fun w hw=>⟨⟨_,rfl,jQ hw 0 I I I I rfl⟩,trivial⟩) ?_
  exact fun w' hw=>⟨rfl,hw.jF⟩
 ·refine ⟨_,_,_,by rw[jQj h0];exact OkA.none w0,fun w hv=>?_⟩;refine zE Tryz.func185 I [(0,jAt (.slice e1 a.e.length e2) (.slice o1 a.o.length o2) (.slice n1 a.n.length n2))] ?_
  repeat' (first|refine zh ?_|refine qB fn94 I I (fun w hw=>KY a _ _ _ w (hv.at hw)) ?_|intro (bk:Nat))
  refine QX 5 true I (bne_iff_ne.2 h0) (zh ?_);refine HR.ret Tryz.func185 I [_] (fun w hw=>⟨⟨_,rfl,jQ hw 0 I I I I rfl⟩,trivial⟩) ?_
  exact fun w' hw=>⟨rfl,hw.jF⟩
theorem jNc (a:Air) (n:Int) (ve vo vn:Value) (w:World) (hv:OkA w a ve vo vn):
  Calls Tryz.prog 188 #[jAt ve vo vn,.int .i64 n] w fun e w'=>e= .returned (.bool (hears a n))/\Below w.heap.size w w':=by
 have lo:=hv.lo;have ln:=hv.ln;refine zE Tryz.func188 I [(0,jAt ve vo vn),(1,.int .i64 n)] ?_
 repeat' (first|refine zh ?_|refine qB jQG I I (fun w hw=>jBG a.o n vo w ((qA hv.o).at hw) (by omega)) ?_|refine qB jQG I I (fun w hw=>jBG a.n n vn w ((qA hv.n).at hw) (by omega)) ?_|apply zb ?_ ?_|exact zc|(refine zi fun hb=>?_;try simp at hb)|intro (bk:Nat))
 exact zR Tryz.func188
theorem jJU (a:Air) (dst n:Int):(!decide (n∈a.o++a.n)&&((dst==255)||(n==dst)))=takes a dst n:=by
 unfold takes hears;rw[show (n==dst)=(dst==n)from by rw[Bool.eq_iff_iff];simp only[beq_iff_eq];exact eq_comm]
 congr 1
 rw[Bool.eq_iff_iff];simp
theorem jJE (a:Air) (f:Fr) (ve vo vn:Value) (w:World) (hv:OkA w a ve vo vn):
  Calls Tryz.prog 42 #[jAt ve vo vn,.agg ⟨Nd.frC f⟩] w fun e w'=>∃v,e= .returned (.tuple ⟨[v,.bool (jCC (san a) f)]⟩)/\Sat (base w) [jM v 3 1 (recv (san a) f).length (cellsOf iC (recv (san a) f))] w':=by
 obtain ⟨ve',vo',vn',hs,hval⟩:=jPM hv;generalize san a=A at hs ⊢;obtain ⟨e1,e2,rfl,_⟩:=hs.e.2;obtain ⟨o1,o2,rfl,_⟩:=hs.o.2;obtain ⟨n1,n2,rfl,_⟩:=hs.n.2;have le:=hs.le;have lo:=hs.lo;have ln:=hs.ln;refine zE Tryz.func42 I [(0,jAt ve vo vn),(1,.agg ⟨Nd.frC f⟩)] ?_
 repeat' (first|refine zh ?_|refine qB fn81 I I (fun w hw=>hval w (hv.at hw)) ?_|refine qB jQy I I (fun w hw=>ZC A.o f.fr _ w ((qA hs.o).at hw) (by omega)) ?_|intro (bk:Nat))
 refine HR.cond I (fun h=>?_) (fun h=>?_)
 ·have hm:=of_decide_eq_true h;refine zh ?_;refine HR.J6 3 1 (HR.ret Tryz.func42 I [_,_] (fun _ _=>⟨I,I,trivial⟩) ?_)
  exact fun w' hw=>⟨.slice none 0 0,by simp[jCC,hm,ZJ],by rw[recv,if_pos hm];exact hw.pick [0] I rfl⟩
 have hm:=of_decide_eq_false h;refine zh ?_;refine qH jR3 I I I I I (by decide) (by decide) ?_;intro v1;refine qI fn82 I I (fun w hw=>jNS ((Rd.own 0 rfl).at hw) ((qA hs.o).at hw) ((qA hs.n).at hw) hs.lo hs.ln) ?_;intro v2;refine zh ?_;refine qI fn83 I I (fun w hw=>jPw A.e f.fr _ w ((qA hs.e).at hw) (by omega)) ?_;intro v3;have hnl:=Tp.jFB A.e f.fr;refine qD (Rd.own 0 I) I I I (zh ?_)
 rename_i bA
 refine HR.J6 3 1 ?_
 refine qd (α:=Nat) (β:=Value) (fun k v=>k<=(Tp.Z7 A.e f.fr).length) (fun k v=>[(2,.pointer (some ⟨bA,0,none⟩)),(3,.pointer (some ⟨bk,0,none⟩)),(6,v2),(7,v),(27,v3),(28,.int .i64 ((Tp.Z7 A.e f.fr).length:Int)),(29,.int .i64 (k:Int))])
  (fun k v=>[jM v 3 1 (((Tp.Z7 A.e f.fr).take k).filter (takes A f.dst)).length (cellsOf iC (((Tp.Z7 A.e f.fr).take k).filter (takes A f.dst))),jM v3 3 1 (Tp.Z7 A.e f.fr).length (cellsOf iC (Tp.Z7 A.e f.fr)),jM v2 3 1 (A.o++A.n).length (cellsOf iC (A.o++A.n)),jS bk (Nd.frC f) 75,jS bA [.slice e1 A.e.length e2,.slice o1 A.o.length o2,.slice n1 A.n.length n2] 34])
  (fun k v=>(Tp.Z7 A.e f.fr).length-k) 0 (.slice none 0 0) (Nat.zero_le _) ⟨I,I,I,I,I,I,I,trivial⟩ (Ent.pick [0,1,2,4,5] I I) ?_
 intro k v hk ih;refine zh ?_;refine HR.cond I (fun h2=>?_) (fun h2=>?_)
 ·have hlt:k<(Tp.Z7 A.e f.fr).length:=by have:=of_decide_eq_true h2;omega
  obtain ⟨x,hx⟩:=jG hlt;have hfl:(((Tp.Z7 A.e f.fr).take k).filter (takes A f.dst)).length<=k:=Nat.le_trans (List.length_filter_le _ _) (by simp;omega)
  repeat' (first|refine zh ?_|refine qE (Rd.own 1 I) j5 k I I I I hlt ?_|refine qF (Rd.own 1 I) I I I I (jN hx) ?_|refine qB jQy I I (fun w hw=>ZC (A.o++A.n) x v2 w ((Rd.own 2 rfl).at hw) (by rw[List.length_append];omega)) ?_|apply zb ?_ ?_|exact zc|(refine zi fun hb=>?_;try simp at hb)|fail)
  refine HR.cond I (fun h3=>?_) (fun h3=>?_)
  ·rw [jJU]at h3;refine zh ?_;refine qH j5 I I I I I (by decide) (by decide) ?_;intro v4;refine qJ 1 I j5 (Rd.own 0 I) I I I I (jH I) (by omega) (by omega) ?_;intro v5;refine zh ?_;refine ih (k+1) v5 _ _ hlt (by omega) ⟨I,I,I,I,I,I,I,trivial⟩ (Ent.trans (Ent.pick [1,2,3,4,5] I I) (qC ?_ ?_))
   ·rw [Jp hx,if_pos h3];simp
   ·rw [Jp hx,if_pos h3,jL,JN]
  ·rw [jJU]at h3;refine zh ?_;refine ih (k+1) v _ _ hlt (by omega) ⟨I,I,I,I,I,I,I,trivial⟩ (qC ?_ ?_)
   ·rw [Jp hx,h3];simp
   ·rw [Jp hx,h3];simp
 have hke:k=(Tp.Z7 A.e f.fr).length:=by have:=of_decide_eq_false h2;omega
 subst hke;rw[List.take_length];have hrv:recv A f=heard A f:=by rw[recv,if_neg hm]
 show HR _ _ _ _ _ _ (jM v 3 1 (heard A f).length (cellsOf iC (heard A f))::_) _;refine zh ?_;refine HR.cond I (fun h3=>?_) (fun h3=>?_)
 ·refine zh ?_;refine HR.ret Tryz.func42 I [_,_] (fun _ _=>⟨I,I,trivial⟩) ?_;rw[hrv]
  exact fun w' hw=>⟨v,by simp[jCC,hm,ZJ];exact .inl (eq_of_beq h3),hw.pick [0] I rfl⟩
 ·have hd:¬f.dst=255:=by simpa using h3
  repeat' (first|refine zh ?_|refine qD (Rd.own 0 I) I I I ?_|refine qB jQy I I (fun w hw=>ZC A.n f.fr _ w ((qA hs.n).at hw) (by omega)) ?_|apply zb ?_ ?_|exact zc|(refine zi fun hb=>?_;try simp at hb)|fail)
  refine HR.ret Tryz.func42 I [_,_] (fun _ _=>⟨I,I,trivial⟩) ?_;rw[hrv];refine fun w' hw=>⟨v,?_,hw.pick [0] I rfl⟩
  simp[jCC,hm,hd,ZJ]
theorem jDe (a:Air) (f:Fr) (ve vo vn:Value) (w:World) (hv:OkA w a ve vo vn):
  Calls Tryz.prog 110 #[jAt ve vo vn,.agg ⟨Nd.frC f⟩] w fun e w'=>∃v,e= .returned (.tuple ⟨[v,.bool (jCC (san a) f)]⟩)/\Sat (base w) [jM v 3 1 (recv (san a) f).length (cellsOf iC (recv (san a) f))] w':=by
 obtain ⟨ve',vo',vn',hs,hval⟩:=jQ8 hv;generalize san a=A at hs ⊢;obtain ⟨e1,e2,rfl,_⟩:=hs.e.2;obtain ⟨o1,o2,rfl,_⟩:=hs.o.2;obtain ⟨n1,n2,rfl,_⟩:=hs.n.2;have le:=hs.le;have lo:=hs.lo;have ln:=hs.ln;refine zE Tryz.func110 I [(0,jAt ve vo vn),(1,.agg ⟨Nd.frC f⟩)] ?_
 repeat' (first|refine zh ?_|refine qB fn185 I I (fun w hw=>hval w (hv.at hw)) ?_|refine qB jQG I I (fun w hw=>jBG A.o f.fr _ w ((qA hs.o).at hw) (by omega)) ?_|intro (bk:Nat))
 refine HR.cond I (fun h=>?_) (fun h=>?_)
 ·have hm:=of_decide_eq_true h;refine zh ?_;refine HR.J6 3 1 (HR.ret Tryz.func110 I [_,_] (fun _ _=>⟨I,I,trivial⟩) ?_)
  exact fun w' hw=>⟨.slice none 0 0,by simp[jCC,hm,ZJ],by rw[recv,if_pos hm];exact hw.pick [0] I rfl⟩
 have hm:=of_decide_eq_false h;refine zh ?_;refine qI fn187 I I (fun w hw=>jMP A.e f.fr _ w ((qA hs.e).at hw) (by omega)) ?_;intro v3;have hnl:=Tp.jFB A.e f.fr;refine zh ?_;refine qD (Rd.own 0 I) I I I (zh ?_)
 rename_i bA
 refine HR.J6 3 1 ?_
 refine qd (α:=Nat) (β:=Value) (fun k v=>k<=(Tp.Z7 A.e f.fr).length) (fun k v=>[(2,.pointer (some ⟨bA,0,none⟩)),(3,.pointer (some ⟨bk,0,none⟩)),(6,v),(7,v3),(22,.int .i64 ((Tp.Z7 A.e f.fr).length:Int)),(23,.int .i64 (k:Int))])
  (fun k v=>[jM v 3 1 (((Tp.Z7 A.e f.fr).take k).filter (takes A f.dst)).length (cellsOf iC (((Tp.Z7 A.e f.fr).take k).filter (takes A f.dst))),jM v3 3 1 (Tp.Z7 A.e f.fr).length (cellsOf iC (Tp.Z7 A.e f.fr)),jS bk (Nd.frC f) 75,jS bA [.slice e1 A.e.length e2,.slice o1 A.o.length o2,.slice n1 A.n.length n2] 34])
  (fun k v=>(Tp.Z7 A.e f.fr).length-k) 0 (.slice none 0 0) (Nat.zero_le _) ⟨I,I,I,I,I,I,trivial⟩ (Ent.pick [0,1,2,3] I I) ?_
 intro k v hk ih;refine zh ?_;refine HR.cond I (fun h2=>?_) (fun h2=>?_)
 ·have hlt:k<(Tp.Z7 A.e f.fr).length:=by have:=of_decide_eq_true h2;omega
  obtain ⟨x,hx⟩:=jG hlt;have hfl:(((Tp.Z7 A.e f.fr).take k).filter (takes A f.dst)).length<=k:=Nat.le_trans (List.length_filter_le _ _) (by simp;omega);refine zh ?_;refine qK j3 (by kernel_rfl) ?_
  repeat' (first|refine zq ?_|refine qW (Rd.own 1 I) j5 k I I I I hlt ?_|refine qj (Rd.own 1 I) I I I I (jN hx) ?_|refine qz fn188 I I (fun w hw=>jNc A x _ _ _ w (hs.at hw)) ?_|apply zb ?_ ?_|exact zc|(refine zi fun hb=>?_;try simp at hb)|fail)
  refine HR.cond I (fun h3=>?_) (fun h3=>?_)
  ·have h3:takes A f.dst x=true:=h3;refine zh ?_;refine qE (Rd.own 1 I) j5 k I I I I hlt ?_;refine qF (Rd.own 1 I) I I I I (jN hx) ?_;refine qH j5 I I I I I (by decide) (by decide) ?_;intro v4;refine qJ 1 I j5 (Rd.own 0 I) I I I I (jH I) (by omega) (by omega) ?_;intro v5;refine zh ?_;refine ih (k+1) v5 _ _ hlt (by omega) ⟨I,I,I,I,I,I,trivial⟩ (Ent.trans (Ent.pick [1,2,3,4] I I) (qC ?_ ?_))
   ·rw [Jp hx,if_pos h3];simp
   ·rw [Jp hx,if_pos h3,jL,JN]
  ·have h3:takes A f.dst x=false:=h3;refine zh ?_;refine ih (k+1) v _ _ hlt (by omega) ⟨I,I,I,I,I,I,trivial⟩ (qC ?_ ?_)
   ·rw [Jp hx,h3];simp
   ·rw [Jp hx,h3];simp
 have hke:k=(Tp.Z7 A.e f.fr).length:=by have:=of_decide_eq_false h2;omega
 subst hke;rw[List.take_length];have hrv:recv A f=heard A f:=by rw[recv,if_neg hm]
 show HR _ _ _ _ _ _ (jM v 3 1 (heard A f).length (cellsOf iC (heard A f))::_) _;refine zh ?_;refine HR.cond I (fun h3=>?_) (fun h3=>?_)
 ·refine zh ?_;refine HR.ret Tryz.func110 I [_,_] (fun _ _=>⟨I,I,trivial⟩) ?_;rw[hrv]
  exact fun w' hw=>⟨v,by simp[jCC,hm,ZJ];exact .inl (eq_of_beq h3),hw.pick [0] I rfl⟩
 ·have hd:¬f.dst=255:=by simpa using h3
  repeat' (first|refine zh ?_|refine qD (Rd.own 0 I) I I I ?_|refine qB jQG I I (fun w hw=>jBG A.n f.fr _ w ((qA hs.n).at hw) (by omega)) ?_|apply zb ?_ ?_|exact zc|(refine zi fun hb=>?_;try simp at hb)|fail)
  refine HR.ret Tryz.func110 I [_,_] (fun _ _=>⟨I,I,trivial⟩) ?_;rw[hrv];refine fun w' hw=>⟨v,?_,hw.pick [0] I rfl⟩
  have:=jNd (a:=A) hd;have e1:(((heard A f).length:Int)==1)=decide (0<(heard A f).length):=by
   rw[<- this,Bool.eq_iff_iff];simp only[beq_iff_eq];omega
  simp only[jCC,hm,hd,ZJ,e1]
  simp[hd]
end Go.Proofs.YtgfdoognildoeaaGreat
namespace Go.Proofs.YtgfdoognildoeaaGreat
open Go.GX Go.RowKit
attribute [local irreducible] Calls Run JH JL zU HR HL HD jS jM ZN Rd jg Jf
open Nd
theorem fn39:IsFn Tryz.prog 39:=zF Tryz.func39 I
theorem fn40:IsFn Tryz.prog 40:=zF Tryz.func40 I
theorem fn41:IsFn Tryz.prog 41:=zF Tryz.func41 I
theorem fn84:IsFn Tryz.prog 84:=zF Tryz.func84 I
theorem fn85:IsFn Tryz.prog 85:=zF Tryz.func85 I
theorem fn43:IsFn Tryz.prog 43:=zF Tryz.func43 I
abbrev StX:=(NV×Nd)×Bool×Bool×Fr
abbrev stE (s:StX):List Value:=[.int .i64 s.1.2.addr,.int .i64 s.1.2.poll,.int .i64 s.1.2.parent,sv s.1.1.ta s.1.2.table.length,sv s.1.1.li s.1.2.links.length,sv s.1.1.ou s.1.2.out.length,sv s.1.1.ch s.1.2.children.length,sv s.1.1.bo s.1.2.boxes.length,sv s.1.1.se s.1.2.seen.length,sv s.1.1.pa s.1.1.ps.length,sv s.1.1.ib s.1.2.inbox.length,.int .i64 s.1.2.seq,.int .i64 s.1.2.lost,.bool s.2.1,.bool s.2.2.1,.int .i64 s.2.2.2.kd,.int .i64 s.2.2.2.fr,.int .i64 s.2.2.2.dst,.int .i64 s.2.2.2.so,.int .i64 s.2.2.2.ta,.int .i64 s.2.2.2.sq,.int .i64 s.2.2.2.hp,.bool s.2.2.2.ur,str s.2.2.2.da]
theorem Jd (s:StX):(stE s).length=24:=rfl
abbrev cSt (v:Value) (ss:List StX):Chunk:=jM v 77 24 ss.length (cellsOf stE ss)
abbrev ssN (ss:List StX):List Nd:=ss.map (·.1.2)
theorem jR6 (v:Value) (ys:List StX) (x:StX):cSt v (ys++[x])=jM v 77 24 (ys.length+1) (cellsOf stE ys++stE x):=by
 show jM v _ 24 (ys++[x]).length (cellsOf stE (ys++[x]))=_;rw[jL,List.length_append,JN];rfl
theorem jQ7 {ss:List StX} {k:Nat} {s:StX} (h:ss[k]? =some s):(ssN ss)[k]? =some s.1.2:=by unfold ssN;rw[List.getElem?_map,h];rfl
theorem jL6 {ss:List StX} {k:Nat} {s:StX} (h:ss[k]? =some s):Me.nth (ssN ss) k=s.1.2:=by unfold Me.nth;rw[List.getD_eq_getElem?_getD,jQ7 h];rfl
theorem jL5 (ss:List StX) (k:Nat) (s:StX):ssN (ss.set k s)=(ssN ss).set k s.1.2:=by unfold ssN;rw[List.map_set]
theorem K4 {ss:List StX} {k:Nat} {s:StX} (h:ss[k]? =some s):∀(i:Nat) u,(ndC s.1.1 s.1.2)[i]? =some u->(cellsOf stE ss)[k*24+0+i]? =some u:=by
 intro i u hu;have hi:=(List.getElem?_eq_some_iff.1 hu).1;rw[Nat.add_zero];refine jD Jd h i u ?_;show (ndC s.1.1 s.1.2++[.bool s.2.1,.bool s.2.2.1,.int .i64 s.2.2.2.kd,.int .i64 s.2.2.2.fr,.int .i64 s.2.2.2.dst,.int .i64 s.2.2.2.so,.int .i64 s.2.2.2.ta,.int .i64 s.2.2.2.sq,.int .i64 s.2.2.2.hp,.bool s.2.2.2.ur,str s.2.2.2.da])[i]? =some u;rw[List.getElem?_append_left hi];exact hu
theorem jPS {ss:List StX} {k:Nat} {s:StX} (h:ss[k]? =some s):∀(i:Nat) u,(frC s.2.2.2)[i]? =some u->(cellsOf stE ss)[k*24+15+i]? =some u:=by
 intro i u hu;rw[Nat.add_assoc];refine jD Jd h (15+i) u ?_;show (ndC s.1.1 s.1.2++[.bool s.2.1,.bool s.2.2.1]++frC s.2.2.2)[15+i]? =some u;rw[List.getElem?_append_right (by show 15<=15+i;omega)];show (frC s.2.2.2)[15+i-15]? =some u;rw[Nat.add_sub_cancel_left];exact hu
theorem jFe (t:Int) (v:Value) (xs:List (NV×Nd)) (a:Me.Air) (ve vo vn:Value) (w:World) (h:OkL w v xs) (hg:∀x∈xs,SmN x.2) (hl:xs.length<=1000) (hA:OkA w a ve vo vn):
  Calls Tryz.prog 39 #[meV t v,jAt ve vo vn] w fun e w'=>∃x:SV×List StX×List Chunk,e= .returned (sv x.1 x.2.1.length)/\(x.2.1.map (fun s=>(s.1.2,s.2))=(nds xs).map (fun n=>(n,Me.live a n.addr,false,fr0))/\∀s∈x.2.1,Own s.1.1 x.2.2 s.1.2)/\Sat (base w) [cSt (sv x.1 x.2.1.length) x.2.1,jC x.2.2] w':=by
 obtain ⟨av,cv,rfl,_⟩:=h.s.2;have hlo:=hA.lo;refine zE Tryz.func39 I [(0,meV t (sv (av,cv) xs.length)),(1,jAt ve vo vn)] ?_;refine HR.ctl I (HR.region ?_);refine HL.box I I ?_;intro b2;refine HL.box I I ?_;intro b3;refine zh ?_;refine qB fn77 I I (fun w1 hw1=>jAm a ve vo vn w1 (hA.at hw1)) (zh ?_);refine qg 0 xs.length Jz I I I I I I (Nat.zero_le _) (show 320*xs.length<=_ by omega) (by omega) ?_;intro v3;refine HL.shape 0 I fun a3 c3 hv=>?_
 subst hv;refine zh ?_;refine HR.loop (ι:=Nat×SV×List StX×List Chunk) (fun x=>x.1<=xs.length/\x.2.2.1.map (fun s=>(s.1.2,s.2))=((nds xs).take x.1).map (fun n=>(n,Me.live a n.addr,false,fr0))/\∀s∈x.2.2.1,Own s.1.1 x.2.2.2 s.1.2) (fun x=>[(3,ptr b3),(5,.bool (Ra.check a==0)),(6,sv x.2.1 x.2.2.1.length),(17,sv (av,cv) xs.length),(18,.int .i64 (xs.length:Int)),(19,.int .i64 (x.1:Int))]) (fun x=>[jS b3 [ve,vo,vn] 34,cSt (sv x.2.1 x.2.2.1.length) x.2.2.1,jC x.2.2.2]) (fun x=>xs.length-x.1) (0,(a3,c3),[],[]) ⟨Nat.zero_le _,rfl,fun y hy=>(List.not_mem_nil hy).elim⟩ ⟨I,I,I,I,I,I,trivial⟩ (Ent.trans QJ (Ent.pick [2,1,0] I I)) ?_
 rintro ⟨k,y,ss,G⟩ ⟨hk,hss,hown⟩ ih
 have hk:k<=xs.length:=hk;have hss:ss.map (fun s=>(s.1.2,s.2))=((nds xs).take k).map (fun n=>(n,Me.live a n.addr,false,fr0)):=hss;have hown:∀s∈ss,Own s.1.1 G s.1.2:=hown;have hsl:ss.length=k:=by have:=congrArg List.length hss;rw[List.length_map,List.length_map,List.length_take,JW]at this;omega
 refine zh ?_;refine HR.cond I (fun h2=>?_) (fun h2=>?_)
 rotate_left
 ·have hke:k=xs.length:=by have:¬(k:Int)<(xs.length:Int):=of_decide_eq_false h2;omega
  refine zh ?_;refine HR.ret Tryz.func39 I [_] (fun _ _=>⟨I,trivial⟩) ?_;refine fun w' hw=>⟨(y,ss,G),rfl,⟨?_,hown⟩,hw.pick [1,2] I rfl⟩
  show ss.map (fun s=>(s.1.2,s.2))=(nds xs).map _;rw[hss,hke,<- JW,List.take_length]
 have hlt:k<xs.length:=by have:(k:Int)<(xs.length:Int):=of_decide_eq_true h2;omega
 obtain ⟨⟨V,n⟩,hx⟩:=jG hlt;have hok:OkN w V n:=h.r _ (List.mem_of_getElem? hx);have hsn:SmN n:=hg _ (List.mem_of_getElem? hx)
 repeat' (first|refine zh ?_|refine qE (qA h.s) JQ k I I I I hlt ?_|refine qN (qA h.s) I I I I (by simp) I (jD jh hx) ?_|intro (bk:Nat))
 refine qL (r:=fun x:NV×List Chunk=> .agg ⟨ndC x.1 n⟩) (Q:=fun x=>Own x.1 x.2 n) (G:=fun x=>[jC x.2]) fn78 I I (fun w1 hw1=>jLC V n w1 (hok.ext hw1.jF) hsn) ?_
 rintro ⟨V2,G2⟩ hO
 have hO:Own V2 G2 n:=hO
 repeat' (first|refine zh ?_|refine qB jQy I I (fun w1 hw1=>ZC a.o n.addr vo w1 ((hA.at hw1).o) (by omega)) ?_|apply zb ?_ ?_|exact zc|(refine zi fun hb=>?_;try simp at hb)|fail)
 refine qH Jz I I I I I (by decide) (by decide) ?_;intro va;refine qJ 4 I Jz (Rd.own 0 I) I I I I (jH I) (by show (ss.length+1)*320<=_;omega) (by show ss.length+1<=_;omega) ?_;intro vc;refine HL.shape 4 I fun ac cc hv=>?_
 subst hv;refine zh ?_;obtain ⟨S,hS⟩:∃S:StX,S=((V2,n),Me.live a n.addr,false,fr0):=⟨_,rfl⟩;refine ih (k+1,(ac,cc),ss++[S],[jC G2,jC G]) _ _ ⟨hlt,?_,?_⟩ (by show xs.length-(k+1)<xs.length-k;omega) ⟨rfl,rfl,?_,rfl,rfl,rfl,trivial⟩ ?_
 ·show (ss++[S]).map (fun s=>(s.1.2,s.2))=((nds xs).take (k+1)).map _;rw[jE (Je hx),List.map_append,List.map_append,hss,hS];rfl
 ·intro z hz;have hz:z∈ss++[S]:=hz;rcases List.mem_append.1 hz with hz|hz
  ·exact fun w2 hg2=>hown z hz w2 (jK hg2 (by simp))
  ·rw [List.mem_singleton.1 hz,hS];exact fun w2 hg2=>hO w2 (jK hg2 (by simp))
 ·show _=some (sv (ac,cc) (ss++[S]).length);rw[show (ss++[S]).length=ss.length+1 by simp];rfl
 ·show Ent _ _ [jS b3 [ve,vo,vn] 34,cSt (sv (ac,cc) (ss++[S]).length) (ss++[S]),jC [jC G2,jC G]];rw[jR6,show (ss++[S]).length=ss.length+1 by simp,hS];exact Ent.trans (Ent.pick (H':=[jC G2,jC G]++[jS b3 [ve,vo,vn] 34,jM (sv (ac,cc) (ss.length+1)) 77 24 (ss.length+1) (cellsOf stE ss++stE ((V2,n),Me.live a n.addr,false,fr0))]) [1,5,3,4] I I) (Ent.trans Ent.group (Ent.pick [1,2,0] I I))
abbrev jSD (V:NV) (n:Nd) (V':NV) (G:List Chunk) (m:Nd):Prop:=∀w2,OkN w2 V n->(jC G).p w2->OkN w2 V' m
def Jt (now:Int) (s:Nd×Bool×Bool×Fr):Nd×Bool×Bool×Fr:=(if s.2.1 then Zb s.1 now else s.1,s.2)
def zu (now:Int) (s:Nd×Bool×Bool×Fr):Nd×Bool×Bool×Fr:=if s.2.1 then ((talk s.1 now).1,s.2.1,(talk s.1 now).2.2,(talk s.1 now).2.1)else s
theorem jSG {w w':World} {H:List Chunk} (h:Sat (base w) H w'):Sat (base w) [jC []] w':=QJ w' (h.pick [] I I)
theorem jPB (V:NV) (n:Nd) (on tk:Bool) (f:Fr) (now:Int) (w:World) (h:OkN w V n) (hg:GdN n):
  Calls Tryz.prog 40 #[.agg ⟨stE ((V,n),on,tk,f)⟩,.int .i64 now] w fun e w'=>∃x:NV×List Chunk,e= .returned (.agg ⟨stE ((x.1,(Jt now (n,on,tk,f)).1),(Jt now (n,on,tk,f)).2)⟩)/\jSD V n x.1 x.2 (Jt now (n,on,tk,f)).1/\Sat (base w) [jC x.2] w':=by
 refine zE Tryz.func40 I [(0,.agg ⟨stE ((V,n),on,tk,f)⟩),(1,.int .i64 now)] ?_;refine HR.ctl I (HR.region ?_);refine HL.box I I ?_;intro b2;refine HL.alloc I I ?_;intro b4;refine zh ?_;refine HR.cond I (fun h2=>?_) (fun h2=>?_)
 ·subst h2;refine zh ?_;refine qL (r:=fun x:NV×List Chunk=> .agg ⟨ndC x.1 (Zb n now)⟩) (Q:=fun x=>Own x.1 x.2 (Zb n now)) (G:=fun x=>[jC x.2]) fn79 I I (fun w1 hw1=>jMd V n now w1 (h.ext hw1.jF) hg.sm (fun s hs=>(hg.wf.out s hs).wt)) ?_
  rintro ⟨V2,G2⟩ hO
  have hO:Own V2 G2 (Zb n now):=hO;refine zh ?_;refine HR.ret Tryz.func40 I [_] (fun w hw=>⟨⟨_,rfl,jQ hw 1 I I I I rfl⟩,trivial⟩) ?_
  exact fun w' hw=>⟨(V2,G2),rfl,fun w2 _ hg2=>hO w2 hg2,hw.pick [0] I rfl⟩
 ·subst h2;refine zh ?_;refine HR.ret Tryz.func40 I [_] (fun w hw=>⟨⟨_,rfl,jQ hw 0 I I I I rfl⟩,trivial⟩) ?_
  exact fun w' hw=>⟨(V,[]),rfl,fun w2 hok _=>hok,jSG hw⟩
theorem jHR (V:NV) (n:Nd) (on tk:Bool) (f:Fr) (now:Int) (w:World) (h:OkN w V n) (hg:GdN n):
  Calls Tryz.prog 41 #[.agg ⟨stE ((V,n),on,tk,f)⟩,.int .i64 now] w fun e w'=>∃x:NV×List Chunk,e= .returned (.agg ⟨stE ((x.1,(zu now (n,on,tk,f)).1),(zu now (n,on,tk,f)).2)⟩)/\jSD V n x.1 x.2 (zu now (n,on,tk,f)).1/\Sat (base w) [jC x.2] w':=by
 refine zE Tryz.func41 I [(0,.agg ⟨stE ((V,n),on,tk,f)⟩),(1,.int .i64 now)] ?_;refine HR.ctl I (HR.region ?_);refine HL.box I I ?_;intro b2;refine HL.alloc I I ?_;intro b4;refine zh ?_;refine HR.cond I (fun h2=>?_) (fun h2=>?_)
 ·subst h2;refine zh ?_;refine qL (r:=fun x:NV×List Chunk=> .tuple ⟨[.agg ⟨ndC x.1 (talk n now).1⟩,.agg ⟨frC (talk n now).2.1⟩,.bool (talk n now).2.2]⟩) (Q:=fun x=>Own x.1 x.2 (talk n now).1) (G:=fun x=>[jC x.2]) fn80 I I (fun w1 hw1=>jMe V n now w1 (h.ext hw1.jF) hg.sm) ?_
  rintro ⟨V2,G2⟩ hO
  have hO:Own V2 G2 (talk n now).1:=hO;refine zh ?_;refine HR.ret Tryz.func41 I [_] (fun w hw=>⟨⟨_,rfl,jQ hw 1 I I I I rfl⟩,trivial⟩) ?_
  exact fun w' hw=>⟨(V2,G2),rfl,fun w2 _ hg2=>hO w2 hg2,hw.pick [0] I rfl⟩
 ·subst h2;refine zh ?_;refine HR.ret Tryz.func41 I [_] (fun w hw=>⟨⟨_,rfl,jQ hw 0 I I I I rfl⟩,trivial⟩) ?_
  exact fun w' hw=>⟨(V,[]),rfl,fun w2 hok _=>hok,jSG hw⟩
theorem jBu (l:List StX) (p:StX->Bool) (g:FuncId) (caps:List Value) (v:Value) (w:World) (hg:IsFn Tryz.prog g) (hp:jQ4 Tryz.prog g caps (fun a=> .agg ⟨stE a⟩) p l w) (hv:Sl w v (cellsOf stE l) l.length) (hl:l.length<=1000000):
  Calls Tryz.prog 84 #[v,.func (.func g) #[] caps.toArray] w fun e w'=>e= .returned (.int .i64 (fidx p l))/\Below w.heap.size w w':=by
 refine zE Tryz.func84 I [(0,v),(1,.func (.func g) #[] caps.toArray)] (zh ?_);refine qD (qA hv) I I I (zh ?_);refine HR.loop (ι:=Nat) (fun k=>k<=l.length/\∀j b,j<k->l[j]? =some b->p b=false) (fun k=>[(0,v),(1,.func (.func g) #[] caps.toArray),(7,.int .i64 (l.length:Int)),(8,.int .i64 (k:Int))]) (fun _=>[]) (fun k=>l.length-k) 0 ⟨Nat.zero_le _,fun j b hj=>absurd hj (Nat.not_lt_zero _)⟩ ⟨I,I,I,I,trivial⟩ Ent.refl ?_
 rintro k ⟨hk,hno⟩ ih
 refine zh ?_;refine HR.cond I (fun h2=>?_) (fun h2=>?_)
 ·have hlt:k<l.length:=by have:=of_decide_eq_true h2;omega
  obtain ⟨x,hx⟩:=jG hlt;refine zh ?_;refine qE (qA hv) Jz k I I I I hlt ?_;refine qN (qA hv) I I I I (by simp) I (jD Jd hx) ?_;refine Qa (caps:=caps) hg I I I (fun w' hw=>hp x (List.mem_of_getElem? hx) w' hw.jF) (zh ?_);refine HR.cond I (fun h3=>?_) (fun h3=>?_)
  ·have h3:p x=true:=h3;refine zh ?_;refine HR.ret Tryz.func84 I [_] (fun _ _=>⟨I,trivial⟩) ?_;rw[Zk hx h3 hno]
   exact fun w' hw=>⟨rfl,hw.jF⟩
  ·have h3:p x=false:=h3;refine zh ?_;refine ih (k+1) _ _ ⟨hlt,fun j b hj hb=>?_⟩ (by omega) ⟨I,I,I,I,trivial⟩ Ent.refl
   by_cases e:j=k
   ·subst e;rw[hx]at hb;cases hb;exact h3
   ·exact hno j b (by omega) hb
 ·have hke:k=l.length:=by have:=of_decide_eq_false h2;omega
  subst hke;rw[Jq hno];refine zh ?_;exact zR Tryz.func84
theorem jGs (bt:Nat) (k:Int) (s:StX) (w:World) (hb:Sl w (.slice (some ⟨bt,0,none⟩) 1 1) [.int .i64 k] 1):Calls Tryz.prog 85 #[.agg ⟨stE s⟩,.pointer (some ⟨bt,0,none⟩)] w fun e w'=>e= .returned (.bool (s.1.2.addr==k))/\Below w.heap.size w w':=by
 refine zE Tryz.func85 I [(0,.agg ⟨stE s⟩),(1,.pointer (some ⟨bt,0,none⟩))] ?_
 repeat' (first|refine zh ?_|refine qF (j:=0) (qA hb) I I I I I ?_|intro (bk:Nat))
 exact zR Tryz.func85
theorem jRQ (ss:List StX) (a:Int):(fidx (fun s:StX=>s.1.2.addr==a) ss= -1/\Me.idx (ssN ss) a=none)\/∃(i:Nat) (s:StX),fidx (fun s:StX=>s.1.2.addr==a) ss=(i:Int)/\Me.idx (ssN ss) a=some i/\ss[i]? =some s:=by
 have e:Me.idx (ssN ss) a=ss.findIdx? (fun s:StX=>s.1.2.addr==a):=by unfold Me.idx ssN;rw[List.findIdx?_map];rfl
 rw[e];rcases JF (fun s:StX=>s.1.2.addr==a) ss with ⟨h1,h2,_⟩|⟨i,s,h1,h2,h3,_⟩
 ·exact .inl ⟨h1,h2⟩
 ·exact .inr ⟨i,s,h1,h2,h3⟩
abbrev cIr (v:Value) (l:List Int):Chunk:=jM v 3 1 l.length (cellsOf iC l)
theorem jES {f:Fr} {now:Int} {l:List Nd} {r:Bool} {a:Int} (h:Me.idx l a=none):Me.Kn f now (l,r) a=(l,r):=by unfold Me.Kn;rw[h]
theorem jER {f:Fr} {now:Int} {l:List Nd} {r:Bool} {a:Int} {i:Nat} (h:Me.idx l a=some i):Me.Kn f now (l,r) a=if awake (Me.nth l i) now then (l.set i (hear (Me.nth l i) now f),r||(a==f.dst))else (l,r):=by unfold Me.Kn;rw[h]
theorem jEU {α β:Type} (g:β->α->β) (b:β) {l:List α} {k:Nat} {x:α} (hx:l[k]? =some x):(l.take (k+1)).foldl g b=g ((l.take k).foldl g b) x:=by
 rw[jE hx,List.foldl_append];rfl
theorem jNA (ss:List StX) (f:Fr) (rs:List Int) (now:Int) (v vr:Value) (G:List Chunk) (B0:Base) (w:World) (hw0:Sat B0 [cSt v ss,cIr vr rs,jC G] w) (hown:∀s∈ss,Own s.1.1 G s.1.2) (hgd:∀s∈ss,GdN s.1.2) (hf:f.da.length<=9223372036854775807) (hl:ss.length<=1000) (hrl:rs.length<=1000):
  Calls Tryz.prog 43 #[v,.agg ⟨frC f⟩,vr,.int .i64 now] w fun e w'=>∃x:List StX×List Chunk,e= .returned (.bool (Me.hears f now (ssN ss) rs).2)/\(ssN x.1=(Me.hears f now (ssN ss) rs).1/\x.1.map (·.2)=ss.map (·.2)/\(∀ s∈x.1,Own s.1.1 x.2 s.1.2)/\∀s∈x.1,GdN s.1.2)/\Sat ⟨w,zN [cSt v ss,cIr vr rs,jC G]⟩ [cSt v x.1,cIr vr rs,jC x.2] w':=by
 refine jc [cSt v ss,cIr vr rs,jC G] (hw0) Tryz.func43 I (Nat.le_of_ble_eq_true I) (HR.sub (σ':=[(0,v),(1,.agg ⟨frC f⟩),(2,vr),(3,.int .i64 now)]) ⟨I,I,I,I,trivial⟩ ?_);refine HR.ctl I (HR.region ?_);refine HL.box I I ?_;intro b5;refine zh ?_;refine qD (Rd.own 2 I) I I I (zh ?_);refine HR.loop (ι:=Nat×List StX×Bool×List Chunk) (fun x=>x.1<=rs.length/\(rs.take x.1).foldl (Me.Kn f now) (ssN ss,false)=(ssN x.2.1,x.2.2.1)/\x.2.1.map (·.2)=ss.map (·.2)/\(∀ s∈x.2.1,Own s.1.1 x.2.2.2 s.1.2)/\∀s∈x.2.1,GdN s.1.2) (fun x=>[(0,v),(3,.int .i64 now),(5,ptr b5),(9,.bool x.2.2.1),(13,vr),(14,.int .i64 (rs.length:Int)),(15,.int .i64 (x.1:Int))]) (fun x=>[jS b5 (frC f) 75,cSt v x.2.1,cIr vr rs,jC x.2.2.2]) (fun x=>rs.length-x.1) (0,ss,false,G) ⟨Nat.zero_le _,rfl,rfl,hown,hgd⟩ ⟨I,I,I,I,I,I,I,trivial⟩ Ent.refl ?_
 rintro ⟨k,S,r,Gk⟩ ⟨hk,hfo,hS2,hownk,hgdk⟩ ih
 have hk:k<=rs.length:=hk;have hfo:(rs.take k).foldl (Me.Kn f now) (ssN ss,false)=(ssN S,r):=hfo;have hS2:S.map (·.2)=ss.map (·.2):=hS2;have hownk:∀s∈S,Own s.1.1 Gk s.1.2:=hownk;have hgdk:∀s∈S,GdN s.1.2:=hgdk;have hSl:S.length<=1000:=by have:=congrArg List.length hS2;rw[List.length_map,List.length_map]at this;omega
 have cS:(cellsOf stE S).length=S.length*24:=jA Jd _;refine zh ?_;refine HR.cond I (fun h2=>?_) (fun h2=>?_)
 rotate_left
 ·have hke:k=rs.length:=by have:¬(k:Int)<(rs.length:Int):=of_decide_eq_false h2;omega
  rw[hke,List.take_length]at hfo;have e1:Me.hears f now (ssN ss) rs=(ssN S,r):=hfo;rw[e1];refine zh ?_;refine HR.ret Tryz.func43 I [_] (fun _ _=>⟨I,trivial⟩) ?_
  exact fun w' hw=>⟨(S,Gk),rfl,⟨rfl,hS2,hownk,hgdk⟩,hw.pick [1,2,3] I rfl⟩
 have hlt:k<rs.length:=by have:(k:Int)<(rs.length:Int):=of_decide_eq_true h2;omega
 obtain ⟨a,ha⟩:=jG hlt;have hst:=jEU (Me.Kn f now) (ssN ss,false) ha;rw[hfo]at hst
 repeat' (first|refine zh ?_|refine qE (Rd.own 2 I) j5 k I I I I hlt ?_|refine qF (Rd.own 2 I) I I I I (jN ha) ?_|refine yP (g:=85) (caps:=[_]) I I ?_|intro (bk:Nat))
 rcases jRQ S a with ⟨e1,e2⟩|⟨i,s,e1,e2,hs⟩
 ·rw [jES e2]at hst;refine qB (r:= .int .i64 (-1)) fn84 I I (fun w1 hw1=>by have:=jBu S (fun s=>s.1.2.addr==a) 85 [.pointer (some ⟨bk,0,none⟩)] v w1 fn85 (fun x hx w2 hb=>jGs bk a x w2 (((Qr (n:=1) 0 rfl).at hw1).ext hb)) ((Rd.own 2 rfl).at hw1) (by omega);rw[e1]at this;exact this) ?_;refine zh ?_;exact ih (k+1,S,r,Gk) _ _ ⟨hlt,hst,hS2,hownk,hgdk⟩ (by show rs.length-(k+1)<rs.length-k;omega) ⟨I,I,I,I,I,I,I,trivial⟩ (Ent.pick [1,2,3,4] I I)
 obtain ⟨⟨V,n⟩,on,tk,fr⟩:=s;have hil:i<S.length:=(List.getElem?_eq_some_iff.1 hs).1;have hsm:((V,n),on,tk,fr)∈S:=List.mem_of_getElem? hs;have hOn:Own V Gk n:=hownk _ hsm;have hGn:GdN n:=hgdk _ hsm;rw[jER e2,jL6 hs]at hst;have hst:(rs.take (k+1)).foldl (Me.Kn f now) (ssN ss,false)=if awake n now then ((ssN S).set i (hear n now f),r||(a==f.dst))else (ssN S,r):=hst
 refine qB (r:= .int .i64 (i:Int)) fn84 I I (fun w1 hw1=>by have:=jBu S (fun s=>s.1.2.addr==a) 85 [.pointer (some ⟨bk,0,none⟩)] v w1 fn85 (fun x hx w2 hb=>jGs bk a x w2 (((Qr (n:=1) 0 rfl).at hw1).ext hb)) ((Rd.own 2 rfl).at hw1) (by omega);rw[e1]at this;exact this) ?_;refine zh ?_;refine qE (Rd.own 2 I) Jz i I I I I hil ?_;refine qP 0 (Rd.own 2 I) (by rw[cS];omega) I I I I I I I ?_;refine qN (us:=ndC V n) (Rd.own 2 I) I I I I (by simp) I (K4 hs) (zh ?_);refine qB fn86 I I (fun w1 hw1=>jKU V n now w1 (hOn w1 (QF 4 hw1 I)) hGn.sm) (zh ?_);refine HR.cond I (fun h3=>?_) (fun h3=>?_)
 ·have h3:awake n now=false:=by have h3:(!awake n now)=true:=h3;simpa using h3
  rw[h3,if_neg (by decide)]at hst;refine zh ?_;exact ih (k+1,S,r,Gk) _ _ ⟨hlt,hst,hS2,hownk,hgdk⟩ (by show rs.length-(k+1)<rs.length-k;omega) ⟨I,I,I,I,I,I,I,trivial⟩ (Ent.pick [1,2,3,4] I I)
 have h3:awake n now=true:=by have h3:(!awake n now)=false:=h3;simpa using h3
 rw[h3,if_pos rfl]at hst;refine zh ?_;refine qU [(0,true),(1,true),(2,true),(3,true),(4,true),(5,true),(6,true),(7,true),(8,true),(9,false),(10,true),(11,true)] 12 [1,2] I I j3 (by kernel_rfl) (zd ?_);refine qc (Rd.own 1 I) Jz i I I I I I hil ?_;refine QA 0 (Rd.own 1 I) (by rw[cS];omega) I I I I I I I I ?_;refine QI (us:=ndC V n) (Rd.own 1 I) I I I I I (by simp) I (K4 hs) (zd ?_);refine HD.one I (qL (r:=fun x:NV×List Chunk=> .agg ⟨ndC x.1 (hear n now f)⟩) (Q:=fun x=>Own x.1 x.2 (hear n now f)) (G:=fun x=>[jC x.2]) fn87 I I (fun w1 hw1=>jMt V n now f w1 (hOn w1 (QF 4 hw1 I)) hGn.sm hf) ?_)
 rintro ⟨V2,G2⟩ hO
 have hO:Own V2 G2 (hear n now f):=hO;refine HL.back [2,3] I I (qc (Rd.own 1 I) Jz i I I I I I hil ?_);refine QA 0 (Rd.own 1 I) (by rw[cS];omega) I I I I I I I I ?_;refine qo I (ql (us:=ndC V2 (hear n now f)) (j:=i*24+0) 3 I I I I I I I (by rw[cS];show i*24+0+13<=_;omega) (by simp) ?_);obtain ⟨S',hS'⟩:∃S',S'=S.set i ((V2,hear n now f),on,tk,fr):=⟨_,rfl⟩;have hl':S'.length=S.length:=by rw[hS'];exact List.length_set
 refine qM (H':=[cSt v S',jC G2,jS bk [.int .i64 a] 3,jS b5 (frC f) 75,cIr vr rs,jC Gk]) (Ent.trans (Ent.pick [3,0,1,2,4,5] I I) (qC hl'.symm (by rw[hS'];exact j6 (i:=0) Jd hs I (show 0+13<=24 by decide)))) ?_
 repeat' (first|refine zh ?_|apply zb ?_ ?_|exact zc|(refine zi fun hb=>?_;try simp at hb)|fail)
 refine ih (k+1,S',r||(a==f.dst),[jC G2,jC Gk]) _ _ ⟨hlt,?_,?_,?_,?_⟩ (by show rs.length-(k+1)<rs.length-k;omega) ⟨I,I,I,I,I,I,I,trivial⟩ (Ent.trans (Ent.pick (H':=[jC G2,jC Gk]++[jS b5 (frC f) 75,cSt v S',cIr vr rs]) [1,5,3,0,4] I I) (Ent.trans Ent.group (Ent.pick [1,2,3,0] I I)))
 ·show (rs.take (k+1)).foldl (Me.Kn f now) (ssN ss,false)=(ssN S',r||(a==f.dst));rw[hst,hS',jL5]
 ·show S'.map (·.2)=ss.map (·.2);rw[<- hS2,hS',List.map_set];exact jCF (by rw[List.getElem?_map,hs];rfl)
 ·intro z hz;have hz:z∈S':=hz;rw[hS']at hz;rcases List.mem_or_eq_of_mem_set hz with hz|rfl
  ·exact fun w2 hg2=>hownk z hz w2 (jK hg2 (by simp))
  ·exact fun w2 hg2=>hO w2 (jK hg2 (by simp))
 ·intro z hz;have hz:z∈S':=hz;rw[hS']at hz;rcases List.mem_or_eq_of_mem_set hz with hz|rfl
  ·exact hgdk z hz
  ·exact hGn.hear hf now
end Go.Proofs.YtgfdoognildoeaaGreat
