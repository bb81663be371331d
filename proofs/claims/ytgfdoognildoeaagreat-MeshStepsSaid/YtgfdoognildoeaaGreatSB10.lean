/- Part of a proof. Conditions: none. -/
import Derived.Test.YtgfdoognildoeaaGreatSB9
set_option linter.unusedVariables false
set_option linter.unusedSectionVars false
set_option linter.unusedSimpArgs false
set_option maxRecDepth 100000
set_option maxHeartbeats 4000000
namespace Go.Proofs.YtgfdoognildoeaaGreat
open Go.GX Go.RowKit
attribute [local irreducible] Calls Run JH JL zU HR HL HD jS jM ZN Rd jg Jf
open Nd
theorem jLQ:IsFn Tryz.prog 160:=zF Tryz.func160 I
theorem jQP:IsFn Tryz.prog 119:=zF Tryz.func119 I
theorem jTE:IsFn Tryz.prog 158:=zF Tryz.func158 I
theorem fn118:IsFn Tryz.prog 118:=zF Tryz.func118 I
abbrev SV:=Option Addr×Nat
abbrev sv (x:SV) (n:Nat):Value:= .slice x.1 n x.2
structure NV where
 ta:SV
 li:SV
 ou:SV
 ch:SV
 bo:SV
 se:SV
 pa:SV
 ib:SV
 ps:List PtV
abbrev ndC (V:NV) (n:Nd):List Value:=[.int .i64 n.addr,.int .i64 n.poll,.int .i64 n.parent,sv V.ta n.table.length,sv V.li n.links.length,sv V.ou n.out.length,sv V.ch n.children.length,sv V.bo n.boxes.length,sv V.se n.seen.length,sv V.pa V.ps.length,sv V.ib n.inbox.length,.int .i64 n.seq,.int .i64 n.lost]
abbrev stC (V:NV) (n:Nd) (now:Int):List Value:=[.int .i64 n.addr,.int .i64 n.poll,.int .i64 n.parent,sv V.ta n.table.length,sv V.li n.links.length,sv V.ou n.out.length,sv V.ch n.children.length,sv V.bo n.boxes.length,sv V.se n.seen.length,sv V.pa V.ps.length,sv V.ib n.inbox.length,.int .i64 n.seq,.int .i64 n.lost,.int .i64 now]
abbrev cTa (v:Value) (l:List Ro):Chunk:=jM v 94 4 l.length (cellsOf roC l)
abbrev cLi (v:Value) (l:List Li):Chunk:=jM v 162 3 l.length (cellsOf liC l)
abbrev cSn (v:Value) (l:List Sn):Chunk:=jM v 131 11 l.length (cellsOf snC l)
abbrev cI (v:Value) (l:List Int):Chunk:=jM v 3 1 l.length (cellsOf iC l)
abbrev cMa (v:Value) (l:List Ma):Chunk:=jM v 166 10 l.length (cellsOf maC l)
abbrev cPr (v:Value) (l:List Pr):Chunk:=jM v 171 2 l.length (cellsOf prC l)
abbrev cPt (v:Value) (l:List PtV):Chunk:=jM v 173 6 l.length (cellsOf ptC l)
abbrev cDe (v:Value) (l:List De):Chunk:=jM v 65 2 l.length (cellsOf deC l)
abbrev ndH (V:NV) (n:Nd):List Chunk:=[cTa (sv V.ta n.table.length) n.table,cLi (sv V.li n.links.length) n.links,cSn (sv V.ou n.out.length) n.out,cI (sv V.ch n.children.length) n.children,cMa (sv V.bo n.boxes.length) n.boxes,cPr (sv V.se n.seen.length) n.seen,cPt (sv V.pa V.ps.length) V.ps,jC (ptG V.ps),cDe (sv V.ib n.inbox.length) n.inbox]
abbrev jDW (b:Nat) (V:NV) (n:Nd) (now:Int):Chunk:=jS b (stC V n now) 113
abbrev stH (b:Nat) (V:NV) (n:Nd) (now:Int):List Chunk:=jDW b V n now::ndH V n
abbrev ptr (b:Nat):Value:= .pointer (some ⟨b,0,none⟩)
structure Pts (V:NV) (n:Nd):Prop where
 eq:pts V.ps=n.parts
 sh:∀p∈V.ps,kR p
theorem kC (b:Nat) (V:NV) (n:Nd) (now:Int) (B:Base) (w:World) (hw:Sat B [jDW b V n now] w) (ho:0<=n.lost/\n.lost<=jw):
  Calls Tryz.prog 160 #[ptr b] w fun e w'=>∃_x:Unit,e= .returned (.tuple ⟨[]⟩)/\True/\Sat ⟨w,zN [jDW b V n now]⟩ [jDW b V (lose n) now] w':=by
 obtain ⟨h0,h1⟩:=ho;have h1:n.lost<=1099511627776:=h1;refine jc [jDW b V n now] (hw) Tryz.func160 I (Nat.le_of_ble_eq_true I) (HR.sub (σ':=[(0,ptr b)]) ⟨I,trivial⟩ (zh ?_));refine QS Tryz.func160 I [] (fun _ _=>trivial) ?_;have e:(if 1099511627776<n.lost+1 then (1099511627776:Int)else n.lost+1)=min (n.lost+1) jw:=by
  show _=min (n.lost+1) 1099511627776
  split<;>omega
 refine fun w' hw=>⟨(),rfl,trivial,?_⟩
 have hw2:Sat _ [jDW b V { n with lost:=if 1099511627776<n.lost+1 then 1099511627776 else n.lost+1 } now] w':=hw;rw[e]at hw2;exact hw2
theorem K5 (b:Nat) (V:NV) (n:Nd) (now:Int) (f:Fr) (B:Base) (w:World) (hw:Sat B (stH b V n now) w) (ho:Ord n):
  Calls Tryz.prog 119 #[ptr b,.agg ⟨frC f⟩] w fun e w'=>∃x:SV,e= .returned (.bool (queue n f).2)/\True/\Sat ⟨w,zN (stH b V n now)⟩ (stH b { V with ou:=x } (queue n f).1 now) w':=by
 have h16:=ho.out;have hlo:=ho.lost;refine jc (stH b V n now) (hw) Tryz.func119 I (Nat.le_of_ble_eq_true I) (HR.sub (σ':=[(0,ptr b),(1,.agg ⟨frC f⟩)]) ⟨I,I,trivial⟩ (zh ?_));intro (bk:Nat);refine zh ?_;refine qO [(0,true),(1,true),(2,true),(3,true),(4,true),(5,true),(6,false),(7,true),(8,true),(9,true),(10,true),(11,true)] [0,1] I I j3 (by kernel_rfl) (zd ?_);refine HD.one I (qL (r:=fun v':Value=> .tuple ⟨[v',.bool (jDf n.out f).2]⟩) (Q:=fun _=>True) (G:=fun v'=>[cSn v' (jDf n.out f).1]) fn196 I I (fun w1 hw1=>jPy n.out f (sv V.ou n.out.length) w1 ((Rd.own 4 rfl).at hw1) (by omega)) ?_);intro v1 _;refine HL.shape 0 I fun a c hv=>?_
 subst hv;refine HL.back [1,2] I I (zd ?_);refine HD.nil ?_;obtain ⟨q,hq⟩:∃q,q=jDf n.out f:=⟨_,rfl⟩;have hsp:queue n f=(if q.2=false\/q.1.length=n.out.length then lose { n with out:=q.1 } else { n with out:=q.1 },q.2):=by rw[hq];rfl
 rw[hsp,<- hq];refine qR (H':=jDW b V n now::cSn (.slice a q.1.length c) q.1::ndH V n) (Ent.pick [2,0,3,4,5,6,7,8,9,10,11] I I) ?_;obtain ⟨m,hm⟩:∃m:Nd,m=(if q.2=false\/q.1.length=n.out.length then lose n else n):=⟨_,rfl⟩;have hmo:(if q.2=false\/q.1.length=n.out.length then lose { n with out:=q.1 } else { n with out:=q.1 })={ m with out:=q.1 }:=by
  rw[hm];split<;>rfl
 have hmn:∀V:NV,ndH V m=ndH V n:=by intro V;rw[hm];split<;>rfl
 rw[hmo]
 repeat' (first|refine zh ?_|apply zb ?_ ?_|exact zc|(refine zi fun hb=>?_;try simp at hb)|fail)
 refine HR.join (ι:=Unit) (fun _=>True) (fun _=>[(0,ptr b),(5,.slice a q.1.length c),(6,.bool q.2)]) (fun _=>jDW b V m now::cSn (.slice a q.1.length c) q.1::ndH V m) (fun _ _=>?_) (fun hj=>?_)
 ·repeat' (first|refine zh ?_|fail)
  refine HR.ret Tryz.func119 I [_] (fun _ _=>⟨I,trivial⟩) ?_;refine fun w' hw=>⟨(a,c),rfl,trivial,?_⟩
  exact hw.pick [0,2,3,1,5,6,7,8,9,10] I I
 ·refine HR.cond I (fun h=>?_) (fun h=>?_)
  ·have h:(!q.2||((q.1.length:Int)==(n.out.length:Int)))=true:=h;have h2:q.2=false\/(q.1.length:Int)=(n.out.length:Int):=by simpa using h
   have h:q.2=false\/q.1.length=n.out.length:=h2.imp id (fun e=>by omega);rw[if_pos h]at hm;refine HR.region ?_
   repeat' (first|refine zn ?_|fail)
   refine qQ (r:=fun _:Unit=> .tuple ⟨[]⟩) (Q:=fun _=>True) (G0:=[jDW b V n now]) (H0:=cSn (.slice a q.1.length c) q.1::ndH V n) (G:=fun _=>[jDW b V (lose n) now]) jLQ I I I (fun w1 hw1=>kC b V n now _ w1 (hw1.pick [0] I I) hlo) ?_;intro _ _
   repeat' (first|refine zn ?_|fail)
   refine hj () _ _ trivial ⟨I,I,I,trivial⟩ (Ent.of_eq ?_);rw[hmn,hm];rfl
  ·have h:(!q.2||((q.1.length:Int)==(n.out.length:Int)))=false:=h;have h2:¬(q.2=false\/(q.1.length:Int)=(n.out.length:Int)):=by simpa using h
   have h:¬(q.2=false\/q.1.length=n.out.length):=fun e=>h2 (e.imp id (fun e=>by omega))
   rw[if_neg h]at hm;refine HR.skip (hj () _ _ trivial ⟨I,I,I,trivial⟩ (Ent.of_eq ?_));rw[hmn,hm]
theorem jJY (b:Nat) (V:NV) (n:Nd) (now:Int) (f:Fr) (B:Base) (w:World) (hw:Sat B (stH b V n now) w) (ho:Ord n):
  Calls Tryz.prog 158 #[ptr b,.agg ⟨frC f⟩] w fun e w'=>∃x:SV,e= .returned (.tuple ⟨[]⟩)/\True/\Sat ⟨w,zN (stH b V n now)⟩ (stH b { V with bo:=x } (box n f now) now) w':=by
 have h16:=ho.boxes;have hlo:=ho.lost;refine jc (stH b V n now) (hw) Tryz.func158 I (Nat.le_of_ble_eq_true I) (HR.sub (σ':=[(0,ptr b),(1,.agg ⟨frC f⟩)]) ⟨I,I,trivial⟩ (zh ?_));intro (bk:Nat);refine zh ?_;refine qO [(0,true),(1,true),(2,true),(3,true),(4,true),(5,true),(6,true),(7,true),(8,true),(9,true),(10,false),(11,true),(12,true),(13,true),(14,true),(15,true)] [0,1] I I j3 (by kernel_rfl) (zd ?_);refine HD.one I (qL (r:=fun v':Value=> .tuple ⟨[v',.bool (jB1 n.boxes f now).2]⟩) (Q:=fun _=>True) (G:=fun v'=>[cMa v' (jB1 n.boxes f now).1]) fn213 I I (fun w1 hw1=>jQb n.boxes f now (sv V.bo n.boxes.length) w1 ((Rd.own 6 rfl).at hw1) (by omega)) ?_);intro v1 _;refine HL.shape 0 I fun a c hv=>?_
 subst hv;refine HL.back [1,2] I I (zd ?_);refine HD.nil ?_;obtain ⟨q,hq⟩:∃q,q=jB1 n.boxes f now:=⟨_,rfl⟩;have hsp:box n f now=(if q.2=false\/q.1.length=n.boxes.length then lose { n with boxes:=q.1 } else { n with boxes:=q.1 }):=by rw[hq];rfl
 rw[hsp];rw[<- hq];refine qR (H':=jDW b V n now::cMa (.slice a q.1.length c) q.1::ndH V n) (Ent.pick [2,0,3,4,5,6,7,8,9,10,11] I I) ?_;obtain ⟨m,hm⟩:∃m:Nd,m=(if q.2=false\/q.1.length=n.boxes.length then lose n else n):=⟨_,rfl⟩;have hmo:(if q.2=false\/q.1.length=n.boxes.length then lose { n with boxes:=q.1 } else { n with boxes:=q.1 })={ m with boxes:=q.1 }:=by
  rw[hm];split<;>rfl
 have hmn:∀V:NV,ndH V m=ndH V n:=by intro V;rw[hm];split<;>rfl
 rw[hmo]
 repeat' (first|refine zh ?_|apply zb ?_ ?_|exact zc|(refine zi fun hb=>?_;try simp at hb)|fail)
 refine HR.join (ι:=Unit) (fun _=>True) (fun _=>[(0,ptr b),(4,.slice a q.1.length c),(5,.bool q.2)]) (fun _=>jDW b V m now::cMa (.slice a q.1.length c) q.1::ndH V m) (fun _ _=>?_) (fun hj=>?_)
 ·repeat' (first|refine zh ?_|fail)
  refine QS Tryz.func158 I [] (fun _ _=>trivial) ?_;refine fun w' hw=>⟨(a,c),rfl,trivial,?_⟩
  exact hw.pick [0,2,3,4,5,1,7,8,9,10] I I
 ·refine HR.cond I (fun h=>?_) (fun h=>?_)
  ·have h:(!q.2||((q.1.length:Int)==(n.boxes.length:Int)))=true:=h;have h2:q.2=false\/(q.1.length:Int)=(n.boxes.length:Int):=by simpa using h
   have h:q.2=false\/q.1.length=n.boxes.length:=h2.imp id (fun e=>by omega);rw[if_pos h]at hm;refine HR.region ?_
   repeat' (first|refine zn ?_|fail)
   refine qQ (r:=fun _:Unit=> .tuple ⟨[]⟩) (Q:=fun _=>True) (G0:=[jDW b V n now]) (H0:=cMa (.slice a q.1.length c) q.1::ndH V n) (G:=fun _=>[jDW b V (lose n) now]) jLQ I I I (fun w1 hw1=>kC b V n now _ w1 (hw1.pick [0] I I) hlo) ?_;intro _ _
   repeat' (first|refine zn ?_|fail)
   refine hj () _ _ trivial ⟨I,I,I,trivial⟩ (Ent.of_eq ?_);rw[hmn,hm];rfl
  ·have h:(!q.2||((q.1.length:Int)==(n.boxes.length:Int)))=false:=h;have h2:¬(q.2=false\/(q.1.length:Int)=(n.boxes.length:Int)):=by simpa using h
   have h:¬(q.2=false\/q.1.length=n.boxes.length):=fun e=>h2 (e.imp id (fun e=>by omega))
   rw[if_neg h]at hm;refine HR.skip (hj () _ _ trivial ⟨I,I,I,trivial⟩ (Ent.of_eq ?_));rw[hmn,hm]
theorem jFk (b:Nat) (V:NV) (n:Nd) (now:Int) (d:De) (B:Base) (w:World) (hw:Sat B (stH b V n now) w) (ho:Ord n):
  Calls Tryz.prog 118 #[ptr b,.agg ⟨deC d⟩] w fun e w'=>∃x:SV,e= .returned (.tuple ⟨[]⟩)/\True/\Sat ⟨w,zN (stH b V n now)⟩ (stH b { V with ib:=x } (deliver n d) now) w':=by
 have h256:=ho.inbox;have hlo:=ho.lost;refine jc (stH b V n now) (hw) Tryz.func118 I (Nat.le_of_ble_eq_true I) (HR.sub (σ':=[(0,ptr b),(1,.agg ⟨deC d⟩)]) ⟨I,I,trivial⟩ (zh ?_));intro (bk:Nat);refine zh ?_;refine HR.cond I (fun h=>?_) (fun h=>?_)
 ·have h:n.inbox.length>=256:=by have:=of_decide_eq_true h;omega
  have e:deliver n d=lose n:=by unfold deliver;rw[if_pos h]
  rw[e];refine zh ?_;refine qM (Ent.pick [1,2,3,4,5,6,7,8,9,10] I I) (qQ (r:=fun _:Unit=> .tuple ⟨[]⟩) (Q:=fun _=>True) (G0:=[jDW b V n now]) (H0:=ndH V n) (G:=fun _=>[jDW b V (lose n) now]) jLQ I I I (fun w1 hw1=>kC b V n now _ w1 (hw1.pick [0] I I) hlo) ?_);intro _ _;refine zh ?_;refine HR.ret Tryz.func118 I [] (fun _ _=>trivial) ?_
  exact fun w' hw=>⟨V.ib,rfl,trivial,hw⟩
 ·have h:¬n.inbox.length>=256:=by have:=of_decide_eq_false h;omega
  have e:deliver n d={ n with inbox:=n.inbox++[d] }:=by unfold deliver;rw[if_neg h]
  rw[e];refine zh ?_;refine qU [(0,true),(1,true),(2,true),(3,true),(4,true),(5,true),(6,true),(7,false),(8,false),(9,true),(10,true),(11,true)] 12 [0,1] I I j3 (by kernel_rfl) (zd ?_);refine HD.one I (qH jAb I I I I I (by decide) (by decide) ?_);intro va;refine HL.back [1,2] I I (HD.one I ?_);refine qJ 11 I jAb (Rd.own 0 I) I I I I (jH I) (by omega) (by omega) ?_;intro v2;refine HL.back [1,2] I I (zd ?_);refine qo I ?_;refine HL.shape 11 I fun a c hv=>?_
  subst hv;refine zn ?_;refine QS Tryz.func118 I [] (fun _ _=>trivial) ?_;refine fun w' hw=>⟨(a,c),rfl,trivial,?_⟩
  have w1:=hw.pick [11,2,3,4,5,6,7,8,9,10] I I;have hl:n.inbox.length+1=(n.inbox++[d]).length:=by simp
  have hc:cellsOf deC n.inbox++deC d=cellsOf deC (n.inbox++[d]):=by rw[jL];rfl
  have w2:Sat _ (jM (.slice a (n.inbox.length+1) c) 65 2 (n.inbox.length+1) (cellsOf deC n.inbox++deC d)::jS b [.int .i64 n.addr,.int .i64 n.poll,.int .i64 n.parent,sv V.ta n.table.length,sv V.li n.links.length,sv V.ou n.out.length,sv V.ch n.children.length,sv V.bo n.boxes.length,sv V.se n.seen.length,sv V.pa V.ps.length,.slice a (n.inbox.length+1) c,.int .i64 n.seq,.int .i64 n.lost,.int .i64 now] 113::[cTa (sv V.ta n.table.length) n.table,cLi (sv V.li n.links.length) n.links,cSn (sv V.ou n.out.length) n.out,cI (sv V.ch n.children.length) n.children,cMa (sv V.bo n.boxes.length) n.boxes,cPr (sv V.se n.seen.length) n.seen,cPt (sv V.pa V.ps.length) V.ps,jC (ptG V.ps)]) w':=w1;rw[hl,hc]at w2;exact w2.pick [1,2,3,4,5,6,7,8,9,0] I I
theorem jRn:IsFn Tryz.prog 135:=zF Tryz.func135 I
theorem fn136:IsFn Tryz.prog 136:=zF Tryz.func136 I
theorem fn114:IsFn Tryz.prog 114:=zF Tryz.func114 I
theorem jQy:IsFn Tryz.prog 49:=zF Tryz.func49 I
theorem fn171:IsFn Tryz.prog 171:=zF Tryz.func171 I
theorem jTD:IsFn Tryz.prog 172:=zF Tryz.func172 I
theorem jCc (v:Value) (n:Nat) (zs:List Int) (w:World) (hv:Vw w v 3 1 n (cellsOf iC zs)) (hn:n<=1000000):
  Calls Tryz.prog 135 #[v] w fun e w'=>∃x:Unit,e= .returned (.tuple #[])/\True/\Sat ⟨w,zN [jM v 3 1 n (cellsOf iC zs)]⟩ [jM v 3 1 n (cellsOf iC (Tf.srt zs))] w':=by
 have hl:zs.length=n:=by have:=hv.1;rw[jA KP]at this;omega
 have stay:n=0->(∃ p cap,v= .slice p 0 cap)->Calls Tryz.prog 135 #[v] w fun e w'=>∃x:Unit,e= .returned (.tuple #[])/\True/\Sat ⟨w,zN [jM v 3 1 n (cellsOf iC zs)]⟩ [jM v 3 1 n (cellsOf iC (Tf.srt zs))] w':=by
  intro h0 hp;obtain ⟨p,cap,rfl⟩:=hp;have hz:zs=[]:=List.eq_nil_of_length_eq_zero (by omega);subst hz;refine (Tryz.slices_Sort_int_none p cap w).mono ?_
  rintro e w' ⟨rfl,rfl⟩
  exact ⟨(),rfl,trivial,by simpa[Tf.srt]using yB hv⟩
 rcases hv.2 with ⟨rfl,h0⟩|⟨g,off,cap,cur,rfl,_⟩
 ·exact stay h0 ⟨none,0,rfl⟩
 ·have hv':Vw w (.slice (some ⟨g,off,none⟩) n cap) 3 1 n (zs.map (Value.int .i64)):=by rw[<- Jc];exact hv
  obtain ⟨h1,h2,h3⟩:=hv'.holds;have:=Tryz.slices_Sort_int g off cap zs w h3 h1 (by omega);rw[hl]at this;refine this.mono ?_
  rintro e w' ⟨rfl,q,os,rfl⟩
  exact ⟨(),rfl,trivial,yJ (enc:=Value.int .i64) (zs:=zs) (ys:=Tf.srt zs) hv (by rw[(List.mergeSort_perm _ _).length_eq];exact hl)⟩
theorem jG5 (v:Value) (n:Nat) (zs:List Int) (w:World) (hv:Vw w v 3 1 n (cellsOf iC zs)) (hn:n<=1000000):
  Calls Tryz.prog 136 #[v] w fun e w'=>∃x:Value,e= .returned x/\True/\Sat ⟨w,zN [jM v 3 1 n (cellsOf iC zs)]⟩ [jM x 3 1 (Lib.compact zs).length (cellsOf iC (Lib.compact zs))] w':=by
 have hl:zs.length=n:=by have:=hv.1;rw[jA KP]at this;omega
 have stay:n=0->(∃ p cap,v= .slice p 0 cap)->Calls Tryz.prog 136 #[v] w fun e w'=>∃x:Value,e= .returned x/\True/\Sat ⟨w,zN [jM v 3 1 n (cellsOf iC zs)]⟩ [jM x 3 1 (Lib.compact zs).length (cellsOf iC (Lib.compact zs))] w':=by
  intro h0 hp;obtain ⟨p,cap,rfl⟩:=hp;have hz:zs=[]:=List.eq_nil_of_length_eq_zero (by omega);subst hz;subst h0;refine (Tryz.slices_Compact_int_empty p cap w).mono ?_
  rintro e w' ⟨rfl,rfl⟩
  exact ⟨_,rfl,trivial,yB hv⟩
 rcases hv.2 with ⟨rfl,h0⟩|⟨g,off,cap,cur,rfl,_,hcap,_⟩
 ·exact stay h0 ⟨none,0,rfl⟩
 ·by_cases h0:n=0
  ·exact stay h0 ⟨_,cap,by rw[h0]⟩
  have hv':Vw w (.slice (some ⟨g,off,none⟩) n cap) 3 1 n (zs.map (Value.int .i64)):=by rw[<- Jc];exact hv
  obtain ⟨h1',h2,h3⟩:=hv'.holds;have hcl:(Lib.compact zs).length<=n:=by rw[<- hl];exact Lib.compact_length_le zs
  have:=Tryz.slices_Compact_int g off cap zs w h3 (by omega) (by omega);rw[hl]at this;refine this.mono ?_
  rintro e w' ⟨rfl,q,rfl⟩
  exact ⟨_,rfl,trivial,YL (yx (enc:=Value.int .i64) (q:=q) (zs:=zs) (ys:=Lib.compact zs++List.replicate (n-(Lib.compact zs).length) 0) hv (by simp;omega)) hcl (by simp)⟩
theorem jP8 (l:List Int) (p:Int) (v:Value) (w:World) (hv:Sl w v (cellsOf iC l) l.length) (hl:l.length<=1000000):
  Calls Tryz.prog 114 #[v,.int .i64 p] w fun e w'=>e= .returned (.int .i64 (fidx (fun x=>decide (x=p)) l))/\Below w.heap.size w w':=by
 refine zE Tryz.func114 I [(0,v),(1,.int .i64 p)] (zh ?_);refine qD (qA hv) I I I (zh ?_);refine HR.loop (ι:=Nat) (fun k=>k<=l.length/\∀j b,j<k->l[j]? =some b->decide (b=p)=false) (fun k=>[(0,v),(1,.int .i64 p),(7,.int .i64 (l.length:Int)),(8,.int .i64 (k:Int))]) (fun _=>[]) (fun k=>l.length-k) 0 ⟨Nat.zero_le _,fun j b hj=>absurd hj (Nat.not_lt_zero _)⟩ ⟨I,I,I,I,trivial⟩ Ent.refl ?_
 rintro k ⟨hk,hno⟩ ih
 refine zh ?_;refine HR.cond I (fun h2=>?_) (fun h2=>?_)
 ·have hlt:k<l.length:=by have:=of_decide_eq_true h2;omega
  obtain ⟨x,hx⟩:=jG hlt;refine zh ?_;refine qE (qA hv) j5 k I I I I hlt ?_;refine qF (qA hv) I I I I (jN hx) (zh ?_);refine HR.cond I (fun h3=>?_) (fun h3=>?_)
  ·have h3:p=x:=eq_of_beq h3;refine zh ?_;refine HR.ret Tryz.func114 I [_] (fun _ _=>⟨I,trivial⟩) ?_;rw[Zk hx (decide_eq_true h3.symm) hno]
   exact fun w' hw=>⟨rfl,hw.jF⟩
  ·have h3:decide (x=p)=false:=by
    refine decide_eq_false fun e=>?_
    subst e
    simp at h3
   refine zh ?_;refine ih (k+1) _ _ ⟨hlt,fun j b hj hb=>?_⟩ (by omega) ⟨I,I,I,I,trivial⟩ Ent.refl
   by_cases e:j=k
   ·subst e;rw[hx]at hb;cases hb;exact h3
   ·exact hno j b (by omega) hb
 ·have hke:k=l.length:=by have:=of_decide_eq_false h2;omega
  subst hke;rw[Jq hno];refine zh ?_;exact zR Tryz.func114
theorem jQf (l:List Int) (p:Int):l.any (fun x=>decide (x=p))=decide (p∈l):=by
 by_cases h:p∈l
 ·rw [decide_eq_true h,List.any_eq_true];exact ⟨p,h,by simp⟩
 ·rw [decide_eq_false h,<- Bool.not_eq_true,List.any_eq_true]
  rintro ⟨x,hx,e⟩
  exact h (of_decide_eq_true e▸hx)
theorem ZC (l:List Int) (p:Int) (v:Value) (w:World) (hv:Sl w v (cellsOf iC l) l.length) (hl:l.length<=1000000):
  Calls Tryz.prog 49 #[v,.int .i64 p] w fun e w'=>e= .returned (.bool (decide (p∈l)))/\Below w.heap.size w w':=by
 rw[<- jQf,<- jCW];refine zE Tryz.func49 I [(0,v),(1,.int .i64 p)] (zh ?_);refine qB fn114 I I (fun w hw=>jP8 l p v w ((qA hv).at hw) hl) (zh ?_);exact zR Tryz.func49
theorem jNh (bt:Nat) (to c:Int) (w:World) (hb:Sl w (.slice (some ⟨bt,0,none⟩) 1 1) [.int .i64 to] 1):Calls Tryz.prog 172 #[.int .i64 c,.pointer (some ⟨bt,0,none⟩)] w fun e w'=>e= .returned (.bool (c==to))/\Below w.heap.size w w':=by
 refine zE Tryz.func172 I [(0,.int .i64 c),(1,.pointer (some ⟨bt,0,none⟩))] (zh ?_);refine qF (j:=0) (qA hb) I I I I I (zh ?_);exact zR Tryz.func172
theorem Zd {l:List Int} {p:Int->Bool} {k:Nat} {x:Int} (hx:l[k]? =some x):(l.take (k+1)).filter p=if p x=true then (l.take k).filter p++[x]else (l.take k).filter p:=by
 obtain ⟨hk,rfl⟩:=List.getElem?_eq_some_iff.1 hx;rw[List.take_succ_eq_append_getElem hk,List.filter_append]
 by_cases h:p l[k]=true
 ·simp [h]
 ·simp [h]
theorem jRu {α:Type} {p:α->Bool} {l:List α} (h:fidx p l= -1):∀a∈l,p a=false:=by
 rcases JF p l with ⟨_,_,h2⟩|⟨k,b,e,_⟩
 ·exact h2
 ·omega
theorem jNt (l:List Int) (to:Int) (bt:Nat) (v:Value) (B0:Base) (w:World) (hw0:Sat B0 [jM v 3 1 l.length (cellsOf iC l),jS bt [.int .i64 to] 3] w) (hl:l.length<=1000000):
  Calls Tryz.prog 171 #[v,.func (.func 172) #[] #[.pointer (some ⟨bt,0,none⟩)]] w fun e w'=>∃r:Value,e= .returned r/\True/\Sat ⟨w,zN [jM v 3 1 l.length (cellsOf iC l),jS bt [.int .i64 to] 3]⟩ [jM r 3 1 (l.filter fun c=>!(c==to)).length (cellsOf iC (l.filter fun c=>!(c==to))),jS bt [.int .i64 to] 3] w':=by
 refine jc [jM v 3 1 l.length (cellsOf iC l),jS bt [.int .i64 to] 3] (hw0) Tryz.func171 I (Nat.le_of_ble_eq_true I) (HR.sub (σ':=[(0,v),(1,.func (.func 172) #[] #[.pointer (some ⟨bt,0,none⟩)])]) ⟨I,I,trivial⟩ (zh ?_));refine qB fn227 I I (fun w1 hw1=>jJA l (fun c=>c==to) 172 [.pointer (some ⟨bt,0,none⟩)] v w1 jTD (fun a ha w2 hb=>jNh bt to a w2 (((Qr (n:=1) 1 rfl).at hw1).ext hb)) ((Rd.own 0 rfl).at hw1) hl) (zh ?_);refine HR.cond I (fun h=>?_) (fun h=>?_)
 ·have h:fidx (fun c=>c==to) l= -1:=eq_of_beq h;have e:(l.filter fun c=>!(c==to))=l:=List.filter_eq_self.2 fun a ha=>by have:=jRu h a ha;simpa using this
  rw[e];refine zh ?_;refine HR.ret Tryz.func171 I [_] (fun _ _=>⟨I,trivial⟩) ?_
  exact fun w' hw=>⟨v,rfl,trivial,hw⟩
 have h:¬fidx (fun c=>c==to) l= -1:=fun e=>by rw[e]at h;exact absurd h (by decide)
 rcases JF (fun c=>c==to) l with ⟨h2,_⟩|⟨i0,a0,e0,_,ha0,hp0,hno0⟩
 ·exact absurd h2 h
 have hp0:(a0==to)=true:=hp0;rw[e0];have hi0:i0<l.length:=(List.getElem?_eq_some_iff.1 ha0).1;have ht0:(l.take (i0+1)).filter (fun c=>!(c==to))=l.take i0:=by
  rw[Zd ha0,if_neg (by simp[hp0])];refine List.filter_eq_self.2 fun a ha=>?_
  obtain ⟨j,hj,rfl⟩:=List.getElem_of_mem ha;rw[List.length_take]at hj;have:=hno0 j _ (by omega) (List.getElem?_eq_getElem (by omega));rw[List.getElem_take]
  simpa using this
 refine Qi 0 I (by omega) fun g off c hv hnc hcm=>?_
 have hcm:c<=9223372036854775807:=hcm;refine zh ?_;obtain ⟨F,hF⟩:∃F:Nat->Nat,F=fun k=>((l.take k).filter fun c=>!(c==to)).length:=⟨_,rfl⟩
 have hF0:F (i0+1)=i0:=by rw[hF];show ((l.take (i0+1)).filter _).length=i0;rw[ht0,List.length_take];omega
 refine HR.loop (ι:=Nat×List Int) (fun x=>x.1<=l.length/\x.2.length=l.length/\F x.1<x.1/\x.2.take (F x.1)=(l.take x.1).filter (fun c=>!(c==to))/\x.2.drop x.1=l.drop x.1) (fun x=>[(0,v),(1,.func (.func 172) #[] #[.pointer (some ⟨bt,0,none⟩)]),(5,.int .i64 (F x.1:Int)),(6,.int .i64 (x.1:Int))]) (fun x=>[jM v 3 1 l.length (cellsOf iC x.2),jS bt [.int .i64 to] 3]) (fun x=>l.length-x.1) (i0+1,l) ⟨by show i0+1<=_;omega,rfl,by show F (i0+1)<i0+1;omega,by show l.take (F (i0+1))=_;rw[hF0,ht0],rfl⟩ (by rw[hF0];exact ⟨I,I,I,I,trivial⟩) Ent.refl ?_
 rintro ⟨k,X⟩ ⟨hk,hX,hFk,hT,hD⟩ ih
 have hk:k<=l.length:=hk;have hX:X.length=l.length:=hX;have hFk:F k<k:=hFk;have hT:X.take (F k)=(l.take k).filter (fun c=>!(c==to)):=hT;have hD:X.drop k=l.drop k:=hD;have hTl:F k=((l.take k).filter fun c=>!(c==to)).length:=by rw[hF]
 refine zh ?_;refine qD (Rd.own 0 I) I I I (zh ?_);refine HR.cond I (fun h2=>?_) (fun h2=>?_)
 ·have hlt:k<l.length:=by have:=of_decide_eq_true h2;omega
  obtain ⟨x,hx⟩:=jG hlt;have hxX:X[k]? =some x:=by
   have e1:(X.drop k)[0]? =X[k]? :=by rw[List.getElem?_drop];rfl
   have e2:(l.drop k)[0]? =l[k]? :=by rw[List.getElem?_drop];rfl
   rw[<- e1,hD,e2,hx]
  have hnext:=Zd (p:=fun c=>!(c==to)) hx;have hD1:X.drop (k+1)=l.drop (k+1):=by
   rw[<- List.drop_drop,<- List.drop_drop,hD]
  refine zh ?_;refine qE (Rd.own 0 I) j5 k I I I I hlt ?_;refine qF (Rd.own 0 I) I I I I (jN hxX) (zh ?_);refine Qa (caps:=[.pointer (some ⟨bt,0,none⟩)]) jTD I I I (fun w1 hw1=>jNh bt to x w1 ((Qr (n:=1) 1 rfl).at hw1)) (zh ?_);refine HR.cond I (fun h3=>?_) (fun h3=>?_)
  ·have h3:(!(x==to))=true:=h3;rw[if_pos h3]at hnext;have hF1:F (k+1)=F k+1:=by rw[hTl,hF];show ((l.take (k+1)).filter _).length=_;rw[hnext,List.length_append];rfl
   refine zh ?_;refine qE (Rd.own 0 I) j5 (F k) I I I I (by omega) ?_;refine qw (j:=F k*1) 0 I I I I I I I (by rw[jA KP];omega) ?_;refine zh ?_;refine ih (k+1,X.set (F k) x) _ _ ⟨hlt,?_,?_,?_,?_⟩ (by show l.length-(k+1)<l.length-k;omega) ?_ (qC I ?_)
   ·show (X.set (F k) x).length=_;rw[List.length_set];exact hX
   ·show F (k+1)<k+1;omega
   ·show (X.set (F k) x).take (F (k+1))=(l.take (k+1)).filter _;rw[hnext,<- hT,hF1,List.take_succ_eq_append_getElem (by rw[List.length_set];omega),List.take_set_of_le (by omega),List.getElem_set_self]
   ·show (X.set (F k) x).drop (k+1)=_;rw[List.drop_set_of_lt (by omega),hD1]
   ·show Sub [_,_,(5,Value.int .i64 (F (k+1):Int)),_] _;rw[hF1];exact ⟨I,I,I,I,trivial⟩
   ·obtain ⟨y,hy⟩:=jG (l:=X) (j:=F k) (by omega);exact JR (i:=0) KP hy I (by decide)
  ·have h3:(!(x==to))=false:=h3;rw[if_neg (by rw[h3];decide)]at hnext;have hF1:F (k+1)=F k:=by rw[hTl,hF];show ((l.take (k+1)).filter _).length=_;rw[hnext]
   refine zh ?_;refine ih (k+1,X) _ _ ⟨hlt,hX,by show F (k+1)<k+1;omega,by show X.take (F (k+1))=(l.take (k+1)).filter _;rw[hF1,hnext,hT],hD1⟩ (by show l.length-(k+1)<l.length-k;omega) ?_ Ent.refl;show Sub [_,_,(5,Value.int .i64 (F (k+1):Int)),_] _;rw[hF1];exact ⟨I,I,I,I,trivial⟩
 ·have hke:k=l.length:=by have:=of_decide_eq_false h2;omega
  subst hke;subst hv;rw[List.take_length]at hT hTl;refine zh ?_;refine HL.cut (sz:=1) (F l.length) l.length c I I I I (.inr ⟨_,_,rfl,rfl⟩) (.inl ⟨rfl,rfl,rfl⟩) (.inl ⟨rfl,rfl⟩) (by omega) hnc (Nat.le_refl _) ?_;refine QZ (zk (by omega)) (Ql (F l.length) 0 I I I I I I (by decide) I (by omega) (zh ?_));refine HL.cut (sz:=1) 0 (F l.length) c I I I I (.inl ⟨rfl,rfl⟩) (.inr ⟨_,_,rfl,rfl⟩) (.inl ⟨rfl,rfl⟩) (by omega) (by omega) (Nat.le_refl _) (zh ?_);refine HR.ret Tryz.func171 I [_] (fun _ _=>⟨I,trivial⟩) ?_;refine fun w' hw=>⟨_,rfl,trivial,?_⟩
  have hc0:cutV 1 (some ⟨g,off,none⟩) 0 (F l.length) c= .slice (some ⟨g,off,none⟩) (l.filter fun c=>!(c==to)).length c:=by
   rw[zk (by omega),<- hTl];simp
  rw[hc0];refine Qv hw (by omega) ?_;rw[<- hTl,<- hT,List.take_append_of_le_length (by simp[jA KP];omega),List.take_take,Nat.min_self,JC KP]
theorem jS0:IsFn Tryz.prog 211:=zF Tryz.func211 I
theorem jS1:IsFn Tryz.prog 210:=zF Tryz.func210 I
theorem fn265:IsFn Tryz.prog 265:=zF Tryz.func265 I
theorem fn159:IsFn Tryz.prog 159:=zF Tryz.func159 I
theorem fn156:IsFn Tryz.prog 156:=zF Tryz.func156 I
theorem jCd (b:Nat) (V:NV) (n:Nd) (now:Int) (B:Base) (w:World) (hw:Sat B (stH b V n now) w) (hl:n.table.length<=1000):
  Calls Tryz.prog 211 #[ptr b] w fun e w'=>∃_x:Unit,e= .returned (.int .i64 (number n))/\True/\Sat ⟨w,zN (stH b V n now)⟩ (stH b V n now) w':=by
 refine jc (stH b V n now) (hw) Tryz.func211 I (Nat.le_of_ble_eq_true I) (HR.sub (σ':=[(0,ptr b)]) ⟨I,trivial⟩ (zh ?_));refine HR.loop (ι:=Nat) (fun k=>k<=n.table.length/\∀j a,j<k->n.table[j]? =some a->(a.dest==n.addr)=false) (fun k=>[(0,ptr b),(9,sv V.ta n.table.length),(10,.int .i64 (n.table.length:Int)),(11,.int .i64 (k:Int))]) (fun _=>stH b V n now) (fun k=>n.table.length-k) 0 ⟨Nat.zero_le _,fun j a hj=>by omega⟩ ⟨I,I,I,I,trivial⟩ Ent.refl ?_
 rintro k ⟨hk,hg⟩ ih
 refine zh ?_;refine HR.cond I (fun h2=>?_) (fun h2=>?_)
 ·have hlt:k<n.table.length:=by have:=of_decide_eq_true h2;omega
  obtain ⟨x,hx⟩:=jG hlt
  repeat' (first|refine zh ?_|refine qE (Rd.own 1 I) jZ k I I I I hlt ?_|refine qN (Rd.own 1 I) I I I I (by simp) I (jD jP hx) ?_|intro (bk:Nat))
  refine qK j3 (by kernel_rfl) (zq ?_);refine HR.cond I (fun h3=>?_) (fun h3=>?_)
  ·have h3:(x.dest==n.addr)=true:=h3;have hf:rat n.table n.addr=some x:=ZV hx h3 hg;refine zh ?_;refine HR.ret Tryz.func211 I [_] (fun _ _=>⟨I,trivial⟩) ?_
   exact fun w' hw=>⟨(),by rw[number,hf];rfl,trivial,hw.pick [1,2,3,4,5,6,7,8,9,10] I rfl⟩
  ·have h3:(x.dest==n.addr)=false:=h3;refine zh ?_;refine ih (k+1) _ _ ⟨hlt,fun j a hj ha=>?_⟩ (by omega) ⟨I,I,I,I,trivial⟩ (Ent.pick [1,2,3,4,5,6,7,8,9,10] I I)
   by_cases hjk:j=k
   ·subst hjk;rw[hx]at ha;cases ha;exact h3
   ·exact hg j a (by omega) ha
 ·have hke:k=n.table.length:=by have:=of_decide_eq_false h2;omega
  subst hke;have hf:rat n.table n.addr=none:=List.find?_eq_none.2 fun a ha=>by
   obtain ⟨j,hj⟩:=List.getElem?_of_mem ha;have:=hg j a (List.getElem?_eq_some_iff.1 hj).1 hj
   simp[this]
  refine zh ?_;refine HR.ret Tryz.func211 I [_] (fun _ _=>⟨I,trivial⟩) ?_
  exact fun w' hw=>⟨(),by rw[number,hf];rfl,trivial,hw⟩
theorem jHP (bt:Nat) (k:Int) (x:Sn) (w:World) (hb:Sl w (.slice (some ⟨bt,0,none⟩) 1 1) [.int .i64 k] 1):Calls Tryz.prog 265 #[.agg ⟨snC x⟩,.pointer (some ⟨bt,0,none⟩)] w fun e w'=>e= .returned (.bool (x.f.kd==k))/\Below w.heap.size w w':=by
 refine zE Tryz.func265 I [(0,.agg ⟨snC x⟩),(1,.pointer (some ⟨bt,0,none⟩))] ?_
 repeat' (first|refine zh ?_|refine qF (j:=0) (qA hb) I I I I I ?_|intro (bk:Nat))
 exact zR Tryz.func265
theorem jDo (b:Nat) (V:NV) (n:Nd) (now k:Int) (B:Base) (w:World) (hw:Sat B (stH b V n now) w) (hl:n.out.length<=1000):
  Calls Tryz.prog 210 #[ptr b,.int .i64 k] w fun e w'=>∃_x:Unit,e= .returned (.bool (waits n k))/\True/\Sat ⟨w,zN (stH b V n now)⟩ (stH b V n now) w':=by
 refine jc (stH b V n now) (hw) Tryz.func210 I (Nat.le_of_ble_eq_true I) (HR.sub (σ':=[(0,ptr b),(1,.int .i64 k)]) ⟨I,I,trivial⟩ ?_)
 repeat' (first|refine zh ?_|refine yP (g:=265) (caps:=[_]) I I ?_|refine qB fn264 I I (fun w1 hw1=>jJF n.out (fun x=>x.f.kd==k) 265 [.pointer (some ⟨bk,0,none⟩)] (sv V.ou n.out.length) w1 fn265 (fun a ha w2 hb=>jHP bk k a w2 (((Qr (n:=1) 0 rfl).at hw1).ext hb)) ((Rd.own 4 rfl).at hw1) (by omega)) ?_|intro (bk:Nat))
 refine HR.ret Tryz.func210 I [_] (fun _ _=>⟨I,trivial⟩) ?_
 exact fun w' hw=>⟨(),rfl,trivial,hw.pick [1,2,3,4,5,6,7,8,9,10] I rfl⟩
theorem jPU (b:Nat) (V:NV) (n:Nd) (now:Int) (f:Fr) (B:Base) (w:World) (hw:Sat B (stH b V n now) w) (hl:n.table.length<=1000):
  Calls Tryz.prog 159 #[ptr b,.agg ⟨frC f⟩] w fun e w'=>∃_x:Unit,e= .returned (.tuple ⟨[.int .i64 (hop n f.ta).1,.bool (hop n f.ta).2]⟩)/\True/\Sat ⟨w,zN (stH b V n now)⟩ (stH b V n now) w':=by
 refine jc (stH b V n now) (hw) Tryz.func159 I (Nat.le_of_ble_eq_true I) (HR.sub (σ':=[(0,ptr b),(1,.agg ⟨frC f⟩)]) ⟨I,I,trivial⟩ (zh ?_));intro (bk:Nat);refine zh ?_;refine HR.cond I (fun h=>?_) (fun h=>?_)
 ·have h:n.poll>0:=of_decide_eq_true h;have e:hop n f.ta=(n.parent,!(n.parent==255)):=by unfold hop;rw[if_pos h]
  rw[e];refine zh ?_;refine qK j3 (by kernel_rfl) (zq ?_);refine HR.ret Tryz.func159 I [_,_] (fun _ _=>⟨I,I,trivial⟩) ?_
  exact fun w' hw=>⟨(),rfl,trivial,hw.pick [1,2,3,4,5,6,7,8,9,10] I rfl⟩
 ·have h:¬n.poll>0:=of_decide_eq_false h;have e:hop n f.ta=zy n.table f.ta:=by unfold hop;rw[if_neg h]
  rw[e];refine zh ?_;refine qO [(0,true),(1,true),(2,true),(3,true),(4,true),(5,true),(6,true),(7,false),(8,true),(9,true),(10,true),(11,true)] [0,1] I I j3 (by kernel_rfl) (zd ?_);refine HD.one I (qB fn50 I I (fun w1 hw1=>jCL n.table f.ta _ w1 ((Rd.own 2 rfl).at hw1) hl) ?_);refine HL.back [0,1] I I (zd ?_);refine HD.nil (HR.ret Tryz.func159 I [_,_] (fun _ _=>⟨I,I,trivial⟩) ?_)
  exact fun w' hw=>⟨(),rfl,trivial,hw.pick [1,2,3,4,5,6,7,8,9,10] I rfl⟩
theorem jKT (b:Nat) (V:NV) (n:Nd) (now c:Int) (B:Base) (w:World) (hw:Sat B (stH b V n now) w) (hl:n.table.length<=1000) (hc:n.children.length<=1000):
  Calls Tryz.prog 156 #[ptr b,.int .i64 c] w fun e w'=>∃_x:Unit,e= .returned (.bool (Ji n c))/\True/\Sat ⟨w,zN (stH b V n now)⟩ (stH b V n now) w':=by
 refine jc (stH b V n now) (hw) Tryz.func156 I (Nat.le_of_ble_eq_true I) (HR.sub (σ':=[(0,ptr b),(1,.int .i64 c)]) ⟨I,I,trivial⟩ ?_)
 repeat' (first|refine zh ?_|refine qB fn50 I I (fun w1 hw1=>jCL n.table c _ w1 ((Rd.own 1 rfl).at hw1) hl) ?_|refine qB jQy I I (fun w1 hw1=>ZC n.children c _ w1 ((Rd.own 4 rfl).at hw1) (by omega)) ?_|apply zb ?_ ?_|exact zc|(refine zi fun hb=>?_;try simp at hb)|fail)
 refine HR.ret Tryz.func156 I [_] (fun _ _=>⟨I,trivial⟩) ?_
 exact fun w' hw=>⟨(),rfl,trivial,hw⟩
theorem fn154:IsFn Tryz.prog 154:=zF Tryz.func154 I
theorem fn155:IsFn Tryz.prog 155:=zF Tryz.func155 I
theorem jFa {n:Nd} (h:Ord n):n.table.length<=24:=h.table.len
theorem jAL {n:Nd} (h:Ord n):Ord (bumped n):=(Zn (Good.refl h)).ord
theorem jHX (b:Nat) (V:NV) (n:Nd) (now:Int) (B:Base) (w:World) (hw:Sat B (stH b V n now) w) (ho:Ord n):
  Calls Tryz.prog 154 #[ptr b] w fun e w'=>∃x:SV×SV,e= .returned (.tuple ⟨[]⟩)/\True/\Sat ⟨w,zN (stH b V n now)⟩ (stH b { V with ta:=x.1,ou:=x.2 } (zP n) now) w':=by
 have h24:=jFa ho;have hm:=jAL ho;have hm24:=jFa hm;have hm16:=hm.out;refine jc (stH b V n now) (hw) Tryz.func154 I (Nat.le_of_ble_eq_true I) (HR.sub (σ':=[(0,ptr b)]) ⟨I,trivial⟩ (zh ?_));refine qU [(0,true),(1,true),(2,true),(3,true),(4,true),(5,true),(6,true),(7,true),(8,true),(9,true),(10,true),(11,false),(12,true),(13,true),(14,true)] 15 [0] I I j3 (by kernel_rfl) (zd ?_);refine HD.one I (qI jS2 I I (fun w1 hw1=>jF4 n.table n.addr _ w1 ((Rd.own 1 rfl).at hw1) (by omega)) ?_);intro v1;refine HL.shape 0 I fun a c hv=>?_
 subst hv;refine HL.back [1] I I (zd ?_);refine qo I (zn ?_);obtain ⟨V1,hV1⟩:∃V1:NV,V1={ V with ta:=(a,c) }:=⟨_,rfl⟩;obtain ⟨m,hmm⟩:∃m:Nd,m=bumped n:=⟨_,rfl⟩;refine qR (H':=stH b { V with ta:=(a,c) } (bumped n) now) (Ent.pick [1,0,3,4,5,6,7,8,9,10] I I) ?_;have hbe:zP n=if waits (bumped n) 1=false/\(bumped n).out.length<16 then (queue (bumped n) (ZG (bumped n))).1 else bumped n:=rfl
 have hVe:∀x:SV,({ V with ta:=(a,c),ou:=x }:NV)={ V1 with ou:=x }:=by intro x;rw[hV1]
 rw[hbe];rw[<- hmm]at hm hm24 hm16 ⊢;rw[<- hV1];refine zh ?_;refine qQ (r:=fun _:Unit=> .bool (waits m 1)) (Q:=fun _=>True) (G0:=stH b V1 m now) (H0:=[]) (G:=fun _=>stH b V1 m now) jS1 I I I (fun w1 hw1=>jDo b V1 m now 1 _ w1 hw1 (by omega)) ?_;intro _ _
 repeat' (first|refine zh ?_|apply zb ?_ ?_|exact zc|(refine zi fun hb=>?_;try simp at hb)|fail)
 refine HR.cond I (fun h=>?_) (fun h=>?_)
 ·have h:(!waits m 1&&decide ((m.out.length:Int)<16))=true:=h;have h2:waits m 1=false/\(m.out.length:Int)<16:=by simpa using h
  rw[if_pos ⟨h2.1,by omega⟩];refine qU [(0,true),(1,true),(2,true),(3,true),(4,true),(5,true),(6,true),(7,true),(8,true),(9,true),(10,true),(11,true),(13,true),(14,true),(15,true),(16,true),(17,true),(12,false),(18,false),(19,true)] 20 [0] I I j3 (by kernel_rfl) (zd ?_);refine HD.one I (qQ (r:=fun _:Unit=> .int .i64 (number m)) (Q:=fun _=>True) (G0:=stH b V1 m now) (H0:=[]) (G:=fun _=>stH b V1 m now) jS0 I I I (fun w1 hw1=>jCd b V1 m now _ w1 hw1 (by omega)) ?_);intro _ _;refine HL.back [0] I I (HD.one I ?_);refine qB fn212 I I (fun w1 hw1=>jPb m.table _ w1 ((Rd.own 1 rfl).at hw1) (by omega)) (HL.back [0] I I (zd ?_));refine qo I (qQ (r:=fun _:SV=> .bool (queue m (ZG m)).2) (Q:=fun _=>True) (G0:=stH b V1 m now) (H0:=[]) (G:=fun x=>stH b { V1 with ou:=x } (queue m (ZG m)).1 now) jQP I I I (fun w1 hw1=>K5 b V1 m now (ZG m) _ w1 hw1 hm) ?_);intro x _;refine zh ?_;refine QS Tryz.func154 I [] (fun _ _=>trivial) ?_
  exact fun w' hw=>⟨((a,c),x),rfl,trivial,by rw[hVe];exact hw⟩
 ·have h:(!waits m 1&&decide ((m.out.length:Int)<16))=false:=h;have h2:¬(waits m 1=false/\(m.out.length:Int)<16):=by simpa using h
  rw[if_neg fun e=>h2 ⟨e.1,by omega⟩];refine zh ?_;refine QS Tryz.func154 I [] (fun _ _=>trivial) ?_
  exact fun w' hw=>⟨((a,c),V.ou),rfl,trivial,by rw[hVe,hV1];rw[hV1]at hw;exact hw⟩
theorem jL7 (b:Nat) (V:NV) (n:Nd) (now:Int) (B:Base) (w:World) (hw:Sat B (stH b V n now) w) (ho:Ord n):
  Calls Tryz.prog 155 #[ptr b] w fun e w'=>∃x:SV×SV,e= .returned (.tuple ⟨[]⟩)/\True/\Sat ⟨w,zN (stH b V n now)⟩ (stH b { V with ta:=x.1,ou:=x.2 } (poll n) now) w':=by
 have h24:=jFa ho;have hm:=jAL ho;have hm24:=jFa hm;have hm16:=hm.out;refine jc (stH b V n now) (hw) Tryz.func155 I (Nat.le_of_ble_eq_true I) (HR.sub (σ':=[(0,ptr b)]) ⟨I,trivial⟩ (zh ?_));refine qU [(0,true),(1,true),(2,true),(3,true),(4,true),(5,true),(6,true),(7,true),(8,true),(9,true),(10,true),(11,false),(12,true),(13,true),(14,true)] 15 [0] I I j3 (by kernel_rfl) (zd ?_);refine HD.one I (qI jS2 I I (fun w1 hw1=>jF4 n.table n.addr _ w1 ((Rd.own 1 rfl).at hw1) (by omega)) ?_);intro v1;refine HL.shape 0 I fun a c hv=>?_
 subst hv;refine HL.back [1] I I (zd ?_);refine qo I (zn ?_);obtain ⟨V1,hV1⟩:∃V1:NV,V1={ V with ta:=(a,c) }:=⟨_,rfl⟩;obtain ⟨m,hmm⟩:∃m:Nd,m=bumped n:=⟨_,rfl⟩;refine qR (H':=stH b { V with ta:=(a,c) } (bumped n) now) (Ent.pick [1,0,3,4,5,6,7,8,9,10] I I) ?_;have hbe:poll n=if waits (bumped n) 3=false then (queue (bumped n) (jB7 (bumped n))).1 else bumped n:=rfl
 have hVe:∀x:SV,({ V with ta:=(a,c),ou:=x }:NV)={ V1 with ou:=x }:=by intro x;rw[hV1]
 rw[hbe];rw[<- hmm]at hm hm24 hm16 ⊢;rw[<- hV1];refine zh ?_;refine qQ (r:=fun _:Unit=> .bool (waits m 3)) (Q:=fun _=>True) (G0:=stH b V1 m now) (H0:=[]) (G:=fun _=>stH b V1 m now) jS1 I I I (fun w1 hw1=>jDo b V1 m now 3 _ w1 hw1 (by omega)) ?_;intro _ _;refine zh ?_;refine HR.cond I (fun h=>?_) (fun h=>?_)
 ·have h2:waits m 3=false:=by simpa using h
  rw[if_pos h2];refine qU [(0,true),(1,true),(2,true),(3,true),(4,true),(5,true),(6,true),(7,true),(8,true),(9,true),(10,true),(11,true),(12,true),(13,true),(14,true),(15,true),(16,true),(17,true),(18,true),(19,true),(20,true),(21,true),(22,false),(23,true)] 24 [0] I I j3 (by kernel_rfl) (zd ?_);refine HD.one I (qQ (r:=fun _:Unit=> .int .i64 (number m)) (Q:=fun _=>True) (G0:=stH b V1 m now) (H0:=[]) (G:=fun _=>stH b V1 m now) jS0 I I I (fun w1 hw1=>jCd b V1 m now _ w1 hw1 (by omega)) ?_);intro _ _;refine HL.back [0] I I (zd ?_);refine qo I (qQ (r:=fun _:SV=> .bool (queue m (jB7 m)).2) (Q:=fun _=>True) (G0:=stH b V1 m now) (H0:=[]) (G:=fun x=>stH b { V1 with ou:=x } (queue m (jB7 m)).1 now) jQP I I I (fun w1 hw1=>K5 b V1 m now (jB7 m) _ w1 hw1 hm) ?_);intro x _;refine zh ?_;refine QS Tryz.func155 I [] (fun _ _=>trivial) ?_
  exact fun w' hw=>⟨((a,c),x),rfl,trivial,by rw[hVe];exact hw⟩
 ·have h2:¬waits m 3=false:=by simpa using h
  rw[if_neg h2];refine zh ?_;refine QS Tryz.func155 I [] (fun _ _=>trivial) ?_
  exact fun w' hw=>⟨((a,c),V.ou),rfl,trivial,by rw[hVe,hV1];rw[hV1]at hw;exact hw⟩
theorem fn153:IsFn Tryz.prog 153:=zF Tryz.func153 I
theorem jEY:Elem Tryz.prog 84 75 9 80:=⟨rfl,⟨_,_,rfl,rfl,rfl,rfl,rfl⟩,by decide⟩
theorem jFP (a:Fr):(frC a).length=9:=rfl
theorem jQe {l:List Sn} {k:Nat} {x:Sn} (hx:l[k]? =some x):
  ((l.take (k+1)).filter stale).map (·.f)=(if stale x=true then ((l.take k).filter stale).map (·.f)++[x.f]else ((l.take k).filter stale).map (·.f))/\((l.take (k+1)).filter fun x=>!stale x)=if stale x=true then (l.take k).filter (fun x=>!stale x)else (l.take k).filter (fun x=>!stale x)++[x]:=by
 obtain ⟨hk,rfl⟩:=List.getElem?_eq_some_iff.1 hx;rw[List.take_succ_eq_append_getElem hk,List.filter_append,List.filter_append]
 by_cases h:stale l[k]=true
 ·simp [h]
 ·simp [h]
theorem jLM {α β:Type} {g:β->α->β} {z:β} {l:List α} {k:Nat} {x:α} (hx:l[k]? =some x):(l.take (k+1)).foldl g z=g ((l.take k).foldl g z) x:=by
 obtain ⟨hk,rfl⟩:=List.getElem?_eq_some_iff.1 hx;rw[List.take_succ_eq_append_getElem hk,List.foldl_append];rfl
theorem jHY (b:Nat) (V:NV) (n:Nd) (now:Int) (B:Base) (w:World) (hw:Sat B (stH b V n now) w) (ho:Ord n):
  Calls Tryz.prog 153 #[ptr b] w fun e w'=>∃x:SV×SV,e= .returned (.tuple ⟨[]⟩)/\True/\Sat ⟨w,zN (stH b V n now)⟩ (stH b { V with ou:=x.1,bo:=x.2 } (asleep n now) now) w':=by
 have h16:=ho.out;obtain ⟨bk2,hbk2⟩:∃g:Nat->List Fr,g=fun k=>((n.out.take k).filter stale).map (·.f):=⟨_,rfl⟩
 obtain ⟨rs,hrs⟩:∃g:Nat->List Sn,g=fun k=>(n.out.take k).filter fun x=>!stale x:=⟨_,rfl⟩
 have hbl:∀k,(bk2 k).length<=16:=fun k=>by
  rw[hbk2];show ((((n.out.take k).filter stale).map (·.f))).length<=16;rw[List.length_map];exact Nat.le_trans (List.length_filter_le _ _) (by rw[List.length_take];omega)
 have hrl:∀k,(rs k).length<=16:=fun k=>by
  rw[hrs];exact Nat.le_trans (List.length_filter_le _ _) (by rw[List.length_take];omega)
 refine jc (stH b V n now) (hw) Tryz.func153 I (Nat.le_of_ble_eq_true I) (HR.sub (σ':=[(0,ptr b)]) ⟨I,trivial⟩ (zh ?_));refine HR.J6 75 9 (HR.J6 131 11 ?_);refine HR.loop (ι:=Nat×Value×Value) (fun x=>x.1<=n.out.length) (fun x=>[(0,ptr b),(2,x.2.1),(3,x.2.2),(12,sv V.ou n.out.length),(13,.int .i64 (n.out.length:Int)),(14,.int .i64 (x.1:Int))]) (fun x=>jM x.2.1 131 11 (rs x.1).length (cellsOf snC (rs x.1))::jM x.2.2 75 9 (bk2 x.1).length (cellsOf frC (bk2 x.1))::stH b V n now) (fun x=>n.out.length-x.1) (0,.slice none 0 0,.slice none 0 0) (Nat.zero_le _) ⟨I,I,I,I,I,I,trivial⟩ (by rw[hbk2,hrs];exact Ent.refl) ?_
 rintro ⟨k,u,v⟩ hk ih
 have hk:k<=n.out.length:=hk;refine zh ?_;refine HR.cond I (fun h2=>?_) (fun h2=>?_)
 ·have hlt:k<n.out.length:=by have:=of_decide_eq_true h2;omega
  obtain ⟨x,hx⟩:=jG hlt;have hb1:(bk2 (k,u,v).fst).length<=16:=hbl k;have hr1:(rs (k,u,v).fst).length<=16:=hrl k;obtain ⟨e1,e2⟩:=jQe hx;have e1:bk2 (k+1)=if stale x=true then bk2 k++[x.f]else bk2 k:=by rw[hbk2];exact e1
  have e2:rs (k+1)=if stale x=true then rs k else rs k++[x]:=by rw[hrs];exact e2
  repeat' (first|refine zh ?_|refine qE (Rd.own 5 I) jy k I I I I hlt ?_|refine qN (Rd.own 5 I) I I I I (by simp) I (jD jU hx) ?_|apply zb ?_ ?_|exact zc|(refine zi fun hb=>?_;try simp at hb)|intro (bk:Nat))
  refine HR.cond I (fun h3=>?_) (fun h3=>?_)
  ·have h3:stale x=true:=h3;rw[if_pos h3]at e1 e2;refine zh ?_;refine qH jEY I I I I I (by decide) (by decide) ?_;intro va;refine qJ 3 I jEY (Rd.own 0 I) I I I I (jH I) (by omega) (by omega) ?_;intro v2;refine zh ?_;refine ih (k+1,u,v2) _ _ hlt (by show n.out.length-(k+1)<n.out.length-k;omega) ⟨I,I,I,I,I,I,trivial⟩ ?_;show Ent _ _ (jM u 131 11 (rs (k+1)).length (cellsOf snC (rs (k+1)))::jM v2 75 9 (bk2 (k+1)).length (cellsOf frC (bk2 (k+1)))::stH b V n now);rw[e1,e2,List.length_append,jL];exact Ent.pick [2,3,4,5,6,7,8,9,10,11,12,13] I I
  ·have h3:stale x=false:=h3;rw[if_neg (by rw[h3];decide)]at e1 e2;refine zh ?_;refine qH jy I I I I I (by decide) (by decide) ?_;intro va;refine qJ 2 I jy (Rd.own 0 I) I I I I (jH I) (by omega) (by omega) ?_;intro v2;refine zh ?_;refine ih (k+1,v2,v) _ _ hlt (by show n.out.length-(k+1)<n.out.length-k;omega) ⟨I,I,I,I,I,I,trivial⟩ ?_;show Ent _ _ (jM v2 131 11 (rs (k+1)).length (cellsOf snC (rs (k+1)))::jM v 75 9 (bk2 (k+1)).length (cellsOf frC (bk2 (k+1)))::stH b V n now);rw[e1,e2,List.length_append,jL];exact Ent.pick [2,3,4,5,6,7,8,9,10,11,12,13] I I
 ·have hke:k=n.out.length:=by have:=of_decide_eq_false h2;omega
  subst hke;have hL:=hbl n.out.length;have hR:=hrl n.out.length;obtain ⟨bl,hbe⟩:∃bl,bl=bk2 n.out.length:=⟨_,rfl⟩;obtain ⟨rl,hre⟩:∃rl,rl=rs n.out.length:=⟨_,rfl⟩;have hsp:asleep n now=bl.foldl (fun n f=>box n f now) { n with out:=rl }:=by
   rw[hbe,hre,hbk2,hrs];show _=((((n.out.take n.out.length).filter stale).map (·.f))).foldl _ { n with out:=(n.out.take n.out.length).filter fun x=>!stale x };rw[List.take_length];rfl
  rw[hsp];refine qR (H':=jM u 131 11 rl.length (cellsOf snC rl)::jM v 75 9 bl.length (cellsOf frC bl)::stH b V n now) (Ent.of_eq (by rw[hbe,hre])) ?_;rw[<- hbe]at hL;rw[<- hre]at hR;refine zh ?_;refine HL.shape 0 I fun a c hv=>?_
  subst hv;refine zh ?_;refine qD (Rd.own 1 I) I I I (zh ?_);have hm:=ho.Zr hR;obtain ⟨m,hmm⟩:∃m:Nd,m={ n with out:=rl }:=⟨_,rfl⟩;refine qR (H':=jM v 75 9 bl.length (cellsOf frC bl)::stH b { V with ou:=(a,c) } { n with out:=rl } now) (Ent.pick [1,2,3,4,0,6,7,8,9,10,11] I I) ?_;rw[<- hmm]at hm ⊢;have hgo:∀k,Ord ((bl.take k).foldl (fun n f=>box n f now) m):=fun k=>(jBg now _ (Good.refl hm)).ord
  refine HR.loop (ι:=Nat×SV) (fun x=>x.1<=bl.length) (fun x=>[(0,ptr b),(48,v),(49,.int .i64 (bl.length:Int)),(50,.int .i64 (x.1:Int))]) (fun x=>jM v 75 9 bl.length (cellsOf frC bl)::stH b { V with ou:=(a,c),bo:=x.2 } ((bl.take x.1).foldl (fun n f=>box n f now) m) now) (fun x=>bl.length-x.1) (0,V.bo) (Nat.zero_le _) ⟨I,I,I,I,trivial⟩ Ent.refl ?_
  rintro ⟨k,y⟩ hk ih
  have hk:k<=bl.length:=hk;refine zh ?_;refine HR.cond I (fun h2=>?_) (fun h2=>?_)
  ·have hlt:k<bl.length:=by have:=of_decide_eq_true h2;omega
   obtain ⟨x,hx⟩:=jG hlt
   repeat' (first|refine zh ?_|refine qE (Rd.own 0 I) jEY k I I I I hlt ?_|refine qN (Rd.own 0 I) I I I I (by simp) I (jD jFP hx) ?_|intro (bk:Nat))
   refine qM (H':=stH b { V with ou:=(a,c),bo:=y } ((bl.take k).foldl (fun n f=>box n f now) m) now++[jM v 75 9 bl.length (cellsOf frC bl)]) (Ent.pick [2,3,4,5,6,7,8,9,10,11,1] I I) (qQ (r:=fun _:SV=> .tuple ⟨[]⟩) (Q:=fun _=>True) (G0:=stH b { V with ou:=(a,c),bo:=y } ((bl.take k).foldl (fun n f=>box n f now) m) now) (H0:=[jM v 75 9 bl.length (cellsOf frC bl)]) (G:=fun z=>stH b { V with ou:=(a,c),bo:=z } (box ((bl.take k).foldl (fun n f=>box n f now) m) x now) now) jTE I I I (fun w1 hw1=>jJY b { V with ou:=(a,c),bo:=y } _ now x _ w1 (hw1.pick [0,1,2,3,4,5,6,7,8,9] I I) (hgo k)) ?_);intro z _;refine zh ?_;refine ih (k+1,z) _ _ hlt (by show bl.length-(k+1)<bl.length-k;omega) ⟨I,I,I,I,trivial⟩ ?_;show Ent _ _ (jM v 75 9 bl.length (cellsOf frC bl)::stH b { V with ou:=(a,c),bo:=z } ((bl.take (k+1)).foldl (fun n f=>box n f now) m) now);rw[jLM hx];exact Ent.pick [10,0,1,2,3,4,5,6,7,8,9] I I
  ·have hke:k=bl.length:=by have:=of_decide_eq_false h2;omega
   subst hke;refine zh ?_;refine QS Tryz.func153 I [] (fun _ _=>trivial) ?_;refine fun w' hw=>⟨((a,c),y),rfl,trivial,?_⟩
   have w1:Sat _ (jM v 75 9 bl.length (cellsOf frC bl)::stH b { V with ou:=(a,c),bo:=y } ((bl.take bl.length).foldl (fun n f=>box n f now) m) now) w':=hw;rw[List.take_length]at w1;exact w1.pick [1,2,3,4,5,6,7,8,9,10] I I
theorem jTN:IsFn Tryz.prog 132:=zF Tryz.func132 I
theorem jRi:IsFn Tryz.prog 167:=zF Tryz.func167 I
theorem jRh:IsFn Tryz.prog 168:=zF Tryz.func168 I
theorem fn92:IsFn Tryz.prog 92:=zF Tryz.func92 I
theorem fn170:IsFn Tryz.prog 170:=zF Tryz.func170 I
theorem fn271:IsFn Tryz.prog 271:=zF Tryz.func271 I
theorem fn218:IsFn Tryz.prog 218:=zF Tryz.func218 I
theorem jEP {l:List Li} {k:Nat} {x:Li} (hx:l[k]? =some x) (h:zD x=true):jH8 l k=2:=by unfold jH8;rw[hx];simp only;rw[if_pos h]
theorem jEQ {l:List Li} {k:Nat} {x y:Li} (hx:l[k]? =some x) (h:zD x=false) (h0:0<k) (hy:l[k-1]? =some y) (hle:x.nd<=y.nd):jH8 l k=14:=by
 unfold jH8;rw[hx];simp only;rw[if_neg (by rw[h];decide),if_pos ⟨h0,by rw[hy];exact decide_eq_true hle⟩]
theorem jNQ {l:List Li} {k:Nat} {x:Li} (hx:l[k]? =some x) (h:zD x=false) (h2:∀y,0<k->l[k-1]? =some y->¬x.nd<=y.nd):jH8 l k=0:=by
 unfold jH8;rw[hx];simp only;rw[if_neg (by rw[h];decide),if_neg]
 rintro ⟨h0,hh⟩
 cases hy:l[k-1]? with
 |none=>rw[hy]at hh;cases hh
 |some y=>rw[hy]at hh;exact h2 y h0 hy (of_decide_eq_true hh)
theorem jFH {l:List Li} {k:Nat} (h:l.length<=24) (h1:jf (jH8 l) k=0) (h2:jH8 l k≠0) (hk:k<l.length):jAs l=jH8 l k:=by
 unfold jAs;rw[if_neg (by omega),Ku h1 h2 hk]
theorem jRC {c:Int} (h0:0<=c) (h1:c<=16):(2:Int) ^ c.toNat<=65536:=by
 have h2:(2:Nat) ^ c.toNat<=2 ^ 16:=Nat.pow_le_pow_right (by decide) (by omega);have h3:((2 ^ c.toNat:Nat):Int)=(2:Int) ^ c.toNat:=by rw[Int.natCast_pow];rfl
 rw[<- h3];exact Int.ofNat_le.2 h2
theorem shl1 {c:Int} (h0:0<=c) (h1:c<=16):IntKind.i64.wrap (1*2 ^ (min c.toNat IntKind.i64.bits))=2 ^ c.toNat:=by
 have h2:=jRC h0 h1;have h3:(0:Int)<=2 ^ c.toNat:=Int.le_of_lt (Int.pow_pos (by decide));rw[show min c.toNat IntKind.i64.bits=c.toNat by simp only[IntKind.bits];omega,Int.one_mul];exact Jh (k:= .i64) (by simp only[GX.fits];omega)
theorem jEN (l:List Li) (v:Value) (w:World) (hv:Sl w v (cellsOf liC l) l.length) (hl:l.length<=1000):
  Calls Tryz.prog 132 #[v] w fun e w'=>e= .returned (.int .i64 (jAs l))/\Below w.heap.size w w':=by
 refine zE Tryz.func132 I [(0,v)] (zh ?_);refine qD (qA hv) I I I (zh ?_);refine HR.cond I (fun h=>?_) (fun h=>?_)
 ·have h:l.length>24:=by have:=of_decide_eq_true h;omega
  refine zh ?_;refine HR.ret Tryz.func132 I [_] (fun _ _=>⟨I,trivial⟩) ?_
  exact fun w' hw=>⟨by rw[jAs,if_pos h];rfl,hw.jF⟩
 have h:l.length<=24:=by have:=of_decide_eq_false h;omega
 refine zh ?_;refine qD (qA hv) I I I (zh ?_);refine HR.loop (ι:=Nat) (fun k=>k<=l.length/\jf (jH8 l) k=0) (fun k=>[(0,v),(8,v),(9,.int .i64 (l.length:Int)),(10,.int .i64 (k:Int))]) (fun _=>[]) (fun k=>l.length-k) 0 ⟨Nat.zero_le _,rfl⟩ ⟨I,I,I,I,trivial⟩ Ent.refl ?_
 rintro k ⟨hk,hg⟩ ih
 refine zh ?_;refine HR.cond I (fun h2=>?_) (fun h2=>?_)
 ·have hlt:k<l.length:=by have:=of_decide_eq_true h2;omega
  obtain ⟨x,hx⟩:=jG hlt
  repeat' (first|refine zh ?_|refine qE (qA hv) JG k I I I I hlt ?_|refine qN (qA hv) I I I I (by simp) I (jD jd hx) ?_|intro (bk:Nat))
  refine qK j3 (by kernel_rfl) ?_
  repeat' (first|refine zq ?_|refine HQ.wI (2 ^ x.ct.toNat) I I I I (.inr I) (fun _=>by omega) (shl1 (by omega) (by omega)) ?_|apply zb ?_ ?_|exact zc|(refine zi fun hb=>?_;try simp at hb)|fail)
  refine HR.cond I (fun h3=>?_) (fun h3=>?_)
  ·have h3:zD x=true:=h3;refine zh ?_;refine HR.ret Tryz.func132 I [_] (fun _ _=>⟨I,trivial⟩) ?_;refine fun w' hw=>⟨?_,hw.jF⟩
   have e:=jEP hx h3;rw[jFH h hg (by rw[e];decide) hlt,e];rfl
  have h3:zD x=false:=h3;obtain ⟨y,hy⟩:=jG (l:=l) (j:=k-1) (by omega);refine zh ?_;refine qK j3 (by kernel_rfl) ?_
  repeat' (first|refine zq ?_|refine qW (qA hv) JG (k-1) I I I (by omega) (by omega) ?_|refine QE (qA hv) (by rw[jA jd];omega) I I I I I I ?_|refine qj (qA hv) I I I I (jJ jd hy (i:=0) I) ?_|apply zb ?_ ?_|exact zc|(refine zi fun hb=>?_;try simp at hb)|fail)
  refine HR.cond I (fun h4=>?_) (fun h4=>?_)
  ·have h4:(decide ((k:Int)>0)&&decide (x.nd<=y.nd))=true:=h4;simp only[Bool.and_eq_true,decide_eq_true_eq]at h4;refine zh ?_;refine HR.ret Tryz.func132 I [_] (fun _ _=>⟨I,trivial⟩) ?_;refine fun w' hw=>⟨?_,hw.jF⟩
   have e:=jEQ hx h3 (by omega) hy h4.2;rw[jFH h hg (by rw[e];decide) hlt,e];rfl
  ·have h4:(decide ((k:Int)>0)&&decide (x.nd<=y.nd))=false:=h4;refine zh ?_;refine ih (k+1) _ _ ⟨hlt,Jo hg (jNQ hx h3 fun y' h0 hy' hle=>?_)⟩ (by omega) ⟨I,I,I,I,trivial⟩ (Ent.pick [] I I);rw[hy]at hy';cases hy';rw[decide_eq_true (show (k:Int)>0 by omega),decide_eq_true hle]at h4;cases h4
 ·have hke:k=l.length:=by have:=of_decide_eq_false h2;omega
  subst hke;refine zh ?_;refine HR.ret Tryz.func132 I [_] (fun _ _=>⟨I,trivial⟩) ?_
  exact fun w' hw=>⟨by rw[jAs,if_neg (by omega),hg];rfl,hw.jF⟩
theorem jMC (n:Int) (w:World) (h:-1099511627776<=n/\n<=1099511627776):Calls Tryz.prog 301 #[.int .i64 n] w fun e w'=>e= .returned (.int .i64 n)/\Below w.heap.size w w':=by
 refine zE Tryz.func301 I [(0,.int .i64 n)] (zh ?_);refine HR.ret Tryz.func301 I [_] (fun _ _=>⟨I,trivial⟩) ?_;refine fun w' hw=>⟨?_,hw.jF⟩
 simp only[ZJ]
 congr 2
 split<;>split<;>omega
theorem jQX (a b:Int) (w:World) (ha:0<=a/\a<=1000000) (hb:0<b/\b<=1000000):Calls Tryz.prog 272 #[.int .i64 a,.int .i64 b] w fun e w'=>e= .returned (.int .i64 (cdiv a b))/\Below w.heap.size w w':=by
 refine zE Tryz.func272 I [(0,.int .i64 a),(1,.int .i64 b)] (zh ?_);refine qB jSh I I (fun w _=>jMC a w (by omega)) (zh ?_);refine qB jSh I I (fun w _=>jMC b w (by omega)) (zh ?_);refine QX 13 false I (by simp;omega) ?_;have q1:0<=a / b:=Int.ediv_nonneg ha.1 (by omega);have q2:a / b<=a:=Int.ediv_le_self _ ha.1
 repeat' (first|refine zh ?_|apply zb ?_ ?_|exact zc|(refine zi fun hb=>?_;try simp at hb)|fail)
 have e1:decide (a<0)=false:=decide_eq_false (by omega);have e2:decide (b<0)=false:=decide_eq_false (by omega);refine HR.cond I (fun h=>?_) (fun h=>?_)
 ·have h:((a%b != 0)&&(decide (a<0)==decide (b<0)))=true:=h;rw[e1,e2]at h;have h:a%b≠0:=by simpa using h
  refine zh ?_;refine HR.ret Tryz.func272 I [_] (fun _ _=>⟨I,trivial⟩) ?_
  exact fun w' hw=>⟨by rw[jDP ha.1 hb.1,if_pos h];rfl,hw.jF⟩
 ·have h:((a%b != 0)&&(decide (a<0)==decide (b<0)))=false:=h;rw[e1,e2]at h;have h:¬a%b≠0:=by simpa using h
  refine zh ?_;refine HR.ret Tryz.func272 I [_] (fun _ _=>⟨I,trivial⟩) ?_
  exact fun w' hw=>⟨by rw[jDP ha.1 hb.1,if_neg h];rfl,hw.jF⟩
theorem jBb (l:List Li) (v:Value) (w:World) (hv:Sl w v (cellsOf liC l) l.length) (hl:l.length<=1000):
  Calls Tryz.prog 167 #[v] w fun e w'=>∃v',e= .returned v'/\Sat (base w) [jM v' 162 3 (lval l).length (cellsOf liC (lval l))] w':=by
 refine zE Tryz.func167 I [(0,v)] (zh ?_);refine qB jTN I I (fun w hw=>jEN l v w ((qA hv).at hw) hl) (zh ?_);refine HR.cond I (fun h=>?_) (fun h=>?_)
 ·have h:¬jAs l=0:=by simpa using h
  refine zh ?_;refine HR.J6 162 3 (HR.ret Tryz.func167 I [_] (fun _ _=>⟨I,trivial⟩) ?_)
  exact fun w' hw=>⟨.slice none 0 0,rfl,by rw[lval,if_neg h];exact hw⟩
 ·have h:jAs l=0:=by simpa using h
  have h24:=(KC h).1;refine zh ?_;refine qD (qA hv) I I I ?_;refine qg l.length l.length JG I I I I I I (Nat.le_refl _) (show 24*l.length<=_ by omega) (by omega) ?_;intro v1;refine zh ?_;refine yR l.length 0 I (qA hv) I I I I I (jA jd _) (fun u hu=>jR jBc _ u (List.mem_of_mem_take hu)) (Nat.min_self _) (zh ?_);refine HR.ret Tryz.func167 I [_] (fun _ _=>⟨I,trivial⟩) ?_;refine fun w' hw=>⟨v1,rfl,qC ?_ ?_ w' hw⟩
  ·rw [lval,if_pos h]
  ·rw [lval,if_pos h,List.take_of_length_le (by rw[jA jd];exact Nat.le_refl _),List.drop_eq_nil_of_le (by rw[je];exact Nat.le_refl _),List.append_nil]
theorem jC9 (l:List Li) (n:Int) (v:Value) (w:World) (hv:Sl w v (cellsOf liC l) l.length) (hl:l.length<=1000):
  Calls Tryz.prog 168 #[v,.int .i64 n] w fun e w'=>e= .returned (.tuple ⟨[.int .i64 (zT l n:Int),.bool (jNM l n)]⟩)/\Below w.heap.size w w':=by
 refine zE Tryz.func168 I [(0,v),(1,.int .i64 n)] (zh ?_);refine HR.loop (ι:=Nat) (fun k=>k<=l.length/\∀j a,j<k->l[j]? =some a->a.nd<n) (fun k=>[(0,v),(1,.int .i64 n),(6,.int .i64 (k:Int))]) (fun _=>[]) (fun k=>l.length-k) 0 ⟨Nat.zero_le _,fun j a hj=>by omega⟩ ⟨I,I,I,trivial⟩ Ent.refl ?_
 rintro k ⟨hk,hg⟩ ih
 repeat' (first|refine zh ?_|refine qD (qA hv) I I I ?_|refine qE (qA hv) JG k I I I I (by omega) ?_|refine qY (qA hv) (by rw[jA jd];omega) I I I I I I ?_|refine qF (qA hv) I I I I (jJ jd (Jb (by omega) li0) (i:=0) I) ?_|apply zb ?_ ?_|exact zc|(refine zi fun hb=>?_;try simp at hb)|fail)
 refine HR.cond I (fun h2=>?_) (fun h2=>?_)
 ·have h2:(decide ((k:Int)<l.length)&&decide ((l.getD k li0).nd<n))=true:=h2;simp only[Bool.and_eq_true,decide_eq_true_eq]at h2;have hlt:k<l.length:=by omega
  refine zh ?_;refine ih (k+1) _ _ ⟨hlt,fun j a hj ha=>?_⟩ (by omega) ⟨I,I,I,trivial⟩ (Ent.pick [] I I)
  by_cases hjk:j=k
  ·subst hjk;rw[Jb hlt li0]at ha;cases ha;exact h2.2
  ·exact hg j a (by omega) ha
 ·have h2:(decide ((k:Int)<l.length)&&decide ((l.getD k li0).nd<n))=false:=h2;have hp:zT l n=k:=jRJ hk hg fun a ha=>by
   have hlt:=(List.getElem?_eq_some_iff.1 ha).1;rw[Jb hlt li0]at ha;cases ha;rw[decide_eq_true (show (k:Int)<l.length by omega),Bool.true_and,decide_eq_false_iff_not]at h2;omega
  refine zh ?_;refine qK j3 (by kernel_rfl) ?_
  repeat' (first|refine zq ?_|refine yE (qA hv) I I I ?_|refine qW (qA hv) JG k I I I I (by omega) ?_|refine QE (qA hv) (by rw[jA jd];omega) I I I I I I ?_|refine qj (qA hv) I I I I (jJ jd (Jb (by omega) li0) (i:=0) I) ?_|apply zb ?_ ?_|exact zc|(refine zi fun hb=>?_;try simp at hb)|fail)
  refine HR.ret Tryz.func168 I [_,_] (fun _ _=>⟨I,I,trivial⟩) ?_;refine fun w' hw=>⟨?_,hw.jF⟩
  have hh:jNM l n=(decide ((k:Int)<l.length)&&((l.getD k li0).nd==n)):=by
   unfold jNM;rw[hp]
   by_cases hlt:k<l.length
   ·rw [Jb hlt li0,decide_eq_true (show (k:Int)<l.length by omega)];rfl
   ·rw [List.getElem?_eq_none (by omega),decide_eq_false (show ¬(k:Int)<l.length by omega)];rfl
  rw[hh,hp];rfl
theorem jH6 (l:List Li) (n:Int) (v:Value) (w:World) (hv:Sl w v (cellsOf liC l) l.length) (hl:l.length<=1000):
  Calls Tryz.prog 170 #[v,.int .i64 n] w fun e w'=>∃v',e= .returned v'/\Sat (base w) [jM v' 162 3 (JE l n).length (cellsOf liC (JE l n))] w':=by
 have hlen:=Zw l;refine zE Tryz.func170 I [(0,v),(1,.int .i64 n)] (zh ?_);refine qI jRi I I (fun w hw=>jBb l v w ((qA hv).at hw) hl) ?_;intro v1;refine zh ?_;refine qB jRh I I (fun w hw=>jC9 (lval l) n v1 w ((Rd.own 0 rfl).at hw) (by omega)) (zh ?_);refine HR.cond I (fun h=>?_) (fun h=>?_)
 ·obtain ⟨x,hx,hn⟩:=jC8 h;have hlt:=(List.getElem?_eq_some_iff.1 hx).1;refine zh ?_;refine qQ (r:=fun r:Value=>r) (Q:=fun _=>True) (G0:=[jM v1 162 3 (lval l).length (cellsOf liC (lval l))]) (H0:=[]) (G:=fun r=>[jM r 162 3 ((lval l).eraseIdx (zT (lval l) n)).length (cellsOf liC ((lval l).eraseIdx (zT (lval l) n)))]) fn226 I I I (fun w hw=>jNs (lval l) (zT (lval l) n) v1 _ w hw hlt (by omega)) ?_;intro r _;refine zh ?_;refine HR.ret Tryz.func170 I [_] (fun _ _=>⟨I,trivial⟩) ?_
  exact fun w' hw=>⟨r,rfl,by rw[jLH hx hn];exact hw⟩
 ·have hno:=jNR (jBd h);refine zh ?_;refine HR.ret Tryz.func170 I [_] (fun _ _=>⟨I,trivial⟩) ?_
  exact fun w' hw=>⟨v1,rfl,by rw[jLG hno];exact hw⟩
theorem jPR (l:List Li) (n:Int) (v:Value) (w:World) (hv:Sl w v (cellsOf liC l) l.length) (hl:l.length<=1000):
  Calls Tryz.prog 271 #[v,.int .i64 n] w fun e w'=>e= .returned (.tuple ⟨[.int .i64 (succ l n).1,.int .i64 (succ l n).2]⟩)/\Below w.heap.size w w':=by
 have hlen:=Zw l;refine zE Tryz.func271 I [(0,v),(1,.int .i64 n)] (zh ?_);refine qI jRi I I (fun w hw=>jBb l v w ((qA hv).at hw) hl) ?_;intro v1;refine zh ?_;refine qB jRh I I (fun w hw=>jC9 (lval l) n v1 w ((Rd.own 0 rfl).at hw) (by omega)) (zh ?_);refine HR.cond I (fun h=>?_) (fun h=>?_)
 ·have h:jNM (lval l) n=false:=by simpa using h
  have hno:=jNR (jBd h);refine zh ?_;refine HR.ret Tryz.func271 I [_,_] (fun _ _=>⟨I,I,trivial⟩) ?_
  exact fun w' hw=>⟨by rw[succ,hno];rfl,hw.jF⟩
 ·have h:jNM (lval l) n=true:=by simpa using h
  obtain ⟨x,hx,hn⟩:=jC8 h;have hlt:=(List.getElem?_eq_some_iff.1 hx).1;have hat:lat (lval l) n=some x:=((KA l).jGF hx hn).2;have hr:=kL (jA3 (List.mem_of_getElem? hx));have hp:=jEB 64 x.bi.toNat;have hb64:x.bi.toNat<2 ^ 64:=by
   have:(2:Nat) ^ 64=18446744073709551616:=by decide
   omega
  refine zh ?_;refine qE (Rd.own 0 I) JG (zT (lval l) n) I I I I hlt ?_;refine qY (Rd.own 0 I) (by rw[jA jd];omega) I I I I I I ?_;refine qF (Rd.own 0 I) I I I I (jJ jd hx (i:=1) I) (zh ?_);refine Qw (α:=Nat) (β:=Nat) (γ:=Nat) (fun a b f=>b<65536/\b<2 ^ f/\(a:Int)+pop f b=pop 64 x.bi.toNat) (fun a b f=>[(6,v1),(7,.int .i64 (zT (lval l) n:Int)),(9,.int .i64 (a:Int)),(10,.int .i64 (b:Int))]) (fun _ _ _=>[jM v1 162 3 (lval l).length (cellsOf liC (lval l))]) (fun a b f=>b) 0 x.bi.toNat 64 ⟨by omega,hb64,by simp⟩ ⟨rfl,rfl,rfl,by show some _=some _;congr 2;omega,trivial⟩ Ent.refl ?_
  rintro a b f ⟨hb5,hb,hab⟩ ih
  have hpf:=jEB f b;refine zh ?_;refine HR.cond I (fun h2=>?_) (fun h2=>?_)
  ·have hb0:0<b:=by have:=of_decide_eq_true h2;omega
   obtain ⟨f',rfl,hb',hps⟩:=jJq hb0 hb;refine zh ?_;refine ih (a+b%2) (b / 2) f' _ _ ⟨by omega,hb',?_⟩ (by omega) ⟨I,I,I,I,trivial⟩ Ent.refl;rw[<- hab,hps];omega
  ·have hb0:b=0:=by have:=of_decide_eq_false h2;omega
   subst hb0;rw[jJp]at hab;refine zh ?_;refine qK j3 (by kernel_rfl) (zq ?_);refine qW (Rd.own 0 I) JG (zT (lval l) n) I I I I hlt ?_;refine QE (Rd.own 0 I) (by rw[jA jd];omega) I I I I I I ?_;refine qj (Rd.own 0 I) I I I I (jJ jd hx (i:=2) I) (zq ?_);refine HR.ret Tryz.func271 I [_,_] (fun _ _=>⟨I,I,trivial⟩) ?_;refine fun w' hw=>⟨?_,hw.jF⟩
   rw[succ,hat];simp only[ones,<- hab,Int.add_zero];rfl
theorem jNP (l:List Li) (n:Int) (v:Value) (w:World) (hv:Sl w v (cellsOf liC l) l.length) (hl:l.length<=1000):
  Calls Tryz.prog 218 #[v,.int .i64 n] w fun e w'=>e= .returned (.int .i64 (kM l n))/\Below w.heap.size w w':=by
 have hs:0<=(succ l n).1/\(succ l n).1<=64/\0<=(succ l n).2/\(succ l n).2<=16:=by
  unfold succ;cases hf:lat (lval l) n with
  |none=>simp
  |some x=>
   have hr:=kL (jA3 (jFJ hf).1);have:=jM0 x.bi;exact ⟨this.1,this.2,hr.2.2.1,hr.2.2.2.1⟩
 refine zE Tryz.func218 I [(0,v),(1,.int .i64 n)] (zh ?_);refine qB fn271 I I (fun w hw=>jPR l n v w ((qA hv).at hw) hl) (zh ?_);refine HR.cond I (fun h=>?_) (fun h=>?_)
 ·have h:(succ l n).1=0:=eq_of_beq h;refine zh ?_;refine HR.ret Tryz.func218 I [_] (fun _ _=>⟨I,trivial⟩) ?_
  exact fun w' hw=>⟨by rw[jEM,if_pos h];rfl,hw.jF⟩
 ·have h:¬(succ l n).1=0:=by simpa using h
  refine zh ?_;refine qB fn272 I I (fun w _=>jQX _ _ w (by omega) (by omega)) (zh ?_);refine HR.ret Tryz.func218 I [_] (fun _ _=>⟨I,trivial⟩) ?_
  exact fun w' hw=>⟨by rw[jEM,if_neg h];rfl,hw.jF⟩
structure Place (l:List Li) (n:Int) (ok:Bool) (L:List Li) (i:Nat) (x:Li):Prop where
 get:L[i]? =some x
 len:L.length<=25
 b0:0<=x.bi
 b1:x.bi<65536
 c0:0<=x.ct
 c1:x.ct<=16
 eq:JD l n ok=L.set i (jNJ x ok)
theorem Yh {l:List Li} {n:Int} {ok:Bool} {x:Li} (hr:¬(n<0\/n>250)) (hx:(lval l)[zT (lval l) n]? =some x) (hn:x.nd=n):Place l n ok (lval l) (zT (lval l) n) x:=by
 have h:=kL (jA3 (List.mem_of_getElem? hx));have h2:=Zw l;exact ⟨hx,by omega,h.2.2.2.2.1,h.2.2.2.2.2,h.2.2.1,h.2.2.2.1,jJ6 hr hx hn⟩
theorem Place.new {l:List Li} {n:Int} {ok:Bool} (hr:¬(n<0\/n>250)) (h:lat (lval l) n=none) (h2:¬(lval l).length=24):Place l n ok ((lval l).take (zT (lval l) n)++⟨n,0,0⟩::(lval l).drop (zT (lval l) n)) (zT (lval l) n) ⟨n,0,0⟩:=by
 have h3:=Zw l;have h4:=jH4 (lval l) n;have hl:((lval l).take (zT (lval l) n)).length=zT (lval l) n:=by simp;omega
 refine ⟨jFN hl,by simp;omega,by simp,by simp,by simp,by simp,?_⟩;rw[jGc hr h h2,set_mid hl]
theorem jGd (l:List Li) (n:Int) (ok:Bool) (v:Value) (w:World) (hv:Sl w v (cellsOf liC l) l.length) (hl:l.length<=1000):
  Calls Tryz.prog 92 #[v,.int .i64 n,.bool ok] w fun e w'=>∃v',e= .returned v'/\Sat (base w) [jM v' 162 3 (JD l n ok).length (cellsOf liC (JD l n ok))] w':=by
 have hlen:=Zw l;have hple:=jH4 (lval l) n;refine zE Tryz.func92 I [(0,v),(1,.int .i64 n),(2,.bool ok)] (zh ?_);refine qI jRi I I (fun w hw=>jBb l v w ((qA hv).at hw) hl) ?_;intro v1
 repeat' (first|refine zh ?_|apply zb ?_ ?_|exact zc|(refine zi fun hb=>?_;try simp at hb)|fail)
 refine HR.cond I (fun h=>?_) (fun h=>?_)
 ·have h:(decide (n<0)||decide (n>250))=true:=h;simp only[Bool.or_eq_true,decide_eq_true_eq]at h;refine zh ?_;refine HR.ret Tryz.func92 I [_] (fun _ _=>⟨I,trivial⟩) ?_
  exact fun w' hw=>⟨v1,rfl,by rw[jGb h];exact hw⟩
 have h:(decide (n<0)||decide (n>250))=false:=h;have hr:¬(n<0\/n>250):=by simp only[Bool.or_eq_false_iff,decide_eq_false_iff_not]at h;omega
 refine zh ?_;refine qB jRh I I (fun w hw=>jC9 (lval l) n v1 w ((Rd.own 0 rfl).at hw) (by omega)) (zh ?_);refine HR.join (ι:=Value×List Li×Li) (fun i=>Place l n ok i.2.1 (zT (lval l) n) i.2.2) (fun i=>[(1,.int .i64 n),(2,.bool ok),(7,i.1),(8,.int .i64 (zT (lval l) n:Int))]) (fun i=>[jM i.1 162 3 i.2.1.length (cellsOf liC i.2.1)]) ?_ (fun hj=>?_)
 ·rintro ⟨r,L,x⟩ hp
  obtain ⟨hget,hL,hb0,hb1,hc0,hc1,heq⟩:=hp;simp only at hget hL hb0 hb1 hc0 hc1 heq;have hlt:=(List.getElem?_eq_some_iff.1 hget).1;have hbit:0<=(if ok then (1:Int)else 0)/\(if ok then (1:Int)else 0)<=1:=by cases ok<;>simp
  repeat' (first|refine zh ?_|fail)
  refine HR.join (ι:=Unit) (fun _=>True) (fun _=>[(7,r),(8,.int .i64 (zT (lval l) n:Int)),(10,.int .i64 (if ok then 1 else 0))]) (fun _=>[jM r 162 3 L.length (cellsOf liC L)]) ?_ (fun hj2=>?_)
  ·intro _ _;obtain ⟨bit,hbe⟩:∃bit,bit=(if ok then (1:Int)else 0):=⟨_,rfl⟩;rw[<- hbe]at hbit ⊢
   repeat' (first|refine zh ?_|refine qE (Rd.own 0 I) JG (zT (lval l) n) I I I I hlt ?_|refine qY (Rd.own 0 I) (by rw[jA jd];omega) I I I I I I ?_|refine qF (Rd.own 0 I) I I I I (jJ jd hget (i:=1) I) ?_|refine qw (j:=zT (lval l) n*3+1) 0 I I I I I I I (by rw[jA jd];omega) ?_|fail)
   refine qM (qC (xs':=cellsOf liC (L.set (zT (lval l) n) ⟨x.nd,(2*x.bi+bit)%65536,x.ct⟩)) I (JR (i:=1) jd hget I (by decide))) ?_;have hget2:(L.set (zT (lval l) n) ⟨x.nd,(2*x.bi+bit)%65536,x.ct⟩)[zT (lval l) n]? =some ⟨x.nd,(2*x.bi+bit)%65536,x.ct⟩:=by simp[hlt]
   have hl2:(L.set (zT (lval l) n) ⟨x.nd,(2*x.bi+bit)%65536,x.ct⟩).length=L.length:=List.length_set
   repeat' (first|refine zh ?_|refine qE (Rd.own 0 I) JG (zT (lval l) n) I I I I hlt ?_|refine qY (Rd.own 0 I) (by rw[jA jd,hl2];omega) I I I I I I ?_|refine qF (Rd.own 0 I) I I I I (jJ jd hget2 (i:=2) I) ?_|refine qw (j:=zT (lval l) n*3+2) 0 I I I I I I I (by rw[jA jd,hl2];omega) ?_|fail)
   refine qR (qC (xs':=cellsOf liC ((L.set (zT (lval l) n) ⟨x.nd,(2*x.bi+bit)%65536,x.ct⟩).set (zT (lval l) n) (jNJ x ok))) I (JR (i:=2) jd hget2 ?_ (by decide))) ?_
   ·simp only[jNJ,<- hbe];rw[show min (x.ct+1) 16=(if (16:Int)<x.ct+1 then 16 else x.ct+1) by split<;>omega];rfl
   refine HR.ret Tryz.func92 I [_] (fun _ _=>⟨I,trivial⟩) ?_;refine fun w' hw=>⟨r,rfl,qC ?_ ?_ w' hw⟩
   ·rw [heq];simp
   ·rw [heq,List.set_set]
  ·refine HR.cond I (fun h3=>?_) (fun h3=>?_)
   ·subst h3;refine HR.region ?_
    repeat' (first|refine zn ?_|fail)
    exact hj2 () _ _ trivial ⟨I,I,I,trivial⟩ Ent.refl
   ·subst h3;refine HR.skip ?_;exact hj2 () _ _ trivial ⟨I,I,I,trivial⟩ Ent.refl
 refine HR.cond I (fun h2=>?_) (fun h2=>?_)
 ·have h2:jNM (lval l) n=false:=by simpa using h2
  have hno:=jNR (jBd h2)
  repeat' (first|refine zh ?_|refine qD (Rd.own 0 I) I I I ?_|fail)
  refine HR.cond I (fun h3=>?_) (fun h3=>?_)
  ·have h3:(lval l).length=24:=by have:=eq_of_beq h3;omega
   repeat' (first|refine zh ?_|fail)
   refine HR.ret Tryz.func92 I [_] (fun _ _=>⟨I,trivial⟩) ?_
   exact fun w' hw=>⟨v1,rfl,by rw[jEK hr hno h3];exact hw⟩
  ·have h3:¬(lval l).length=24:=by
    have h3:(((lval l).length:Int)==24)=false:=h3
    simp at h3;omega
   refine HR.skip (HR.region ?_)
   repeat' (first|refine zn ?_|refine qH JG I I I I I (by decide) (by decide) ?_|fail)
   intro va;refine qQ (r:=fun r:Value=>r) (Q:=fun _=>True) (G0:=[jM va 162 3 1 (liC ⟨n,0,0⟩),jM v1 162 3 (lval l).length (cellsOf liC (lval l))]) (H0:=[]) (G:=fun r=>[jM r 162 3 ((lval l).take (zT (lval l) n)++⟨n,0,0⟩::(lval l).drop (zT (lval l) n)).length (cellsOf liC ((lval l).take (zT (lval l) n)++⟨n,0,0⟩::(lval l).drop (zT (lval l) n)))]) fn169 I I I (fun w hw=>jNX (lval l) ⟨n,0,0⟩ (zT (lval l) n) v1 va _ w hw hple (by omega)) ?_;intro r _
   repeat' (first|refine zn ?_|fail)
   exact hj (r,_,_) _ _ (Place.new hr hno h3) ⟨I,I,I,I,trivial⟩ Ent.refl
 ·have h2:jNM (lval l) n=true:=by simpa using h2
  obtain ⟨x,hx,hn⟩:=jC8 h2;refine HR.skip ?_;exact hj (v1,lval l,x) _ _ (Yh hr hx hn) ⟨I,I,I,I,trivial⟩ Ent.refl
theorem fn201:IsFn Tryz.prog 201:=zF Tryz.func201 I
theorem jTG:IsFn Tryz.prog 144:=zF Tryz.func144 I
theorem jRe:IsFn Tryz.prog 244:=zF Tryz.func244 I
theorem jSo:IsFn Tryz.prog 245:=zF Tryz.func245 I
theorem jSk:IsFn Tryz.prog 281:=zF Tryz.func281 I
theorem jS6:IsFn Tryz.prog 194:=zF Tryz.func194 I
theorem jS7:IsFn Tryz.prog 193:=zF Tryz.func193 I
theorem fn240:IsFn Tryz.prog 240:=zF Tryz.func240 I
theorem jEv (n:Int) (w:World) (h:-1099511627776<=n/\n<=1099511627776):Calls Tryz.prog 310 #[.int .i64 n] w fun e w'=>e= .returned (.int .i64 n)/\Below w.heap.size w w':=by
 refine zE Tryz.func310 I [(0,.int .i64 n)] (zh ?_);refine QX 4 false I (decide_eq_false (by omega)) (zh ?_);refine QX 6 false I (decide_eq_false (by omega)) (zh ?_);exact zR Tryz.func310
theorem jDC {a b:Int} (ha:0<=a) (hb:0<b):(-a) / b=if a%b≠0 then -(a / b)-1 else -(a / b):=by
 have:=jDP ha hb;unfold cdiv at this
 split<;>rename_i h
 ·rw [if_pos h]at this;omega
 ·rw [if_neg h]at this;omega
theorem jKm (a b:Int) (w:World) (ha:0<=a/\a<=1000000) (hb:0<b/\b<=1000000):Calls Tryz.prog 309 #[.int .i64 (-a),.int .i64 b] w fun e w'=>e= .returned (.int .i64 ((-a) / b))/\Below w.heap.size w w':=by
 have q0:(-a).tdiv b= -(a / b):=by rw[Int.neg_tdiv,Int.tdiv_eq_ediv_of_nonneg ha.1]
 have r0:(-a).tmod b= -(a%b):=by rw[Int.neg_tmod,Int.tmod_eq_emod_of_nonneg ha.1]
 have q1:0<=a / b:=Int.ediv_nonneg ha.1 (by omega);have q2:a / b<=a:=Int.ediv_le_self _ ha.1;have r1:=Int.emod_nonneg a (show b≠0 by omega);have r3:=Int.mul_ediv_add_emod a b;have hff:fits .i64 ((-a).tdiv b):=by rw[q0];simp only[GX.fits];omega
 refine zE Tryz.func309 I [(0,.int .i64 (-a)),(1,.int .i64 b)] (zh ?_);refine qB jRZ I I (fun w _=>jEv (-a) w (by omega)) (zh ?_);refine qB jRZ I I (fun w _=>jEv b w (by omega)) (zh ?_);refine QX 11 false I (by simp;omega) ?_
 by_cases h:a%b=0
 ·refine zh ?_;refine YX I I I (show b≠0 by omega) hff (zh ?_);refine YW I I I (show b≠0 by omega) (zh ?_);refine Qc 19 false I (by rw[r0,h];rfl) ?_;refine zh ?_;refine HR.ret Tryz.func309 I [_] (fun _ _=>⟨I,trivial⟩) ?_
  exact fun w' hw=>⟨by rw[jDC ha.1 hb.1,if_neg (by omega),<- q0];rfl,hw.jF⟩
 ·have hapos:0<a:=by
   rcases Int.lt_or_eq_of_le ha.1 with h1|h1
   ·exact h1
   ·rw [<- h1]at h;simp at h
  refine zh ?_;refine YX I I I (show b≠0 by omega) hff (zh ?_);refine YW I I I (show b≠0 by omega) (zh ?_);refine Qc 19 true I (by rw[r0];simp;omega) ?_;refine zh ?_;refine QX 25 true I (by rw[decide_eq_true (show -a<0 by omega),decide_eq_false (show ¬b<0 by omega)];rfl) ?_;refine zh ?_;refine HR.ret Tryz.func309 I [_] (fun _ _=>⟨I,trivial⟩) ?_
  exact fun w' hw=>⟨by rw[jDC ha.1 hb.1,if_pos h,<- q0];rfl,hw.jF⟩
theorem jMW (a b:Int) (w:World) (ha:0<=a/\a<=1000000) (hb:0<b/\b<=1000000):Calls Tryz.prog 282 #[.int .i64 a,.int .i64 b] w fun e w'=>e= .returned (.int .i64 (cdiv a b))/\Below w.heap.size w w':=by
 have q1:0<=a / b:=Int.ediv_nonneg ha.1 (by omega);have q2:a / b<=a:=Int.ediv_le_self _ ha.1;have hc:=jDC ha.1 hb.1;have hb1:-1000001<=(-a) / b/\(-a) / b<=0:=by rw[hc];split<;>omega
 refine zE Tryz.func282 I [(0,.int .i64 a),(1,.int .i64 b)] ?_
 repeat' (first|refine zh ?_|refine qB jRZ I I (fun w _=>jEv a w (by omega)) ?_|refine qB fn309 I I (fun w _=>jKm a b w ha hb) ?_|fail)
 exact zR Tryz.func282
theorem jKe (n:Int) (w:World) (hn:0<=n/\n<=16):Calls Tryz.prog 201 #[.int .i64 n] w fun e w'=>e= .returned (.int .i64 (2 ^ n.toNat))/\Below w.heap.size w w':=by
 obtain ⟨m,rfl⟩:∃m:Nat,n=m:=⟨n.toNat,by omega⟩;refine zE Tryz.func201 I [(0,.int .i64 (m:Int))] (zh ?_);refine HR.loop (ι:=Nat) (fun k=>k<=m) (fun k=>[(0,.int .i64 (m:Int)),(3,.int .i64 ((2 ^ k:Nat):Int)),(4,.int .i64 (k:Int))]) (fun _=>[]) (fun k=>m-k) 0 (Nat.zero_le _) ⟨I,I,I,trivial⟩ Ent.refl ?_;intro k hk ih;have h2:2 ^ k<=2 ^ 16:=Nat.pow_le_pow_right (by decide) (by omega);have h16:2 ^ 16=65536:=by decide
 rw[h16]at h2;obtain ⟨p,hpe⟩:∃p,p=2 ^ k:=⟨_,rfl⟩;rw[<- hpe]at h2 ⊢;refine zh ?_;refine HR.cond I (fun h=>?_) (fun h=>?_)
 ·have hlt:k<m:=by have:=of_decide_eq_true h;omega
  refine zh ?_;refine QC 3 (v':= .int .i64 ((2 ^ (k+1):Nat):Int)) I (show Value.int .i64 (2*(p:Int))=_ by rw[Nat.pow_succ,<- hpe];congr 1;omega) ?_;exact ih (k+1) _ _ hlt (by omega) ⟨I,I,I,trivial⟩ Ent.refl
 ·have hke:k=m:=by have:=of_decide_eq_false h;omega
  subst hke;refine zh ?_;refine HR.ret Tryz.func201 I [_] (fun _ _=>⟨I,trivial⟩) ?_;refine fun w' hw=>⟨?_,hw.jF⟩
  rw[hpe];simp only[ZJ,Int.toNat_natCast,Int.natCast_pow];rfl
theorem jBq (l:List Li) (v:Value) (w:World) (hv:Sl w v (cellsOf liC l) l.length) (hl:l.length<=1000):
  Calls Tryz.prog 144 #[v] w fun e w'=>e= .returned (.int .i64 (jAs l))/\Below w.heap.size w w':=by
 refine zE Tryz.func144 I [(0,v)] (zh ?_);refine qD (qA hv) I I I (zh ?_);refine HR.cond I (fun h=>?_) (fun h=>?_)
 ·have h:l.length>24:=by have:=of_decide_eq_true h;omega
  refine zh ?_;refine HR.ret Tryz.func144 I [_] (fun _ _=>⟨I,trivial⟩) ?_
  exact fun w' hw=>⟨by rw[jAs,if_pos h];rfl,hw.jF⟩
 have h:l.length<=24:=by have:=of_decide_eq_false h;omega
 refine zh ?_;refine HR.loop (ι:=Nat) (fun k=>k<=l.length/\jf (jH8 l) k=0) (fun k=>[(0,v),(3,.int .i64 (k:Int))]) (fun _=>[]) (fun k=>l.length-k) 0 ⟨Nat.zero_le _,rfl⟩ ⟨I,I,trivial⟩ Ent.refl ?_
 rintro k ⟨hk,hg⟩ ih
 refine zh ?_;refine qD (qA hv) I I I (zh ?_);refine HR.cond I (fun h2=>?_) (fun h2=>?_)
 ·have hlt:k<l.length:=by have:=of_decide_eq_true h2;omega
  obtain ⟨x,hx⟩:=jG hlt
  repeat' (first|refine zh ?_|refine qE (qA hv) JG k I I I I hlt ?_|refine qN (qA hv) I I I I (by simp) I (jD jd hx) ?_|intro (bk:Nat))
  refine qK j3 (by kernel_rfl) ?_
  repeat' (first|refine zq ?_|refine qz fn201 I I (fun w _=>jKe x.ct w (by omega)) ?_|apply zb ?_ ?_|exact zc|(refine zi fun hb=>?_;try simp at hb)|fail)
  refine HR.cond I (fun h3=>?_) (fun h3=>?_)
  ·have h3:zD x=true:=h3;refine zh ?_;refine HR.ret Tryz.func144 I [_] (fun _ _=>⟨I,trivial⟩) ?_;refine fun w' hw=>⟨?_,hw.jF⟩
   have e:=jEP hx h3;rw[jFH h hg (by rw[e];decide) hlt,e];rfl
  have h3:zD x=false:=h3;obtain ⟨y,hy⟩:=jG (l:=l) (j:=k-1) (by omega);refine zh ?_;refine qK j3 (by kernel_rfl) ?_
  repeat' (first|refine zq ?_|refine qW (qA hv) JG (k-1) I I I (by omega) (by omega) ?_|refine QE (qA hv) (by rw[jA jd];omega) I I I I I I ?_|refine qj (qA hv) I I I I (jJ jd hy (i:=0) I) ?_|apply zb ?_ ?_|exact zc|(refine zi fun hb=>?_;try simp at hb)|fail)
  refine HR.cond I (fun h4=>?_) (fun h4=>?_)
  ·have h4:(decide ((k:Int)>0)&&decide (y.nd>=x.nd))=true:=h4;simp only[Bool.and_eq_true,decide_eq_true_eq]at h4;refine zh ?_;refine HR.ret Tryz.func144 I [_] (fun _ _=>⟨I,trivial⟩) ?_;refine fun w' hw=>⟨?_,hw.jF⟩
   have e:=jEQ hx h3 (by omega) hy h4.2;rw[jFH h hg (by rw[e];decide) hlt,e];rfl
  ·have h4:(decide ((k:Int)>0)&&decide (y.nd>=x.nd))=false:=h4;refine zh ?_;refine ih (k+1) _ _ ⟨hlt,Jo hg (jNQ hx h3 fun y' h0 hy' hle=>?_)⟩ (by omega) ⟨I,I,trivial⟩ (Ent.pick [] I I);rw[hy]at hy';cases hy';rw[decide_eq_true (show (k:Int)>0 by omega),decide_eq_true (show y.nd>=x.nd from hle)]at h4;cases h4
 ·have hke:k=l.length:=by have:=of_decide_eq_false h2;omega
  subst hke;refine zh ?_;refine HR.ret Tryz.func144 I [_] (fun _ _=>⟨I,trivial⟩) ?_
  exact fun w' hw=>⟨by rw[jAs,if_neg (by omega),hg];rfl,hw.jF⟩
theorem Ke (l:List Li) (v:Value) (w:World) (hv:Sl w v (cellsOf liC l) l.length) (hl:l.length<=1000):
  Calls Tryz.prog 244 #[v] w fun e w'=>∃v',e= .returned v'/\Sat (base w) [jM v' 162 3 (lval l).length (cellsOf liC (lval l))] w':=by
 refine zE Tryz.func244 I [(0,v)] (zh ?_);refine qB jTG I I (fun w hw=>jBq l v w ((qA hv).at hw) hl) (zh ?_);refine HR.cond I (fun h=>?_) (fun h=>?_)
 ·have h:¬jAs l=0:=by simpa using h
  refine zh ?_;refine HR.J6 162 3 (HR.ret Tryz.func244 I [_] (fun _ _=>⟨I,trivial⟩) ?_)
  exact fun w' hw=>⟨.slice none 0 0,rfl,by rw[lval,if_neg h];exact hw⟩
 ·have h:jAs l=0:=by simpa using h
  have h24:=(KC h).1;refine zh ?_;refine qh JG I ?_;intro v1;refine zh ?_;refine qJ 0 I JG (qA hv) I I I (jA jd _) (jR jBc _) (by omega) (by omega) ?_;intro v2;refine zh ?_;refine HR.ret Tryz.func244 I [_] (fun _ _=>⟨I,trivial⟩) ?_;refine fun w' hw=>⟨v2,rfl,qC ?_ ?_ w' hw⟩
  ·rw [lval,if_pos h];omega
  ·rw [lval,if_pos h];rfl
def jB8 (l:List Li) (n:Int):Li:=(lat l n).getD ⟨0,0,0⟩
theorem jGB (l:List Li) (n:Int) (v:Value) (w:World) (hv:Sl w v (cellsOf liC l) l.length) (hl:l.length<=1000):
  Calls Tryz.prog 245 #[v,.int .i64 n] w fun e w'=>e= .returned (.tuple ⟨[.agg ⟨liC (jB8 (lval l) n)⟩,.bool (lat (lval l) n).isSome]⟩)/\Below w.heap.size w w':=by
 have hlen:=Zw l;refine zE Tryz.func245 I [(0,v),(1,.int .i64 n)] (zh ?_);intro (bk:Nat);refine zh ?_;refine qI jRe I I (fun w hw=>Ke l v w ((qA hv).at hw) hl) ?_;intro v1;refine zh ?_;obtain ⟨L,hL⟩:∃L,L=lval l:=⟨_,rfl⟩;rw[<- hL]at hlen ⊢;refine HR.loop (ι:=Nat) (fun k=>k<=L.length/\∀j a,j<k->L[j]? =some a->(a.nd==n)=false) (fun k=>[(1,.int .i64 n),(4,.pointer (some ⟨bk,0,none⟩)),(6,v1),(7,.int .i64 (k:Int))]) (fun _=>[jM v1 162 3 L.length (cellsOf liC L),jS bk (liC ⟨0,0,0⟩) 162]) (fun k=>L.length-k) 0 ⟨Nat.zero_le _,fun j a hj=>by omega⟩ ⟨I,I,I,I,trivial⟩ Ent.refl ?_
 rintro k ⟨hk,hg⟩ ih
 refine zh ?_;refine qD (Rd.own 0 I) I I I (zh ?_);refine HR.cond I (fun h2=>?_) (fun h2=>?_)
 ·have hlt:k<L.length:=by have:=of_decide_eq_true h2;omega
  obtain ⟨x,hx⟩:=jG hlt;refine zh ?_;refine qE (Rd.own 0 I) JG k I I I I hlt ?_;refine qY (Rd.own 0 I) (by rw[jA jd];omega) I I I I I I ?_;refine qF (Rd.own 0 I) I I I I (jJ jd hx (i:=0) I) (zh ?_);refine HR.cond I (fun h3=>?_) (fun h3=>?_)
  ·have h3:(x.nd==n)=true:=h3;have hf:lat L n=some x:=ZV hx h3 hg;refine zh ?_;refine qE (Rd.own 0 I) JG k I I I I hlt ?_;refine qN (Rd.own 0 I) I I I I (by simp) I (jD jd hx) (zh ?_);refine HR.ret Tryz.func245 I [_,_] (fun w hw=>⟨⟨_,rfl,jQ hw 1 I I I I rfl⟩,rfl,trivial⟩) ?_
   exact fun w' hw=>⟨by rw[jB8,hf];rfl,hw.jF⟩
  ·have h3:(x.nd==n)=false:=h3;refine zh ?_;refine ih (k+1) _ _ ⟨hlt,fun j a hj ha=>?_⟩ (by omega) ⟨I,I,I,I,trivial⟩ Ent.refl
   by_cases hjk:j=k
   ·subst hjk;rw[hx]at ha;cases ha;exact h3
   ·exact hg j a (by omega) ha
 ·have hke:k=L.length:=by have:=of_decide_eq_false h2;omega
  have hf:lat L n=none:=List.find?_eq_none.2 fun a ha=>by
   obtain ⟨j,hj⟩:=List.getElem?_of_mem ha;have:=hg j a (by rw[hke];exact (List.getElem?_eq_some_iff.1 hj).1) hj
   simp[this]
  refine zh ?_;refine HR.ret Tryz.func245 I [_,_] (fun w hw=>⟨⟨_,rfl,jQ hw 1 I I I I rfl⟩,rfl,trivial⟩) ?_
  exact fun w' hw=>⟨by rw[jB8,hf];rfl,hw.jF⟩
theorem jCr (x:Li) (w:World) (hb:0<=x.bi/\x.bi<65536):
  Calls Tryz.prog 281 #[.agg ⟨liC x⟩] w fun e w'=>e= .returned (.int .i64 (ones x.bi))/\Below w.heap.size w w':=by
 have hp:=jEB 64 x.bi.toNat;have hb64:x.bi.toNat<2 ^ 64:=by
  have:(2:Nat) ^ 64=18446744073709551616:=by decide
  omega
 refine zE Tryz.func281 I [(0,.agg ⟨liC x⟩)] (zh ?_);intro (bk:Nat);refine zh ?_;refine Qw (α:=Nat) (β:=Nat) (γ:=Nat) (fun a b f=>b<65536/\b<2 ^ f/\(a:Int)+pop f b=pop 64 x.bi.toNat) (fun a b f=>[(3,.int .i64 (a:Int)),(4,.int .i64 (b:Int))]) (fun _ _ _=>[]) (fun a b f=>b) 0 x.bi.toNat 64 ⟨by omega,hb64,by simp⟩ ⟨rfl,by show some _=some _;congr 2;omega,trivial⟩ (Ent.pick [] I I) ?_
 rintro a b f ⟨hb5,hbf,hab⟩ ih
 have hpf:=jEB f b;refine zh ?_;refine HR.cond I (fun h2=>?_) (fun h2=>?_)
 ·have hb0:0<b:=by have:=of_decide_eq_true h2;omega
  obtain ⟨f',rfl,hb',hps⟩:=jJq hb0 hbf;refine zh ?_;refine ih (a+b%2) (b / 2) f' _ _ ⟨by omega,hb',?_⟩ (by omega) ⟨I,I,trivial⟩ Ent.refl;rw[<- hab,hps];omega
 ·have hb0:b=0:=by have:=of_decide_eq_false h2;omega
  subst hb0;rw[jJp]at hab;refine zh ?_;refine HR.ret Tryz.func281 I [_] (fun _ _=>⟨I,trivial⟩) ?_;refine fun w' hw=>⟨?_,hw.jF⟩
  simp only[ones,<- hab,Int.add_zero];rfl
theorem jA1 (l:List Li) (n:Int) (v:Value) (w:World) (hv:Sl w v (cellsOf liC l) l.length) (hl:l.length<=1000):
  Calls Tryz.prog 194 #[v,.int .i64 n] w fun e w'=>∃v',e= .returned v'/\Sat (base w) [jM v' 162 3 (JE l n).length (cellsOf liC (JE l n))] w':=by
 have hlen:=Zw l;refine zE Tryz.func194 I [(0,v),(1,.int .i64 n)] (zh ?_);refine qI jRe I I (fun w hw=>Ke l v w ((qA hv).at hw) hl) ?_;intro v1;refine zh ?_;have hfe:JE l n=(lval l).filter (fun x=>!(x.nd==n)):=rfl;rw[hfe];obtain ⟨L,hL⟩:∃L,L=lval l:=⟨_,rfl⟩;rw[<- hL]at hlen ⊢;clear hfe;refine HR.J6 162 3 (qd (α:=Nat) (β:=Value) (fun k o=>k<=L.length) (fun k o=>[(1,.int .i64 n),(5,v1),(6,o),(7,.int .i64 (k:Int))]) (fun k o=>[jM o 162 3 ((L.take k).filter (fun x=>!(x.nd==n))).length (cellsOf liC ((L.take k).filter (fun x=>!(x.nd==n)))),jM v1 162 3 L.length (cellsOf liC L)]) (fun k _=>L.length-k) 0 (.slice none 0 0) (Nat.zero_le _) ⟨I,I,I,I,trivial⟩ Ent.refl ?_);intro k o hk ih;refine zh ?_;refine qD (Rd.own 1 I) I I I (zh ?_);refine HR.cond I (fun h2=>?_) (fun h2=>?_)
 ·have hlt:k<L.length:=by have:=of_decide_eq_true h2;omega
  obtain ⟨x,hx⟩:=jG hlt;have hfl:((L.take k).filter (fun x=>!(x.nd==n))).length<=24:=Nat.le_trans (List.length_filter_le _ _) (by simp;omega);refine zh ?_;refine qE (Rd.own 1 I) JG k I I I I hlt ?_;refine qY (Rd.own 1 I) (by rw[jA jd];omega) I I I I I I ?_;refine qF (Rd.own 1 I) I I I I (jJ jd hx (i:=0) I) (zh ?_);refine HR.cond I (fun h3=>?_) (fun h3=>?_)
  ·have h3:(x.nd != n)=true:=h3;refine zh ?_;refine qE (Rd.own 1 I) JG k I I I I hlt ?_;refine qN (Rd.own 1 I) I I I I (by simp) I (jD jd hx) ?_;refine qH JG I I I I I (by decide) (by decide) ?_;intro va;refine qJ 1 I JG (Rd.own 0 I) I I I I (jH I) (by omega) (by omega) ?_;intro o2;refine zh ?_;refine ih (k+1) o2 _ _ hlt (by omega) ⟨I,I,I,I,trivial⟩ (Ent.trans (Ent.pick [1,2] I I) (qC ?_ ?_))
   ·rw [jE hx,List.filter_append,List.filter_cons_of_pos (by simpa[bne]using h3)];simp
   ·rw [jE hx,List.filter_append,List.filter_cons_of_pos (by simpa[bne]using h3),jL];rfl
  ·have h3:(x.nd != n)=false:=h3;refine zh ?_;refine ih (k+1) o _ _ hlt (by omega) ⟨I,I,I,I,trivial⟩ (qC ?_ ?_)
   ·rw [jE hx,List.filter_append,List.filter_cons_of_neg (by simpa[bne]using h3)];simp
   ·rw [jE hx,List.filter_append,List.filter_cons_of_neg (by simpa[bne]using h3)];simp
 ·have hke:k=L.length:=by have:=of_decide_eq_false h2;omega
  subst hke;rw[List.take_length];refine zh ?_;refine HR.ret Tryz.func194 I [_] (fun _ _=>⟨I,trivial⟩) ?_
  exact fun w' hw=>⟨o,rfl,hw.pick [0] I rfl⟩
theorem jHr (l:List Li) (n:Int) (v:Value) (w:World) (hv:Sl w v (cellsOf liC l) l.length) (hl:l.length<=1000):
  Calls Tryz.prog 240 #[v,.int .i64 n] w fun e w'=>e= .returned (.int .i64 (kM l n))/\Below w.heap.size w w':=by
 have hs:0<=(jB8 (lval l) n).bi/\(jB8 (lval l) n).bi<65536/\0<=(jB8 (lval l) n).ct/\(jB8 (lval l) n).ct<=16:=by
  unfold jB8;cases hf:lat (lval l) n with
  |none=>simp
  |some x=>
   have hr:=kL (jA3 (jFJ hf).1);exact ⟨hr.2.2.2.2.1,hr.2.2.2.2.2,hr.2.2.1,hr.2.2.2.1⟩
 have ho:=jM0 (jB8 (lval l) n).bi;refine zE Tryz.func240 I [(0,v),(1,.int .i64 n)] ?_
 repeat' (first|refine zh ?_|refine qB jSo I I (fun w hw=>jGB l n v w ((qA hv).at hw) hl) ?_|refine qB jSk I I (fun w _=>jCr _ w ⟨hs.1,hs.2.1⟩) ?_|apply zb ?_ ?_|exact zc|(refine zi fun hb=>?_;try simp at hb)|intro (bk:Nat))
 refine HR.cond I (fun h=>?_) (fun h=>?_)
 ·have h:(!(lat (lval l) n).isSome||(ones (jB8 (lval l) n).bi==0))=true:=h;refine zh ?_;refine HR.ret Tryz.func240 I [_] (fun _ _=>⟨I,trivial⟩) ?_;refine fun w' hw=>⟨?_,hw.jF⟩
  have:kM l n=255:=by
   unfold kM;unfold jB8 at h
   revert h
   cases lat (lval l) n<;>simp
   intro h;simp[h]
  rw[this];rfl
 ·have h:(!(lat (lval l) n).isSome||(ones (jB8 (lval l) n).bi==0))=false:=h;have hc:kM l n=cdiv (10*(jB8 (lval l) n).ct) (ones (jB8 (lval l) n).bi)/\ones (jB8 (lval l) n).bi≠0:=by
   unfold kM;unfold jB8 at h ⊢
   revert h
   cases lat (lval l) n<;>simp
   intro h;simp[h]
  repeat' (first|refine zh ?_|fail)
  refine qO [(0,true),(1,true),(2,true),(3,true),(4,false),(5,false),(6,true)] [0] I I j3 (by kernel_rfl) ?_
  repeat' (first|refine QM I I I ?_|refine QK I I I (by first|omega|(simp;done)|(simp;omega)) ?_|refine Qo 0 I I I I I ?_|(refine HD.one I ?_;first|refine QT I I ?_|refine qB jSk I I (fun w _=>jCr _ w ⟨hs.1,hs.2.1⟩) ?_|refine qB fn282 I I (fun w _=>jMW _ _ w (by omega) (by omega)) ?_|(refine qm ?_;first|refine qZ 0 I I I I ?_|refine qZ 1 I I I I ?_|refine qZ 2 I I I I ?_|refine qZ 3 I I I I ?_)|(refine qb ?_;first|refine qV 0 I I I I I ?_|refine qV 1 I I I I I ?_|refine qV 2 I I I I I ?_|refine qV 3 I I I I I ?_)|(refine HL.alloc I I ?_;intro bk))|refine HL.back [0] rfl rfl ?_|refine HD.nil ?_|fail)
  refine HR.ret Tryz.func240 I [_] (fun _ _=>⟨I,trivial⟩) ?_
  exact fun w' hw=>⟨by rw[hc.1];rfl,hw.jF⟩
theorem jLE {l:List Li} {n:Int} {ok:Bool} {k:Nat} (hr:¬(n<0\/n>250)) (hf:¬(lat (lval l) n=none/\(lval l).length=24)) (hk:k<=(JE l n).length) (h1:∀j a,j<k->(JE l n)[j]? =some a->a.nd<n) (h2:∀a,(JE l n)[k]? =some a->n<=a.nd):
  JD l n ok=(JE l n).take k++⟨n,(2*(jB8 (lval l) n).bi+(if ok then 1 else 0))%65536,min ((jB8 (lval l) n).ct+1) 16⟩::(JE l n).drop k:=by
 have key:=jNK (l:=l) (rest:=JE l n) (n:=n) (ok:=ok) (k:=k) (x:=(lat (lval l) n).getD ⟨n,0,0⟩) hr I I hf hk h1 h2;rw[key]
 congr 2
 unfold jNJ jB8;cases hx:lat (lval l) n with
 |none=>rfl
 |some x=>rw[<- (jFJ hx).2];rfl
theorem jCs (l:List Li) (n:Int) (ok:Bool) (v:Value) (w:World) (hv:Sl w v (cellsOf liC l) l.length) (hl:l.length<=1000):
  Calls Tryz.prog 193 #[v,.int .i64 n,.bool ok] w fun e w'=>∃v',e= .returned v'/\Sat (base w) [jM v' 162 3 (JD l n ok).length (cellsOf liC (JD l n ok))] w':=by
 have hlen:=Zw l;have hz:0<=(jB8 (lval l) n).bi/\(jB8 (lval l) n).bi<65536/\0<=(jB8 (lval l) n).ct/\(jB8 (lval l) n).ct<=16:=by
  unfold jB8;cases hf:lat (lval l) n with
  |none=>simp
  |some x=>
   have hr:=kL (jA3 (jFJ hf).1);exact ⟨hr.2.2.2.2.1,hr.2.2.2.2.2,hr.2.2.1,hr.2.2.2.1⟩
 refine zE Tryz.func193 I [(0,v),(1,.int .i64 n),(2,.bool ok)] (zh ?_);refine qI jRe I I (fun w hw=>Ke l v w ((qA hv).at hw) hl) ?_;intro v1
 repeat' (first|refine zh ?_|refine qB jSo I I (fun w hw=>by have:=jGB (lval l) n v1 w ((Rd.own 0 rfl).at hw) (by omega);rw[jJ5]at this;exact this) ?_|intro (bk:Nat))
 obtain ⟨Z,hZ⟩:∃Z,Z=jB8 (lval l) n:=⟨_,rfl⟩;rw[<- hZ]at hz ⊢
 repeat' (first|refine zh ?_|refine qD (Rd.own 1 I) I I I ?_|apply zb ?_ ?_|exact zc|(refine zi fun hb=>?_;try simp at hb)|fail)
 refine HR.cond I (fun h=>?_) (fun h=>?_)
 ·have h:((decide (n<0)||decide (n>250))||(!(lat (lval l) n).isSome&&decide (((lval l).length:Int)>=24)))=true:=h;refine zh ?_;refine HR.ret Tryz.func193 I [_] (fun _ _=>⟨I,trivial⟩) ?_;refine fun w' hw=>⟨v1,rfl,?_⟩
  have:JD l n ok=lval l:=by
   by_cases hr:n<0\/n>250
   ·exact jGb hr
   ·have e:(decide (n<0)||decide (n>250))=false:=by simp;omega
    rw[e,Bool.false_or,Bool.and_eq_true,decide_eq_true_eq]at h;exact jEK hr (by simpa using h.1) (by omega)
  rw[this];exact hw.pick [1] I I
 have h:((decide (n<0)||decide (n>250))||(!(lat (lval l) n).isSome&&decide (((lval l).length:Int)>=24)))=false:=h;rw[Bool.or_eq_false_iff]at h;have hr:¬(n<0\/n>250):=by have:=h.1;simp only[Bool.or_eq_false_iff,decide_eq_false_iff_not]at this;omega
 have hfull:¬(lat (lval l) n=none/\(lval l).length=24):=by
  rintro ⟨e1,e2⟩
  have:=h.2;rw[e1,e2]at this
  simp at this
 have hbit:0<=(if ok then (1:Int)else 0)/\(if ok then (1:Int)else 0)<=1:=by cases ok<;>simp
 repeat' (first|refine zh ?_|fail)
 refine HR.join (ι:=Unit) (fun _=>True) (fun _=>[(1,.int .i64 n),(7,v1),(8,.pointer (some ⟨bk,0,none⟩)),(10,.int .i64 (if ok then 1 else 0))]) (fun _=>[jS bk (liC Z) 162,jM v1 162 3 (lval l).length (cellsOf liC (lval l))]) ?_ (fun hj2=>?_)
 rotate_left
 ·refine HR.cond I (fun h3=>?_) (fun h3=>?_)
  ·subst h3;refine HR.region ?_
   repeat' (first|refine zn ?_|fail)
   exact hj2 () _ _ trivial ⟨I,I,I,I,trivial⟩ Ent.refl
  ·subst h3;refine HR.skip ?_;exact hj2 () _ _ trivial ⟨I,I,I,I,trivial⟩ Ent.refl
 intro _ _;obtain ⟨bit,hbe⟩:∃bit,bit=(if ok then (1:Int)else 0):=⟨_,rfl⟩;rw[<- hbe]at hbit ⊢;have key:=fun k=>jLE (l:=l) (n:=n) (ok:=ok) (k:=k) hr hfull
 rw[<- hbe,<- hZ]at key;have hcb:0<=Z.ct+1/\Z.ct+1<=17:=by omega
 repeat' (first|refine zh ?_|fail)
 refine HR.join (ι:=Unit) (fun _=>True) (fun _=>[(1,.int .i64 n),(7,v1),(8,.pointer (some ⟨bk,0,none⟩))]) (fun _=>[jS bk (liC ⟨n,(2*Z.bi+bit)%65536,min (Z.ct+1) 16⟩) 162,jM v1 162 3 (lval l).length (cellsOf liC (lval l))]) ?_ (fun hj2=>?_)
 rotate_left
 ·refine HR.cond I (fun h3=>?_) (fun h3=>?_)
  ·have h3:Z.ct+1>16:=of_decide_eq_true h3;refine HR.region ?_
   repeat' (first|refine zn ?_|fail)
   exact hj2 () _ _ trivial ⟨I,I,I,trivial⟩ (by rw[show min (Z.ct+1) 16=16 by omega];exact Ent.refl)
  ·have h3:¬Z.ct+1>16:=of_decide_eq_false h3;refine HR.skip ?_;exact hj2 () _ _ trivial ⟨I,I,I,trivial⟩ (by rw[show min (Z.ct+1) 16=Z.ct+1 by omega];exact Ent.refl)
 intro _ _
 repeat' (first|refine zh ?_|fail)
 refine qI jS6 I I (fun w hw=>by have:=jA1 (lval l) n v1 w ((Rd.own 1 rfl).at hw) (by omega);rw[show JE (lval l) n=JE l n by unfold JE;rw[jJ5]]at this;exact this) ?_;intro v2;have hfl:(JE l n).length<=24:=Nat.le_trans (List.length_filter_le _ _) hlen;obtain ⟨X,hX⟩:∃X:Li,X=⟨n,(2*Z.bi+bit)%65536,min (Z.ct+1) 16⟩:=⟨_,rfl⟩;rw[<- hX]at key ⊢;obtain ⟨L,hL⟩:∃L,L=JE l n:=⟨_,rfl⟩;rw[<- hL]at key hfl ⊢
 repeat' (first|refine zh ?_|fail)
 refine HR.J6 162 3 (qd (α:=Nat) (β:=Value) (fun k o=>k<=L.length/\∀j a,j<k->L[j]? =some a->a.nd<n) (fun k o=>[(1,.int .i64 n),(8,.pointer (some ⟨bk,0,none⟩)),(11,o),(12,v2),(13,.int .i64 (k:Int))]) (fun k o=>[jM o 162 3 (L.take k).length (cellsOf liC (L.take k)),jM v2 162 3 L.length (cellsOf liC L),jS bk (liC X) 162]) (fun k _=>L.length-k) 0 (.slice none 0 0) ⟨Nat.zero_le _,fun j a hj=>by omega⟩ ⟨I,I,I,I,I,trivial⟩ (Ent.pick [0,1,2] I I) ?_)
 rintro k o ⟨hk,hg⟩ ih
 have htl:(L.take k).length=k:=by simp;omega
 repeat' (first|refine zh ?_|refine qD (Rd.own 1 I) I I I ?_|refine qE (Rd.own 1 I) JG k I I I I (by omega) ?_|refine qY (Rd.own 1 I) (by rw[jA jd];omega) I I I I I I ?_|refine qF (Rd.own 1 I) I I I I (jJ jd (Jb (by omega) li0) (i:=0) I) ?_|apply zb ?_ ?_|exact zc|(refine zi fun hb=>?_;try simp at hb)|fail)
 refine HR.cond I (fun h2=>?_) (fun h2=>?_)
 ·have h2:(decide ((k:Int)<L.length)&&decide ((L.getD k li0).nd<n))=true:=h2;simp only[Bool.and_eq_true,decide_eq_true_eq]at h2;have hlt:k<L.length:=by omega
  have hx:L[k]? =some (L.getD k li0):=Jb hlt li0
  repeat' (first|refine zh ?_|refine qE (Rd.own 1 I) JG k I I I I hlt ?_|refine qN (Rd.own 1 I) I I I I (by simp) I (jD jd hx) ?_|refine qH JG I I I I I (by decide) (by decide) ?_|fail)
  intro va
  repeat' (first|refine qJ 1 I JG (Rd.own 0 I) I I I I (jH I) (by omega) (by omega) ?_|fail)
  intro o2
  repeat' (first|refine zh ?_|fail)
  refine ih (k+1) o2 _ _ ⟨hlt,fun j a hj ha=>?_⟩ (by omega) ⟨I,I,I,I,I,trivial⟩ (Ent.trans (Ent.pick [1,2,3] I I) (qC ?_ ?_))
  ·by_cases hjk:j=k
   ·subst hjk;rw[hx]at ha;cases ha;exact h2.2
   ·exact hg j a (by omega) ha
  ·rw [jE hx];simp
  ·rw [jE hx,jL];rfl
 ·have h2:(decide ((k:Int)<L.length)&&decide ((L.getD k li0).nd<n))=false:=h2;have hs:=key k hk hg fun a ha=>by
   have hlt:=(List.getElem?_eq_some_iff.1 ha).1;rw[Jb hlt li0]at ha;cases ha;rw[decide_eq_true (show (k:Int)<L.length by omega),Bool.true_and,decide_eq_false_iff_not]at h2;omega
  repeat' (first|refine zh ?_|refine qH JG I I I I I (by decide) (by decide) ?_|fail)
  intro va
  repeat' (first|refine qJ 1 I JG (Rd.own 0 I) I I I I (jH I) (by omega) (by omega) ?_|fail)
  intro o2;rw[htl]
  repeat' (first|refine zh ?_|refine qD (Rd.own 1 I) I I I ?_|refine qX (sz:=3) k L.length (Rd.own 2 I) I I I I (.inr ⟨_,_,_,rfl,rfl,by omega⟩) (.inl ⟨rfl,rfl⟩) hk (Nat.le_refl _) ?_|refine qJ 1 I JG (Rd.sub (sz:=3) (Rd.own 2 I) (jA jd _) hk (Nat.le_refl _)) I I I (by rw[List.length_take,List.length_drop,jA jd];omega) (fun u hu=>jR jBc _ u (List.mem_of_mem_drop (List.mem_of_mem_take hu))) (by omega) (by omega) ?_|fail)
  intro o3
  repeat' (first|refine zh ?_|fail)
  refine HR.ret Tryz.func193 I [_] (fun _ _=>⟨I,trivial⟩) ?_;refine fun w' hw=>⟨o3,rfl,qC ?_ ?_ w' (hw.pick [1] I rfl)⟩
  ·rw [hs];simp;omega
  ·have e9:((cellsOf liC L).drop (k*3)).take ((L.length-k)*3)=cellsOf liC (L.drop k):=by
    rw[jo jd];exact List.take_of_length_le (by rw[jA jd,List.length_drop];exact Nat.le_refl _)
   rw[hs,e9,jL,List.append_assoc]
   congr 1
end Go.Proofs.YtgfdoognildoeaaGreat
