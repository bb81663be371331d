/- Part of a proof. Conditions: none. -/
import Derived.Test.YtgfdoognildoeaaGreatSB1
set_option linter.unusedVariables false
set_option linter.unusedSectionVars false
set_option linter.unusedSimpArgs false
set_option maxRecDepth 100000
set_option maxHeartbeats 4000000
namespace Go.GX
open Go.RowKit
section
variable {K : Type} [DecidableEq K]
def kU (k:K) (v:Value):List (K×Value)->List (K×Value)
 |[]=>[(k,v)]
 |(a,u)::m=>if k=a then (a,v)::m else (a,u)::kU k v m
def jLs (k:K):List (K×Value)->List (K×Value)
 |[]=>[]
 |(a,u)::m=>if k=a then m else (a,u)::jLs k m
theorem kN (k:K):∀(m:List (K×Value)) (i:Nat),jB9 k m i=(jB9 k m 0).map (fun p=>(p.1+i,p.2))
 |[],i=>rfl
 |(a,v)::m,i=>by
  unfold jB9
  split
  ·simp
  ·rw [kN k m (i+1),kN k m (0+1)];cases jB9 k m 0 with
   |none=>rfl
   |some p=>simp;omega
theorem jFj {k:K} {v:Value}:∀ {m:List (K×Value)},jB9 k m 0=none->kU k v m=m++[(k,v)]
 |[],_=>rfl
 |(a,u)::m,h=>by
  unfold jB9 at h
  split at h
  ·cases h
  ·rename_i hk
   rw[kN]at h;have h':jB9 k m 0=none:=by cases hx:jB9 k m 0 with
    |none=>rfl
    |some p=>rw[hx]at h;cases h
   unfold kU;rw[if_neg hk,jFj h'];rfl
theorem jFh {k:K} {v:Value}:∀ {m:List (K×Value)} {i:Nat} {u:Value},jB9 k m 0=some (i,u)->kU k v m=m.modify i (fun p=>(p.1,v))/\m[i]? =some (k,u)
 |[],i,u,h=>by cases h
 |(a,w)::m,i,u,h=>by
  unfold jB9 at h
  split at h
  ·rename_i hk
   cases h;subst hk;exact ⟨by unfold kU;rw[if_pos rfl];rfl,rfl⟩
  ·rename_i hk
   rw[kN]at h;cases hx:jB9 k m 0 with
   |none=>rw[hx]at h;cases h
   |some p=>
    rw[hx]at h;obtain ⟨j,u'⟩:=p;simp only[Option.map_some,Option.some.injEq,Prod.mk.injEq]at h;obtain ⟨rfl,rfl⟩:=h;obtain ⟨h1,h2⟩:=jFh (v:=v) hx;refine ⟨?_,by simpa using h2⟩;unfold kU;rw[if_neg hk,h1];rfl
end
section
variable {K : Type} [DecidableEq K] {P : Program} {t kt et : TypeId} {enc : K -> Value} {w : World} {b : Nat} {m : List (K × Value)}
theorem jBx {k:K}:∀ {m:List (K×Value)},jB9 k m 0=none->∀p∈m,p.1≠k
 |[],_,p,hp=>by cases hp
 |(a,u)::m,h,p,hp=>by
  unfold jB9 at h
  split at h
  ·cases h
  ·rename_i hk
   rw[kN]at h;have h':jB9 k m 0=none:=by cases hx:jB9 k m 0 with
    |none=>rfl
    |some q=>rw[hx]at h;cases h
   rcases List.mem_cons.1 hp with rfl|hp
   ·exact fun e=>hk e.symm
   ·exact jBx h' p hp
theorem jHa (hK:KeyK P kt enc) (hm:P.underlying t=some (.map kt et)) (h:MapAt enc w b m) (k:K) (v:Value):
  ∃w',(Instr.mapUpdate t (.map (some b)) (enc k) v).run P w= .ok () w'/\MapAt enc w' b (kU k v m)/\w.grownBy w' (some b)/\w'.heap.size=w.heap.size:=by
 obtain ⟨es,clock,h1,h2,h3⟩:=h;have hf:=hK.find k m es.toList w h2;have grown:∀o,w.grownBy { w with heap:=w.heap.setIfInBounds b o } (some b):=fun o=>⟨rfl,rfl,rfl,by simp,fun r hr hne=>(MapKept.heap_set h1).2 r (fun e=>hne (by rw[e]))⟩
 cases hx:jB9 k m 0 with
 |none=>
  rw[hx]at hf;refine ⟨{ w with heap:=w.heap.setIfInBounds b (.map (es.push { key:=enc k,val:=v,born:=clock }) (clock+1)) },?_,⟨_,_,(MapKept.heap_set h1).1,?_,MapKept.stamped_push h3 ?_⟩,grown _,by simp⟩
  ·simp [Instr.mapUpdate,run_underlying hm,MapKept.run_getObj_map h1,hK.check,hf,MapKept.run_setObj_map _ h1,Result.andThen]
  ·rw [jFj hx];simp[h2]
  ·intro x hx' e;have hmem:(x.key,x.val)∈es.toList.map (fun e=>(e.key,e.val)):=List.mem_map.2 ⟨x,hx',rfl⟩;rw[h2]at hmem;obtain ⟨p,hp,he⟩:=List.mem_map.1 hmem;simp only[Prod.mk.injEq]at he;exact jBx hx p hp (hK.inj _ _ (he.1.trans e))
 |some p=>
  obtain ⟨i,u⟩:=p;rw[hx]at hf;obtain ⟨g1,g2⟩:=jFh (v:=v) hx;have hi:(es.toList.map (fun e=>(e.key,e.val)))[i]? =some (enc k,u):=by rw[h2,List.getElem?_map,g2];rfl
  rw[List.getElem?_map]at hi;cases he:es.toList[i]? with
  |none=>rw[he]at hi;cases hi
  |some e0=>
   rw[he]at hi;simp only[Option.map_some,Option.some.injEq,Prod.mk.injEq]at hi;have hj:es[i]? =some e0:=by simpa using he
   refine ⟨{ w with heap:=w.heap.setIfInBounds b (.map (es.modify i fun e=>{ e with key:=enc k,val:=v }) clock) },?_,⟨_,_,(MapKept.heap_set h1).1,?_,MapKept.stamped_modify h3 _ _ (fun _ _=>rfl) (fun e' _ he'=>by rw[hj]at he';cases he';exact hi.1.symm)⟩,grown _,by simp⟩
   ·simp [Instr.mapUpdate,run_underlying hm,MapKept.run_getObj_map h1,hK.check,hf,hj,hi.1,hK.stays,MapKept.run_setObj_map _ h1,Result.andThen]
   ·rw [g1]
    apply List.ext_getElem?
    intro j;have h2j:(es.toList.map (fun e=>(e.key,e.val)))[j]? =(m.map (fun p=>(enc p.1,p.2)))[j]? :=by rw[h2]
    simp only[List.getElem?_map,Array.getElem?_toList,Array.getElem?_modify,List.getElem?_modify]at h2j ⊢
    by_cases hij:i=j
    ·subst hij;rw[hj,g2];simp
    ·simp only[hij,if_false]
     simpa using h2j
end
section
variable {K : Type} [DecidableEq K] {P : Program} {t kt et : TypeId} {enc : K -> Value} {w : World} {b : Nat} {m : List (K × Value)} {z v : Value}
 {N:Nat} {σ:Store} {ops l:List Oper} {KK:Act->World->Prop} {d:Nat} {ty:TypeId} {pos:String} {af:Array Edge} {gd:Option (Nat×Bool)}
theorem YN (enc:K->Value) (hs:stat N ops ⟨some d,.makeMap t none,ty,pos,af,gd⟩ σ=true)
  (h:∀w',MapAt enc w' w.heap.size []->Below w.heap.size w w'->JH P N ops l ((d,.map (some w.heap.size))::σ) w' KK):JH P N ops (⟨some d,.makeMap t none,ty,pos,af,gd⟩::l) σ w KK:=by
 refine JH.op (w':=w.alloc (.map #[] 0)) hs ?_ (h _ ⟨#[],0,(MapKept.heap_alloc w _).1,rfl,MapKept.stamped_empty 0⟩ ((Below.refl _ _).alloc (Nat.le_refl _) _))
 simp[execOp,run_makeMap]
end
structure Chunk where
 foot:Nat->Prop
 p:World->Prop
 loc:∀w w':World,(∀ k,foot k->w'.heap[k]? =w.heap[k]?)->p w->p w'
 lt:∀w,p w->∀k,foot k->k<w.heap.size
structure Base where
 w:World
 X:Nat->Prop
def zm (B:Base) (w:World):List Chunk->Prop
 |[]=>True
 |c::H=>c.p w/\(∀ k,c.foot k->B.w.heap.size<=k\/B.X k)/\(∀ d∈H,∀k,c.foot k->¬d.foot k)/\zm B w H
structure Sat (B:Base) (H:List Chunk) (w:World):Prop where
 os:w.os=B.w.os
 tape:w.tape=B.w.tape
 output:w.output=B.w.output
 size:B.w.heap.size<=w.heap.size
 block:∀k,k<B.w.heap.size->¬B.X k->w.heap[k]? =B.w.heap[k]?
 all:zm B w H
abbrev base (w:World):Base:=⟨w,fun _=>False⟩
def zN (H:List Chunk) (k:Nat):Prop:=∃c∈H,c.foot k
theorem zm.mem {B:Base} {w:World}:∀ {H:List Chunk},zm B w H->∀c∈H,c.p w/\(∀ k,c.foot k->B.w.heap.size<=k\/B.X k)
 |[],_,c,hc=>by cases hc
 |d::H,h,c,hc=>by
  obtain ⟨h1,h2,h3,h4⟩:=h;rcases List.mem_cons.1 hc with rfl|hc
  ·exact ⟨h1,h2⟩
  ·exact zm.mem h4 c hc
theorem zm.grow {B:Base} {w w':World} (hg:∀k,k<w.heap.size->w'.heap[k]? =w.heap[k]?):∀ {H:List Chunk},zm B w H->zm B w' H
 |[],_=>trivial
 |c::H,h=>⟨c.loc w w' (fun k hk=>hg k (c.lt w h.1 k hk)) h.1,h.2.1,h.2.2.1,zm.grow hg h.2.2.2⟩
theorem Sat.lt {B:Base} {H:List Chunk} {w:World} (h:Sat B H w) {c:Chunk} (hc:c∈H):∀k,c.foot k->k<w.heap.size:=c.lt w (h.all.mem c hc).1
theorem Sat.grow {B:Base} {H:List Chunk} {w w':World} (h:Sat B H w) (hb:Below w.heap.size w w'):Sat B H w':=
 ⟨hb.os.trans h.os,hb.tape.trans h.tape,hb.output.trans h.output,Nat.le_trans h.size hb.size,fun k hk hx=>(hb.block k (Nat.lt_of_lt_of_le hk h.size)).trans (h.block k hk hx),h.all.grow hb.block⟩
theorem Sat.push {B:Base} {H:List Chunk} {w w':World} (h:Sat B H w) (hb:Below w.heap.size w w') {c:Chunk} (hc:c.p w') (hf:∀k,c.foot k->w.heap.size<=k):Sat B (c::H) w':=by
 have h':=h.grow hb;refine ⟨h'.os,h'.tape,h'.output,h'.size,h'.block,hc,fun k hk=> .inl (Nat.le_trans h.size (hf k hk)),fun d hd k hk hk'=>?_,h'.all⟩;have:=h.lt hd k hk';have:=hf k hk;omega
def J5:List Chunk->Nat->Option Chunk
 |[],_=>none
 |c::_,0=>some c
 |_::r,n+1=>J5 r n
def jBK:List Chunk->Nat->Chunk->List Chunk
 |[],_,_=>[]
 |_::r,0,c=>c::r
 |d::r,n+1,c=>d::jBK r n c
theorem kg:∀ {H:List Chunk} {i:Nat} {c:Chunk},J5 H i=some c->c∈H
 |[],_,_,h=>by cases h
 |d::r,0,c,h=>by cases h;exact List.mem_cons_self ..
 |d::r,n+1,c,h=>List.mem_cons_of_mem _ (kg (H:=r) h)
theorem Sat.nth {B:Base} {H:List Chunk} {w:World} (h:Sat B H w) {i:Nat} {c:Chunk} (hc:J5 H i=some c):c.p w:=(h.all.mem c (kg hc)).1
theorem Sat.nthX {B:Base} {H:List Chunk} {w:World} (h:Sat B H w) {i:Nat} {c:Chunk} (hc:J5 H i=some c):∀k,c.foot k->B.w.heap.size<=k\/B.X k:=(h.all.mem c (kg hc)).2
theorem jJX:∀ {H:List Chunk} {i:Nat} {c d:Chunk},d∈jBK H i c->d=c\/d∈H
 |[],_,_,_,h=>by cases h
 |e::r,0,c,d,h=>by
  rcases List.mem_cons.1 h with h|h
  ·exact .inl h
  ·exact .inr (List.mem_cons_of_mem _ h)
 |e::r,n+1,c,d,h=>by
  rcases List.mem_cons.1 h with h|h
  ·exact .inr (h▸List.mem_cons_self ..)
  ·rcases jJX (H:=r) h with h|h
   ·exact .inl h
   ·exact .inr (List.mem_cons_of_mem _ h)
theorem zm.set {B:Base} {w w':World} {c c':Chunk} (hsz:B.w.heap.size<=w.heap.size) (hg:∀k,k<w.heap.size->¬c.foot k->w'.heap[k]? =w.heap[k]?) (hc':c'.p w') (hf:∀k,c'.foot k->c.foot k\/w.heap.size<=k):
  ∀ {H:List Chunk} {i:Nat},J5 H i=some c->zm B w H->zm B w' (jBK H i c')
 |[],_,h,_=>by cases h
 |d::r,0,h,ha=>by
  cases h;obtain ⟨h1,h2,h3,h4⟩:=ha;have keep:∀ {r:List Chunk},(∀ d∈r,∀k,c.foot k->¬d.foot k)->zm B w r->zm B w' r:=by
   intro r
   induction r with
   |nil=>intro _ _;trivial
   |cons d r ih=>
    intro h3 h4;obtain ⟨g1,g2,g3,g4⟩:=h4;exact ⟨d.loc w w' (fun k hk=>hg k (d.lt w g1 k hk) (fun hk'=>h3 d (List.mem_cons_self ..) k hk' hk)) g1,g2,g3,ih (fun d hd=>h3 d (List.mem_cons_of_mem _ hd)) g4⟩
  refine ⟨hc',fun k hk=>?_,fun d hd k hk hk'=>?_,keep h3 h4⟩
  ·rcases hf k hk with h|h
   ·exact h2 k h
   ·exact .inl (Nat.le_trans hsz h)
  ·rcases hf k hk with h|h
   ·exact h3 d hd k h hk'
   ·have:=d.lt w (h4.mem d hd).1 k hk';omega
 |d::r,n+1,h,ha=>by
  obtain ⟨h1,h2,h3,h4⟩:=ha;have hm:=kg (H:=r) h;refine ⟨d.loc w w' (fun k hk=>hg k (d.lt w h1 k hk) (fun hk'=>h3 c hm k hk hk')) h1,h2,fun e he k hk hk'=>?_,zm.set hsz hg hc' hf (H:=r) h h4⟩;rcases jJX he with rfl|he
  ·rcases hf k hk' with h'|h'
   ·exact h3 c hm k hk h'
   ·have:=d.lt w h1 k hk;omega
  ·exact h3 e he k hk hk'
theorem Sat.upd {B:Base} {H:List Chunk} {w w':World} {c c':Chunk} {i:Nat} (h:Sat B H w) (hi:J5 H i=some c) (h1:w'.os=w.os) (h2:w'.tape=w.tape) (h3:w'.output=w.output) (h4:w.heap.size<=w'.heap.size)
  (hg:∀k,k<w.heap.size->¬c.foot k->w'.heap[k]? =w.heap[k]?) (hc':c'.p w') (hf:∀k,c'.foot k->c.foot k\/w.heap.size<=k):Sat B (jBK H i c') w':=by
 refine ⟨h1.trans h.os,h2.trans h.tape,h3.trans h.output,Nat.le_trans h.size h4,fun k hk hx=>?_,zm.set h.size hg hc' hf hi h.all⟩;rw[hg k (Nat.lt_of_lt_of_le hk h.size) (fun hk'=>?_)]
 ·exact h.block k hk hx
 ·rcases h.nthX hi k hk' with h'|h'
  ·omega
  ·exact hx h'
theorem Sat.updG {B:Base} {H:List Chunk} {w w':World} {c c':Chunk} {i:Nat} {r:Option Nat} (h:Sat B H w) (hi:J5 H i=some c) (hg:w.grownBy w' r) (hr:∀k,r=some k->c.foot k)
  (hc':c'.p w') (hf:∀k,c'.foot k->c.foot k\/w.heap.size<=k):Sat B (jBK H i c') w':=
 h.upd hi hg.os hg.tape hg.output hg.size (fun k hk hx=>hg.block k hk (fun e=>hx (hr k e.symm))) hc' hf
def jAN (H:List Chunk):List Nat->Option (List Chunk)
 |[]=>some []
 |i::r=>match J5 H i,jAN H r with
  |some c,some l=>some (c::l)
  |_,_=>none
def JV:List Nat->Bool
 |[]=>true
 |i::r=>match Zp i r with
  |true=>false
  |false=>JV r
theorem zm.apart {B:Base} {w:World}:∀ {H:List Chunk} {i j:Nat} {c d:Chunk},zm B w H->J5 H i=some c->J5 H j=some d->i≠j->∀k,c.foot k->¬d.foot k
 |[],_,_,_,_,_,h,_,_=>by cases h
 |e::r,0,0,c,d,ha,hi,hj,hne=>absurd I hne
 |e::r,0,j+1,c,d,ha,hi,hj,hne=>by cases hi;exact ha.2.2.1 d (kg (H:=r) hj)
 |e::r,i+1,0,c,d,ha,hi,hj,hne=>by cases hj;exact fun k hk hk'=>ha.2.2.1 c (kg (H:=r) hi) k hk' hk
 |e::r,i+1,j+1,c,d,ha,hi,hj,hne=>zm.apart (H:=r) ha.2.2.2 hi hj (fun e=>hne (by rw[e]))
theorem jFC {x:Nat}:∀ {l:List Nat},x∈l->Zp x l=true
 |y::l,h=>by
  unfold Zp
  split
  ·rfl
  ·rename_i hb
   rcases List.mem_cons.1 h with rfl|h
   ·rw [Nat.beq_refl]at hb;cases hb
   ·exact jFC h
theorem jEG {H:List Chunk}:∀ {is:List Nat} {l:List Chunk},jAN H is=some l->∀d∈l,∃j∈is,J5 H j=some d
 |[],l,h,d,hd=>by cases h;cases hd
 |i::is,l,h,d,hd=>by
  unfold jAN at h
  split at h
  ·rename_i c l' hc hl
   cases h;rcases List.mem_cons.1 hd with rfl|hd
   ·exact ⟨i,List.mem_cons_self ..,hc⟩
   ·obtain ⟨j,hj,h⟩:=jEG hl d hd;exact ⟨j,List.mem_cons_of_mem _ hj,h⟩
  ·cases h
theorem zm.pick {B:Base} {w:World} {H:List Chunk} (ha:zm B w H):∀ {is:List Nat} {l:List Chunk},jAN H is=some l->JV is=true->zm B w l
 |[],l,h,_=>by cases h;trivial
 |i::is,l,h,hd=>by
  unfold jAN at h
  split at h
  ·rename_i c l' hc hl
   cases h;unfold JV at hd
   split at hd
   ·cases hd
   ·rename_i hn
    have hm:=ha.mem c (kg hc);refine ⟨hm.1,hm.2,fun d hd' k=>?_,zm.pick ha hl hd⟩;obtain ⟨j,hj,hjd⟩:=jEG hl d hd';exact ha.apart hc hjd (fun e=>by subst e;rw[jFC hj]at hn;cases hn) k
  ·cases h
theorem Sat.pick {B:Base} {H H':List Chunk} {w:World} (is:List Nat) (h:Sat B H w) (hp:jAN H is=some H') (hd:JV is=true):Sat B H' w:=
 ⟨h.os,h.tape,h.output,h.size,h.block,h.all.pick hp hd⟩
theorem Sat.as {B:Base} {H:List Chunk} {w:World} {c c':Chunk} (i:Nat) (h:Sat B H w) (hi:J5 H i=some c) (hc':c.p w->c'.p w) (hf:∀k,c'.foot k->c.foot k):Sat B (jBK H i c') w:=
 h.upd hi I I I (Nat.le_refl _) (fun _ _ _=>rfl) (hc' (h.nth hi)) (fun k hk=> .inl (hf k hk))
theorem Sat.of_below {w w':World} (h:Below w.heap.size w w'):Sat (base w) [] w':=⟨h.os,h.tape,h.output,h.size,fun k hk _=>h.block k hk,trivial⟩
theorem Sat.below {B:Base} {H:List Chunk} {w:World} (h:Sat B H w) (hX:∀k,¬B.X k):Below B.w.heap.size B.w w:=⟨h.os,h.tape,h.output,h.size,fun k hk=>h.block k hk (hX k)⟩
theorem Sat.jF {w0:World} {H:List Chunk} {w:World} (h:Sat (base w0) H w):Below w0.heap.size w0 w:=h.below fun _ h=>h
theorem Sat.start (w:World):Sat (base w) [] w:= .of_below (Below.refl _ _)
theorem zm.append {B:Base} {w:World}:∀ {G H:List Chunk},zm B w G->zm B w H->(∀ c∈G,∀d∈H,∀k,c.foot k->¬d.foot k)->zm B w (G++H)
 |[],_,_,h,_=>h
 |c::G,H,hG,hH,hx=>⟨hG.1,hG.2.1,fun d hd k hk=>by
   rcases List.mem_append.1 hd with hd|hd
   ·exact hG.2.2.1 d hd k hk
   ·exact hx c (List.mem_cons_self ..) d hd k hk,zm.append hG.2.2.2 hH (fun c hc=>hx c (List.mem_cons_of_mem _ hc))⟩
theorem Sat.join {B:Base} {H G:List Chunk} {w w':World} (h:Sat B H w) (hg:Sat (base w) G w'):Sat B (G++H) w':=by
 have h':=h.grow hg.jF;refine ⟨h'.os,h'.tape,h'.output,h'.size,h'.block,zm.append ?_ h'.all fun c hc d hd k hk hk'=>?_⟩
 ·have:∀ {G:List Chunk},zm (base w) w' G->zm B w' G:=by
   intro G
   induction G with
   |nil=>intro _;trivial
   |cons c G ih=>intro hG;exact ⟨hG.1,fun k hk=>by
     rcases hG.2.1 k hk with h1|h1
     ·exact .inl (Nat.le_trans h.size h1)
     ·exact h1.elim,hG.2.2.1,ih hG.2.2.2⟩
  exact this hg.all
 ·rcases (hg.all.mem c hc).2 k hk with h1|h1
  ·have:=h.lt hd k hk';have h1:w.heap.size<=k:=h1;omega
  ·exact h1.elim
theorem zm.split {B:Base} {w:World}:∀ {G H:List Chunk},zm B w (G++H)->zm B w G/\zm B w H/\(∀ c∈G,∀d∈H,∀k,c.foot k->¬d.foot k)
 |[],_,h=>⟨trivial,h,fun c hc=>by cases hc⟩
 |c::G,H,h=>by
  obtain ⟨h1,h2,h3⟩:=zm.split h.2.2.2;refine ⟨⟨h.1,h.2.1,fun d hd=>h.2.2.1 d (List.mem_append_left _ hd),h1⟩,h2,fun d hd e he k hk=>?_⟩;rcases List.mem_cons.1 hd with rfl|hd
  ·exact h.2.2.1 e (List.mem_append_right _ he) k hk
  ·exact h3 d hd e he k hk
theorem Sat.frame {B:Base} {G G' H:List Chunk} {w w':World} (h:Sat B (G++H) w) (hg:Sat ⟨w,zN G⟩ G' w'):Sat B (G'++H) w':=by
 obtain ⟨a1,a2,a3⟩:=h.all.split;have keepH:∀ {H:List Chunk},(∀ c∈G,∀d∈H,∀k,c.foot k->¬d.foot k)->zm B w H->zm B w' H:=by
  intro H
  induction H with
  |nil=>intro _ _;trivial
  |cons d H ih=>
   intro hx hH;refine ⟨d.loc w w' (fun k hk=>hg.block k (d.lt w hH.1 k hk) ?_) hH.1,hH.2.1,hH.2.2.1,ih (fun c hc e he=>hx c hc e (List.mem_cons_of_mem _ he)) hH.2.2.2⟩
   rintro ⟨c,hc,hk'⟩
   exact hx c hc d (List.mem_cons_self ..) k hk' hk
 have turnG:∀ {G':List Chunk},zm ⟨w,zN G⟩ w' G'->zm B w' G':=by
  intro G'
  induction G' with
  |nil=>intro _;trivial
  |cons c G' ih=>intro hG';exact ⟨hG'.1,fun k hk=>by
    rcases hG'.2.1 k hk with h1|⟨d,hd,hk'⟩
    ·exact .inl (Nat.le_trans h.size h1)
    ·exact (a1.mem d hd).2 k hk',hG'.2.2.1,ih hG'.2.2.2⟩
 refine ⟨hg.os.trans h.os,hg.tape.trans h.tape,hg.output.trans h.output,Nat.le_trans h.size hg.size,fun k hk hx=>?_,zm.append (turnG hg.all) (keepH a3 a2) fun c hc d hd k hk hk'=>?_⟩
 ·rw [hg.block k (Nat.lt_of_lt_of_le hk h.size) ?_]
  ·exact h.block k hk hx
  ·rintro ⟨c,hc,hk'⟩
   rcases (a1.mem c hc).2 k hk' with h1|h1
   ·omega
   ·exact hx h1
 ·rcases (hg.all.mem c hc).2 k hk with h1|⟨e,he,hk2⟩
  ·have:=d.lt w (a2.mem d hd).1 k hk';have h1:w.heap.size<=k:=h1;omega
  ·exact a3 e he d hd k hk2 hk'
theorem yC {w w':World} {c c':Chunk} {r:Option Nat} (hg:w.grownBy w' r) (hr:∀k,r=some k->c.foot k) (hc:c'.p w') (hf:∀k,c'.foot k->c.foot k\/w.heap.size<=k):Sat ⟨w,zN [c]⟩ [c'] w':=by
 refine ⟨hg.os,hg.tape,hg.output,hg.size,fun k hk hx=>hg.block k hk (fun e=>hx ⟨c,List.mem_cons_self ..,hr k e.symm⟩),hc,fun k hk=>?_,(fun d hd=>by cases hd),trivial⟩;rcases hf k hk with h|h
 ·exact .inr ⟨c,List.mem_cons_self ..,h⟩
 ·exact .inl h
def jS (b:Nat) (cs:List Value) (T:TypeId):Chunk where
 foot:=fun k=>k=b
 p:=fun w=>Blk w b cs T
 loc:=fun w w' h hp=>by unfold Blk at hp ⊢;rw[h b rfl];exact hp
 lt:=fun w hp k hk=>by subst hk;exact hp.lt
def ZN {K:Type} [DecidableEq K] (enc:K->Value) (b:Nat) (m:List (K×Value)):Chunk where
 foot:=fun k=>k=b
 p:=fun w=>MapAt enc w b m
 loc:=fun w w' h hp=>by
  obtain ⟨es,clock,h1,h2,h3⟩:=hp;exact ⟨es,clock,by rw[h b rfl];exact h1,h2,h3⟩
 lt:=fun w hp k hk=>by
  obtain ⟨es,clock,h1,_⟩:=hp;subst hk;exact (Array.getElem?_eq_some_iff.1 h1).1
theorem jK3 {w:World} {B e sz n:Nat} {v:Value} {xs:List Value} (h:w.ownsRow B e sz v n xs):∀k,v.ownBlock=some k->B<=k:=by
 intro k hk;rcases h.2 with ⟨rfl,_⟩|⟨g,cap,cur,rfl,h1,h2⟩
 ·cases hk
 ·cases hk;exact h1
def HR (P:Program) (f:FuncId) (N:Nat) (k:List Item) (σ:Store) (B:Base) (H:List Chunk) (R:Ending->World->Prop):Prop:=∀w,Sat B H w->Run P f N k σ w R
def HL (P:Program) (N:Nat) (ops l:List Oper) (σ:Store) (B:Base) (H:List Chunk) (K:Act->World->Prop):Prop:=∀w,Sat B H w->JH P N ops l σ w K
def Ent (B:Base) (H H':List Chunk):Prop:=∀w,Sat B H w->Sat B H' w
theorem Ent.refl {B:Base} {H:List Chunk}:Ent B H H:=fun _ h=>h
theorem Ent.pick {B:Base} {H H':List Chunk} (is:List Nat) (hp:jAN H is=some H') (hd:JV is=true):Ent B H H':=fun w h=>h.pick is hp hd
theorem Ent.trans {B:Base} {H H' H'':List Chunk} (h:Ent B H H') (h':Ent B H' H''):Ent B H H'':=fun w hw=>h' w (h w hw)
theorem Ent.of_eq {B:Base} {H H':List Chunk} (h:H=H'):Ent B H H':=fun w hw=>h▸hw
section
variable {P : Program} {f : FuncId} {N : Nat} {k : List Item} {σ : Store} {B : Base} {H H' : List Chunk} {R : Ending -> World -> Prop} {ops l : List Oper} {o : Oper} {K : Act -> World -> Prop}
theorem jQY {fn:Func} {c:Code} {args:Array Value} {w:World} (hf:P.funcs[f]? =some fn) (hb:fn.body=some c) (hN:args.size<=fn.ntmps)
  (h:HR P f fn.ntmps [.code c] (args.toList.zipIdx.map fun (v,i)=>(i,v)) (base w) [] R):Calls P f args w R:=jBz hf hb hN (h w (Sat.start w))
theorem jc {fn:Func} {c:Code} {args:Array Value} {w:World} (G:List Chunk) (hG:Sat B G w) (hf:P.funcs[f]? =some fn) (hb:fn.body=some c) (hN:args.size<=fn.ntmps)
  (h:HR P f fn.ntmps [.code c] (args.toList.zipIdx.map fun (v,i)=>(i,v)) ⟨w,zN G⟩ G R):Calls P f args w R:=by
 refine jBz hf hb hN (h w ⟨rfl,rfl,rfl,Nat.le_refl _,fun _ _ _=>rfl,?_⟩);have:∀ {G':List Chunk},(∀ c∈G',c∈G)->zm B w G'->zm ⟨w,zN G⟩ w G':=by
  intro G'
  induction G' with
  |nil=>intro _ _;trivial
  |cons c G' ih=>intro hm ha;exact ⟨ha.1,fun k hk=> .inr ⟨c,hm c (List.mem_cons_self ..),hk⟩,ha.2.2.1,ih (fun d hd=>hm d (List.mem_cons_of_mem _ hd)) ha.2.2.2⟩
 exact this (fun _ h=>h) hG.all
theorem HR.sub {σ':Store} (hs:Sub σ' σ) (h:HR P f N k σ' B H R):HR P f N k σ B H R:=fun w hw=>Run.sub hs (h w hw)
theorem qR (he:Ent B H H') (h:HR P f N k σ B H' R):HR P f N k σ B H R:=fun w hw=>h w (he w hw)
theorem HR.ctl {k':List Item} (hk:ctl k=some k') (h:HR P f N k' σ B H R):HR P f N k σ B H R:=fun w hw=>Run.ctl hk (h w hw)
theorem HR.region {id:Nat} (h:HL P N ops ops σ B H (jCE P f k R)):HR P f N (.code (.region id ops.toArray false)::k) σ B H R:=fun w hw=>Run.region (h w hw)
theorem HR.cond {t:Nat} {b:Bool} {x y:Code} (hl:look σ t=some (.bool b)) (ht:b=true->HR P f N (.code x::k) σ B H R) (hf:b=false->HR P f N (.code y::k) σ B H R):
  HR P f N (.code (.cond (.tmp t) x y)::k) σ B H R:=fun w hw=>Run.cond hl (fun e=>ht e w hw) (fun e=>hf e w hw)
theorem Qj {t:Nat} {x y:Code} (hl:look σ t=some (.bool true)) (h:HR P f N (.code x::k) σ B H R):HR P f N (.code (.cond (.tmp t) x y)::k) σ B H R:=fun w hw=>Yf hl (h w hw)
theorem QY {t:Nat} {x y:Code} (hl:look σ t=some (.bool false)) (h:HR P f N (.code y::k) σ B H R):HR P f N (.code (.cond (.tmp t) x y)::k) σ B H R:=fun w hw=>Yg hl (h w hw)
theorem HR.join {x:Code} {ι:Type} (Inv:ι->Prop) (st:ι->Store) (hp:ι->List Chunk) (hj:∀i,Inv i->HR P f N k (st i) B (hp i) R)
  (h:(∀ i σ' H',Inv i->Sub (st i) σ'->Ent B H' (hp i)->HR P f N k σ' B H' R)->HR P f N (.code x::k) σ B H R):HR P f N (.code x::k) σ B H R:=
 h fun i σ' H' h1 h2 h3=>HR.sub h2 (qR h3 (hj i h1))
theorem HR.loop {c:Code} {ι:Type} (Inv:ι->Prop) (st:ι->Store) (hp:ι->List Chunk) (μ:ι->Nat) (i0:ι) (h0:Inv i0) (hσ:Sub (st i0) σ) (hH:Ent B H (hp i0))
  (round:∀i,Inv i->(∀ i' σ' H',Inv i'->μ i'<μ i->Sub (st i') σ'->Ent B H' (hp i')->HR P f N (.inLoop c::k) σ' B H' R)->HR P f N (.code c:: .inLoop c::k) (st i) B (hp i) R):
  HR P f N (.code (.loop c)::k) σ B H R:=by
 intro w hw;refine Run.loop (fun i w=>Inv i/\Sat B (hp i) w) st μ i0 ⟨h0,hH w hw⟩ hσ fun i w ⟨hI,hS⟩ ih=>round i hI (fun i' σ' H' h1 h2 h3 h4 w' hw'=>ih i' w' σ' ⟨h1,h4 w' hw'⟩ h2 h3) w hS
theorem qd {c:Code} {α β:Type} (Inv:α->β->Prop) (st:α->β->Store) (hp:α->β->List Chunk) (μ:α->β->Nat) (a0:α) (b0:β) (h0:Inv a0 b0) (hσ:Sub (st a0 b0) σ) (hH:Ent B H (hp a0 b0))
  (round:∀a b,Inv a b->(∀ a' b' σ' H',Inv a' b'->μ a' b'<μ a b->Sub (st a' b') σ'->Ent B H' (hp a' b')->HR P f N (.inLoop c::k) σ' B H' R)->HR P f N (.code c:: .inLoop c::k) (st a b) B (hp a b) R):
  HR P f N (.code (.loop c)::k) σ B H R:=
 HR.loop (ι:=α×β) (fun i=>Inv i.1 i.2) (fun i=>st i.1 i.2) (fun i=>hp i.1 i.2) (fun i=>μ i.1 i.2) (a0,b0) h0 hσ hH fun i hI ih=>round i.1 i.2 hI fun a' b'=>ih (a',b')
theorem Qw {c:Code} {α β γ:Type} (Inv:α->β->γ->Prop) (st:α->β->γ->Store) (hp:α->β->γ->List Chunk) (μ:α->β->γ->Nat) (a0:α) (b0:β) (c0:γ) (h0:Inv a0 b0 c0) (hσ:Sub (st a0 b0 c0) σ) (hH:Ent B H (hp a0 b0 c0))
  (round:∀a b g,Inv a b g->(∀ a' b' g' σ' H',Inv a' b' g'->μ a' b' g'<μ a b g->Sub (st a' b' g') σ'->Ent B H' (hp a' b' g')->HR P f N (.inLoop c::k) σ' B H' R)->HR P f N (.code c:: .inLoop c::k) (st a b g) B (hp a b g) R):
  HR P f N (.code (.loop c)::k) σ B H R:=
 HR.loop (ι:=α×β×γ) (fun i=>Inv i.1 i.2.1 i.2.2) (fun i=>st i.1 i.2.1 i.2.2) (fun i=>hp i.1 i.2.1 i.2.2) (fun i=>μ i.1 i.2.1 i.2.2) (a0,b0,c0) h0 hσ hH fun i hI ih=>round i.1 i.2.1 i.2.2 hI fun a' b' c'=>ih (a',b',c')
theorem Yw {c:Code} {α β γ δ:Type} (Inv:α->β->γ->δ->Prop) (st:α->β->γ->δ->Store) (hp:α->β->γ->δ->List Chunk) (μ:α->β->γ->δ->Nat) (a0:α) (b0:β) (c0:γ) (d0:δ) (h0:Inv a0 b0 c0 d0) (hσ:Sub (st a0 b0 c0 d0) σ) (hH:Ent B H (hp a0 b0 c0 d0))
  (round:∀a b g e,Inv a b g e->(∀ a' b' g' e' σ' H',Inv a' b' g' e'->μ a' b' g' e'<μ a b g e->Sub (st a' b' g' e') σ'->Ent B H' (hp a' b' g' e')->HR P f N (.inLoop c::k) σ' B H' R)->HR P f N (.code c:: .inLoop c::k) (st a b g e) B (hp a b g e) R):
  HR P f N (.code (.loop c)::k) σ B H R:=
 HR.loop (ι:=α×β×γ×δ) (fun i=>Inv i.1 i.2.1 i.2.2.1 i.2.2.2) (fun i=>st i.1 i.2.1 i.2.2.1 i.2.2.2) (fun i=>hp i.1 i.2.1 i.2.2.1 i.2.2.2) (fun i=>μ i.1 i.2.1 i.2.2.1 i.2.2.2) (a0,b0,c0,d0) h0 hσ hH fun i hI ih=>round i.1 i.2.1 i.2.2.1 i.2.2.2 hI fun a' b' c' d'=>ih (a',b',c',d')
theorem HR.ret {fn:Func} {l:List ResultVar} (hf:P.funcs[f]? =some fn) (hl:fn.results=l.toArray) (vs:List Value) (hr:∀w,Sat B H w->jPF P w σ l vs) (hR:∀w,Sat B H w->R (.returned (ZJ vs)) w):HR P f N (.code .ret::k) σ B H R:=
 fun w hw=>Run.ret hf hl vs (hr w hw) (hR w hw)
theorem QS {fn:Func} {l:List ResultVar} (hf:P.funcs[f]? =some fn) (hl:fn.results=l.toArray) (vs:List Value) (hr:∀w,Sat B H w->jPF P w σ l vs) (hR:∀w,Sat B H w->R (.returned (ZJ vs)) w):HR P f N [] σ B H R:=
 fun w hw=>Run.fin hf hl vs (hr w hw) (hR w hw)
theorem HL.nil (h:HR P f N k σ B H R):HL P N ops [] σ B H (jCE P f k R):=fun w hw=>JH.nil (h w hw)
theorem qM (he:Ent B H H') (h:HL P N ops l σ B H' K):HL P N ops l σ B H K:=fun w hw=>h w (he w hw)
theorem HR.as {c c':Chunk} (i:Nat) (hi:J5 H i=some c) (hc':∀w,c.p w->c'.p w) (hf:∀k,c'.foot k->c.foot k) (h:HR P f N k σ B (jBK H i c') R):HR P f N k σ B H R:=
 fun w hw=>h w (hw.as i hi (hc' w) hf)
theorem yG {Q:Prop} (hq:∀w,Sat B H w->Q) (h:Q->HL P N ops l σ B H K):HL P N ops l σ B H K:=fun w hw=>h (hq w hw) w hw
theorem HR.know {Q:Prop} (hq:∀w,Sat B H w->Q) (h:Q->HR P f N k σ B H R):HR P f N k σ B H R:=fun w hw=>h (hq w hw) w hw
variable {d : Nat} {op : Op} {ty : TypeId} {pos : String} {af : Array Edge} {gd : Option (Nat × Bool)} {v : Value}
theorem QL (hs:stat N ops ⟨some d,op,ty,pos,af,gd⟩ σ=true) (hr:∀w,Sat B H w->(execOp (evO σ) ⟨some d,op,ty,pos,af,gd⟩).run P w= .ok (.value v) w) (h:HL P N ops l ((d,v)::σ) B H K):
  HL P N ops (⟨some d,op,ty,pos,af,gd⟩::l) σ B H K:=fun w hw=>JH.op hs (hr w hw) (h w hw)
theorem QT (hs:stat N ops ⟨some d,op,ty,pos,af,gd⟩ σ=true) (he:jLr P σ op=some v) (h:HL P N ops l ((d,v)::σ) B H K):HL P N ops (⟨some d,op,ty,pos,af,gd⟩::l) σ B H K:=
 fun w hw=>JH.ev hs he (h w hw)
theorem yj {c:Prop} (hs:stat N ops ⟨some d,op,ty,pos,af,gd⟩ σ=true) (he:evC P σ op=some (v,c)) (hc:c) (h:HL P N ops l ((d,v)::σ) B H K):HL P N ops (⟨some d,op,ty,pos,af,gd⟩::l) σ B H K:=
 fun w hw=>Yt hs he hc (h w hw)
theorem HL.skip (hw:JK ops gd σ=some false) (hd:ZQ N (some d)=true) (h:HL P N ops l ((d,undef)::σ) B H K):HL P N ops (⟨some d,op,ty,pos,af,gd⟩::l) σ B H K:=
 fun w hs=>JH.skip hw hd (h w hs)
theorem Qy (hw:JK ops gd σ=some false) (h:HL P N ops l σ B H K):HL P N ops (⟨none,op,ty,pos,af,gd⟩::l) σ B H K:=
 fun w hs=>YM hw (h w hs)
theorem Qt {α:Type} (val:α->Value) (G:α->List Chunk) (Q:α->Prop) (hs:stat N ops ⟨some d,op,ty,pos,af,gd⟩ σ=true)
  (hr:∀w,Sat B H w->∃x w',(execOp (evO σ) ⟨some d,op,ty,pos,af,gd⟩).run P w= .ok (.value (val x)) w'/\Q x/\Sat B (G x) w') (h:∀x,Q x->HL P N ops l ((d,val x)::σ) B (G x) K):HL P N ops (⟨some d,op,ty,pos,af,gd⟩::l) σ B H K:=by
 intro w hw;obtain ⟨x,w',h1,h2,h3⟩:=hr w hw;exact JH.op hs h1 (h x h2 w' h3)
theorem YR (hs:stat N ops ⟨none,op,ty,pos,af,gd⟩ σ=true)
  (hr:∀w,Sat B H w->∃w',(execOp (evO σ) ⟨none,op,ty,pos,af,gd⟩).run P w= .ok .skip w'/\Sat B H' w') (h:HL P N ops l σ B H' K):HL P N ops (⟨none,op,ty,pos,af,gd⟩::l) σ B H K:=by
 intro w hw;obtain ⟨w',h1,h2⟩:=hr w hw;exact Yq hs h1 (h w' h2)
theorem HL.op0 {α:Type} (val:α->Value) (G:α->List Chunk) (Q:α->Prop) (hs:stat N ops ⟨none,op,ty,pos,af,gd⟩ σ=true)
  (hr:∀w,Sat B H w->∃x w',(execOp (evO σ) ⟨none,op,ty,pos,af,gd⟩).run P w= .ok (.value (val x)) w'/\Q x/\Sat B (G x) w') (h:∀x,Q x->HL P N ops l σ B (G x) K):HL P N ops (⟨none,op,ty,pos,af,gd⟩::l) σ B H K:=by
 intro w hw;obtain ⟨x,w',h1,h2,h3⟩:=hr w hw;exact Yr hs h1 (h x h2 w' h3)
theorem QB (t:Nat) {v v':Value} (hl:look σ t=some v) (e:v=v') (h:HL P N ops l ((t,v')::σ) B H K):HL P N ops l σ B H K:=fun w hw=>yU t hl e (h w hw)
theorem Qc (t:Nat) {b:Bool} (c:Bool) (hl:look σ t=some (.bool b)) (e:b=c) (h:HL P N ops l ((t,.bool c)::σ) B H K):HL P N ops l σ B H K:=fun w hw=>Yd t c hl e (h w hw)
theorem Yv {w:World} (t:Nat) {v v':Value} (hl:look σ t=some v) (e:v=v') (h:Run P f N k ((t,v')::σ) w R):Run P f N k σ w R:=
 fun a ha=>h a (ha.weaken fun t' u hu=>by
  rw[JM]at hu
  split at hu
  ·rename_i e';subst e';cases hu;rw[<- e];exact hl
  ·exact hu)
theorem QC (t:Nat) {v v':Value} (hl:look σ t=some v) (e:v=v') (h:HR P f N k ((t,v')::σ) B H R):HR P f N k σ B H R:=fun w hw=>Yv t hl e (h w hw)
theorem QX (t:Nat) {b:Bool} (c:Bool) (hl:look σ t=some (.bool b)) (e:b=c) (h:HR P f N k ((t,.bool c)::σ) B H R):HR P f N k σ B H R:=QC t hl (by rw[e]) h
theorem HL.andB {tj te n dp:Nat} {b e:Bool} {rest:List Oper}
  (hg:gslot ops o=some (tj,true)) (hl:look σ tj=some (.bool b)) (hn:Z5 tj (o::l)=some n)
  (hd:(o::l).drop n=⟨some dp,.pick (.tmp tj) (.tmp te) (.const (.bool false)),ty,pos,af,gd⟩::rest)
  (hgd:JK ops gd σ=some true) (hte:look σ te=none) (hok:jCA N ops tj true n σ (o::l)=true) (hdp:ZQ N (some dp)=true)
  (h1:b=true->HL P N ops ((o::l).take n) ((tj,.bool true)::σ) B H (fun a' w'=>Sat B H w'/\Agr N ((te,.bool e)::(tj,.bool true)::σ) a'))
  (h2:HL P N ops rest ((dp,.bool (b&&e))::σ) B H K):HL P N ops (o::l) σ B H K:=
 fun w hw=>YF (want:=true) (C:=fun w'=>Sat B H w') hw hl hte hd hgd (.inl ⟨rfl,rfl,rfl⟩) hok hdp (fun e=>h1 e w hw) (fun w' hw'=>h2 w' hw')
theorem HL.orB {tj te n dp:Nat} {b e:Bool} {rest:List Oper}
  (hg:gslot ops o=some (tj,false)) (hl:look σ tj=some (.bool b)) (hn:Z5 tj (o::l)=some n)
  (hd:(o::l).drop n=⟨some dp,.pick (.tmp tj) (.const (.bool true)) (.tmp te),ty,pos,af,gd⟩::rest)
  (hgd:JK ops gd σ=some true) (hte:look σ te=none) (hok:jCA N ops tj false n σ (o::l)=true) (hdp:ZQ N (some dp)=true)
  (h1:b=false->HL P N ops ((o::l).take n) ((tj,.bool false)::σ) B H (fun a' w'=>Sat B H w'/\Agr N ((te,.bool e)::(tj,.bool false)::σ) a'))
  (h2:HL P N ops rest ((dp,.bool (b||e))::σ) B H K):HL P N ops (o::l) σ B H K:=
 fun w hw=>YF (want:=false) (C:=fun w'=>Sat B H w') hw hl hte hd hgd (.inr ⟨rfl,rfl,rfl⟩) hok hdp (fun e=>h1 e w hw) (fun w' hw'=>h2 w' hw')
theorem Ym {te:Nat} {e:Bool} {σ₀:Store} (he:look σ te=some (.bool e)) (hp:jHs (jSY σ-jSY σ₀) σ=some σ₀) (hH:Ent B H H'):HL P N ops [] σ B H (fun a' w'=>Sat B H' w'/\Agr N ((te,.bool e)::σ₀) a'):=
 fun w hw a ha=>wpList_nil ⟨rfl,hH w hw,ha.weaken (fun t v hv=>by
  rw[JM]at hv
  split at hv
  ·rename_i e';subst e';cases hv;exact he
  ·exact jBW hp t v hv)⟩
theorem qL {α:Type} {r:α->Value} {Q:α->Prop} {G:α->List Chunk} {g:FuncId} {args:List Operand} {a1:List Value} {tys:Array TypeId} (hg:IsFn P g)
  (hs:stat N ops ⟨some d,.call ⟨.value (.func g),args.toArray,tys⟩,ty,pos,af,gd⟩ σ=true) (ha:vals σ args=some a1)
  (hc:∀w,Sat B H w->Calls P g a1.toArray w fun e w'=>∃x,e= .returned (r x)/\Q x/\Sat (base w) (G x) w')
  (h:∀x,Q x->HL P N ops l ((d,r x)::σ) B (G x++H) K):HL P N ops (⟨some d,.call ⟨.value (.func g),args.toArray,tys⟩,ty,pos,af,gd⟩::l) σ B H K:=
 fun w hw=>JH.call hg hs ha ((hc w hw).mono fun e w' ⟨x,h1,h2,h3⟩=>⟨r x,h1,h x h2 w' (hw.join h3)⟩)
theorem qB {r:Value} {g:FuncId} {args:List Operand} {a1:List Value} {tys:Array TypeId} (hg:IsFn P g)
  (hs:stat N ops ⟨some d,.call ⟨.value (.func g),args.toArray,tys⟩,ty,pos,af,gd⟩ σ=true) (ha:vals σ args=some a1)
  (hc:∀w,Sat B H w->Calls P g a1.toArray w fun e w'=>e= .returned r/\Below w.heap.size w w')
  (h:HL P N ops l ((d,r)::σ) B H K):HL P N ops (⟨some d,.call ⟨.value (.func g),args.toArray,tys⟩,ty,pos,af,gd⟩::l) σ B H K:=
 fun w hw=>JH.call hg hs ha ((hc w hw).mono fun e w' ⟨h1,h2⟩=>⟨r,h1,h w' (hw.grow h2)⟩)
theorem qQ {α:Type} {r:α->Value} {Q:α->Prop} {G0 H0:List Chunk} {G:α->List Chunk} {g:FuncId} {args:List Operand} {a1:List Value} {tys:Array TypeId} (hg:IsFn P g)
  (hs:stat N ops ⟨some d,.call ⟨.value (.func g),args.toArray,tys⟩,ty,pos,af,gd⟩ σ=true) (ha:vals σ args=some a1) (hH:H=G0++H0)
  (hc:∀w,Sat B H w->Calls P g a1.toArray w fun e w'=>∃x,e= .returned (r x)/\Q x/\Sat ⟨w,zN G0⟩ (G x) w')
  (h:∀x,Q x->HL P N ops l ((d,r x)::σ) B (G x++H0) K):HL P N ops (⟨some d,.call ⟨.value (.func g),args.toArray,tys⟩,ty,pos,af,gd⟩::l) σ B H K:=
 fun w hw=>JH.call hg hs ha ((hc w hw).mono fun e w' ⟨x,h1,h2,h3⟩=>⟨r x,h1,h x h2 w' (Sat.frame (hH▸hw) h3)⟩)
abbrev HQ (P:Program) (N:Nat) (ops l:List Oper) (σ:Store) (B:Base) (H:List Chunk) (K:Act->Prop):Prop:=JL P N (fun w=>Sat B H w) ops l σ K
theorem qK {id:Nat} (hm:P.follows .mixedOrders=true) (hB:Region.lexB .any ops.toArray=true)
  (h:HQ P N ops ops σ B H (fun a'=>∀w',Sat B H w'->jCE P f k R a' w')):HR P f N (.code (.region id ops.toArray true)::k) σ B H R:=by
 intro w hw a ha;refine QU (wp_region_quiet (C:=fun w'=>Sat B H w') hm hB (hw.grow ⟨rfl,rfl,rfl,Nat.le_refl _,fun _ _=>rfl⟩) ?_);exact jBi (fun a' h w' hw'=>⟨rfl,h w' hw'⟩) (h a ha)
theorem HQ.nil (h:HR P f N k σ B H R):HQ P N ops [] σ B H (fun a'=>∀w',Sat B H w'->jCE P f k R a' w'):=fun a ha w' hw'=>h w' hw' a ha
theorem qz {KQ:Act->Prop} {r:Value} {g:FuncId} {args:List Operand} {a1:List Value} {tys:Array TypeId} (hg:IsFn P g)
  (hs:stat N ops ⟨some d,.call ⟨.value (.func g),args.toArray,tys⟩,ty,pos,af,gd⟩ σ=true) (ha:vals σ args=some a1)
  (hc:∀w,Sat B H w->Calls P g a1.toArray w fun e w'=>e= .returned r/\Below w.heap.size w w')
  (h:HQ P N ops l ((d,r)::σ) B H KQ):HQ P N ops (⟨some d,.call ⟨.value (.func g),args.toArray,tys⟩,ty,pos,af,gd⟩::l) σ B H KQ:=
 JL.call hg hs ha (fun w hw=>(hc w hw).mono fun e w' ⟨h1,h2⟩=>⟨h1,hw.grow h2⟩) h
def HD (P:Program) (N:Nat) (ops:List Oper) (p:List (Nat×Bool)) (σ:Store) (B:Base) (H F:List Chunk) (K:Act->World->Prop):Prop:=∀w,Sat B H w->zU P N (fun w=>Sat B F w) ops p σ w K
theorem qO {F:List Chunk} (p:List (Nat×Bool)) (is:List Nat) (hF:jAN H is=some F) (hd:JV is=true) {id:Nat} (hm:P.follows .mixedOrders=true) (hB:jMs ops.toArray p=true) (h:HD P N ops p σ B H F (jCE P f k R)):HR P f N (.code (.region id ops.toArray true)::k) σ B H R:=
 fun w hw=>yh p (fun w=>Sat B F w) hm hB fun w1 h1 h2=>⟨(hw.grow h1).pick is hF hd,h w1 (hw.grow h1)⟩
variable {F : List Chunk} {i : Nat} {p : List (Nat × Bool)}
theorem HD.nil (h:HR P f N k σ B H R):HD P N ops [] σ B H F (jCE P f k R):=fun w hw=>zU.nil (h w hw)
theorem yS (ho:ops[i]? =some ⟨some d,op,ty,pos,af,gd⟩) (hs:stat N ops ⟨some d,op,ty,pos,af,gd⟩ σ=true)
  (hr:∀w,Sat B F w->(execOp (evO σ) ⟨some d,op,ty,pos,af,gd⟩).run P w= .ok (.value v) w) (h:HD P N ops p ((d,v)::σ) B H F K):HD P N ops ((i,true)::p) σ B H F K:=fun w hw=>yg ho hs hr (h w hw)
theorem QM (ho:ops[i]? =some ⟨some d,op,ty,pos,af,gd⟩) (hs:stat N ops ⟨some d,op,ty,pos,af,gd⟩ σ=true) (he:jLr P σ op=some v) (h:HD P N ops p ((d,v)::σ) B H F K):HD P N ops ((i,true)::p) σ B H F K:=
 fun w hw=>zU.ev ho hs he (h w hw)
theorem QK {c:Prop} (ho:ops[i]? =some ⟨some d,op,ty,pos,af,gd⟩) (hs:stat N ops ⟨some d,op,ty,pos,af,gd⟩ σ=true) (he:evC P σ op=some (v,c)) (hc:c) (h:HD P N ops p ((d,v)::σ) B H F K):HD P N ops ((i,true)::p) σ B H F K:=
 fun w hw=>Yu ho hs he hc (h w hw)
theorem HD.skip (ho:ops[i]? =some ⟨some d,op,ty,pos,af,gd⟩) (hw:JK ops gd σ=some false) (hd:ZQ N (some d)=true) (h:HD P N ops p ((d,undef)::σ) B H F K):HD P N ops ((i,true)::p) σ B H F K:=
 fun w hs=>zU.skip ho hw hd (h w hs)
theorem YG (ho:ops[i]? =some ⟨some d,op,ty,pos,af,gd⟩) (hw:JK ops gd σ=some false) (hd:ZQ N (some d)=true) (h:HD P N ops p ((d,undef)::σ) B H F K):HD P N ops ((i,false)::p) σ B H F K:=
 fun w hs=>YO ho hw hd (h w hs)
theorem HD.one (ho:ops[i]? =some o) (h:HL P N ops [o] σ B H (DK P (fun w=>Sat B F w) ops p K)):HD P N ops ((i,false)::p) σ B H F K:=fun w hw=>zU.one ho (h w hw)
theorem HL.back (is:List Nat) (hF:jAN H is=some F) (hd:JV is=true) (h:HD P N ops p σ B H F K):HL P N ops [] σ B H (DK P (fun w=>Sat B F w) ops p K):=fun w hw=>JH.back (hw.pick is hF hd) (h w hw)
end
def Sl (w:World) (v:Value) (cs:List Value) (n:Nat):Prop:=jCX w v cs n/\∃a c,v= .slice a n c/\n<=c
def Vw (w:World) (v:Value) (e sz n:Nat) (xs:List Value):Prop:=
 xs.length=n*sz/\((v= .slice none 0 0/\n=0)\/∃g off cap cur,v= .slice (some ⟨g,off,none⟩) n cap/\w.heap[g]? =some (.cells cur e (0,0))/\n<=cap/\cap<=maxLen/\off+cap*sz<=cur.size/\(cur.toList.drop off).take (n*sz)=xs)
theorem Yb {w:World} {B e sz n:Nat} {v:Value} {xs:List Value} (h:w.ownsRow B e sz v n xs):Vw w v e sz n xs:=by
 refine ⟨h.1,?_⟩;rcases h.2 with h'|⟨g,cap,cur,hv,h1,h2,h3,h4,h5,h6⟩
 ·exact .inl h'
 ·exact .inr ⟨g,0,cap,cur,hv,h2,h3,h4,by omega,by simpa using h6⟩
theorem Vw.sl {w:World} {e sz n:Nat} {v:Value} {xs:List Value} (h:Vw w v e sz n xs):Sl w v xs n:=by
 rcases h with ⟨hl,⟨rfl,rfl⟩|⟨g,off,cap,cur,rfl,h2,h3,h4,h5,h6⟩⟩
 ·have:xs=[]:=List.eq_nil_of_length_eq_zero (by simpa using hl);subst this;exact ⟨jCX.nil w,none,0,rfl,Nat.le_refl _⟩
 ·refine ⟨.inr ⟨g,off,cap,rfl,fun j u hu=>?_⟩,_,cap,rfl,h3⟩;rw[cell_of_row w g (off+j) cur e (0,0) h2];rw[<- h6,List.getElem?_take]at hu
  split at hu
  ·simpa using hu
  ·cases hu
def jM (v:Value) (e sz n:Nat) (xs:List Value):Chunk where
 foot:=fun k=>v.ownBlock=some k
 p:=fun w=>Vw w v e sz n xs
 loc:=fun w w' h hp=>by
  refine ⟨hp.1,?_⟩;rcases hp.2 with h'|⟨g,off,cap,cur,rfl,h1,h2⟩
  ·exact .inl h'
  ·exact .inr ⟨g,off,cap,cur,rfl,by rw[h g rfl];exact h1,h2⟩
 lt:=fun w hp k hk=>by
  rcases hp.2 with ⟨rfl,_⟩|⟨g,off,cap,cur,rfl,h1,h2⟩
  ·cases hk
  ·cases hk;exact (Array.getElem?_eq_some_iff.1 h1).1
theorem Sl.ext {w w':World} {v:Value} {cs:List Value} {n:Nat} (h:Sl w v cs n) (hb:Below w.heap.size w w'):Sl w' v cs n:=⟨h.1.ext hb,h.2⟩
theorem Sl.nil (w:World):Sl w (.slice none 0 0) [] 0:=⟨jCX.nil w,none,0,rfl,Nat.le_refl _⟩
section
variable {P : Program} {N : Nat} {σ : Store} {w w' : World} {ops l : List Oper} {K : Act -> World -> Prop} {d : Nat} {ty : TypeId} {pos : String} {af : Array Edge} {gd : Option (Nat × Bool)} {v u : Value} {cs : List Value} {n : Nat} {t e : TypeId} {sz bytes : Nat}
theorem KN (t ty e:TypeId) (i:TypeInfo) (ht:P.underlying t=some (.slice e)) (hi:P.info? e=some i)
  (g off sLen sCap:Nat) (cur:Array Value) (hg:w.heap[g]? =some (.cells cur e (0,0)))
  (a:Addr) (m c:Nat) (news:List Value) (hl:news.length=m*i.size) (hnews:∀j u,news[j]? =some u->w.cell? (a.add j)=some u) (h1:∀u∈news,u.oneCell'=true)
  (hroom:sLen+m<=sCap) (hfit:off+sLen*i.size+news.length<=cur.size):
  (Builtin.append_ #[t,t] ty #[.slice (some ⟨g,off,none⟩) sLen sCap,.slice (some a) m c]).run P w=
   .ok (.slice (some ⟨g,off,none⟩) (sLen+m) sCap) (w.setRow g (cur.toList.take (off+sLen*i.size)++news++cur.toList.drop (off+sLen*i.size+news.length)).toArray):=by
 have hf:=run_firstCells_some (P:=P) w i.size m a m c news hl hnews;have hst:=run_storeCells_at P g (off+sLen*i.size) e news 0 cur w hg (by simpa using hfit) h1;simp only[Nat.add_zero]at hst;have hadd:(⟨g,off,none⟩:Addr).add (sLen*i.size)=⟨g,off+sLen*i.size,none⟩:=by unfold Addr.add;split<;>simp_all
 simp[Builtin.append_,run_underlying ht,sizeOf,typeInfo,hi,Builtin.lenOf,hroom,hf,hadd,hst]
theorem jEu (hE:Elem P t e sz bytes) {xs:List Value} (hown:Vw w v e sz n xs) {v2:Value} {m:Nat} {news:List Value} (hv2:jCX w v2 news m) (hl:news.length=m*sz) (h1:∀u∈news,u.oneCell'=true)
  (hb:(n+m)*bytes<=140737488355328) (h63:n+m<=9223372036854775807):
  ∃v' w',(Builtin.append_ #[t,t] ty #[v,v2]).run P w= .ok v' w'/\Vw w' v' e sz (n+m) (xs++news)/\w.grownBy w' v.ownBlock/\(∀ k,v'.ownBlock=some k->v.ownBlock=some k\/w.heap.size<=k):=by
 obtain ⟨i,z,g1,g2,g3,g4,g5⟩:=hE.info;have same:∀ {n0:Nat},Vw w v e sz n0 xs->m=0->news=[]->Vw w v e sz (n0+m) (xs++news):=by
  intro n0 h hm hn;subst hm;subst hn;simpa using h
 rcases hv2 with ⟨hv2,rfl,rfl⟩|⟨b,off2,cap2,rfl,hc⟩
 ·refine ⟨v,w,?_,same hown I rfl,grownBy_refl _ _,fun k hk=> .inl hk⟩;rcases hown.2 with ⟨rfl,rfl⟩|⟨g,off,cap,cur,rfl,_,hnc,_⟩
  ·rcases hv2 with rfl|⟨a,c,rfl⟩
   ·simp [Builtin.append_,run_underlying hE.slice,sizeOf,typeInfo,g1,Builtin.lenOf,Builtin.firstCells]
   ·simp [Builtin.append_,run_underlying hE.slice,sizeOf,typeInfo,g1,Builtin.lenOf,Builtin.firstCells,loadCells,loadCellsFrom]
  ·rcases hv2 with rfl|⟨a,c,rfl⟩
   ·simp [Builtin.append_,run_underlying hE.slice,sizeOf,typeInfo,g1,Builtin.lenOf,Builtin.firstCells,hnc,storeCells]
   ·simp [Builtin.append_,run_underlying hE.slice,sizeOf,typeInfo,g1,Builtin.lenOf,Builtin.firstCells,loadCells,loadCellsFrom,hnc,storeCells]
 ·have hadd:∀j,(⟨b,off2,none⟩:Addr).add j=⟨b,off2+j,none⟩:=fun j=>by unfold Addr.add;split<;>simp_all
  have hnews:∀j u,news[j]? =some u->w.cell? ((⟨b,off2,none⟩:Addr).add j)=some u:=fun j u hu=>by rw[hadd];exact hc j u hu
  subst g3;subst g4;have hlen:(xs++news).length=(n+m)*i.size:=by rw[List.length_append,hown.1,hl,Nat.add_mul]
  have grown:∀(old:Nat),old<n+m->∀(row:Option Nat),
    Vw (w.drew.alloc (.cells (xs.toArray++news.toArray++Builtin.zeroCells z.cells (grownCap w (n+m) old e-(n+m))) e))
     (.slice (some ⟨w.heap.size,0,none⟩) (n+m) (grownCap w (n+m) old e)) e i.size (n+m) (xs++news)/\
    w.grownBy (w.drew.alloc (.cells (xs.toArray++news.toArray++Builtin.zeroCells z.cells (grownCap w (n+m) old e-(n+m))) e)) row:=by
   intro old ho row;have hge:=grownCap_ge w (n+m) old e;have hcm:grownCap w (n+m) old e<=maxLen:=grownCap_le_maxLen w (n+m) old e (by unfold maxLen;omega);refine ⟨⟨hlen,.inr ⟨w.heap.size,0,_,_,rfl,heap_alloc_new w.drew _,hge,hcm,?_,?_⟩⟩,⟨rfl,rfl,rfl,by simp,fun k hk _=>heap_alloc_old w.drew _ hk⟩⟩
   ·simp only[Array.size_append,List.size_toArray,size_zeroCells,g5,hown.1,hl,<- Nat.add_mul];have:n+m+(grownCap w (n+m) old e-(n+m))=grownCap w (n+m) old e:=by omega
    rw[this];omega
   ·simp only[Array.toList_append,List.append_assoc,List.drop_zero];rw[<- List.append_assoc,<- hlen];exact List.take_left
  rcases hown.2 with ⟨rfl,rfl⟩|⟨g,off,cap,cur,rfl,hg,hnc,hcm,hcs,htake⟩
  ·have hx:xs=[]:=List.eq_nil_of_length_eq_zero (by simpa using hown.1);subst hx
   by_cases hm:m=0
   ·subst hm;have hn:news=[]:=List.eq_nil_of_length_eq_zero (by simpa using hl);subst hn;refine ⟨.slice none 0 0,w,?_,⟨by simp,.inl ⟨rfl,rfl⟩⟩,grownBy_refl _ _,fun k hk=>by cases hk⟩
    simp[Builtin.append_,run_underlying hE.slice,sizeOf,typeInfo,g1,Builtin.lenOf,Builtin.firstCells,loadCells,loadCellsFrom]
   ·have hr:=run_append_nil (P:=P) w t ty e i z hE.slice g1 g2 ⟨b,off2,none⟩ m cap2 news hl hnews (by omega) (by omega) (by have hb:=hb;simp only[Nat.zero_add]at hb;omega);have hgr:=grown 0 (by omega) (Value.ownBlock (.slice none 0 0));simp only[Nat.zero_add,List.nil_append,Array.empty_append]at hgr ⊢;exact ⟨_,_,hr,hgr.1,hgr.2,fun k hk=>by cases hk;exact .inr (Nat.le_refl _)⟩
  ·by_cases hroom:n+m<=cap
   ·have hmul:(n+m)*i.size<=cap*i.size:=Nat.mul_le_mul_right _ hroom;have hfit:off+n*i.size+news.length<=cur.size:=by rw[hl];rw[Nat.add_mul]at hmul;omega
    have hr:=KN (w:=w) (P:=P) t ty e i hE.slice g1 g off n cap cur hg ⟨b,off2,none⟩ m cap2 news hl hnews h1 hroom hfit;refine ⟨_,_,hr,⟨hlen,.inr ⟨g,off,cap,_,rfl,setRow_heap w g cur _ e _ hg,hroom,hcm,?_,?_⟩⟩,⟨rfl,rfl,rfl,by simp,fun k _ hk=>setRow_other w g k _ (fun e=>hk (by simp[Value.ownBlock,e]))⟩,fun k hk=>by cases hk;exact .inl rfl⟩
    ·simp only[List.size_toArray,List.length_append,List.length_take,List.length_drop,Array.length_toList];omega
    ·have hlen2:off<=cur.toList.length:=by rw[Array.length_toList];omega
     have e1:cur.toList.take (off+n*i.size)=cur.toList.take off++xs:=by rw[<- htake,List.take_add]
     simp only[e1,List.append_assoc];rw[List.drop_append_of_le_length (by simp;omega),List.drop_eq_nil_of_le (by simp;omega),List.nil_append,<- List.append_assoc,<- hlen];exact List.take_left
   ·have holds:∀j u,xs[j]? =some u->w.cell? ((⟨g,off,none⟩:Addr).add j)=some u:=by
     intro j u hu;have ha:(⟨g,off,none⟩:Addr).add j=⟨g,off+j,none⟩:=by unfold Addr.add;split<;>simp_all
     rw[ha,cell_of_row w g (off+j) cur e (0,0) hg];rw[<- htake,List.getElem?_take]at hu
     split at hu
     ·simpa using hu
     ·cases hu
    have hr:=run_append_grow (P:=P) w t ty e i z hE.slice g1 g2 ⟨g,off,none⟩ n cap xs hown.1 holds ⟨b,off2,none⟩ m cap2 news hl hnews (by omega) (by omega) (growslice_fits (by omega) hb);have hgr:=grown cap (by omega) (Value.ownBlock (.slice (some ⟨g,off,none⟩) n cap));exact ⟨_,_,hr,hgr.1,hgr.2,fun k hk=>by cases hk;exact .inr (Nat.le_refl _)⟩
def kS (sz:Nat) (v:Value) (l h:Nat):Value:=
 match v with
 | .slice a _ cap=> .slice (if cap=l then a else a.map (·.add (l*sz))) (h-l) (cap-l)
 |v=>v
theorem jPW {b:TypeId} {l h:Nat} {lo hi:Option Value} (hT:P.underlying t=some (.slice e)) (hS:(P.info? e).map (·.size)=some sz) (hv:Sl w v cs n)
  (hlo:(lo=none/\l=0)\/∃k,lo=some (.int k (l:Int))) (hhi:(hi=none/\h=n)\/∃k,hi=some (.int k (h:Int))) (h1:l<=h) (h2:h<=n) (w1:World):
  (Instr.sliceAt t v lo hi none).run P w1= .ok (kS sz v l h) w1:=by
 obtain ⟨_,a,c,rfl,hc⟩:=hv;obtain ⟨ti,g1,g2⟩:∃ti,P.info? e=some ti/\ti.size=sz:=by
  cases h:P.info? e with
  |none=>rw[h]at hS;cases hS
  |some ti=>rw[h]at hS;exact ⟨ti,rfl,by simpa using hS⟩
 have hl':(l:Int)<=(h:Int):=by omega
 have hlc:h<=c:=by omega
 have e0:(sizeOf e).run P w1= .ok sz w1:=by simp[sizeOf,typeInfo,g1,g2]
 rcases hlo with ⟨rfl,rfl⟩|⟨k1,rfl⟩<;>rcases hhi with ⟨rfl,rfl⟩|⟨k2,rfl⟩<;>
  simp[Instr.sliceAt,Instr.slice,Instr.sliceBounds,Instr.sliceBound,asIntOf,underlying,hT,e0,kS,h1,hlc]
theorem jKS (sz:Nat) (v:Value) (l h:Nat):(kS sz v l h).ownBlock=v.ownBlock:=by
 unfold kS;cases v with
 |slice a n c=>
  simp only[Value.ownBlock]
  split
  ·rename_i heq
   cases a with
   |none=>simp at heq
   |some a=>
    simp only[Value.slice.injEq,Option.map_some]at heq
    split at heq
    ·have:=heq.1;simp at this;subst this;rfl
    ·have:=heq.1;simp at this;subst this;simp[Addr.add];split<;>rfl
  ·rename_i heq
   cases a with
   |none=>rfl
   |some a=>
    exfalso
    refine heq (if c=l then a else a.add (l*sz)) (h-l) (c-l) ?_;simp only[Option.map_some]
    split<;>rfl
 |_=>rfl
theorem Sl.sub {xs:List Value} {l h:Nat} (hv:Sl w v xs n) (hl:xs.length=n*sz) (h1:l<=h) (h2:h<=n):Sl w (kS sz v l h) ((xs.drop (l*sz)).take ((h-l)*sz)) (h-l):=by
 obtain ⟨hi,a,c,rfl,hc⟩:=hv;refine ⟨?_,_,c-l,rfl,by omega⟩
 by_cases h0:h-l=0
 ·rw [h0];simp only[Nat.zero_mul,List.take_zero];unfold kS;rw[h0]
  by_cases hcl:c=l
  ·subst hcl;simp only[if_true,Nat.sub_self];cases a with
   |none=>exact .inl ⟨.inl rfl,rfl,rfl⟩
   |some a=>exact .inl ⟨.inr ⟨a,0,rfl⟩,rfl,rfl⟩
  ·simp only[hcl,if_false];cases a with
   |none=>
    rcases hi with ⟨h|⟨a,c',h⟩,_,_⟩|⟨b,off,cap,h,_⟩
    ·simp at h;omega
    ·simp at h
    ·simp at h
   |some a=>exact .inl ⟨.inr ⟨_,_,rfl⟩,rfl,rfl⟩
 ·rcases hi with ⟨_,hn,_⟩|⟨b,off,cap,h,hcell⟩
  ·omega
  ·simp only[Value.slice.injEq]at h;obtain ⟨rfl,_,rfl⟩:=h;have hne:¬c=l:=by omega
   have ha:(⟨b,off,none⟩:Addr).add (l*sz)=⟨b,off+l*sz,none⟩:=by unfold Addr.add;split<;>simp_all
   refine .inr ⟨b,off+l*sz,c-l,by simp[kS,hne,ha],fun j u hu=>?_⟩;rw[List.getElem?_take]at hu
   split at hu
   ·rw [List.getElem?_drop]at hu;have:=hcell _ _ hu
    rwa[<- Nat.add_assoc]at this
   ·cases hu
theorem Vw.sub {xs:List Value} {l h:Nat} (hv:Vw w v e sz n xs) (h1:l<=h) (h2:h<=n):Vw w (kS sz v l h) e sz (h-l) ((xs.drop (l*sz)).take ((h-l)*sz)):=by
 obtain ⟨hl,hv⟩:=hv;have hlen:((xs.drop (l*sz)).take ((h-l)*sz)).length=(h-l)*sz:=by
  have e1:l*sz<=n*sz:=Nat.mul_le_mul_right _ (by omega);have e2:(h-l)*sz<=(n-l)*sz:=Nat.mul_le_mul_right _ (by omega);rw[Nat.sub_mul n l sz]at e2;rw[List.length_take,List.length_drop,hl];omega
 refine ⟨hlen,?_⟩;rcases hv with ⟨rfl,rfl⟩|⟨g,off,cap,cur,rfl,hg,hnc,hcm,hcs,htake⟩
 ·have:l=0:=by omega
  have:h=0:=by omega
  subst l;subst h;exact .inl ⟨by simp[kS],rfl⟩
 ·have ha:(⟨g,off,none⟩:Addr).add (l*sz)=⟨g,off+l*sz,none⟩:=by unfold Addr.add;split<;>simp_all
  by_cases hcl:cap=l
  ·subst hcl;have h0:h-cap=0:=by omega
   refine .inr ⟨g,off,0,cur,by simp[kS,h0],hg,by omega,by omega,by omega,by simp[h0]⟩
  ·refine .inr ⟨g,off+l*sz,cap-l,cur,by simp[kS,hcl,ha],hg,by omega,by omega,?_,?_⟩
   ·have e1:l*sz<=cap*sz:=Nat.mul_le_mul_right _ (by omega);rw[Nat.sub_mul];omega
   ·rw [<- htake,List.drop_take,List.take_take,List.drop_drop]
    congr 1
    rw[Nat.min_eq_left];have e2:(h-l)*sz<=(n-l)*sz:=Nat.mul_le_mul_right _ (by omega);rw[Nat.sub_mul n l sz]at e2;exact e2
end
def jKR:Nat->List Value->Option (List Value)
 |0,_=>some []
 |n+1,c::cs=>match jKR n cs with
  |some l=>some (c::l)
  |none=>none
 |_+1,[]=>none
def jLp:List Value->Nat->Nat->Option (List Value)
 |cs,0,m=>jKR m cs
 |_::cs,o+1,m=>jLp cs o m
 |[],_+1,_=>none
theorem jJV:∀ {m:Nat} {cs us:List Value},jKR m cs=some us->us=cs.take m/\us.length=m
 |0,cs,us,h=>by simp[jKR]at h;subst h;simp
 |n+1,[],us,h=>by simp[jKR]at h
 |n+1,c::cs,us,h=>by
  unfold jKR at h
  split at h
  ·rename_i l hl;cases h
   obtain ⟨h1,h2⟩:=jJV hl;exact ⟨by simp[h1],by simp[h2]⟩
  ·cases h
theorem jEx:∀ {o m:Nat} {cs us:List Value},jLp cs o m=some us->us=(cs.drop o).take m/\us.length=m
 |0,m,cs,us,h=>by unfold jLp at h;simpa using jJV h
 |o+1,m,c::cs,us,h=>by unfold jLp at h;simpa using jEx h
 |o+1,m,[],us,h=>by simp[jLp]at h
theorem jPZ {o m:Nat} {cs us:List Value} (h:jLp cs o m=some us):∀(j:Nat) u,us[j]? =some u->cs[o+j]? =some u:=by
 obtain ⟨h1,h2⟩:=jEx h;intro j u hu;have hj:j<m:=by
  have:=(List.getElem?_eq_some_iff.1 hu).1;omega
 rw[h1,List.getElem?_take_of_lt hj,List.getElem?_drop]at hu;exact hu
def jMz:List Value->List Value->List Value
 |[],cs=>cs
 |u::us,_::cs=>u::jMz us cs
 |_::_,[]=>[]
def jK1:List Value->Nat->List Value->List Value
 |cs,0,us=>jMz us cs
 |c::cs,o+1,us=>c::jK1 cs o us
 |[],_+1,_=>[]
def jLq:List Value->Nat
 |[]=>0
 |_::r=>jLq r+1
theorem jAe:∀(l:List Value),jLq l=l.length
 |[]=>rfl
 |_::r=>by simp[jLq,jAe r]
theorem jJx:∀ {us cs:List Value},us.length<=cs.length->jMz us cs=us++cs.drop us.length
 |[],cs,_=>by simp[jMz]
 |u::us,[],h=>by simp at h
 |u::us,c::cs,h=>by simp[jMz,jJx (us:=us) (cs:=cs) (by simpa using h)]
theorem jE3:∀ {o:Nat} {us cs:List Value},o+us.length<=cs.length->jK1 cs o us=cs.take o++us++cs.drop (o+us.length)
 |0,us,cs,h=>by unfold jK1;rw[jJx (by omega)];simp
 |o+1,us,[],h=>by simp at h
 |o+1,us,c::cs,h=>by
  unfold jK1;rw[jE3 (by simp at h;omega)];simp only[List.take_succ_cons,List.cons_append,List.append_assoc];rw[show o+1+us.length=(o+us.length)+1 by omega,List.drop_succ_cons]
def Ju:List Value->Bool
 |[]=>true
 | .agg _::_=>false
 | .tuple _::_=>false
 |_::r=>Ju r
theorem jH:∀ {us:List Value},Ju us=true->∀u∈us,u.oneCell'=true
 |[],_,u,hu=>by cases hu
 |v::r,h,u,hu=>by
  rcases List.mem_cons.1 hu with rfl|hu
  ·cases u<;>first|rfl|(simp [Ju]at h)
  ·refine jH (us:=r) ?_ u hu;cases v<;>first|exact h|(simp [Ju]at h)
section
variable {P : Program} {f : FuncId} {N : Nat} {k : List Item} {σ : Store} {B : Base} {H H' : List Chunk} {R : Ending -> World -> Prop} {ops l : List Oper} {o : Oper} {K : Act -> World -> Prop} {KQ : Act -> Prop}
 {d:Nat} {op:Op} {ty:TypeId} {pos:String} {af:Array Edge} {gd:Option (Nat×Bool)} {v u:Value} {w:World} {d':Option Tmp}
theorem jJ9 {t:TypeId} {td:TypeDesc} {x:Operand} {b j:Nat} {T:TypeId} {cs:List Value} (i:Nat) (hi:J5 H i=some (jS b cs T)) (hT:P.underlying t=some td) (hp:zK td=true)
  (hx:lookO σ x=some (.pointer (some ⟨b,j,none⟩))) (hu:jJz cs j=some u):∀w,Sat B H w->(execOp (evO σ) ⟨d',.load t x,ty,pos,af,gd⟩).run P w= .ok (.value u) w:=by
 intro w hw;have hB:Blk w b cs T:=hw.nth hi;exact jKE hT hp (jB hx) (by rw[hB.cell,<- jHy];exact hu)
theorem jFL {t:TypeId} {td:TypeDesc} {x:Operand} {b o m:Nat} {T:TypeId} {cs us:List Value} (i:Nat) (hi:J5 H i=some (jS b cs T)) (hT:P.underlying t=some td) (hr:td.isRow=true) (hm:(P.info? t).map (·.size)=some m)
  (hx:lookO σ x=some (.pointer (some ⟨b,o,none⟩))) (hu:jLp cs o m=some us):∀w,Sat B H w->(execOp (evO σ) ⟨d',.load t x,ty,pos,af,gd⟩).run P w= .ok (.value (.agg ⟨us⟩)) w:=by
 intro w hw;have hB:Blk w b cs T:=hw.nth hi;exact jKD (cs:=us) (fun j u hj=>by rw[hB.cell];exact jPZ hu j u hj) hT hr (by rw[(jEx hu).2];exact hm) hx
def Rd (B:Base) (H:List Chunk) (v:Value) (cs:List Value) (n:Nat):Prop:=∀w,Sat B H w->Sl w v cs n
theorem qA {w0:World} {cs:List Value} {n:Nat} (hv:Sl w0 v cs n):Rd (base w0) H v cs n:=fun w hw=>hv.ext hw.jF
theorem Rd.own {e sz n:Nat} {xs:List Value} (i:Nat) (hi:J5 H i=some (jM v e sz n xs)):Rd B H v xs n:=fun w hw=>(show Vw w v e sz n xs from hw.nth hi).sl
theorem Rd.sub {sz n l h:Nat} {xs:List Value} (hv:Rd B H v xs n) (hl:xs.length=n*sz) (h1:l<=h) (h2:h<=n):Rd B H (kS sz v l h) ((xs.drop (l*sz)).take ((h-l)*sz)) (h-l):=fun w hw=>(hv w hw).sub hl h1 h2
theorem Rd.at {n:Nat} {xs:List Value} (hv:Rd B H v xs n) (hw:Sat B H w):Sl w v xs n:=hv w hw
theorem Rd.is {n:Nat} {xs:List Value} (hv:Rd B H v xs n) (hw:Sat B H w):jCX w v xs n:=(hv w hw).1
theorem jQw {t e:TypeId} {x:Operand} {n:Nat} {cs:List Value} (hv:Rd B H v cs n) (hT:P.underlying t=some (.slice e)) (hx:lookO σ x=some v):
  ∀w,Sat B H w->(execOp (evO σ) ⟨d',.call ⟨.builtin .len,#[x],#[t]⟩,ty,pos,af,gd⟩).run P w= .ok (.value (.int .i64 (n:Int))) w:=fun w hw=>jRz (hv.is hw) hT hx w
theorem jGp {t e sz bytes:TypeId} {x i:Operand} {n:Nat} {cs:List Value} {kk:IntKind} {m:Int} (hv:Rd B H v cs n) (hE:Elem P t e sz bytes) (j:Nat) (hx:lookO σ x=some v) (hi:lookO σ i=some (.int kk m)) (hj:m=(j:Int)) (hlt:j<n):
  ∀w,Sat B H w->(execOp (evO σ) ⟨d',.indexAddr t x i,ty,pos,af,gd⟩).run P w= .ok (.value (jv v (j*sz))) w:=fun w hw=>jR0 (hv.is hw) hE hx hi j hj hlt w
theorem jFM {t:TypeId} {td:TypeDesc} {x:Operand} {n j:Nat} {cs:List Value} (hv:Rd B H v cs n) (hT:P.underlying t=some td) (hp:zK td=true) (hx:lookO σ x=some (jv v j)) (hu:cs[j]? =some u):
  ∀w,Sat B H w->(execOp (evO σ) ⟨d',.load t x,ty,pos,af,gd⟩).run P w= .ok (.value u) w:=by
 intro w hw;obtain ⟨p,h1,h2,_⟩:=(hv.is hw).cell hu;rw[h1]at hx;exact jKE hT hp (jB hx) h2
theorem jA5 {t:TypeId} {td:TypeDesc} {x:Operand} {n j:Nat} {cs us:List Value} (hv:Rd B H v cs n) (hT:P.underlying t=some td) (hr:td.isRow=true) (hm:(P.info? t).map (·.size)=some us.length) (hne:us≠[]) (hx:lookO σ x=some (jv v j)) (hu:∀(i:Nat) u,us[i]? =some u->cs[j+i]? =some u):
  ∀w,Sat B H w->(execOp (evO σ) ⟨d',.load t x,ty,pos,af,gd⟩).run P w= .ok (.value (.agg ⟨us⟩)) w:=by
 intro w hw;obtain ⟨b,o,e1,e2⟩:=(hv.is hw).range (m:=0) hne hu;rw[e1]at hx;exact jKD e2 hT hr hm hx
theorem jDB {s:TypeId} {x:Operand} {fl:List Field} {fi j n:Nat} {fd:Field} {ti:TypeInfo} {cs:List Value} (hv:Rd B H v cs n) (hj:j<cs.length) (hT:P.underlying s=some (.struct ⟨fl⟩)) (hf:jK4 fl fi=some fd) (hti:P.info? fd.type=some ti) (hz:Nat.ble 1 ti.size=true) (hx:lookO σ x=some (jv v j)):
  ∀w,Sat B H w->(execOp (evO σ) ⟨some d,.fieldAddr s x fi,ty,pos,af,gd⟩).run P w= .ok (.value (jv v (j+fd.offset))) w:=by
 intro w hw;rcases (hv.is hw)with ⟨_,_,rfl⟩|⟨b,off,cap,rfl,_⟩
 ·simp at hj
 ·have hx':lookO σ x=some (.pointer (some ⟨b,off+j,none⟩)):=hx;have hz':ti.size≠0:=by have:=Nat.le_of_ble_eq_true hz;omega
  have hc:evC P σ (.fieldAddr s x fi)=some (.pointer (some ⟨b,jPk (off+j) fd.offset,none⟩),0<1):=by
   simp only[evC,hT,hx',hf,hti]
   split
   ·rename_i h0;exact absurd h0 hz'
   ·rfl
  have:=jDH (P:=P) (w:=w) (d:=some d) (ty:=ty) (pos:=pos) (af:=af) (gd:=gd) hc (by decide);rw[this,jJt]
  simp[jv,Nat.add_assoc]
theorem jQv {t e sz:TypeId} {x:Operand} {lo hi:Option Operand} {n l h:Nat} {cs:List Value} (hv:Rd B H v cs n) (hT:P.underlying t=some (.slice e)) (hS:(P.info? e).map (·.size)=some sz) (hx:lookO σ x=some v)
  (hlo:(lo=none/\l=0)\/∃y k,lo=some y/\lookO σ y=some (.int k (l:Int))) (hhi:(hi=none/\h=n)\/∃y k,hi=some y/\lookO σ y=some (.int k (h:Int))) (h1:l<=h) (h2:h<=n):
  ∀w,Sat B H w->(execOp (evO σ) ⟨d',.slice t x lo hi none,ty,pos,af,gd⟩).run P w= .ok (.value (kS sz v l h)) w:=by
 intro w hw;have:=jPW (P:=P) (v:=v) (lo:=lo.map (evO σ)) (hi:=hi.map (evO σ)) (b:=0) hT hS (hv w hw) (by
  rcases hlo with ⟨rfl,h⟩|⟨y,k,rfl,h⟩
  ·exact .inl ⟨rfl,h⟩
  ·exact .inr ⟨k,by simp[jB h]⟩) (by
  rcases hhi with ⟨rfl,h⟩|⟨y,k,rfl,h⟩
  ·exact .inl ⟨rfl,h⟩
  ·exact .inr ⟨k,by simp[jB h]⟩) h1 h2 w
 simp[execOp,jB hx,this]
theorem qD {t e:TypeId} {x:Operand} {n:Nat} {cs:List Value} (hv:Rd B H v cs n) (hs:stat N ops ⟨some d,.call ⟨.builtin .len,#[x],#[t]⟩,ty,pos,af,gd⟩ σ=true) (hT:P.underlying t=some (.slice e)) (hx:lookO σ x=some v)
  (h:HL P N ops l ((d,.int .i64 (n:Int))::σ) B H K):HL P N ops (⟨some d,.call ⟨.builtin .len,#[x],#[t]⟩,ty,pos,af,gd⟩::l) σ B H K:=QL hs (jQw hv hT hx) h
theorem yE {t e:TypeId} {x:Operand} {n:Nat} {cs:List Value} (hv:Rd B H v cs n) (hs:stat N ops ⟨some d,.call ⟨.builtin .len,#[x],#[t]⟩,ty,pos,af,gd⟩ σ=true) (hT:P.underlying t=some (.slice e)) (hx:lookO σ x=some v)
  (h:HQ P N ops l ((d,.int .i64 (n:Int))::σ) B H KQ):HQ P N ops (⟨some d,.call ⟨.builtin .len,#[x],#[t]⟩,ty,pos,af,gd⟩::l) σ B H KQ:=JL.op hs (jQw hv hT hx) h
theorem qE {t e sz bytes:TypeId} {x i:Operand} {n:Nat} {cs:List Value} {kk:IntKind} {m:Int} (hv:Rd B H v cs n) (hE:Elem P t e sz bytes) (j:Nat) (hs:stat N ops ⟨some d,.indexAddr t x i,ty,pos,af,gd⟩ σ=true) (hx:lookO σ x=some v) (hi:lookO σ i=some (.int kk m)) (hj:m=(j:Int)) (hlt:j<n)
  (h:HL P N ops l ((d,jv v (j*sz))::σ) B H K):HL P N ops (⟨some d,.indexAddr t x i,ty,pos,af,gd⟩::l) σ B H K:=QL hs (jGp hv hE j hx hi hj hlt) h
theorem qW {t e sz bytes:TypeId} {x i:Operand} {n:Nat} {cs:List Value} {kk:IntKind} {m:Int} (hv:Rd B H v cs n) (hE:Elem P t e sz bytes) (j:Nat) (hs:stat N ops ⟨some d,.indexAddr t x i,ty,pos,af,gd⟩ σ=true) (hx:lookO σ x=some v) (hi:lookO σ i=some (.int kk m)) (hj:m=(j:Int)) (hlt:j<n)
  (h:HQ P N ops l ((d,jv v (j*sz))::σ) B H KQ):HQ P N ops (⟨some d,.indexAddr t x i,ty,pos,af,gd⟩::l) σ B H KQ:=JL.op hs (jGp hv hE j hx hi hj hlt) h
theorem qF {t:TypeId} {td:TypeDesc} {x:Operand} {n j:Nat} {cs:List Value} (hv:Rd B H v cs n) (hs:stat N ops ⟨some d,.load t x,ty,pos,af,gd⟩ σ=true) (hT:P.underlying t=some td) (hp:zK td=true) (hx:lookO σ x=some (jv v j)) (hu:cs[j]? =some u)
  (h:HL P N ops l ((d,u)::σ) B H K):HL P N ops (⟨some d,.load t x,ty,pos,af,gd⟩::l) σ B H K:=QL hs (jFM hv hT hp hx hu) h
theorem qj {t:TypeId} {td:TypeDesc} {x:Operand} {n j:Nat} {cs:List Value} (hv:Rd B H v cs n) (hs:stat N ops ⟨some d,.load t x,ty,pos,af,gd⟩ σ=true) (hT:P.underlying t=some td) (hp:zK td=true) (hx:lookO σ x=some (jv v j)) (hu:cs[j]? =some u)
  (h:HQ P N ops l ((d,u)::σ) B H KQ):HQ P N ops (⟨some d,.load t x,ty,pos,af,gd⟩::l) σ B H KQ:=JL.op hs (jFM hv hT hp hx hu) h
theorem qN {t:TypeId} {td:TypeDesc} {x:Operand} {n j:Nat} {cs us:List Value} (hv:Rd B H v cs n) (hs:stat N ops ⟨some d,.load t x,ty,pos,af,gd⟩ σ=true) (hT:P.underlying t=some td) (hr:td.isRow=true) (hm:(P.info? t).map (·.size)=some us.length) (hne:us≠[]) (hx:lookO σ x=some (jv v j)) (hu:∀(i:Nat) u,us[i]? =some u->cs[j+i]? =some u)
  (h:HL P N ops l ((d,.agg ⟨us⟩)::σ) B H K):HL P N ops (⟨some d,.load t x,ty,pos,af,gd⟩::l) σ B H K:=QL hs (jA5 hv hT hr hm hne hx hu) h
theorem qy {t:TypeId} {td:TypeDesc} {x:Operand} {n j:Nat} {cs us:List Value} (hv:Rd B H v cs n) (hs:stat N ops ⟨some d,.load t x,ty,pos,af,gd⟩ σ=true) (hT:P.underlying t=some td) (hr:td.isRow=true) (hm:(P.info? t).map (·.size)=some us.length) (hne:us≠[]) (hx:lookO σ x=some (jv v j)) (hu:∀(i:Nat) u,us[i]? =some u->cs[j+i]? =some u)
  (h:HQ P N ops l ((d,.agg ⟨us⟩)::σ) B H KQ):HQ P N ops (⟨some d,.load t x,ty,pos,af,gd⟩::l) σ B H KQ:=JL.op hs (jA5 hv hT hr hm hne hx hu) h
theorem qY {s:TypeId} {x:Operand} {fl:List Field} {fi j n:Nat} {fd:Field} {ti:TypeInfo} {cs:List Value} (hv:Rd B H v cs n) (hj:j<cs.length) (hs:stat N ops ⟨some d,.fieldAddr s x fi,ty,pos,af,gd⟩ σ=true) (hT:P.underlying s=some (.struct ⟨fl⟩)) (hf:jK4 fl fi=some fd) (hti:P.info? fd.type=some ti) (hz:Nat.ble 1 ti.size=true) (hx:lookO σ x=some (jv v j))
  (h:HL P N ops l ((d,jv v (j+fd.offset))::σ) B H K):HL P N ops (⟨some d,.fieldAddr s x fi,ty,pos,af,gd⟩::l) σ B H K:=QL hs (jDB hv hj hT hf hti hz hx) h
theorem QE {s:TypeId} {x:Operand} {fl:List Field} {fi j n:Nat} {fd:Field} {ti:TypeInfo} {cs:List Value} (hv:Rd B H v cs n) (hj:j<cs.length) (hs:stat N ops ⟨some d,.fieldAddr s x fi,ty,pos,af,gd⟩ σ=true) (hT:P.underlying s=some (.struct ⟨fl⟩)) (hf:jK4 fl fi=some fd) (hti:P.info? fd.type=some ti) (hz:Nat.ble 1 ti.size=true) (hx:lookO σ x=some (jv v j))
  (h:HQ P N ops l ((d,jv v (j+fd.offset))::σ) B H KQ):HQ P N ops (⟨some d,.fieldAddr s x fi,ty,pos,af,gd⟩::l) σ B H KQ:=JL.op hs (jDB hv hj hT hf hti hz hx) h
theorem yH (h:HL P N ops (o::l) σ B H K):HL P N ops (o::l) σ B H K:=h
theorem qm {t:TypeId} {x:Operand} (h:HL P N ops (⟨some d,.load t x,ty,pos,af,gd⟩::l) σ B H K):HL P N ops (⟨some d,.load t x,ty,pos,af,gd⟩::l) σ B H K:=h
theorem qb {t:TypeId} {x y:Operand} (h:HL P N ops (⟨none,.store t x y,ty,pos,af,gd⟩::l) σ B H K):HL P N ops (⟨none,.store t x y,ty,pos,af,gd⟩::l) σ B H K:=h
theorem YV (h:HQ P N ops (o::l) σ B H KQ):HQ P N ops (o::l) σ B H KQ:=h
theorem yV {t:TypeId} {x:Operand} (h:HQ P N ops (⟨some d,.load t x,ty,pos,af,gd⟩::l) σ B H KQ):HQ P N ops (⟨some d,.load t x,ty,pos,af,gd⟩::l) σ B H KQ:=h
theorem HL.box {x:Operand} {T:TypeId} (hs:stat N ops ⟨some d,.box T x,ty,pos,af,gd⟩ σ=true) (hx:lookO σ x=some u)
  (h:∀b,HL P N ops l ((d,.pointer (some ⟨b,0,none⟩))::σ) B (jS b (ji u) T::H) K):HL P N ops (⟨some d,.box T x,ty,pos,af,gd⟩::l) σ B H K:=
 fun w hw=>JH.box hs hx fun w' h1 h2 _=>h w.heap.size w' (hw.push h2 h1 fun k hk=>Nat.le_of_eq hk.symm)
theorem HL.alloc {T:TypeId} (hs:stat N ops ⟨some d,.alloc T,ty,pos,af,gd⟩ σ=true) (hz:(P.info? T).bind (·.zero)=some u)
  (h:∀b,HL P N ops l ((d,.pointer (some ⟨b,0,none⟩))::σ) B (jS b (ji u) T::H) K):HL P N ops (⟨some d,.alloc T,ty,pos,af,gd⟩::l) σ B H K:=
 fun w hw=>JH.alloc hs hz fun w' h1 h2 _=>h w.heap.size w' (hw.push h2 h1 fun k hk=>Nat.le_of_eq hk.symm)
theorem jKa {t:TypeId} {b o:Nat} {T:TypeId} {cs us:List Value} {y:Value} (hB:Blk w b cs T) (hm:(P.info? t).map (·.size)=some us.length) (hy:ji y=us) (hone:Ju us=true) (hfit:o+us.length<=cs.length):
  (storeVar t ⟨b,o,none⟩ y).run P w= .ok () (w.setRow b (jK1 cs o us).toArray):=by
 have e1:(sizeOf t).run P w= .ok us.length w:=by
  cases h:P.info? t with
  |none=>rw[h]at hm;cases hm
  |some ti=>rw[h]at hm;simp at hm;simp[sizeOf,typeInfo,h,hm]
 have hst:=run_storeCells_at P b o T us 0 cs.toArray w hB (by simpa using hfit) (jH hone);have hc:y.cells=us.toArray:=by rw[Jr,hy]
 simp only[Nat.add_zero]at hst;have e2:(cs.toArray.toList.take o++us++cs.toArray.toList.drop (o+us.length)).toArray=(jK1 cs o us).toArray:=by rw[jE3 hfit]
 rw[e2]at hst;unfold storeVar;rw[Sem.run_bind,e1];simp only[Result.andThen_ok,hc]
 simp[hst]
theorem Yj {t:TypeId} {x y:Operand} {b o:Nat} {T:TypeId} {cs us:List Value} (i:Nat) (hx:lookO σ x=some (.pointer (some ⟨b,o,none⟩))) (hi:J5 H i=some (jS b cs T)) (hs:stat N ops ⟨none,.store t x y,ty,pos,af,gd⟩ σ=true)
  (hy:lookO σ y=some u) (hus:ji u=us) (hm:(P.info? t).map (·.size)=some (jLq us)) (hone:Ju us=true) (hfit:Nat.ble (o+jLq us) (jLq cs)=true)
  (h:HL P N ops l σ B (jBK H i (jS b (jK1 cs o us) T)) K):HL P N ops (⟨none,.store t x y,ty,pos,af,gd⟩::l) σ B H K:=by
 rw[jAe]at hm;have hfit':=Nat.le_of_ble_eq_true hfit;rw[jAe,jAe]at hfit';refine YR hs (fun w hw=>?_) h;have hB:Blk w b cs T:=hw.nth hi;have hr:=jKa (P:=P) (t:=t) (o:=o) hB hm hus hone hfit';have hB2:=hB;unfold Blk at hB2;refine ⟨w.setRow b (jK1 cs o us).toArray,?_,?_⟩
 ·simp [execOp,jB hx,jB hy,Instr.storeAt,Instr.sureAddr,hr]
 ·refine hw.upd hi I I I (by simp[World.setRow]) (fun k hk hne=>?_) ?_ (fun k hk=> .inl hk)
  ·exact setRow_other w b k _ (fun e=>hne e)
  ·show Blk _ b _ T;unfold Blk;simp[World.setRow,hB2,Array.getElem?_modify]
theorem qJ {t e sz bytes:TypeId} {s x:Operand} {v2:Value} {n m:Nat} {xs news:List Value} (i:Nat) (hi:J5 H i=some (jM v e sz n xs)) (hE:Elem P t e sz bytes) (hv2:Rd B H v2 news m)
  (hs:stat N ops ⟨some d,.call ⟨.builtin .append,#[s,x],#[t,t]⟩,ty,pos,af,gd⟩ σ=true) (hx:lookO σ s=some v) (hy:lookO σ x=some v2) (hl:news.length=m*sz) (h1:∀u∈news,u.oneCell'=true)
  (hb:(n+m)*bytes<=140737488355328) (h63:n+m<=9223372036854775807)
  (h:∀v',HL P N ops l ((d,v')::σ) B (jBK H i (jM v' e sz (n+m) (xs++news))) K):HL P N ops (⟨some d,.call ⟨.builtin .append,#[s,x],#[t,t]⟩,ty,pos,af,gd⟩::l) σ B H K:=by
 refine Qt (fun v=>v) (fun v'=>jBK H i (jM v' e sz (n+m) (xs++news))) (fun _=>True) hs (fun w hw=>?_) (fun v' _=>h v');obtain ⟨v',w',hr,h2,h3,h4⟩:=jEu (P:=P) (ty:=ty) hE (show Vw w v e sz n xs from hw.nth hi) (hv2.is hw) hl h1 hb h63;refine ⟨v',w',?_,trivial,hw.updG hi h3 (fun k hk=>hk) h2 h4⟩
 simp[execOp,resolve,jB hx,jB hy,invoke,builtin,hr]
theorem qH {t e sz bytes:TypeId} {ps:List (Nat×Operand)} {xs:List Operand} {vs:List Value} {m:Nat} {cs:List Value} (hE:Elem P t e sz bytes) (hs:stat N ops ⟨some d,.buildSlice t m ps.toArray,ty,pos,af,gd⟩ σ=true) (hps:jC1 0 ps=some xs) (hvs:vals σ xs=some vs) (hcs:jDD sz vs=some cs) (hm:vs.length=m) (hsm:m*sz<=16777216) (hm0:0<m)
  (h:∀v',HL P N ops l ((d,v')::σ) B (jM v' e sz m cs::H) K):HL P N ops (⟨some d,.buildSlice t m ps.toArray,ty,pos,af,gd⟩::l) σ B H K:=
 fun w hw=>YE hE hs hps hvs hcs hm hsm hm0 fun w' v' h1 h2 h3=>h v' w' (hw.push h3 (Yb h1) (jK3 h1))
theorem Sat.J6 (h:Sat B H w) (e sz:Nat):Sat B (jM (.slice none 0 0) e sz 0 []::H) w:=
 h.push (Below.refl _ _) ⟨by simp,.inl ⟨rfl,rfl⟩⟩ (fun k hk=>by cases hk)
theorem HR.J6 (e sz:Nat) (h:HR P f N k σ B (jM (.slice none 0 0) e sz 0 []::H) R):HR P f N k σ B H R:=fun w hw=>h w (hw.J6 e sz)
theorem yF {t e sz:TypeId} {x:Operand} {lo hi:Option Operand} {n:Nat} (a b:Nat) {cs:List Value} (i:Nat) (hi':J5 H i=some (jM v e sz n cs)) (hs:stat N ops ⟨some d,.slice t x lo hi none,ty,pos,af,gd⟩ σ=true) (hT:P.underlying t=some (.slice e)) (hS:(P.info? e).map (·.size)=some sz) (hx:lookO σ x=some v)
  (hlo:(lo=none/\a=0)\/∃y k,lo=some y/\lookO σ y=some (.int k (a:Int))) (hhi:(hi=none/\b=n)\/∃y k,hi=some y/\lookO σ y=some (.int k (b:Int))) (h1:a<=b) (h2:b<=n)
  (h:HL P N ops l ((d,kS sz v a b)::σ) B (jBK H i (jM (kS sz v a b) e sz (b-a) ((cs.drop (a*sz)).take ((b-a)*sz)))) K):HL P N ops (⟨some d,.slice t x lo hi none,ty,pos,af,gd⟩::l) σ B H K:=by
 refine QL hs (jQv (Rd.own i hi') hT hS hx hlo hhi h1 h2) fun w hw=>h w (hw.as i hi' (fun hv=>Vw.sub hv h1 h2) (fun k hk=>?_))
 have hk':(kS sz v a b).ownBlock=some k:=hk;rw[jKS]at hk';exact hk'
theorem jFQ (zl:List Value) (hz:0<zl.length):∀(n j:Nat),j<n*zl.length->((List.replicate n zl).flatten)[j]? =zl[j%zl.length]?
 |0,j,h=>by simp at h
 |n+1,j,h=>by
  rw[List.replicate_succ,List.flatten_cons]
  by_cases hj:j<zl.length
  ·rw [List.getElem?_append_left hj,Nat.mod_eq_of_lt hj]
  ·rw [List.getElem?_append_right (by omega),jFQ zl hz n (j-zl.length) (by rw[Nat.add_mul,Nat.one_mul]at h;omega)];rw[Nat.mod_eq_sub_mod (a:=j) (by omega)]
theorem je (zl:List Value):∀n,((List.replicate n zl).flatten).length=n*zl.length
 |0=>by simp
 |n+1=>by rw[List.replicate_succ,List.flatten_cons,List.length_append,je zl n,Nat.add_mul];omega
theorem qg {t e sz bytes:TypeId} {nn cc:Operand} {z:Value} {k1 k2:IntKind} {a c:Int} (n cap:Nat) (hE:Elem P t e sz bytes) (hz:(P.info? e).bind (·.zero)=some z) (hs:stat N ops ⟨some d,.makeSlice t nn cc,ty,pos,af,gd⟩ σ=true)
  (hn:lookO σ nn=some (.int k1 a)) (hc:lookO σ cc=some (.int k2 c)) (ha:a=(n:Int)) (hac:c=(cap:Int)) (hnc:n<=cap) (hcb:bytes*cap<=281474976710656) (hcm:cap<=9223372036854775807)
  (h:∀v',HL P N ops l ((d,v')::σ) B (jM v' e sz n ((List.replicate n (ji z)).flatten)::H) K):HL P N ops (⟨some d,.makeSlice t nn cc,ty,pos,af,gd⟩::l) σ B H K:=by
 subst ha;subst hac;obtain ⟨i,z',g1,g2,g3,g4,g5⟩:=hE.info;have hzz:z'=z:=by rw[g1]at hz;simpa[g2]using hz
 subst hzz;have hpos:=hE.pos;have hzl:(ji z').length=sz:=by
  have:=g5;rw[Jr]at this;simpa using this
 refine Qt (fun v=>v) (fun v'=>jM v' e sz n ((List.replicate n (ji z')).flatten)::H) (fun _=>True) hs (fun w hw=>?_) (fun v' _=>h v');have hr:=run_make (P:=P) w t e i z' hE.slice g1 g2 k1 k2 (n:Int) (cap:Int) (by omega) (by omega) (by rw[g4,<- Int.natCast_mul];exact Int.ofNat_le.2 hcb) (Int.ofNat_le.2 hcm);simp only[Int.toNat_natCast]at hr;refine ⟨.slice (some ⟨w.heap.size,0,none⟩) n cap,w.alloc (.cells (madeCells z'.cells (cap*i.size)) e),?_,trivial,hw.push ((Below.refl _ _).alloc (Nat.le_refl _) _) ⟨?_,.inr ⟨w.heap.size,0,cap,_,rfl,heap_alloc_new w _,hnc,by unfold maxLen;omega,?_,?_⟩⟩ (fun k hk=>by cases hk;exact Nat.le_refl _)⟩
 ·simp [execOp,jB hn,jB hc,hr]
 ·rw [je,hzl]
 ·rw [size_madeCells,g3];omega
 ·apply List.ext_getElem?
  intro j;rw[List.drop_zero,List.getElem?_take]
  split
  ·rename_i hj
   rw[jFQ _ (by omega) n j (by rw[hzl];exact hj)];have hlt:j<cap*i.size:=by rw[g3];exact Nat.lt_of_lt_of_le hj (Nat.mul_le_mul_right _ hnc)
   have hmod:j%sz<sz:=Nat.mod_lt _ hpos;rw[Array.getElem?_toList];simp only[madeCells,Array.getElem?_map,Array.getElem?_range,hlt,if_true,Option.map_some,hzl,g5];rw[getElem!_pos z'.cells (j%sz) (by rw[g5];exact hmod)];rw[List.getElem?_eq_getElem (by rw[hzl];exact hmod)]
   congr 1
   simp only[Jr,List.getElem_toArray]
  ·rw [List.getElem?_eq_none (by rw[je,hzl];omega)]
end
def jCz (P:Program):List Field->Option (List (Nat×Nat))
 |[]=>some []
 |f::fs=>match P.info? f.type with
  |some ti=>match jCz P fs with
   |some r=>some ((f.offset,ti.size)::r)
   |none=>none
  |none=>none
theorem jEE (P:Program):∀ {fs:List Field} {pl:List (Nat×Nat)},jCz P fs=some pl->fs.mapM (fun f=>(P.info? f.type).map fun i=>(f.offset,i.size))=some pl
 |[],pl,h=>by simp[jCz]at h;subst h;simp
 |f::fs,pl,h=>by
  unfold jCz at h
  split at h
  ·rename_i ti hti
   split at h
   ·rename_i r hr;cases h
    simp only[List.mapM_cons,hti,jEE P hr];rfl
   ·cases h
  ·cases h
def jSA:List (Nat×Nat)->Nat->Option (Nat×Nat)
 |[],_=>none
 |p::_,0=>some p
 |_::r,n+1=>jSA r n
theorem jM2:∀(l:List (Nat×Nat)) (n:Nat),jSA l n=l[n]?
 |[],n=>by simp[jSA]
 |p::r,0=>by simp[jSA]
 |p::r,n+1=>by simp[jSA,jM2 r n]
def jLS (place:Nat->Option (Nat×Nat)) (σ:Store):List Value->List (Nat×Operand)->Option (List Value)
 |cs,[]=>some cs
 |cs,(i,x)::r=>match place i,lookO σ x with
  |some (off,sz),some v=>match Nat.beq (jLq (ji v)) sz,Nat.ble (off+jLq (ji v)) (jLq cs)with
   |true,true=>jLS place σ (jK1 cs off (ji v)) r
   |_,_=>none
  |_,_=>none
theorem jJo {o:Nat} {us cs:List Value} (h:o+us.length<=cs.length) (i:Nat):(jK1 cs o us)[i]? =if i<o then cs[i]? else if i<o+us.length then us[i-o]? else cs[i]? :=by
 rw[jE3 h,List.append_assoc]
 by_cases h1:i<o
 ·rw [if_pos h1,List.getElem?_append_left (by simp;omega),List.getElem?_take_of_lt h1]
 ·rw [if_neg h1,List.getElem?_append_right (by simp;omega)];have hl:(List.take o cs).length=o:=by simp;omega
  rw[hl]
  by_cases h2:i<o+us.length
  ·rw [if_pos h2,List.getElem?_append_left (by omega)]
  ·rw [if_neg h2,List.getElem?_append_right (by omega),List.getElem?_drop]
   congr 1
   omega
theorem jNm:∀(us:List Value) (j off:Nat) (cs:List Value),off+j+us.length<=cs.length->
  (us.zipIdx j).foldl (fun (a:Array Value) (x:Value×Nat)=>a.setIfInBounds (off+x.2) x.1) cs.toArray=(jK1 cs (off+j) us).toArray:=by
 intro us
 induction us with
 |nil=>intro j off cs h;rw[jE3 (by simpa using h)];simp
 |cons u us ih=>
  intro j off cs h;have h0:=h;simp only[List.length_cons]at h;simp only[List.zipIdx_cons,List.foldl_cons];have e:cs.toArray.setIfInBounds (off+j) u=(cs.set (off+j) u).toArray:=by simp
  rw[e,ih (j+1) off _ (by simp;omega)]
  congr 1
  apply List.ext_getElem?
  intro i;rw[jJo (by simp;omega),jJo h0];simp only[List.length_cons]
  by_cases h1:i<off+j
  ·rw [if_pos (by omega),if_pos h1,List.getElem?_set_ne (by omega)]
  ·by_cases h2:i=off+j
   ·subst h2;rw[if_pos (by omega),if_neg h1,if_pos (by omega),List.getElem?_set_self (by omega)]
    simp
   ·rw [if_neg (by omega),if_neg h1]
    by_cases h3:i<off+(j+1)+us.length
    ·rw [if_pos h3,if_pos (by omega),show i-(off+j)=(i-(off+(j+1)))+1 by omega,List.getElem?_cons_succ]
    ·rw [if_neg h3,if_neg (by omega),List.getElem?_set_ne (by omega)]
theorem jFR {place:Nat->Option (Nat×Nat)} {σ:Store}:∀ {ps:List (Nat×Operand)} {cs us:List Value},jLS place σ cs ps=some us->Instr.fill place cs.toArray (ps.map fun (i,x)=>(i,evO σ x))=some us.toArray
 |[],cs,us,h=>by simp[jLS]at h;subst h;simp[Instr.fill]
 |(i,x)::r,cs,us,h=>by
  unfold jLS at h
  split at h
  ·rename_i off sz v hp hv
   split at h
   ·rename_i h1 h2
    have h1':=Nat.eq_of_beq_eq_true h1;have h2':=Nat.le_of_ble_eq_true h2;rw[jAe]at h1';rw[jAe,jAe]at h2';simp only[List.map_cons,Instr.fill,hp,jB hv];have hc:v.cells=(ji v).toArray:=Jr v;have hsz:v.cells.size=sz:=by rw[hc];simpa using h1'
    have hnot:¬(v.cells.size≠sz\/off+v.cells.size>cs.toArray.size):=by
     rw[hsz];simp;omega
    rw[if_neg (by simpa using hnot)];have e1:(v.cells.zipIdx.foldl (fun cs (x:Value×Nat)=>match x with|(c,j)=>cs.setIfInBounds (off+j) c) cs.toArray)=(jK1 cs off (ji v)).toArray:=by
     have:=jNm (ji v) 0 off cs (by simpa using h2');rw[Nat.add_zero]at this;rw[<- this,hc,<- Array.foldl_toList]
     congr 1
     simp
    rw[e1];exact jFR h
   ·cases h
  ·cases h
def jB0 (P:Program) (σ:Store) (t:TypeId) (ps:List (Nat×Operand)):Option (List Value):=
 match P.info? t,P.underlying t with
 |some it,some (.struct ⟨fl⟩)=>match it.zero,jCz P fl with
  |some z,some pl=>jLS (jSA pl) σ (ji z) ps
  |_,_=>none
 |some it,some (.array _ e)=>match it.zero,P.info? e with
  |some z,some ie=>jLS (fun i=>some (jE5 0 i ie.size,ie.size)) σ (ji z) ps
  |_,_=>none
 |_,_=>none
theorem jLe {P:Program} {σ:Store} {t:TypeId} {ps:List (Nat×Operand)} {us:List Value} (h:jB0 P σ t ps=some us) (w:World):
  (Instr.build t ((ps.map fun (i,x)=>(i,evO σ x)).toArray)).run P w= .ok (.agg us.toArray) w:=by
 refine run_build w t _ _ ?_;unfold jB0 at h;unfold Program.built
 split at h
 ·rename_i it fl hit hu
  rw[hit,hu]
  split at h
  ·rename_i z pl hz hpl
   simp only[hz,jEE P hpl];have h':=jFR h;rw[<- Jr]at h';rw[<- h'];simp only[]
   congr 1
   funext i
   simp[jM2]
  ·cases h
 ·rename_i it n e hit hu
  rw[hit,hu]
  split at h
  ·rename_i z ie hz hie
   simp only[hz,hie];have h':=jFR h;rw[<- Jr]at h';rw[<- h'];simp only[]
   congr 1
   funext i
   simp[jEF]
  ·cases h
 ·cases h
section
variable {P : Program} {f : FuncId} {N : Nat} {k : List Item} {σ : Store} {B : Base} {H H' : List Chunk} {R : Ending -> World -> Prop} {ops l : List Oper} {o : Oper} {K : Act -> World -> Prop} {KQ : Act -> Prop} {C : World -> Prop}
 {d:Nat} {op:Op} {ty:TypeId} {pos:String} {af:Array Edge} {gd:Option (Nat×Bool)} {v u:Value} {w:World} {d':Option Tmp}
theorem jCV {t:TypeId} {ps:List (Nat×Operand)} {us:List Value} (h:jB0 P σ t ps=some us) (w:World):(execOp (evO σ) ⟨d',.build t ps.toArray,ty,pos,af,gd⟩).run P w= .ok (.value (.agg ⟨us⟩)) w:=by
 have:=jLe h w;unfold execOp;simp only[Sem.run_bind];have e:(ps.toArray.map fun (i,x)=>(i,evO σ x))=((ps.map fun (i,x)=>(i,evO σ x)).toArray):=by simp
 rw[e,this];rfl
theorem HL.build {t:TypeId} {ps:List (Nat×Operand)} {us:List Value} (hs:stat N ops ⟨some d,.build t ps.toArray,ty,pos,af,gd⟩ σ=true) (hb:jB0 P σ t ps=some us)
  (h:HL P N ops l ((d,.agg ⟨us⟩)::σ) B H K):HL P N ops (⟨some d,.build t ps.toArray,ty,pos,af,gd⟩::l) σ B H K:=QL hs (fun w _=>jCV hb w) h
theorem JL.build {t:TypeId} {ps:List (Nat×Operand)} {us:List Value} (hs:stat N ops ⟨some d,.build t ps.toArray,ty,pos,af,gd⟩ σ=true) (hb:jB0 P σ t ps=some us)
  (h:JL P N C ops l ((d,.agg ⟨us⟩)::σ) KQ):JL P N C ops (⟨some d,.build t ps.toArray,ty,pos,af,gd⟩::l) σ KQ:=JL.op hs (fun w _=>jCV hb w) h
def jGM (P:Program) (t:TypeId) (cs:List Value) (off:Nat):Option Value:=
 match P.underlying t with
 |some td=>match zK td with
  |true=>jJz cs off
  |false=>match P.info? t with
   |some ti=>match jLp cs off ti.size with
    |some us=>some (.agg ⟨us⟩)
    |none=>none
   |none=>none
 |none=>none
theorem kG {t:TypeId} {cs:List Value} {off:Nat} (h:jGM P t cs off=some v) (w:World):(part t ⟨cs⟩ off).run P w= .ok v w:=by
 unfold jGM at h
 split at h
 ·rename_i td hu
  split at h
  ·rename_i hp
   have e1:(isAgg t).run P w= .ok false w:=by
    simp[isAgg,underlying,hu]
    cases td<;>simp_all [zK]
   rw[jHy]at h;have:(⟨cs⟩:Array Value)[off]? =some v:=by simpa using h
   simp[part,e1,this]
  ·rename_i hp
   split at h
   ·rename_i ti hti
    split at h
    ·rename_i us hus
     cases h;have e1:(isAgg t).run P w= .ok true w:=by
      simp[isAgg,underlying,hu]
      cases td<;>simp_all [zK]
     obtain ⟨g1,g2⟩:=jEx hus;subst g1;have e2:(sizeOf t).run P w= .ok ti.size w:=by simp[sizeOf,typeInfo,hti]
     simp[part,e1,e2]
    ·cases h
   ·cases h
 ·cases h
def fldV (P:Program) (σ:Store) (t:TypeId) (x:Operand) (i:Nat):Option Value:=
 match P.underlying t,lookO σ x with
 |some (.struct ⟨fl⟩),some (.agg ⟨cs⟩)=>match jK4 fl i with
  |some fd=>jGM P fd.type cs fd.offset
  |none=>none
 |_,_=>none
theorem jKA {t:TypeId} {x:Operand} {i:Nat} (h:fldV P σ t x i=some v) (w:World):(execOp (evO σ) ⟨d',.field t x i,ty,pos,af,gd⟩).run P w= .ok (.value v) w:=by
 unfold fldV at h
 split at h
 ·rename_i fl cs hu hx
  split at h
  ·rename_i fd hf
   have hp:=kG h w;rw[jM3]at hf;have hf':(⟨fl⟩:Array Field)[i]? =some fd:=by simpa using hf
   simp[execOp,Instr.field,jB hx,underlying,hu,asAgg,hf',hp]
  ·cases h
 ·cases h
theorem HL.field {t:TypeId} {x:Operand} {i:Nat} (hs:stat N ops ⟨some d,.field t x i,ty,pos,af,gd⟩ σ=true) (hb:fldV P σ t x i=some v)
  (h:HL P N ops l ((d,v)::σ) B H K):HL P N ops (⟨some d,.field t x i,ty,pos,af,gd⟩::l) σ B H K:=QL hs (fun w _=>jKA hb w) h
theorem JL.field {t:TypeId} {x:Operand} {i:Nat} (hs:stat N ops ⟨some d,.field t x i,ty,pos,af,gd⟩ σ=true) (hb:fldV P σ t x i=some v)
  (h:JL P N C ops l ((d,v)::σ) KQ):JL P N C ops (⟨some d,.field t x i,ty,pos,af,gd⟩::l) σ KQ:=JL.op hs (fun w _=>jKA hb w) h
def jG3 (P:Program) (t:TypeId) (x y:Value):Option Bool:=
 match P.underlying t,x,y with
 |some (.int _),.int k a,.int k' b=>match jCe k k' with
  |true=>some (a==b)
  |false=>none
 |some .string,.string ⟨⟨a⟩⟩,.string ⟨⟨b⟩⟩=>some (a==b)
 |some .bool,.bool a,.bool b=>some (a==b)
 |_,_,_=>none
def Ky (P : Program) (xs ys : List Value) : List Field -> Option Bool
  | [] => some true
  | f :: fs => match f.name == "_", jJz xs f.offset, jJz ys f.offset with
    | false, some x, some y => match jG3 P f.type x y, Ky P xs ys fs with
      | some b, some r => some (b && r)
      | _, _ => none
    | _, _, _ => none
theorem jEX {t:TypeId} {x y:Value} {b:Bool} (h:jG3 P t x y=some b) (n:Nat) (w:World):(Op.equalIn (n+1) t x y).run P w= .ok b w/\∀td,P.underlying t=some td->zK td=true:=by
 unfold jG3 at h
 split at h
 ·rename_i k0 k a k' b' hu
  split at h
  ·rename_i hk
   have:=zZ hk;subst this;cases h;exact ⟨run_equalIn_int w n t _ k0 _ _ hu,fun td htd=>by rw[hu]at htd;cases htd;rfl⟩
  ·cases h
 ·rename_i a b' hu;cases h
  refine ⟨?_,fun td htd=>by rw[hu]at htd;cases htd;rfl⟩;have:(Op.equalIn (n+1) t (.string ⟨⟨a⟩⟩) (.string ⟨⟨b'⟩⟩)).run P w= .ok ((⟨⟨a⟩⟩:ByteArray)==⟨⟨b'⟩⟩) w:=by simp[Op.equalIn,run_underlying hu]
  rw[this]
  congr 1
  show ((⟨a⟩:Array UInt8)==⟨b'⟩)=_
  simp
 ·rename_i a b' hu;cases h
  exact ⟨run_equalIn_bool' w n t a b' hu,fun td htd=>by rw[hu]at htd;cases htd;rfl⟩
 ·cases h
theorem KE {xs ys : List Value} (n : Nat) (w : World) : ∀ {fs : List Field} {b : Bool}, Ky P xs ys fs = some b -> (Op.eqFields (n + 1) ⟨xs⟩ ⟨ys⟩ fs).run P w = .ok b w
  | [], b, h => by simp [Ky] at h; subst h; simp [Op.eqFields]
  | f :: fs, b, h => by
    unfold Ky at h
    split at h
    · rename_i x y hn hx hy
      split at h
      · rename_i b' r hb hr
        cases h;obtain ⟨h1, h2⟩ := jEX hb n w;cases hu : P.underlying f.type with
        | none => simp [jG3, hu] at hb
        | some td =>
          have hp := h2 td hu;have p1 : (part f.type ⟨xs⟩ f.offset).run P w = .ok x w := kG (by simp [jGM, hu, hp, hx]) w;have p2 : (part f.type ⟨ys⟩ f.offset).run P w = .ok y w := kG (by simp [jGM, hu, hp, hy]) w;have hn' : f.name ≠ "_" := by simpa using hn
          have ih := KE n w hr;simp only [Op.eqFields, hn', ne_eq, not_false_eq_true, if_true, Sem.run_bind, p1, p2, Result.andThen_ok, h1];cases b' <;> simp [ih]
      · cases h
    · cases h
def ZP (P:Program) (t:TypeId) (xs ys:List Value):Option Bool:=
 match P.underlying t with
 |some (.struct ⟨fl⟩)=>Ky P xs ys fl
 |_=>none
theorem Kw {t:TypeId} {xs ys:List Value} {b:Bool} (hp:P.stoodInHeld t=false) (h:ZP P t xs ys=some b) (w:World):(Op.equal t (.agg ⟨xs⟩) (.agg ⟨ys⟩)).run P w= .ok b w:=by
 unfold ZP at h
 split at h
 ·rename_i fl hu
  have hf:P.fieldsOf t=⟨fl⟩:=by unfold Program.fieldsOf;rw[hu]
  have:=run_equalIn_struct (P:=P) w 9999 t ⟨xs⟩ ⟨ys⟩ (by rw[hf,hu]) hp;unfold Op.equal;show (Op.equalIn (9999+1) t (.agg ⟨xs⟩) (.agg ⟨ys⟩)).run P w=_;rw[this,hf];exact KE 9998 w h
 ·cases h
theorem jQx {t t':TypeId} {x y:Operand} {xs ys:List Value} {b:Bool} (hp:P.stoodInHeld t=false) (hm:P.eqGuardType P.depth t=false) (hx:lookO σ x=some (.agg ⟨xs⟩)) (hy:lookO σ y=some (.agg ⟨ys⟩)) (h:ZP P t xs ys=some b) (w:World):
  (execOp (evO σ) ⟨d',.binOp .eql t x y t',ty,pos,af,gd⟩).run P w= .ok (.value (.bool b)) w:=by
 have h1:=Kw hp h w;have h2:=run_eqGuard_agg (P:=P) w .eql t x y ⟨xs⟩ ⟨ys⟩ hm
 simp[execOp,jB hx,jB hy,h2,binOp,h1]
theorem jSc {t t':TypeId} {x y:Operand} {xs ys:List Value} {b:Bool} (hp:P.stoodInHeld t=false) (hm:P.eqGuardType P.depth t=false) (hx:lookO σ x=some (.agg ⟨xs⟩)) (hy:lookO σ y=some (.agg ⟨ys⟩)) (h:ZP P t xs ys=some b) (w:World):
  (execOp (evO σ) ⟨d',.binOp .neq t x y t',ty,pos,af,gd⟩).run P w= .ok (.value (.bool (!b))) w:=by
 have h1:=Kw hp h w;have h2:=run_eqGuard_agg (P:=P) w .neq t x y ⟨xs⟩ ⟨ys⟩ hm
 simp[execOp,jB hx,jB hy,h2,binOp,h1]
theorem HL.eqS {t t':TypeId} {x y:Operand} {xs ys:List Value} {b:Bool} (hs:stat N ops ⟨some d,.binOp .eql t x y t',ty,pos,af,gd⟩ σ=true) (hp:P.stoodInHeld t=false) (hm:P.eqGuardType P.depth t=false) (hx:lookO σ x=some (.agg ⟨xs⟩)) (hy:lookO σ y=some (.agg ⟨ys⟩)) (hb:ZP P t xs ys=some b)
  (h:HL P N ops l ((d,.bool b)::σ) B H K):HL P N ops (⟨some d,.binOp .eql t x y t',ty,pos,af,gd⟩::l) σ B H K:=QL hs (fun w _=>jQx hp hm hx hy hb w) h
theorem Yp {t t':TypeId} {x y:Operand} {xs ys:List Value} {b:Bool} (hs:stat N ops ⟨some d,.binOp .eql t x y t',ty,pos,af,gd⟩ σ=true) (hp:P.stoodInHeld t=false) (hm:P.eqGuardType P.depth t=false) (hx:lookO σ x=some (.agg ⟨xs⟩)) (hy:lookO σ y=some (.agg ⟨ys⟩)) (hb:ZP P t xs ys=some b)
  (h:JL P N C ops l ((d,.bool b)::σ) KQ):JL P N C ops (⟨some d,.binOp .eql t x y t',ty,pos,af,gd⟩::l) σ KQ:=JL.op hs (fun w _=>jQx hp hm hx hy hb w) h
theorem Qg {t t':TypeId} {x y:Operand} {xs ys:List Value} {b:Bool} (hs:stat N ops ⟨some d,.binOp .neq t x y t',ty,pos,af,gd⟩ σ=true) (hp:P.stoodInHeld t=false) (hm:P.eqGuardType P.depth t=false) (hx:lookO σ x=some (.agg ⟨xs⟩)) (hy:lookO σ y=some (.agg ⟨ys⟩)) (hb:ZP P t xs ys=some b)
  (h:JL P N C ops l ((d,.bool (!b))::σ) KQ):JL P N C ops (⟨some d,.binOp .neq t x y t',ty,pos,af,gd⟩::l) σ KQ:=JL.op hs (fun w _=>jSc hp hm hx hy hb w) h
theorem jQ {t : TypeId} {td : TypeDesc} {b o m : Nat} {T : TypeId} {cs us : List Value} (hw : Sat B H w) (i : Nat) (hi : J5 H i = some (jS b cs T)) (hT : P.underlying t = some td) (hr : td.isRow = true) (hm : (P.info? t).map (·.size) = some m) (hu : jLp cs o m = some us) : (loadVar t ⟨b, o, none⟩).run P w = .ok (.agg ⟨us⟩) w := by
  have hB : Blk w b cs T := hw.nth hi;have h1 := jFL (P := P) (σ := [(0, .pointer (some ⟨b, o, none⟩))]) (x := .tmp 0) (d' := none) (ty := 0) (pos := "") (af := #[]) (gd := none) i hi hT hr hm I hu w hw
  simp [execOp, evO, look, Instr.loadAt, Instr.sureAddr] at h1
  cases h2 : (loadVar t ⟨b, o, none⟩).run P w with
  | ok v' w' => simp [h2] at h1; rw [h1.1, h1.2]
  | halt x w' => simp [h2] at h1
variable {F : List Chunk} {i : Nat} {p : List (Nat × Bool)}
theorem HD.build {t:TypeId} {ps:List (Nat×Operand)} {us:List Value} (ho:ops[i]? =some ⟨some d,.build t ps.toArray,ty,pos,af,gd⟩) (hs:stat N ops ⟨some d,.build t ps.toArray,ty,pos,af,gd⟩ σ=true) (hb:jB0 P σ t ps=some us)
  (h:HD P N ops p ((d,.agg ⟨us⟩)::σ) B H F K):HD P N ops ((i,true)::p) σ B H F K:=yS ho hs (fun w _=>jCV hb w) h
end
section
variable {K : Type} [DecidableEq K] {P : Program} {kt : TypeId} {enc : K -> Value}
theorem jLJ {fl : List Field} (ht : P.underlying kt = some (.struct ⟨fl⟩)) (heq : ∀ (a b : K) (w : World), (Op.equal kt (enc a) (enc b)).run P w = .ok (decide (a = b)) w)
    (hc : ∀ (e : Bool) (k : K) (w : World), (Instr.checkKey e 10000 kt (enc k)).run P w = .ok () w) (hs : ∀ (k : K) (w : World), (Instr.keyThatStays (enc k) (enc k)).run P w = .ok (enc k) w) (hi : ∀ a b : K, enc a = enc b -> a = b) : KeyK P kt enc := by
  refine ⟨fun k m es w h => ?_, hc, hs, hi⟩;have ask : ∀ (m : List (K × Value)) (es : List MapEntry) (i : Nat), es.map (fun e => (e.key, e.val)) = m.map (fun p => (enc p.1, p.2)) -> (Instr.findAsking kt (enc k) es i).run P w = .ok (jB9 k m i) w := by
    intro m
    induction m with
    | nil => intro es i h; have : es = [] := by simpa using h
             subst this; rfl
    | cons p m ih =>
      intro es i h;obtain ⟨a, v⟩ := p;cases es with
      | nil => simp at h
      | cons e es =>
        simp only [List.map_cons, List.cons.injEq, Prod.mk.injEq] at h;obtain ⟨⟨h1, h2⟩, h3⟩ := h;unfold Instr.findAsking jB9;rw [Sem.run_bind, h1, heq]
        by_cases e : k = a
        · subst e; simp [h2]
        · simp [e, ih es (i + 1) h3]
  unfold Instr.findKey;rw [Sem.run_bind, run_underlying ht];simp only [Result.andThen_ok];have fn : Instr.findNow (.struct ⟨fl⟩) (enc k) es 0 = none \/ (es = [] /\ Instr.findNow (.struct ⟨fl⟩) (enc k) es 0 = some none) := by
    cases es with
    | nil => exact .inr ⟨rfl, rfl⟩
    | cons e es => left; unfold Instr.findNow Instr.sameNow; rfl
  rcases fn with fn | ⟨he, fn⟩
  · rw [fn]; exact ask m es 0 h
  · rw [fn]
    subst he;have : m = [] := by
      have h' := h.symm
      simpa using h'
    subst this;rfl
def K8 (P:Program) (cs:List Value):List Field->Bool
 |[]=>true
 |f::fs=>match P.underlying f.type,jJz cs f.offset with
  |some (.int _),some _|some .string,some _|some .bool,some _=>K8 P cs fs
  |_,_=>false
theorem jDN {fl : List Field} {cs : List Value} (ht : P.underlying kt = some (.struct ⟨fl⟩)) (h : K8 P cs fl = true) (e : Bool) (n : Nat) (w : World) : (Instr.checkKey e (n + 2) kt (.agg ⟨cs⟩)).run P w = .ok () w := by
  unfold Instr.checkKey;rw [Sem.run_bind, run_underlying ht];simp only [Result.andThen_ok];rw [<- Array.forIn_toList];clear ht
  induction fl with
  | nil => simp
  | cons f fs ih =>
    unfold K8 at h
    have go : ∀ td v, P.underlying f.type = some td -> zK td = true -> jJz cs f.offset = some v -> (∀ x, td ≠ .interface x) -> K8 P cs fs = true -> (do
        for f in (f :: fs) do
          if f.name ≠ "_" then Instr.checkKey e (n + 1) f.type (<- part f.type ⟨cs⟩ f.offset)
        : Sem Unit).run P w = .ok () w := by
      intro td v h1 h2 h3 h4 h5;have hp : (part f.type ⟨cs⟩ f.offset).run P w = .ok v w := kG (by simp [jGM, h1, h2, h3]) w;have hc : (Instr.checkKey e (n + 1) f.type v).run P w = .ok () w := by
        unfold Instr.checkKey;rw [Sem.run_bind, run_underlying h1];simp only [Result.andThen_ok];cases td <;> first | (simp; done) | (exact absurd I (h4 _)) | (simp [zK] at h2)
      have ih' := ih h5;simp only [List.forIn_cons]
      by_cases hn : f.name ≠ "_"
      · simp only [hn, ne_eq, not_false_eq_true, if_true, Sem.run_bind, hp, Result.andThen_ok, hc, Sem.run_pure]
        simp at ih'
        simp [ih']
      · simp only [hn, if_false, Sem.run_bind, Sem.run_pure, Result.andThen_ok]
        simp at ih'
        simp [ih']
    split at h
    · rename_i h1 h3; exact go _ _ h1 I h3 (by nofun) h
    · rename_i h1 h3; exact go _ _ h1 I h3 (by nofun) h
    · rename_i h1 h3; exact go _ _ h1 I h3 (by nofun) h
    · cases h
theorem jHQ {cs:List Value} (h:∀v∈cs,Instr.sameBits 9999 v v=true) (w:World):(Instr.keyThatStays (.agg ⟨cs⟩) (.agg ⟨cs⟩)).run P w= .ok (.agg ⟨cs⟩) w:=by
 have:Instr.sameBits 10000 (.agg ⟨cs⟩) (.agg ⟨cs⟩)=true:=by
  show ((_==_)&&((cs.zip cs).all fun (x,y)=>Instr.sameBits 9999 x y))=true;simp only[beq_self_eq_true,Bool.true_and,List.all_eq_true];intro p hp;have:p.1=p.2/\p.1∈cs:=by
   clear h
   induction cs with
   |nil=>simp at hp
   |cons c cs ih=>
    simp only[List.zip_cons_cons,List.mem_cons]at hp;rcases hp with rfl|hp
    ·exact ⟨rfl,List.mem_cons_self ..⟩
    ·exact ⟨(ih hp).1,List.mem_cons_of_mem _ (ih hp).2⟩
  rw[<- this.1];exact h _ this.2
 unfold Instr.keyThatStays;rw[if_pos this];rfl
theorem zM (k k':K) (v:Value):∀(m:List (K×Value)),getM k (kU k' v m)=if k=k' then some v else getM k m
 |[]=>by simp[kU,getM]
 |(a,u)::m=>by
  unfold kU
  by_cases h1:k'=a
  ·subst h1;simp only[if_true,getM]
   split
   ·rfl
   ·rfl
  ·rw [if_neg h1];simp only[getM,zM k k' v m]
   by_cases h2:k=a
   ·subst h2;rw[if_pos rfl,if_neg (fun e=>h1 e.symm),if_pos rfl]
   ·simp [h2]
def zQ (m:List (K×Value)):Prop:=(m.map (·.1)).Nodup
theorem jGt {k k':K}:∀ {m:List (K×Value)},zQ m->getM k (jLs k' m)=if k=k' then none else getM k m
 |[],_=>by simp[jLs,getM]
 |(a,u)::m,hn=>by
  have hn':a ∉ m.map (·.1)/\(m.map (·.1)).Nodup:=by simpa[zQ]using hn
  unfold jLs
  by_cases h1:k'=a
  ·subst h1;simp only[if_true,getM]
   by_cases h2:k=k'
   ·subst h2;rw[if_pos rfl];have:∀ {m:List (K×Value)},k ∉ m.map (·.1)->getM k m=none:=by
     intro m
     induction m with
     |nil=>intro _;rfl
     |cons p m ih=>intro hk;obtain ⟨a,u⟩:=p;simp only[List.map_cons,List.mem_cons,not_or]at hk;unfold getM;rw[if_neg hk.1];exact ih hk.2
    exact this hn'.1
   ·rw [if_neg h2,if_neg h2]
  ·rw [if_neg h1];simp only[getM,jGt (m:=m) hn'.2]
   by_cases h2:k=a
   ·subst h2;rw[if_pos rfl,if_neg (fun e=>h1 e.symm),if_pos rfl]
   ·simp [h2]
theorem jJ2 {k:K} {v:Value}:∀ {m:List (K×Value)} {a:K},a∈(kU k v m).map (·.1)↔a=k\/a∈m.map (·.1)
 |[],a=>by simp[kU]
 |(b,u)::m,a=>by
  unfold kU
  split
  ·rename_i h;subst h;simp
  ·simp only[List.map_cons,List.mem_cons,jJ2 (m:=m)]
   constructor
   ·rintro (h|h|h)
    ·exact .inr (.inl h)
    ·exact .inl h
    ·exact .inr (.inr h)
   ·rintro (h|h|h)
    ·exact .inr (.inl h)
    ·exact .inl h
    ·exact .inr (.inr h)
theorem Jv {k:K} {v:Value}:∀ {m:List (K×Value)},zQ m->zQ (kU k v m)
 |[],_=>by simp[kU,zQ]
 |(b,u)::m,hn=>by
  have hn':b ∉ m.map (·.1)/\(m.map (·.1)).Nodup:=by simpa[zQ]using hn
  unfold kU
  split
  ·rename_i h;simpa[zQ]using hn
  ·rename_i h
   have:=Jv (k:=k) (v:=v) (m:=m) hn'.2;simp only[zQ,List.map_cons,List.nodup_cons,jJ2];exact ⟨fun h'=>by rcases h' with h'|h';exact h h'.symm;exact hn'.1 h',this⟩
theorem KG {k:K}:∀ {m:List (K×Value)},(jLs k m).Sublist m
 |[]=>List.Sublist.slnil
 |(b,u)::m=>by
  unfold jLs
  split
  ·exact List.sublist_cons_self _ _
  ·exact List.Sublist.cons_cons _ (KG (m:=m))
theorem KD {α β:Type} (f:α->β):∀(l:List α) (i:Nat),(l.eraseIdx i).map f=(l.map f).eraseIdx i
 |[],_=>rfl
 |_::_,0=>rfl
 |a::l,i+1=>by simp[KD f l i]
theorem MapAt.nodup {w:World} {b:Nat} {m:List (K×Value)} (h:MapAt enc w b m):zQ m:=by
 obtain ⟨es,clock,h1,h2,h3⟩:=h;have h4:=h3.2.2;have:(es.toList.map (·.key))=m.map (fun p=>enc p.1):=by
  have:=congrArg (List.map Prod.fst) h2
  simpa[List.map_map,Function.comp_def]using this
 rw[this]at h4;have h5:((m.map (·.1)).map enc).Nodup:=by simpa[List.map_map,Function.comp_def]using h4
 exact (List.pairwise_map.1 h5).imp fun h e=>h (by rw[e])
variable {f : FuncId} {N : Nat} {k : List Item} {σ : Store} {B : Base} {H H' : List Chunk} {R : Ending -> World -> Prop} {ops l : List Oper} {o : Oper} {KK : Act -> World -> Prop} {KQ : Act -> Prop} {C : World -> Prop}
 {d:Nat} {op:Op} {ty:TypeId} {pos:String} {af:Array Edge} {gd:Option (Nat×Bool)} {v u:Value} {w:World} {d':Option Tmp} {t et:TypeId} {b:Nat} {m:List (K×Value)} {z:Value}
theorem jJR {et:TypeId} {z:Value} (hz:(P.info? et).bind (·.zero)=some z) (w:World):(zeroValue et).run P w= .ok z w:=by
 cases hi:P.info? et with
 |none=>rw[hi]at hz;cases hz
 |some ti=>rw[hi]at hz;simp at hz;simp[zeroValue,typeInfo,hi,hz]
theorem qC {v:Value} {e sz n n':Nat} {xs xs':List Value} (hn:n=n') (hx:xs=xs'):Ent B (jM v e sz n xs::H) (jM v e sz n' xs'::H):=by subst hn;subst hx;exact Ent.refl
theorem yQ (enc:K->Value) (hs:stat N ops ⟨some d,.makeMap t none,ty,pos,af,gd⟩ σ=true)
  (h:∀b,HL P N ops l ((d,.map (some b))::σ) B (ZN enc b []::H) KK):HL P N ops (⟨some d,.makeMap t none,ty,pos,af,gd⟩::l) σ B H KK:=
 fun w hw=>YN enc hs fun w' h1 h2=>h w.heap.size w' (hw.push h2 h1 fun k hk=>Nat.le_of_eq hk.symm)
theorem jP9 {x y:Operand} {k:K} (i:Nat) (hi:J5 H i=some (ZN enc b m)) (hK:KeyK P kt enc) (hm:P.underlying t=some (.map kt et)) (hz:∀w,(zeroValue et).run P w= .ok z w)
  (hx:lookO σ x=some (.map (some b))) (hy:lookO σ y=some (enc k)):∀w,Sat B H w->(execOp (evO σ) ⟨d',.lookup t x y false,ty,pos,af,gd⟩).run P w= .ok (.value ((getM k m).getD z)) w:=by
 intro w hw;have hM:MapAt enc w b m:=hw.nth hi
 simp[execOp,jB hx,jB hy,jHb hK hm hz hM k false]
theorem Qe {x y:Operand} {k:K} (i:Nat) (hi:J5 H i=some (ZN enc b m)) (hK:KeyK P kt enc) (hs:stat N ops ⟨some d,.lookup t x y false,ty,pos,af,gd⟩ σ=true) (hm:P.underlying t=some (.map kt et)) (hz:(P.info? et).bind (·.zero)=some z)
  (hx:lookO σ x=some (.map (some b))) (hy:lookO σ y=some (enc k)) (hv:(getM k m).getD z=v) (h:HL P N ops l ((d,v)::σ) B H KK):HL P N ops (⟨some d,.lookup t x y false,ty,pos,af,gd⟩::l) σ B H KK:=QL hs (fun w hw=>by rw[<- hv];exact jP9 i hi hK hm (jJR hz) hx hy w hw) h
theorem Sat.jSX {i:Nat} (hw:Sat B H w) (hi:J5 H i=some (ZN enc b m)):zQ m:=MapAt.nodup (show MapAt enc w b m from hw.nth hi)
theorem Qk {x y u:Operand} {k:K} {v:Value} (i:Nat) (hi:J5 H i=some (ZN enc b m)) (hK:KeyK P kt enc) (hs:stat N ops ⟨none,.mapUpdate t x y u,ty,pos,af,gd⟩ σ=true) (hm:P.underlying t=some (.map kt et))
  (hx:lookO σ x=some (.map (some b))) (hy:lookO σ y=some (enc k)) (hu:lookO σ u=some v)
  (h:HL P N ops l σ B (jBK H i (ZN enc b (kU k v m))) KK):HL P N ops (⟨none,.mapUpdate t x y u,ty,pos,af,gd⟩::l) σ B H KK:=by
 refine YR hs (fun w hw=>?_) h;have hM:MapAt enc w b m:=hw.nth hi;obtain ⟨w',h1,h2,h3,h4⟩:=jHa hK hm hM k v;exact ⟨w',by simp[execOp,jB hx,jB hy,jB hu,h1],hw.updG hi h3 (fun k hk=>by cases hk;rfl) h2 (fun k hk=> .inl hk)⟩
end
end Go.GX
