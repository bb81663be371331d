/- A part of the proof: contracts of the program's functions. Conditions: none. -/
import Derived.Carry
import Derived.Deep.MidRow
import Derived.Deep.Quiet
import Derived.Laws.IdiomRangeMap
import Derived.Laws.MakeOwn
import Derived.Laws.StructEq
import Derived.Laws.Tables
import Derived.Lib.AppendStr
import Derived.Lib.AppendZerosOnto
import Derived.Lib.OthersKept
import Derived.Lib.Overlaps
import Derived.Lib.OwnBridge
import Derived.Lib.SlicesCompact
import Derived.MapKept
import Derived.Orders
import Derived.OrdersHeld
import Derived.Scope
import Derived.Sort.Grow
import Derived.StillTail
import Derived.Test.YtgfdoognildoeaaGreatProg
import Derived.Test.YtgfdoognildoeaaGreatShelf
import Derived.WalkKit
import Derived.WalkLawsBesides
import Derived.WalkSpells
import Derived.Test.YtgfdoognildoeaaGreatQB1
import Derived.Test.YtgfdoognildoeaaGreatQB2
import Derived.Test.YtgfdoognildoeaaGreatQB3
import Derived.Test.YtgfdoognildoeaaGreatQB4
import Derived.Test.YtgfdoognildoeaaGreatQB5
import Derived.Test.YtgfdoognildoeaaGreatQB6
import Derived.Test.YtgfdoognildoeaaGreatQB7
import Derived.Test.YtgfdoognildoeaaGreatQB8
import Derived.Test.YtgfdoognildoeaaGreatQB9
set_option linter.unusedVariables false
set_option linter.unusedSectionVars false
set_option linter.unusedSimpArgs false
set_option maxRecDepth 100000
set_option maxHeartbeats 4000000
namespace Go.GX
open Go.RowKit
section
variable {P : Program} {ops : Array Oper} {Q : Exit → Act → World → Prop} {md : Region.Mode} {S : World → Prop} {T : List Nat} {listed : Array Bool}
def jC9 (P:Program) (md:Region.Mode) (ops:Array Oper) (Q:Exit→Act→World→Prop) (S:World→Prop) (T:List Nat):Nat→Array Bool→Act→World→Prop
 |0,listed,a,w=>Region.ready md ops listed=[]∧Q .normal a w
 |fuel+1,listed,a,w=>
  (Region.ready md ops listed=[]→Q .normal a w)∧
  ∀i∈Region.ready md ops listed,wpOp P ops Q i (fun a' w'=>(kV i T=true∨S w')∧jC9 P md ops Q S T fuel (listed.setIfInBounds i true) a' w') a w
theorem jC8:∀(fuel:Nat) (listed:Array Bool) (a:Act) (w:World),jC9 P md ops Q S T fuel listed a w→wpAny P md ops Q fuel listed a w
 |0,_,_,_,h=>h
 |fuel+1,_,_,_,h=>⟨h.1,fun i hi=>wpOp_mono (fun a' w' h'=>jC8 fuel _ a' w' h'.2) (h.2 i hi)⟩
def jHi (md:Region.Mode) (ops:Array Oper) (T:List Nat) (z:Nat):Bool:=(List.range ops.size).all fun i=>kV i T||kV i (jJR md ops 12 (jLq md ops z))
theorem jGQ {z:Nat} (hz:jHi md ops T z=true) (hc:Closed md ops listed) (hr:z∈Region.ready md ops listed) {i:Nat} (hi:i<ops.size) (hne:kV i T=false):listed.getD i false=true:=by
 have h1:=List.all_eq_true.1 hz i (List.mem_range.2 hi)
 rw[hne,Bool.false_or]at h1
 obtain ⟨_,oz,hoz,hall⟩:=mem_ready.1 hr
 refine ku hc 12 _ (fun y hy=>?_) i (KX h1)
 obtain ⟨o,ho,e,he,hb,rfl⟩:=jBB hy
 rw[hoz]at ho;cases ho
 exact hall e he hb
theorem jEr (hz:∀z,kV z T=true→jHi md ops T z=true) {i:Nat} {oi:Oper} {v:Value} (hi:ops[i]? =some oi) (hiz:kV i T=false) (hsel:∀(j:Nat) (o:Oper) cs b,ops[j]? =some o→o.op≠ .select cs b)
  (hQ:∀c a w,Q (.panic c) (a.put oi.dst v) w→Q (.panic c) a w):
  ∀(fuel:Nat) (listed:Array Bool) (a:Act) (w:World),Closed md ops listed→
   (∀ j oj,ops[j]? =some oj→j≠i→listed.getD j true=false→(∀ e∈oj.after,Region.binds md e=true→e.on≠i)→oi.apart ops oj=true)→
   i∈Region.ready md ops listed→YieldsIf P ops S oi v a→S w→
   jC9 P md ops Q S T fuel (listed.setIfInBounds i true) (a.put oi.dst v) w→jC9 P md ops Q S T (fuel+1) listed a w:=by
 intro fuel
 induction fuel with
 |zero=>
  intro listed a w _ _ hr hy hS H
  refine ⟨fun h=>(by rw[h]at hr;cases hr),fun j hj=>?_⟩
  by_cases hji:j=i
  ·subst hji;exact hy.wpOp hi hS ⟨.inr hS,H⟩
  ·have:=ready_mono hj hji
   rw[H.1]at this
   cases this
 |succ fuel ih=>
  intro listed a w hc hfree hr hy hS H
  refine ⟨fun h=>(by rw[h]at hr;cases hr),fun j hj=>?_⟩
  by_cases hji:j=i
  ·subst hji;exact hy.wpOp hi hS ⟨.inr hS,H⟩
  ·have h1:=H.2 j (ready_mono hj hji)
   obtain ⟨hjun,oj,hoj,hall⟩:=mem_ready.1 hj
   have h0:=(mem_ready.1 hr).1
   have hnot:∀e∈oj.after,Region.binds md e=true→e.on≠i:=fun e he hb heq=>by
    have h1:=hall e he hb
    rw[heq]at h1
    rw[jAt h1]at h0;cases h0
   have hjz:kV j T=false:=by
    rw[← Bool.not_eq_true]
    intro e
    have:=jGQ (hz j e) hc hj (Array.getElem?_eq_some_iff.1 hi).1 hiz
    rw[jAt this]at h0;cases h0
   have h2:=wpOp_putIf hoj (hfree j oj hoj hji hjun hnot) (fun cs b=>hsel i oi cs b hi) (fun cs b=>hsel j oj cs b hoj) hQ hy h1
   have hfree':∀k ok,ops[k]? =some ok→k≠i→(listed.setIfInBounds j true).getD k true=false→
     (∀ e∈ok.after,Region.binds md e=true→e.on≠i)→oi.apart ops ok=true:=fun k ok hk hki hun hno=>by
    refine hfree k ok hk hki ?_ hno
    by_cases hjk:j=k
    ·subst hjk;exact hjun
    ·rw [getD_set_ne true hjk]at hun;exact hun
   refine wpOp_mono (fun a' w' h3=>?_) h2
   have hS':S w':=h3.2.1.resolve_left (by rw[hjz];nofun)
   refine ⟨.inr hS',ih (listed.setIfInBounds j true) a' w' (hc.set hj) hfree' (ready_mono hr (Ne.symm hji)) h3.1 hS' ?_⟩
   rw[Array.setIfInBounds_comm _ _ hji]
   exact h3.2.2
end
def jR3 (T:List Nat):List (Nat×Bool)→Bool
 |[]=>true
 |(i,_)::p=>match kV i T with
  |true=>false
  |false=>jR3 T p
def jA1 (T:List Nat):List (Nat×Bool):=T.map fun z=>(z,false)
def jLz (ops:Array Oper) (p:List (Nat×Bool)) (T:List Nat):Bool:=Region.noSelect ops&&Nat.beq (p.length+T.length) ops.size&&jR3 T p&&T.all (jHi .any ops T)&&Zg ops (p++jA1 T) (Array.replicate ops.size false)
section
variable {P : Program} {f : FuncId} {N : Nat} {k : List Item} {σ : Store} {B : Base} {H F : List Chunk} {R : Ending → World → Prop} {ops l : List Oper} {o : Oper} {K : Act → World → Prop} {S : World → Prop} {T : List Nat}
def jC7 (P:Program) (ops:Array Oper) (K:Act→World→Prop):List Nat→Act→World→Prop
 |[],a,w=>K a w
 |z::l,a,w=>wpOp P ops (QN K) z (fun a w=>jC7 P ops K l a w) a w
theorem jAG {ops:Array Oper}:∀(t:List Nat) (listed:Array Bool) (a:Act) (w:World),(∀ z∈t,kV z T=true)→Zg ops (jA1 t) listed=true→jC7 P ops K t a w→jC9 P .any ops (QN K) S T t.length listed a w
 |[],listed,a,w,_,hB,h=>⟨by simpa[Zg,jA1]using hB,rfl,h⟩
 |z::t,listed,a,w,ht,hB,h=>by
  simp only[jA1,List.map_cons,Zg,Bool.and_eq_true,decide_eq_true_eq]at hB
  refine ⟨fun h0=>absurd (hB.1.symm.trans h0) (by simp),fun j hj=>?_⟩
  rw[hB.1]at hj
  have:j=z:=by simpa using hj
  subst this
  exact wpOp_mono (fun a' w' h'=>⟨.inl (ht j (List.mem_cons_self ..)),jAG t _ _ _ (fun y hy=>ht y (List.mem_cons_of_mem _ hy)) hB.2 h'⟩) h
theorem Zm {ops:Array Oper} (hn:Region.noSelect ops=true) (hz:∀z,kV z T=true→jHi .any ops T z=true):∀(p:List (Nat×Bool)) (listed:Array Bool) (a:Act) (w:World),S w→Closed .any ops listed→jR3 T p=true→
  Zg ops (p++jA1 T) listed=true→jAE P ops S (fun a w=>jC7 P ops K T a w) p a w→jC9 P .any ops (QN K) S T (p.length+T.length) listed a w
 |[],listed,a,w,hS,_,_,hB,h=>by
  rw[List.length_nil,Nat.zero_add]
  exact jAG T listed a w (fun z hz=>jEN hz) hB h
 |(i,true)::p,listed,a,w,hS,hc,hnz,hB,h=>by
  obtain ⟨o,v,ho,hy,h⟩:=h
  simp only[List.cons_append,Zg,Bool.and_eq_true]at hB
  have hf:=Region.free_spec ho hB.1.2
  unfold jR3 at hnz
  split at hnz
  ·cases hnz
  ·rename_i hb
   have hr:i∈Region.ready .any ops listed:=by simpa using hB.1.1
   rw[List.length_cons,Nat.add_right_comm]
   exact jEr hz ho hb (Region.noSelect_spec hn) (fun c a w h=>absurd h.1 (by nofun)) _ listed a w hc hf hr hy hS (Zm hn hz p _ _ _ hS (hc.set hr) hnz hB.2 h)
 |(i,false)::p,listed,a,w,hS,hc,hnz,hB,h=>by
  simp only[List.cons_append,Zg,Bool.and_eq_true,decide_eq_true_eq]at hB
  rw[List.length_cons,Nat.add_right_comm]
  refine ⟨fun h0=>absurd (hB.1.symm.trans h0) (by simp),fun j hj=>?_⟩
  have hj0:=hj
  rw[hB.1]at hj
  have:j=i:=by simpa using hj
  subst this
  unfold jR3 at hnz
  split at hnz
  ·cases hnz
  ·exact jKw (wpOp_mono (fun a' w' h'=>⟨.inr h'.1,Zm hn hz p _ _ _ h'.1 (hc.set hj0) hnz hB.2 h'.2⟩) h)
def KW (P:Program) (ops:List Oper) (T:List Nat) (K:Act→World→Prop):Act→World→Prop:=fun a w=>jC7 P ops.toArray K T a w
theorem HR.jQY (p:List (Nat×Bool)) (T:List Nat) (is:List Nat) (hF:jAM H is=some F) (hd:Js is=true) {id:Nat} (hm:P.follows .mixedOrders=true) (hB:jLz ops.toArray p T=true)
  (h:HD P N ops p σ B H F (KW P ops T (Ko P f k R))):HR P f N (.code (.region id ops.toArray true)::k) σ B H R:=by
 intro w hw a ha
 simp only[jLz,Bool.and_eq_true]at hB
 obtain ⟨⟨⟨⟨h1,h2⟩,h3⟩,h4⟩,h5⟩:=hB
 have hb:Below w.heap.size w { w with drawn:=w.drawn+1 }:=⟨rfl,rfl,rfl,Nat.le_refl _,fun _ _=>rfl⟩
 have hw1:Sat B H { w with drawn:=w.drawn+1 }:=hw.grow hb
 refine Ko.of_wp (wp_region_any hm (jC8 (S:=fun w=>Sat B F w) (T:=T) _ _ _ _ ?_))
 have hsz:=(Nat.eq_of_beq_eq_true h2).symm
 rw[hsz]
 rw[hsz]at h5
 exact Zm h1 (fun z hz=>List.all_eq_true.1 h4 z (KX hz)) p _ _ _ (hw1.pick is hF hd) (Closed.start (Nat.eq_of_beq_eq_true h2)) h3 h5 (h _ hw1 (hw1.pick is hF hd) a ha)
def jJC (ops:List Oper):List Nat→Option (List Oper)
 |[]=>some []
 |z::l=>match ops[z]?,jJC ops l with
  |some o,some r=>some (o::r)
  |_,_=>none
theorem Zk:∀(T:List Nat) (l:List Oper),jJC ops T=some l→∀a w,wpList P ops.toArray (QN K) l a w→jC7 P ops.toArray K T a w
 |[],l,hl,a,w,h=>by cases hl;exact h.2
 |z::T,l,hl,a,w,h=>by
  unfold jJC at hl
  split at hl
  ·rename_i o r ho hr
   cases hl
   unfold jC7
   unfold wpList at h
   simp only[wpOp,show ops.toArray[z]? =some o by simpa using ho]
   split
   ·rename_i hw'
    rw[if_pos hw']at h
    rcases h with h|h
    ·exact .inl (Oper.wp_mono (fun a' w' h'=>Zk T r hr a' w' h') h)
    ·exact (K9 (K:=K) h.2).elim
   ·rename_i hw'
    rw[if_neg hw']at h
    exact Zk T r hr _ _ h
  ·cases hl
theorem HD.tail (hl:jJC ops T=some l) (h:HL P N ops l σ B H K):HD P N ops [] σ B H F (KW P ops T K):=by
 intro w hw _ a ha
 exact Zk T l hl a w (h w hw a ha)
end
end Go.GX
namespace Go.Proofs.YtgfdoognildoeaaGreat
open Go.GX Go.RowKit
attribute [local irreducible] Calls Run jg jh JU HR HL HD jU jK Jc Rd jL jd
open Nd
theorem jQD:IsFn Tryz.prog 68:=⟨⟨_,_,Tryz.func68,rfl,by decide⟩⟩
structure OkN (w:World) (V:NV) (n:Nd):Prop where
 ta:Sl w (sv V.ta n.table.length) (cellsOf roC n.table) n.table.length
 li:Sl w (sv V.li n.links.length) (cellsOf liC n.links) n.links.length
 ou:Sl w (sv V.ou n.out.length) (cellsOf snC n.out) n.out.length
 ch:Sl w (sv V.ch n.children.length) (cellsOf iC n.children) n.children.length
 bo:Sl w (sv V.bo n.boxes.length) (cellsOf maC n.boxes) n.boxes.length
 se:Sl w (sv V.se n.seen.length) (cellsOf prC n.seen) n.seen.length
 pa:RdPts w (sv V.pa V.ps.length) V.ps
 ib:Sl w (sv V.ib n.inbox.length) (cellsOf deC n.inbox) n.inbox.length
 eq:pts V.ps=n.parts
structure SmN (n:Nd):Prop where
 ta:n.table.length≤1000
 li:n.links.length≤1000
 ou:n.out.length≤1000
 ch:n.children.length≤1000
 bo:n.boxes.length≤1000
 se:n.seen.length≤1000
 pa:n.parts.length≤1000
 ib:n.inbox.length≤1000
 sm:∀p∈n.parts,jBj p
theorem OkN.ext {w w':World} {V:NV} {n:Nd} (h:OkN w V n) (hb:Below w.heap.size w w'):OkN w' V n:=⟨h.ta.ext hb,h.li.ext hb,h.ou.ext hb,h.ch.ext hb,h.bo.ext hb,h.se.ext hb,h.pa.ext hb,h.ib.ext hb,h.eq⟩
theorem Sl.pre {α:Type} {E:α→List Value} {sz:Nat} (hE:∀a,(E a).length=sz) {w:World} {l m:List α} {v:Value} (hv:Sl w v (cellsOf E l) l.length) {k:Nat} (hk:k≤l.length) (hm:m=l.take k):Sl w (kD sz v 0 k) (cellsOf E m) m.length:=by
 subst hm
 exact (Rd.pre hE (B:=base w) (H:=[]) (Rd.arg hv) hk).at (Sat.start w)
theorem Sl.suf {α:Type} {E:α→List Value} {sz:Nat} (hE:∀a,(E a).length=sz) {w:World} {l m:List α} {v:Value} (hv:Sl w v (cellsOf E l) l.length) {k:Nat} (hk:k≤l.length) (hm:m=l.drop k):Sl w (kD sz v k l.length) (cellsOf E m) m.length:=by
 subst hm
 exact (Rd.suf hE (B:=base w) (H:=[]) (Rd.arg hv) hk).at (Sat.start w)
theorem jNJ (n:Int):clamp (clamp n 0 250) 0 250=clamp n 0 250:=by unfold clamp;omega
theorem jHL (a:Int) (l:List Int):kids a l=Tf.dif (l.filter fun c=>Tp.okN c&&!(c==a)):=by
 refine jHb (jBw a l).1 (Tf.jRU _) fun x=>?_
 rw[(jBw a l).2,Tf.jRT,List.mem_filter]
 simp
theorem jKD (k n:Nat):(if (k:Int)<(n:Int)then (k:Int)else (n:Int))=((min n k:Nat):Int):=by split<;>omega
theorem Zx {α:Type} (l:List α) (k:Nat):l.take k=l.take (min l.length k):=by
 by_cases h:l.length≤k
 ·rw [Nat.min_eq_left h,List.take_length,List.take_of_length_le h]
 ·rw [Nat.min_eq_right (by omega)]
theorem ZN (V:NV) (n:Nd) (now:Int) (w:World) (h:OkN w V n) (hs:SmN n):
  Calls Tryz.prog 68 #[.agg ⟨ndC V n⟩,.int .i64 now] w fun e w'=>∃x:Nat×NV,e= .returned (ptr x.1)∧Pts x.2 (order n)∧Sat (base w) (stH x.1 x.2 (order n) (tick now)) w':=by
 have l1:=hs.ta
 have l2:=hs.li
 have l3:=hs.ou
 have l4:=hs.ch
 have l5:=hs.bo
 have l6:=hs.se
 have l7:=hs.ib
 have l8:V.ps.length≤1000:=by rw[← JF,h.eq];exact hs.pa
 obtain ⟨m,hm⟩:∃m,m=order n:=⟨_,rfl⟩
 have e_ad:m.addr=clamp n.addr 0 250:=by rw[hm];rfl
 have e_po:m.poll=if n.poll<1 then 0 else max n.poll 4:=by rw[hm];rfl
 have e_pr:m.parent=if Tp.okN n.parent=false∨n.parent=m.addr then 255 else n.parent:=by rw[hm];rfl
 have e_ta:m.table=if KL n.table m.addr=0 then n.table else [jGk m.addr]:=by rw[hm];rfl
 have e_li:m.links=if jA4 n.links=0 then n.links else []:=by rw[hm];rfl
 have e_ou:m.out=n.out.take (min n.out.length 16):=by rw[hm,← Zx];rfl
 have e_ch:m.children=Tf.dif (n.children.filter fun c=>Tp.okN c&&!(c==m.addr)):=by rw[← jHL,hm];rfl
 have e_bo:m.boxes=n.boxes.take (min n.boxes.length 16):=by rw[hm,← Zx];rfl
 have e_se:m.seen=n.seen.drop (n.seen.length-32):=by rw[hm];rfl
 have e_pa:m.parts=n.parts:=by rw[hm];rfl
 have e_ib:m.inbox=n.inbox.take (min n.inbox.length 256):=by rw[hm,← Zx];rfl
 have e_sq:m.seq=if n.seq<0∨n.seq>65535 then 0 else n.seq:=by rw[hm];rfl
 have e_lo:m.lost=clamp n.lost 0 1099511627776:=by rw[hm];rfl
 have e_nw:jDF m.addr=[jGk m.addr]:=by rw[e_ad];unfold jDF lim;rw[jNJ]
 have s_ou:=Sl.pre je h.ou (Nat.min_le_left _ _) e_ou
 have s_bo:=Sl.pre Jw h.bo (Nat.min_le_left _ _) e_bo
 have s_se:=Sl.suf Zf h.se (Nat.sub_le _ _) e_se
 have s_ib:=Sl.pre jAS h.ib (Nat.min_le_left _ _) e_ib
 have k3:m.out.length≤16:=by rw[e_ou,List.length_take];omega
 have k5:m.boxes.length≤16:=by rw[e_bo,List.length_take];omega
 have k6:m.seen.length≤32:=by rw[e_se,List.length_drop];omega
 have k7:m.inbox.length≤256:=by rw[e_ib,List.length_take];omega
 rw[← hm]
 refine jB Tryz.func68 I (Nat.le_of_ble_eq_true I) ?_
 refine HR.sub (σ':=[(0,.agg ⟨ndC V n⟩),(1,.int .i64 now)]) ⟨I,I,trivial⟩ ?_
 refine HR.ctl I ?_
 refine HR.region ?_
 refine HL.box I I ?_
 intro b1
 repeat' (first|refine zh ?_|intro (bk:Nat))
 refine HR.j3 [(0,true),(1,true),(2,false),(3,true),(4,false),(5,true)] [0] I I JZ (by kernel_rfl) ?_
 repeat' (first|refine zd ?_|fail)
 refine HD.one I ?_
 refine HL.jN jRD I I (fun w _=>jEM now 0 1099511627776 w) ?_
 refine HL.back [0] I I ?_
 repeat' (first|refine zd ?_|fail)
 refine HD.one I ?_
 refine HL.box I I ?_
 intro b
 refine HL.back [1] I I ?_
 repeat' (first|refine zd ?_|fail)
 refine HD.nil ?_
 repeat' (first|refine zh ?_|refine HL.jN jRD I I (fun w _=>jEM n.addr 0 250 w) ?_|intro (bk:Nat))
 refine HR.join (ι:=Unit) (fun _=>True) (fun _=>[(2,ptr b1),(5,ptr b)]) (fun _=>[jU b [.int .i64 m.addr,.int .i64 m.poll,.int .i64 n.parent,sv V.ta n.table.length,sv V.li n.links.length,sv V.ou n.out.length,sv V.ch n.children.length,sv V.bo n.boxes.length,sv V.se n.seen.length,sv V.pa V.ps.length,sv V.ib n.inbox.length,.int .i64 n.seq,.int .i64 n.lost,.int .i64 (tick now)] 113,jU b1 (ndC V n) 62]) (fun _ _=>?_) (fun hj=>?_)
 rotate_left
 ·refine HR.cond I (fun h=>?_) (fun h=>?_)
  ·have h:n.poll<1:=of_decide_eq_true h
   refine HR.region ?_
   repeat' (first|refine zn ?_|apply zb ?_ ?_|exact zc|(refine zi fun hb=>?_;try simp at hb)|intro (bk:Nat))
   refine hj () _ _ trivial ⟨I,I,trivial⟩ (Ent.of_eq ?_)
   rw[e_po,if_pos h,e_ad];rfl
  ·have h:¬n.poll<1:=of_decide_eq_false h
   refine HR.region ?_
   repeat' (first|refine zn ?_|apply zb ?_ ?_|exact zc|(refine zi fun hb=>?_;try simp at hb)|intro (bk:Nat))
   refine hj () _ _ trivial ⟨I,I,trivial⟩ (Ent.of_eq ?_)
   rw[show m.poll=(if (4:Int)>n.poll then 4 else n.poll)from by rw[e_po,if_neg h];split<;>omega,e_ad];rfl
 repeat' (first|refine zh ?_|intro (bk:Nat))
 refine HR.join (ι:=Unit) (fun _=>True) (fun _=>[(2,ptr b1),(5,ptr b),(49,.bool (!Tp.okN n.parent||(n.parent==m.addr)))]) (fun _=>[jU b [.int .i64 m.addr,.int .i64 m.poll,.int .i64 n.parent,sv V.ta n.table.length,sv V.li n.links.length,sv V.ou n.out.length,sv V.ch n.children.length,sv V.bo n.boxes.length,sv V.se n.seen.length,sv V.pa V.ps.length,sv V.ib n.inbox.length,.int .i64 n.seq,.int .i64 n.lost,.int .i64 (tick now)] 113,jU b1 (ndC V n) 62]) (fun _ _=>?_) (fun hj=>?_)
 rotate_left
 ·refine HR.j3 [(0,true),(1,true),(2,false),(3,true),(4,true),(5,true),(6,true),(7,true),(8,true),(9,true),(10,true),(11,true),(12,true),(13,true)] [0,1] I I JZ (by kernel_rfl) ?_
  repeat' (first|refine zd ?_|fail)
  refine HD.one I ?_
  refine HL.jN jSP I I (fun w _=>Z9 n.parent w) ?_
  refine HL.back [0,1] I I ?_
  refine HD.ev I I I ?_
  refine HD.ev I I I ?_
  refine HD.split 40 I (fun hb=>?_) (fun hb=>?_)
  ·repeat' (first|refine zd ?_|fail)
   refine HD.nil ?_
   refine hj () _ _ trivial ⟨rfl,rfl,?_,trivial⟩ Ent.refl
   show some (Value.bool true)=some (Value.bool (!Tp.okN n.parent||(n.parent==m.addr)))
   rw[show (!Tp.okN n.parent)=true from hb];rfl
  ·repeat' (first|refine zd ?_|fail)
   refine HD.nil ?_
   refine hj () _ _ trivial ⟨rfl,rfl,?_,trivial⟩ Ent.refl
   show some (Value.bool (n.parent==m.addr))=some (Value.bool (!Tp.okN n.parent||(n.parent==m.addr)))
   rw[show (!Tp.okN n.parent)=false from hb];rfl
 refine HR.join (ι:=Unit) (fun _=>True) (fun _=>[(2,ptr b1),(5,ptr b)]) (fun _=>[jU b [.int .i64 m.addr,.int .i64 m.poll,.int .i64 m.parent,sv V.ta n.table.length,sv V.li n.links.length,sv V.ou n.out.length,sv V.ch n.children.length,sv V.bo n.boxes.length,sv V.se n.seen.length,sv V.pa V.ps.length,sv V.ib n.inbox.length,.int .i64 n.seq,.int .i64 n.lost,.int .i64 (tick now)] 113,jU b1 (ndC V n) 62]) (fun _ _=>?_) (fun hj=>?_)
 rotate_left
 ·refine HR.cond I (fun h=>?_) (fun h=>?_)
  ·have h:(!Tp.okN n.parent||(n.parent==m.addr))=true:=h
   have h2:Tp.okN n.parent=false∨n.parent=m.addr:=by simpa using h
   refine HR.region ?_
   repeat' (first|refine zn ?_|apply zb ?_ ?_|exact zc|(refine zi fun hb=>?_;try simp at hb)|intro (bk:Nat))
   refine hj () _ _ trivial ⟨I,I,trivial⟩ (Ent.of_eq ?_)
   rw[e_pr,if_pos h2];rfl
  ·have h:(!Tp.okN n.parent||(n.parent==m.addr))=false:=h
   have h2:¬(Tp.okN n.parent=false∨n.parent=m.addr):=by simpa using h
   refine HR.skip ?_
   refine hj () _ _ trivial ⟨I,I,trivial⟩ (Ent.of_eq ?_)
   rw[e_pr,if_neg h2]
 repeat' (first|refine zh ?_|refine HL.JN fn61 I I (fun w hw=>KC n.table _ w ((Rd.arg h.ta).at hw) l1) ?_|intro (bk:Nat))
 intro v1
 refine HL.shape 0 I fun a c hv=>?_
 subst hv
 repeat' (first|refine zh ?_|intro (bk:Nat))
 refine HR.ent (H':=[jU b [.int .i64 m.addr,.int .i64 m.poll,.int .i64 m.parent,.slice a n.table.length c,sv V.li n.links.length,sv V.ou n.out.length,sv V.ch n.children.length,sv V.bo n.boxes.length,sv V.se n.seen.length,sv V.pa V.ps.length,sv V.ib n.inbox.length,.int .i64 n.seq,.int .i64 n.lost,.int .i64 (tick now)] 113,jU b1 (ndC V n) 62,cTa (.slice a n.table.length c) n.table]) (Ent.pick [1,2,0] I I) ?_
 refine HR.j3 [(0,true),(1,true),(2,true),(3,true),(4,true),(5,true),(6,true),(7,false),(8,true)] [0,1] I I JZ (by kernel_rfl) ?_
 repeat' (first|refine zd ?_|fail)
 refine HD.one I ?_
 refine HL.jN jSp I I (fun w hw=>jDL n.table m.addr _ w ((Rd.arg h.ta).at hw) l1) ?_
 refine HL.back [0,1] I I ?_
 repeat' (first|refine zd ?_|fail)
 refine HD.nil ?_
 refine HR.join (ι:=SV) (fun _=>True) (fun _=>[(2,ptr b1),(5,ptr b)]) (fun x=>[jU b [.int .i64 m.addr,.int .i64 m.poll,.int .i64 m.parent,sv x m.table.length,sv V.li n.links.length,sv V.ou n.out.length,sv V.ch n.children.length,sv V.bo n.boxes.length,sv V.se n.seen.length,sv V.pa V.ps.length,sv V.ib n.inbox.length,.int .i64 n.seq,.int .i64 n.lost,.int .i64 (tick now)] 113,jU b1 (ndC V n) 62,cTa (sv x m.table.length) m.table]) (fun xt _=>?_) (fun hj=>?_)
 rotate_left
 ·refine HR.cond I (fun h2=>?_) (fun h2=>?_)
  ·have h2:¬KL n.table m.addr=0:=by simpa using h2
   refine HR.region ?_
   repeat' (first|refine zn ?_|refine HL.JN fn69 I I (fun w _=>jEB m.addr w) ?_|apply zb ?_ ?_|exact zc|(refine zi fun hb=>?_;try simp at hb)|intro (bk:Nat))
   intro v2
   refine HL.shape 0 I fun a2 c2 hv=>?_
   subst hv
   repeat' (first|refine zn ?_|apply zb ?_ ?_|exact zc|(refine zi fun hb=>?_;try simp at hb)|intro (bk:Nat))
   refine hj (a2,c2) _ _ trivial ⟨I,I,trivial⟩ ?_
   rw[e_ta,if_neg h2,← e_nw]
   exact Ent.pick [1,2,0] I I
  ·have h2:KL n.table m.addr=0:=by simpa using h2
   refine HR.skip ?_
   refine hj (a,c) _ _ trivial ⟨I,I,trivial⟩ ?_
   rw[e_ta,if_pos h2]
   exact Ent.refl
 repeat' (first|refine zh ?_|refine HL.JN jSo I I (fun w hw=>jCg n.links _ w ((Rd.arg h.li).at hw) l2) ?_|intro (bk:Nat))
 intro v1
 refine HL.shape 0 I fun a c hv=>?_
 subst hv
 repeat' (first|refine zh ?_|refine HL.jN jSn I I (fun w hw=>jDg n.links _ w ((Rd.arg h.li).at hw) l2) ?_|intro (bk:Nat))
 refine HR.ent (H':=[jU b [.int .i64 m.addr,.int .i64 m.poll,.int .i64 m.parent,sv xt m.table.length,.slice a n.links.length c,sv V.ou n.out.length,sv V.ch n.children.length,sv V.bo n.boxes.length,sv V.se n.seen.length,sv V.pa V.ps.length,sv V.ib n.inbox.length,.int .i64 n.seq,.int .i64 n.lost,.int .i64 (tick now)] 113,jU b1 (ndC V n) 62,cTa (sv xt m.table.length) m.table,cLi (.slice a n.links.length c) n.links]) (Ent.pick [1,2,3,0] I I) ?_
 refine HR.join (ι:=SV) (fun _=>True) (fun _=>[(2,ptr b1),(5,ptr b)]) (fun x=>[jU b [.int .i64 m.addr,.int .i64 m.poll,.int .i64 m.parent,sv xt m.table.length,sv x m.links.length,sv V.ou n.out.length,sv V.ch n.children.length,sv V.bo n.boxes.length,sv V.se n.seen.length,sv V.pa V.ps.length,sv V.ib n.inbox.length,.int .i64 n.seq,.int .i64 n.lost,.int .i64 (tick now)] 113,jU b1 (ndC V n) 62,cTa (sv xt m.table.length) m.table,cLi (sv x m.links.length) m.links]) (fun xl _=>?_) (fun hj=>?_)
 rotate_left
 ·refine HR.cond I (fun h2=>?_) (fun h2=>?_)
  ·have h2:¬jA4 n.links=0:=by simpa using h2
   refine HR.region ?_
   repeat' (first|refine zn ?_|apply zb ?_ ?_|exact zc|(refine zi fun hb=>?_;try simp at hb)|intro (bk:Nat))
   refine HR.zY 162 3 ?_
   refine hj (none,0) _ _ trivial ⟨I,I,trivial⟩ ?_
   rw[e_li,if_neg h2]
   exact Ent.pick [1,2,3,0] I I
  ·have h2:jA4 n.links=0:=by simpa using h2
   refine HR.skip ?_
   refine hj (a,c) _ _ trivial ⟨I,I,trivial⟩ ?_
   rw[e_li,if_pos h2]
   exact Ent.refl
 repeat' (first|refine zh ?_|intro (bk:Nat))
 refine HL.ZB 101 (v':= .int .i64 ((min n.out.length 16:Nat):Int)) I (by rw[← jKD];rfl) ?_
 repeat' (first|refine zh ?_|refine HL.KP (sz:=11) 0 (min n.out.length 16) (Rd.arg h.ou) I I I I (.inl ⟨rfl,rfl⟩) (.inr ⟨_,_,_,rfl,rfl,rfl⟩) (Nat.zero_le _) (Nat.min_le_left _ _) ?_|refine HL.JN jPh I I (fun w hw=>KA m.out _ w ((Rd.arg s_ou).at hw) (by omega)) ?_|intro (bk:Nat))
 intro v1
 refine HL.shape 0 I fun a3 c3 hv=>?_
 subst hv
 refine HL.ent (H':=[jU b [.int .i64 m.addr,.int .i64 m.poll,.int .i64 m.parent,sv xt m.table.length,sv xl m.links.length,sv V.ou n.out.length,sv V.ch n.children.length,sv V.bo n.boxes.length,sv V.se n.seen.length,sv V.pa V.ps.length,sv V.ib n.inbox.length,.int .i64 n.seq,.int .i64 n.lost,.int .i64 (tick now)] 113,jU b1 (ndC V n) 62,cTa (sv xt m.table.length) m.table,cLi (sv xl m.links.length) m.links,cSn (.slice a3 m.out.length c3) m.out]) (Ent.pick [1,2,3,4,0] I I) ?_
 repeat' (first|refine zh ?_|intro (bk:Nat))
 refine HL.ZB 113 (v':= .int .i64 ((min n.boxes.length 16:Nat):Int)) I (by rw[← jKD];rfl) ?_
 repeat' (first|refine zh ?_|refine HL.KP (sz:=10) 0 (min n.boxes.length 16) (Rd.arg h.bo) I I I I (.inl ⟨rfl,rfl⟩) (.inr ⟨_,_,_,rfl,rfl,rfl⟩) (Nat.zero_le _) (Nat.min_le_left _ _) ?_|refine HL.JN jRC I I (fun w hw=>jAU m.boxes _ w ((Rd.arg s_bo).at hw) (by omega)) ?_|intro (bk:Nat))
 intro v1
 refine HL.shape 0 I fun a5 c5 hv=>?_
 subst hv
 refine HL.ent (H':=[jU b [.int .i64 m.addr,.int .i64 m.poll,.int .i64 m.parent,sv xt m.table.length,sv xl m.links.length,.slice a3 m.out.length c3,sv V.ch n.children.length,sv V.bo n.boxes.length,sv V.se n.seen.length,sv V.pa V.ps.length,sv V.ib n.inbox.length,.int .i64 n.seq,.int .i64 n.lost,.int .i64 (tick now)] 113,jU b1 (ndC V n) 62,cTa (sv xt m.table.length) m.table,cLi (sv xl m.links.length) m.links,cSn (.slice a3 m.out.length c3) m.out,cMa (.slice a5 m.boxes.length c5) m.boxes]) (Ent.pick [1,2,3,4,5,0] I I) ?_
 repeat' (first|refine zh ?_|intro (bk:Nat))
 refine HR.zY 3 1 ?_
 obtain ⟨g,hg⟩:∃g:Nat→List Int,g=fun k=>(n.children.take k).filter fun c=>Tp.okN c&&!(c==m.addr):=⟨_,rfl⟩
 have hgl:∀k,(g k).length≤1000:=fun k=>by rw[hg];exact Nat.le_trans (List.length_filter_le _ _) (by rw[List.length_take];omega)
 refine HR.loop (ι:=Nat×SV) (fun x=>x.1≤n.children.length) (fun x=>[(2,ptr b1),(5,ptr b),(124,sv V.ch n.children.length),(125,.int .i64 (n.children.length:Int)),(126,.int .i64 (x.1:Int))]) (fun x=>[jU b [.int .i64 m.addr,.int .i64 m.poll,.int .i64 m.parent,sv xt m.table.length,sv xl m.links.length,.slice a3 m.out.length c3,sv x.2 (g x.1).length,.slice a5 m.boxes.length c5,sv V.se n.seen.length,sv V.pa V.ps.length,sv V.ib n.inbox.length,.int .i64 n.seq,.int .i64 n.lost,.int .i64 (tick now)] 113,jU b1 (ndC V n) 62,cTa (sv xt m.table.length) m.table,cLi (sv xl m.links.length) m.links,cSn (.slice a3 m.out.length c3) m.out,cMa (.slice a5 m.boxes.length c5) m.boxes,cI (sv x.2 (g x.1).length) (g x.1)]) (fun x=>n.children.length-x.1) (0,none,0) (Nat.zero_le _) ⟨I,I,I,I,I,trivial⟩ (by rw[hg];exact Ent.pick [1,2,3,4,5,6,0] I I) ?_
 rintro ⟨k,x⟩ hk ih
 have hk:k≤n.children.length:=hk
 have hgk:(g (k,x).fst).length≤1000:=hgl k
 repeat' (first|refine zh ?_|intro (bk:Nat))
 refine HR.cond I (fun h2=>?_) (fun h2=>?_)
 ·have hlt:k<n.children.length:=by have:=of_decide_eq_true h2;omega
  obtain ⟨c,hc⟩:=jH hlt
  have hgs:=kF (p:=fun c=>Tp.okN c&&!(c==m.addr)) hc
  have hgs:g (k+1)=if (Tp.okN c&&!(c==m.addr))=true then g k++[c]else g k:=by rw[hg];exact hgs
  repeat' (first|refine zh ?_|refine HL.jw (Rd.arg h.ch) Jg k I I I I hlt ?_|refine HL.jY (Rd.arg h.ch) I I I I (jV hc) ?_|refine HL.jN jSP I I (fun w _=>Z9 c w) ?_|apply zb ?_ ?_|exact zc|(refine zi fun hb=>?_;try simp at hb)|intro (bk:Nat))
  refine HR.cond I (fun h3=>?_) (fun h3=>?_)
  ·have h3:(Tp.okN c&&!(c==m.addr))=true:=h3
   rw[if_pos h3]at hgs
   repeat' (first|refine zh ?_|intro (bk:Nat))
   refine HL.jk Jg I I I I I (by decide) (by decide) ?_
   intro va
   refine HL.zD 7 I Jg (Rd.own 0 I) I I I I (jJ I) (by omega) (by omega) ?_
   intro v2
   refine HL.shape 7 I fun a2 c2 hv=>?_
   subst hv
   repeat' (first|refine zh ?_|intro (bk:Nat))
   refine ih (k+1,a2,c2) _ _ hlt (by show n.children.length-(k+1)<n.children.length-k;omega) ⟨I,I,I,I,I,trivial⟩ ?_
   show Ent _ _ [jU b [.int .i64 m.addr,.int .i64 m.poll,.int .i64 m.parent,sv xt m.table.length,sv xl m.links.length,.slice a3 m.out.length c3,.slice a2 (g (k+1)).length c2,.slice a5 m.boxes.length c5,sv V.se n.seen.length,sv V.pa V.ps.length,sv V.ib n.inbox.length,.int .i64 n.seq,.int .i64 n.lost,.int .i64 (tick now)] 113,jU b1 (ndC V n) 62,cTa (sv xt m.table.length) m.table,cLi (sv xl m.links.length) m.links,cSn (.slice a3 m.out.length c3) m.out,cMa (.slice a5 m.boxes.length c5) m.boxes,jK (.slice a2 (g (k+1)).length c2) 3 1 (g (k+1)).length (cellsOf iC (g (k+1)))]
   rw[show (g (k+1)).length=(g k).length+1 from by rw[hgs];simp,show cellsOf iC (g (k+1))=cellsOf iC (g k)++iC c from by rw[hgs,jM];rfl]
   exact Ent.pick [1,2,3,4,5,6,7] I I
  ·have h3:(Tp.okN c&&!(c==m.addr))=false:=h3
   rw[if_neg (by rw[h3];decide)]at hgs
   repeat' (first|refine zh ?_|intro (bk:Nat))
   refine ih (k+1,x) _ _ hlt (by show n.children.length-(k+1)<n.children.length-k;omega) ⟨I,I,I,I,I,trivial⟩ ?_
   show Ent _ _ [jU b [.int .i64 m.addr,.int .i64 m.poll,.int .i64 m.parent,sv xt m.table.length,sv xl m.links.length,.slice a3 m.out.length c3,sv x (g (k+1)).length,.slice a5 m.boxes.length c5,sv V.se n.seen.length,sv V.pa V.ps.length,sv V.ib n.inbox.length,.int .i64 n.seq,.int .i64 n.lost,.int .i64 (tick now)] 113,jU b1 (ndC V n) 62,cTa (sv xt m.table.length) m.table,cLi (sv xl m.links.length) m.links,cSn (.slice a3 m.out.length c3) m.out,cMa (.slice a5 m.boxes.length c5) m.boxes,cI (sv x (g (k+1)).length) (g (k+1))]
   rw[hgs]
   exact Ent.refl
 have hke:k=n.children.length:=by have:=of_decide_eq_false h2;omega
 subst hke
 obtain ⟨L,hL⟩:∃L,L=g n.children.length:=⟨_,rfl⟩
 have hLe:L=n.children.filter fun c=>Tp.okN c&&!(c==m.addr):=by rw[hL,hg];show (n.children.take n.children.length).filter _=_;rw[List.take_length]
 have hLl:L.length≤1000:=by rw[hL];exact hgl _
 have hLd:Tf.dif L=m.children:=by rw[e_ch,hLe]
 refine HR.ent (H':=[jU b [.int .i64 m.addr,.int .i64 m.poll,.int .i64 m.parent,sv xt m.table.length,sv xl m.links.length,.slice a3 m.out.length c3,sv x L.length,.slice a5 m.boxes.length c5,sv V.se n.seen.length,sv V.pa V.ps.length,sv V.ib n.inbox.length,.int .i64 n.seq,.int .i64 n.lost,.int .i64 (tick now)] 113,jU b1 (ndC V n) 62,cTa (sv xt m.table.length) m.table,cLi (sv xl m.links.length) m.links,cSn (.slice a3 m.out.length c3) m.out,cMa (.slice a5 m.boxes.length c5) m.boxes,cI (sv x L.length) L]) (Ent.of_eq (by rw[hL])) ?_
 refine HR.ent (H':=[cI (sv x L.length) L,jU b [.int .i64 m.addr,.int .i64 m.poll,.int .i64 m.parent,sv xt m.table.length,sv xl m.links.length,.slice a3 m.out.length c3,sv x L.length,.slice a5 m.boxes.length c5,sv V.se n.seen.length,sv V.pa V.ps.length,sv V.ib n.inbox.length,.int .i64 n.seq,.int .i64 n.lost,.int .i64 (tick now)] 113,jU b1 (ndC V n) 62,cTa (sv xt m.table.length) m.table,cLi (sv xl m.links.length) m.links,cSn (.slice a3 m.out.length c3) m.out,cMa (.slice a5 m.boxes.length c5) m.boxes]) (Ent.pick [6,0,1,2,3,4,5] I I) ?_
 repeat' (first|refine zh ?_|intro (bk:Nat))
 refine HL.Jo (r:=fun _:Unit=> .tuple #[]) (Q:=fun _=>True) (G0:=[cI (sv x L.length) L]) (H0:=[jU b [.int .i64 m.addr,.int .i64 m.poll,.int .i64 m.parent,sv xt m.table.length,sv xl m.links.length,.slice a3 m.out.length c3,sv x L.length,.slice a5 m.boxes.length c5,sv V.se n.seen.length,sv V.pa V.ps.length,sv V.ib n.inbox.length,.int .i64 n.seq,.int .i64 n.lost,.int .i64 (tick now)] 113,jU b1 (ndC V n) 62,cTa (sv xt m.table.length) m.table,cLi (sv xl m.links.length) m.links,cSn (.slice a3 m.out.length c3) m.out,cMa (.slice a5 m.boxes.length c5) m.boxes]) (G:=fun _=>[jK (sv x L.length) 3 1 L.length (cellsOf iC (Tf.srt L))]) jRB I I I (fun w hw=>jB5 _ _ L w (hw.vw (i:=0) I) (by omega)) ?_
 intro _ _
 repeat' (first|refine zh ?_|intro (bk:Nat))
 refine HL.Jo (r:=fun z:Value=>z) (Q:=fun _=>True) (G0:=[jK (sv x L.length) 3 1 L.length (cellsOf iC (Tf.srt L))]) (H0:=[jU b [.int .i64 m.addr,.int .i64 m.poll,.int .i64 m.parent,sv xt m.table.length,sv xl m.links.length,.slice a3 m.out.length c3,sv x L.length,.slice a5 m.boxes.length c5,sv V.se n.seen.length,sv V.pa V.ps.length,sv V.ib n.inbox.length,.int .i64 n.seq,.int .i64 n.lost,.int .i64 (tick now)] 113,jU b1 (ndC V n) 62,cTa (sv xt m.table.length) m.table,cLi (sv xl m.links.length) m.links,cSn (.slice a3 m.out.length c3) m.out,cMa (.slice a5 m.boxes.length c5) m.boxes]) (G:=fun z=>[jK z 3 1 (Tf.dif L).length (cellsOf iC (Tf.dif L))]) fn136 I I I (fun w hw=>jF3 _ _ (Tf.srt L) w (hw.vw (i:=0) I) (by omega)) ?_
 intro z _
 rw[hLd]
 refine HL.shape 0 I fun a4 c4 hv=>?_
 subst hv
 refine HL.ent (H':=[jU b [.int .i64 m.addr,.int .i64 m.poll,.int .i64 m.parent,sv xt m.table.length,sv xl m.links.length,.slice a3 m.out.length c3,sv x L.length,.slice a5 m.boxes.length c5,sv V.se n.seen.length,sv V.pa V.ps.length,sv V.ib n.inbox.length,.int .i64 n.seq,.int .i64 n.lost,.int .i64 (tick now)] 113,jU b1 (ndC V n) 62,cTa (sv xt m.table.length) m.table,cLi (sv xl m.links.length) m.links,cSn (.slice a3 m.out.length c3) m.out,cMa (.slice a5 m.boxes.length c5) m.boxes,cI (.slice a4 m.children.length c4) m.children]) (Ent.pick [1,2,3,4,5,6,0] I I) ?_
 repeat' (first|refine zh ?_|intro (bk:Nat))
 refine HL.ZB 177 (v':= .int .i64 ((n.seen.length-32:Nat):Int)) I (by rw[← max0]) ?_
 repeat' (first|refine zh ?_|refine HL.KP (sz:=2) (n.seen.length-32) n.seen.length (Rd.arg h.se) I I I I (.inr ⟨_,_,_,rfl,rfl,rfl⟩) (.inl ⟨rfl,rfl⟩) (Nat.sub_le _ _) (Nat.le_refl _) ?_|refine HL.JN jRA I I (fun w hw=>jAT m.seen _ w ((Rd.arg s_se).at hw) (by omega)) ?_|intro (bk:Nat))
 intro v1
 refine HL.shape 0 I fun a6 c6 hv=>?_
 subst hv
 refine HL.ent (H':=[jU b [.int .i64 m.addr,.int .i64 m.poll,.int .i64 m.parent,sv xt m.table.length,sv xl m.links.length,.slice a3 m.out.length c3,.slice a4 m.children.length c4,.slice a5 m.boxes.length c5,sv V.se n.seen.length,sv V.pa V.ps.length,sv V.ib n.inbox.length,.int .i64 n.seq,.int .i64 n.lost,.int .i64 (tick now)] 113,jU b1 (ndC V n) 62,cTa (sv xt m.table.length) m.table,cLi (sv xl m.links.length) m.links,cSn (.slice a3 m.out.length c3) m.out,cMa (.slice a5 m.boxes.length c5) m.boxes,cI (.slice a4 m.children.length c4) m.children,cPr (.slice a6 m.seen.length c6) m.seen]) (Ent.pick [1,2,3,4,5,6,7,0] I I) ?_
 repeat' (first|refine zh ?_|intro (bk:Nat))
 refine HL.ZB 189 (v':= .int .i64 ((min n.inbox.length 256:Nat):Int)) I (by rw[← jKD];rfl) ?_
 repeat' (first|refine zh ?_|refine HL.KP (sz:=2) 0 (min n.inbox.length 256) (Rd.arg h.ib) I I I I (.inl ⟨rfl,rfl⟩) (.inr ⟨_,_,_,rfl,rfl,rfl⟩) (Nat.zero_le _) (Nat.min_le_left _ _) ?_|refine HL.JN fn59 I I (fun w hw=>jAV m.inbox _ w ((Rd.arg s_ib).at hw) (by omega)) ?_|intro (bk:Nat))
 intro v1
 refine HL.shape 0 I fun a7 c7 hv=>?_
 subst hv
 refine HL.ent (H':=[jU b [.int .i64 m.addr,.int .i64 m.poll,.int .i64 m.parent,sv xt m.table.length,sv xl m.links.length,.slice a3 m.out.length c3,.slice a4 m.children.length c4,.slice a5 m.boxes.length c5,.slice a6 m.seen.length c6,sv V.pa V.ps.length,sv V.ib n.inbox.length,.int .i64 n.seq,.int .i64 n.lost,.int .i64 (tick now)] 113,jU b1 (ndC V n) 62,cTa (sv xt m.table.length) m.table,cLi (sv xl m.links.length) m.links,cSn (.slice a3 m.out.length c3) m.out,cMa (.slice a5 m.boxes.length c5) m.boxes,cI (.slice a4 m.children.length c4) m.children,cPr (.slice a6 m.seen.length c6) m.seen,cDe (.slice a7 m.inbox.length c7) m.inbox]) (Ent.pick [1,2,3,4,5,6,7,8,0] I I) ?_
 repeat' (first|refine zh ?_|intro (bk:Nat))
 refine HR.zY 173 6 ?_
 refine HR.ent (H':=[jU b [.int .i64 m.addr,.int .i64 m.poll,.int .i64 m.parent,sv xt m.table.length,sv xl m.links.length,.slice a3 m.out.length c3,.slice a4 m.children.length c4,.slice a5 m.boxes.length c5,.slice a6 m.seen.length c6,.slice none 0 0,.slice a7 m.inbox.length c7,.int .i64 n.seq,.int .i64 n.lost,.int .i64 (tick now)] 113,jU b1 (ndC V n) 62,cTa (sv xt m.table.length) m.table,cLi (sv xl m.links.length) m.links,cSn (.slice a3 m.out.length c3) m.out,cMa (.slice a5 m.boxes.length c5) m.boxes,cI (.slice a4 m.children.length c4) m.children,cPr (.slice a6 m.seen.length c6) m.seen,cDe (.slice a7 m.inbox.length c7) m.inbox,jK (.slice none 0 0) 173 6 0 [],jD []]) (Ent.trans Ent.jKt (Ent.pick [2,3,4,5,6,7,8,9,10,1,0] I I)) ?_
 refine HR.loop (ι:=Nat×SV×List PtV) (fun x=>x.1≤V.ps.length∧pts x.2.2=(pts V.ps).take x.1∧∀p∈x.2.2,jBN p) (fun x=>[(2,ptr b1),(5,ptr b),(200,sv V.pa V.ps.length),(201,.int .i64 (V.ps.length:Int)),(202,.int .i64 (x.1:Int))]) (fun x=>[jU b [.int .i64 m.addr,.int .i64 m.poll,.int .i64 m.parent,sv xt m.table.length,sv xl m.links.length,.slice a3 m.out.length c3,.slice a4 m.children.length c4,.slice a5 m.boxes.length c5,.slice a6 m.seen.length c6,sv x.2.1 x.2.2.length,.slice a7 m.inbox.length c7,.int .i64 n.seq,.int .i64 n.lost,.int .i64 (tick now)] 113,jU b1 (ndC V n) 62,cTa (sv xt m.table.length) m.table,cLi (sv xl m.links.length) m.links,cSn (.slice a3 m.out.length c3) m.out,cMa (.slice a5 m.boxes.length c5) m.boxes,cI (.slice a4 m.children.length c4) m.children,cPr (.slice a6 m.seen.length c6) m.seen,cDe (.slice a7 m.inbox.length c7) m.inbox,cPt (sv x.2.1 x.2.2.length) x.2.2,jD (ptG x.2.2)]) (fun x=>V.ps.length-x.1) (0,(none,0),[]) ⟨Nat.zero_le _,rfl,fun p hp=>by cases hp⟩ ⟨I,I,I,I,I,trivial⟩ Ent.refl ?_
 rintro ⟨k,y,L2⟩ ⟨hk,hL2,hsh⟩ ih
 have hk:k≤V.ps.length:=hk
 have hL2:pts L2=(pts V.ps).take k:=hL2
 have hsh:∀p∈L2,jBN p:=hsh
 have hLl2:L2.length≤1000:=by rw[← JF,hL2,List.length_take];have:=JF V.ps;omega
 repeat' (first|refine zh ?_|intro (bk:Nat))
 refine HR.cond I (fun h2=>?_) (fun h2=>?_)
 ·have hlt:k<V.ps.length:=by have:=of_decide_eq_true h2;omega
  obtain ⟨p,hp⟩:=jH hlt
  have hrp:=h.pa.r p (List.mem_of_getElem? hp)
  have hsp:=hs.sm p.pt (by rw[← h.eq];exact List.mem_of_getElem? (Zo hp))
  have hst:(pts V.ps).take (k+1)=pts L2++[p.pt]:=by rw[hL2];exact jG (Zo hp)
  obtain ⟨aa,na,ca,ab,nb,cb,ex⟩:=hrp.sh.lit
  obtain ⟨q,hq⟩:∃q,q=p.pt:=⟨_,rfl⟩
  rw[← hq]at hst ex hsp
  subst ex
  have hh:Sl w (.slice aa na ca) (cellsOf bC q.hv) q.hv.length:=hrp.h
  have hd:Sl w (.slice ab nb cb) (cellsOf sC q.da) q.da.length:=hrp.d
  have hs1:q.hv.length≤140737488355328:=hsp.1
  have hs2:q.da.length≤8796093022208:=hsp.2.1
  repeat' (first|refine zh ?_|refine HL.jw (Rd.arg h.pa.s) JR k I I I I hlt ?_|refine HL.JB (Rd.arg h.pa.s) I I I I (by simp) I (jF JX hp) ?_|intro (bk:Nat))
  refine HR.jQY [(0,true),(1,true),(3,true),(4,true),(2,false),(6,true),(5,false)] [7,8,9] [0] I I JZ (by kernel_rfl) ?_
  repeat' (first|refine zd ?_|fail)
  refine HD.one I ?_
  refine HL.JN jSm I I (fun w1 hw1=>jDs q.hv _ w1 ((Rd.arg hh).at hw1) (by omega)) ?_
  intro v1
  refine HL.shape 0 I fun a1 c1 hv=>?_
  subst hv
  refine HL.back [1] I I ?_
  repeat' (first|refine zd ?_|fail)
  refine HD.one I ?_
  refine HL.JN jSk I I (fun w1 hw1=>jDr q.da _ w1 ((Rd.arg hd).at hw1) (by omega)) ?_
  intro v2
  refine HL.shape 0 I fun a2 c2 hv=>?_
  subst hv
  refine HL.back [2] I I ?_
  repeat' (first|refine zd ?_|fail)
  refine HD.tail I ?_
  repeat' (first|refine zn ?_|intro (bk:Nat))
  obtain ⟨Q,hQ⟩:∃Q:PtV,Q=⟨.slice a1 q.hv.length c1,.slice a2 q.da.length c2,q⟩:=⟨_,rfl⟩
  refine HR.ent (H':=[jU bk (ptC ⟨.slice a1 q.hv.length c1,.slice a2 q.da.length c2,q⟩) 173,jU b [.int .i64 m.addr,.int .i64 m.poll,.int .i64 m.parent,sv xt m.table.length,sv xl m.links.length,.slice a3 m.out.length c3,.slice a4 m.children.length c4,.slice a5 m.boxes.length c5,.slice a6 m.seen.length c6,sv y L2.length,.slice a7 m.inbox.length c7,.int .i64 n.seq,.int .i64 n.lost,.int .i64 (tick now)] 113,jU b1 (ndC V n) 62,cPt (sv y L2.length) L2,cTa (sv xt m.table.length) m.table,cLi (sv xl m.links.length) m.links,cSn (.slice a3 m.out.length c3) m.out,cMa (.slice a5 m.boxes.length c5) m.boxes,cI (.slice a4 m.children.length c4) m.children,cPr (.slice a6 m.seen.length c6) m.seen,cDe (.slice a7 m.inbox.length c7) m.inbox,jD (ptG L2),ptH ⟨.slice a1 q.hv.length c1,.slice a2 q.da.length c2,q⟩,ptD ⟨.slice a1 q.hv.length c1,.slice a2 q.da.length c2,q⟩]) (Ent.pick [2,3,4,12,5,6,7,8,9,10,11,13,1,0] I I) ?_
  refine HR.Jm [(0,true),(1,true),(2,true),(3,true),(4,true),(5,true),(6,true),(7,false),(8,false),(9,true),(10,true),(11,true)] 12 [0,1] I I JZ (by kernel_rfl) ?_
  repeat' (first|refine zd ?_|fail)
  refine HD.one I ?_
  refine HL.jk JR I I I I I (by decide) (by decide) ?_
  intro va
  refine HL.back [1,2] I I ?_
  refine HD.one I ?_
  refine HL.zD 4 I JR (Rd.own 0 I) I I I I (jJ I) (by show (L2.length+1)*80≤_;omega) (by show L2.length+1≤_;omega) ?_
  intro v3
  refine HL.back [1,2] I I ?_
  repeat' (first|refine zd ?_|fail)
  refine HD.last I ?_
  refine HL.shape 4 I fun a9 c9 hv=>?_
  subst hv
  repeat' (first|refine zn ?_|intro (bk:Nat))
  repeat' (first|refine zh ?_|intro (bk:Nat))
  refine ih (k+1,(a9,c9),L2++[Q]) _ _ ⟨hlt,?_,?_⟩ (by show V.ps.length-(k+1)<V.ps.length-k;omega) ⟨I,I,I,I,I,trivial⟩ ?_
  ·show pts (L2++[Q])=(pts V.ps).take (k+1)
   rw[jGx,hst,hQ];rfl
  ·intro p hp
   have hp:p∈L2++[Q]:=hp
   rcases List.mem_append.1 hp with hp|hp
   ·exact hsh p hp
   ·rw [List.mem_singleton]at hp
    rw[hp,hQ]
    exact ⟨⟨_,_,_,rfl⟩,⟨_,_,_,rfl⟩⟩
  ·have hl1:L2.length+1=(L2++[Q]).length:=by simp
   have hc1:cellsOf ptC L2++ptC Q=cellsOf ptC (L2++[Q]):=by rw[jM];rfl
   show Ent _ _ [jU b [.int .i64 m.addr,.int .i64 m.poll,.int .i64 m.parent,sv xt m.table.length,sv xl m.links.length,.slice a3 m.out.length c3,.slice a4 m.children.length c4,.slice a5 m.boxes.length c5,.slice a6 m.seen.length c6,sv (a9,c9) (L2++[Q]).length,.slice a7 m.inbox.length c7,.int .i64 n.seq,.int .i64 n.lost,.int .i64 (tick now)] 113,jU b1 (ndC V n) 62,cTa (sv xt m.table.length) m.table,cLi (sv xl m.links.length) m.links,cSn (.slice a3 m.out.length c3) m.out,cMa (.slice a5 m.boxes.length c5) m.boxes,cI (.slice a4 m.children.length c4) m.children,cPr (.slice a6 m.seen.length c6) m.seen,cDe (.slice a7 m.inbox.length c7) m.inbox,cPt (sv (a9,c9) (L2++[Q]).length) (L2++[Q]),jD (ptG (L2++[Q]))]
   rw[← hl1,show cPt (sv (a9,c9) (L2.length+1)) (L2++[Q])=jK (.slice a9 (L2.length+1) c9) 173 6 (L2.length+1) (cellsOf ptC L2++ptC Q)from by rw[hc1,hl1],kP,jCG,hQ]
   refine Ent.trans (Ent.pick (H':=[ptH ⟨.slice a1 q.hv.length c1,.slice a2 q.da.length c2,q⟩,ptD ⟨.slice a1 q.hv.length c1,.slice a2 q.da.length c2,q⟩,jD (ptG L2),jU b [.int .i64 m.addr,.int .i64 m.poll,.int .i64 m.parent,sv xt m.table.length,sv xl m.links.length,.slice a3 m.out.length c3,.slice a4 m.children.length c4,.slice a5 m.boxes.length c5,.slice a6 m.seen.length c6,.slice a9 (L2.length+1) c9,.slice a7 m.inbox.length c7,.int .i64 n.seq,.int .i64 n.lost,.int .i64 (tick now)] 113,jU b1 (ndC V n) 62,cTa (sv xt m.table.length) m.table,cLi (sv xl m.links.length) m.links,cSn (.slice a3 m.out.length c3) m.out,cMa (.slice a5 m.boxes.length c5) m.boxes,cI (.slice a4 m.children.length c4) m.children,cPr (.slice a6 m.seen.length c6) m.seen,cDe (.slice a7 m.inbox.length c7) m.inbox,jK (.slice a9 (L2.length+1) c9) 173 6 (L2.length+1) (cellsOf ptC L2++ptC ⟨.slice a1 q.hv.length c1,.slice a2 q.da.length c2,q⟩)]) [13,14,12,2,3,5,6,7,8,9,10,11,4] I I) (Ent.trans (Ent.group (G:=[ptH _,ptD _])) (Ent.trans Ent.jM0 ?_))
   exact Ent.pick [1,2,3,4,5,6,7,8,9,10,0] I I
 have hke:k=V.ps.length:=by have:=of_decide_eq_false h2;omega
 subst hke
 have hL2:pts L2=m.parts:=by rw[hL2,← JF,List.take_length,e_pa,h.eq]
 repeat' (first|refine zh ?_|apply zb ?_ ?_|exact zc|(refine zi fun hb=>?_;try simp at hb)|intro (bk:Nat))
 refine HR.join (ι:=Unit) (fun _=>True) (fun _=>[(2,ptr b1),(5,ptr b)]) (fun _=>[jU b [.int .i64 m.addr,.int .i64 m.poll,.int .i64 m.parent,sv xt m.table.length,sv xl m.links.length,.slice a3 m.out.length c3,.slice a4 m.children.length c4,.slice a5 m.boxes.length c5,.slice a6 m.seen.length c6,sv y L2.length,.slice a7 m.inbox.length c7,.int .i64 m.seq,.int .i64 n.lost,.int .i64 (tick now)] 113,jU b1 (ndC V n) 62,cTa (sv xt m.table.length) m.table,cLi (sv xl m.links.length) m.links,cSn (.slice a3 m.out.length c3) m.out,cMa (.slice a5 m.boxes.length c5) m.boxes,cI (.slice a4 m.children.length c4) m.children,cPr (.slice a6 m.seen.length c6) m.seen,cDe (.slice a7 m.inbox.length c7) m.inbox,cPt (sv y L2.length) L2,jD (ptG L2)]) (fun _ _=>?_) (fun hj=>?_)
 rotate_left
 ·refine HR.cond I (fun h2=>?_) (fun h2=>?_)
  ·have h2:(decide (n.seq<0)||decide (n.seq>65535))=true:=h2
   have h3:n.seq<0∨n.seq>65535:=by simpa using h2
   refine HR.region ?_
   repeat' (first|refine zn ?_|apply zb ?_ ?_|exact zc|(refine zi fun hb=>?_;try simp at hb)|intro (bk:Nat))
   refine hj () _ _ trivial ⟨I,I,trivial⟩ (Ent.of_eq ?_)
   rw[e_sq,if_pos h3];rfl
  ·have h2:(decide (n.seq<0)||decide (n.seq>65535))=false:=h2
   have h3:¬(n.seq<0∨n.seq>65535):=by simpa using h2
   refine HR.skip ?_
   refine hj () _ _ trivial ⟨I,I,trivial⟩ (Ent.of_eq ?_)
   rw[e_sq,if_neg h3]
 repeat' (first|refine zh ?_|refine HL.jN jRD I I (fun w _=>jEM n.lost 0 1099511627776 w) ?_|intro (bk:Nat))
 refine HR.ret Tryz.func68 I [_] (fun _ _=>⟨I,trivial⟩) ?_
 refine fun w' hw=>⟨(b,⟨xt,xl,(a3,c3),(a4,c4),(a5,c5),(a6,c6),y,(a7,c7),L2⟩),rfl,⟨hL2,hsh⟩,?_⟩
 rw[show stH b ⟨xt,xl,(a3,c3),(a4,c4),(a5,c5),(a6,c6),y,(a7,c7),L2⟩ m (tick now)=stH b ⟨xt,xl,(a3,c3),(a4,c4),(a5,c5),(a6,c6),y,(a7,c7),L2⟩ { m with lost:=clamp n.lost 0 1099511627776 } (tick now)from by rw[← e_lo]]
 exact hw.pick [0,2,3,4,6,5,7,9,10,8] I I
end Go.Proofs.YtgfdoognildoeaaGreat
namespace Go.Proofs.YtgfdoognildoeaaGreat
open Go.GX Go.RowKit
attribute [local irreducible] Calls Run jg jh JU HR HL HD jU jK Jc Rd jL jd
open Nd
theorem fn36:IsFn Tryz.prog 36:=⟨⟨_,_,Tryz.func36,rfl,by decide⟩⟩
theorem fn86:IsFn Tryz.prog 86:=⟨⟨_,_,Tryz.func86,rfl,by decide⟩⟩
theorem fn58:IsFn Tryz.prog 58:=⟨⟨_,_,Tryz.func58,rfl,by decide⟩⟩
abbrev V0:NV:=⟨(none,0),(none,0),(none,0),(none,0),(none,0),(none,0),(none,0),(none,0),[]⟩
abbrev n0 (addr poll:Int):Nd:=⟨addr,poll,255,[],[],[],[],[],[],[],[],0,0⟩
theorem okn0 (addr poll:Int) (w:World):OkN w V0 (n0 addr poll):=⟨Sl.nil w,Sl.nil w,Sl.nil w,Sl.nil w,Sl.nil w,Sl.nil w,⟨Sl.nil w,fun p hp=>by cases hp⟩,Sl.nil w,rfl⟩
theorem smn0 (addr poll:Int):SmN (n0 addr poll):=⟨Nat.zero_le _,Nat.zero_le _,Nat.zero_le _,Nat.zero_le _,Nat.zero_le _,Nat.zero_le _,Nat.zero_le _,Nat.zero_le _,fun p hp=>by cases hp⟩
theorem jNx (n:Int):KL [] (clamp n 0 250)=8:=by
 unfold KL
 rw[jJT]
 simp[jf]
theorem jME (addr poll:Int):(new addr poll).table=jDF (new addr poll).addr:=by
 show (if KL [] (clamp addr 0 250)=0 then []else [jGk (clamp addr 0 250)])=[jGk (clamp (clamp addr 0 250) 0 250)]
 rw[jNx,if_neg (by decide),jNJ]
theorem jNh (addr poll:Int) (w:World):
  Calls Tryz.prog 36 #[.int .i64 addr,.int .i64 poll] w fun e w'=>∃V':NV,e= .returned (.agg ⟨ndC V' (new addr poll)⟩)∧Pts V' (new addr poll)∧Sat (base w) (ndH V' (new addr poll)) w':=by
 obtain ⟨m,hm⟩:∃m,m=new addr poll:=⟨_,rfl⟩
 have hmt:m.table=jDF m.addr:=by rw[hm];exact jME addr poll
 refine jB Tryz.func36 I (Nat.le_of_ble_eq_true I) ?_
 refine HR.sub (σ':=[(0,.int .i64 addr),(1,.int .i64 poll)]) ⟨I,I,trivial⟩ ?_
 rw[← hm]
 repeat' (first|refine zh ?_|intro (bk:Nat))
 refine HL.JD (r:=fun x:Nat×NV=>ptr x.1) (Q:=fun x=>Pts x.2 m) (G:=fun x=>stH x.1 x.2 m (tick 0)) jQD I I (fun w1 _=>by rw[hm];exact ZN V0 (n0 addr poll) 0 w1 (okn0 addr poll w1) (smn0 addr poll)) ?_
 rintro ⟨b,V⟩ hP
 have hP:Pts V m:=hP
 refine HL.ent (Ent.pick [10,0,1,2,3,4,5,6,7,8,9] I I) ?_
 repeat' (first|refine zh ?_|refine HL.JN fn69 I I (fun w1 _=>jEB m.addr w1) ?_|intro (bk:Nat))
 intro v1
 refine HL.shape 0 I fun a c hv=>?_
 subst hv
 repeat' (first|refine zh ?_|intro (bk:Nat))
 refine HR.ret Tryz.func36 I [_] (fun w hw=>⟨⟨_,rfl,jP hw 1 I I I I rfl⟩,trivial⟩) ?_
 refine fun w' hw=>⟨{ V with ta:=(a,c) },?_,⟨hP.eq,hP.sh⟩,?_⟩
 ·show Ending.returned (.agg ⟨ndC { V with ta:=(a,c) } { m with table:=jDF m.addr }⟩)=Ending.returned (.agg ⟨ndC { V with ta:=(a,c) } m⟩)
  rw[← hmt]
 ·have e:ndH { V with ta:=(a,c) } m=ndH { V with ta:=(a,c) } { m with table:=jDF m.addr }:=by rw[← hmt]
  rw[e]
  exact hw.pick [0,4,5,6,7,8,9,10,11] I I
theorem jJe (V:NV) (n:Nd) (now:Int) (w:World) (h:OkN w V n) (hs:SmN n):
  Calls Tryz.prog 86 #[.agg ⟨ndC V n⟩,.int .i64 now] w fun e w'=>e= .returned (.bool (awake n now))∧Below w.heap.size w w':=by
 obtain ⟨m,hm⟩:∃m,m=order n:=⟨_,rfl⟩
 have ho:Ord m:=by rw[hm];exact Ji n
 have hpo:=ho.poll
 have ht0:0≤tick now:=by unfold tick clamp;omega
 have hsp:awake n now=(((m.poll==0)||(m.parent==255)||decide (0<m.parts.length))||decide (tick now%m.poll<3)):=by rw[hm];rfl
 refine jB Tryz.func86 I (Nat.le_of_ble_eq_true I) ?_
 refine HR.sub (σ':=[(0,.agg ⟨ndC V n⟩),(1,.int .i64 now)]) ⟨I,I,trivial⟩ ?_
 rw[hsp]
 repeat' (first|refine zh ?_|intro (bk:Nat))
 refine HL.JD (r:=fun x:Nat×NV=>ptr x.1) (Q:=fun x=>Pts x.2 m) (G:=fun x=>stH x.1 x.2 m (tick now)) jQD I I (fun w1 hw1=>by rw[hm];exact ZN V n now w1 (h.ext hw1.jE) hs) ?_
 rintro ⟨b,V2⟩ hP
 have hP:Pts V2 m:=hP
 have hpl:V2.ps.length=m.parts.length:=by rw[← JF,hP.eq]
 repeat' (first|refine zh ?_|intro (bk:Nat))
 refine HR.jo JZ (by kernel_rfl) ?_
 repeat' (first|refine zq ?_|apply zb ?_ ?_|exact zc|(refine zi fun hb=>?_;try simp at hb))
 refine HR.ret Tryz.func86 I [_] (fun _ _=>⟨I,trivial⟩) ?_
 refine fun w' hw=>⟨?_,hw.jE⟩
 rw[hpl,show decide (0<m.parts.length)=decide ((m.parts.length:Int)>0)from decide_eq_decide.2 (by omega)]
 rfl
theorem jK7 (V:NV) (n:Nd) (w:World) (h:OkN w V n) (hs:SmN n):
  Calls Tryz.prog 58 #[.agg ⟨ndC V n⟩] w fun e w'=>∃x:NV×SV,e= .returned (.tuple ⟨[.agg ⟨ndC x.1 (take n).1⟩,sv x.2 (take n).2.length]⟩)∧Pts x.1 (take n).1∧Sat (base w) (cDe (sv x.2 (take n).2.length) (take n).2::ndH x.1 (take n).1) w':=by
 obtain ⟨m,hm⟩:∃m,m=order n:=⟨_,rfl⟩
 have hsp:take n=({ m with inbox:=[] },m.inbox):=by rw[hm];rfl
 refine jB Tryz.func58 I (Nat.le_of_ble_eq_true I) ?_
 refine HR.sub (σ':=[(0,.agg ⟨ndC V n⟩)]) ⟨I,trivial⟩ ?_
 rw[hsp]
 repeat' (first|refine zh ?_|intro (bk:Nat))
 refine HL.JD (r:=fun x:Nat×NV=>ptr x.1) (Q:=fun x=>Pts x.2 m) (G:=fun x=>stH x.1 x.2 m (tick 0)) jQD I I (fun w1 hw1=>by rw[hm];exact ZN V n 0 w1 (h.ext hw1.jE) hs) ?_
 rintro ⟨b,V2⟩ hP
 have hP:Pts V2 m:=hP
 refine HL.ent (Ent.pick [10,0,1,2,3,4,5,6,7,8,9] I I) ?_
 repeat' (first|refine zh ?_|intro (bk:Nat))
 refine HR.zY 65 2 ?_
 refine HR.ret Tryz.func58 I [_,_] (fun w hw=>⟨⟨_,rfl,jP hw 1 I I I I rfl⟩,rfl,trivial⟩) ?_
 refine fun w' hw=>⟨({ V2 with ib:=(none,0) },V2.ib),rfl,⟨hP.eq,hP.sh⟩,?_⟩
 exact hw.pick [11,3,4,5,6,7,8,9,10,0] I I
end Go.Proofs.YtgfdoognildoeaaGreat
namespace Go.Proofs.YtgfdoognildoeaaGreat
open Go.GX Go.RowKit
attribute [local irreducible] Calls Run jg jh JU HR HL HD jU jK Jc Rd jL jd
open Nd
theorem fn53:IsFn Tryz.prog 53:=⟨⟨_,_,Tryz.func53,rfl,by decide⟩⟩
abbrev jQP:List Value:=[.int .i64 0,.int .i64 0,.int .i64 0,.slice none 0 0,.slice none 0 0,.slice none 0 0,.slice none 0 0,.slice none 0 0,.slice none 0 0,.slice none 0 0,.slice none 0 0,.int .i64 0,.int .i64 0]
theorem ndH0 {B:Base} {w:World} (h:Sat B [] w):Sat B (ndH V0 nd0) w:=
 Sat.zY (Sat.zY (Sat.zY (Sat.zY (Sat.zY (Sat.zY (Sat.zY (Ent.jKt _ (Sat.zY h 65 2)) 173 6) 171 2) 166 10) 3 1) 131 11) 162 3) 94 4
theorem pts0:Pts V0 nd0:=⟨rfl,fun p hp=>by cases hp⟩
theorem zu (n:Nd) (d:De):(deliver n d).parts=n.parts:=by unfold deliver lose;split<;>rfl
theorem jBq (n:Nd) (f:Fr):∃q l,(queue n f).1={ n with out:=q,lost:=l }:=by
 by_cases h:(jC1 n.out f).2=false∨(jC1 n.out f).1.length=n.out.length
 ·exact ⟨(jC1 n.out f).1,min (n.lost+1) JY,by unfold queue lose;simp only[if_pos h]⟩
 ·exact ⟨(jC1 n.out f).1,n.lost,by unfold queue;simp only[if_neg h]⟩
theorem zM (n:Nd) (f:Fr):(queue n f).1.parts=n.parts:=by obtain ⟨q,l,e⟩:=jBq n f;rw[e]
theorem jFM (n:Nd) (f:Fr):(queue n f).1.seq=n.seq:=by obtain ⟨q,l,e⟩:=jBq n f;rw[e]
theorem jNW {n:Nd} (h:Ord n) {s:Int} (hs:0≤s∧s≤65535):Ord { n with seq:=s }:={ h with seq:=hs }
theorem jCH (s:By) (id:Int):(ze s id).1.length≤1000:=by
 unfold ze
 split
 ·exact Nat.zero_le _
 split
 ·exact Nat.zero_le _
 ·show ((List.range (jAj s.length)).map (piece s id)).length≤1000
  rw[List.length_map,List.length_range]
  unfold jAj
  omega
theorem jK8 (V:NV) (n:Nd) (target:Int) (ur:Bool) (text:By) (w:World) (h:OkN w V n) (hs:SmN n) (htx:text.length≤9223372036854775807):
  Calls Tryz.prog 53 #[.agg ⟨ndC V n⟩,.int .i64 target,.bool ur,str text] w fun e w'=>∃V':NV,e= .returned (.tuple ⟨[.agg ⟨ndC V' (send n target ur text).1⟩,.int .i64 (send n target ur text).2]⟩)∧Pts V' (send n target ur text).1∧Sat (base w) (ndH V' (send n target ur text).1) w':=by
 obtain ⟨m,hm⟩:∃m,m=order n:=⟨_,rfl⟩
 have ho:Ord m:=by rw[hm];exact Ji n
 have hsq:=ho.seq
 obtain ⟨hsq0,hsq1⟩:=hsq
 obtain ⟨r,hr⟩:∃r,r=ze text (m.seq%256):=⟨_,rfl⟩
 have hsp:send n target ur text=if Tp.okN target=false then (nd0,2)else if r.2≠0 then (nd0,r.2)else if target=m.addr then (deliver m ⟨m.addr,text⟩,0)else match sends target ur r.1 m with
  |some m=>(m,0)
  |none=>(nd0,13):=by rw[hr,hm];rfl
 rw[hsp]
 refine jB Tryz.func53 I (Nat.le_of_ble_eq_true I) ?_
 refine HR.sub (σ':=[(0,.agg ⟨ndC V n⟩),(1,.int .i64 target),(2,.bool ur),(3,str text)]) ⟨I,I,I,I,trivial⟩ ?_
 repeat' (first|refine zh ?_|intro (bk:Nat))
 refine HL.JD (r:=fun x:Nat×NV=>ptr x.1) (Q:=fun x=>Pts x.2 m) (G:=fun x=>stH x.1 x.2 m (tick 0)) jQD I I (fun w1 hw1=>by rw[hm];exact ZN V n 0 w1 (h.ext hw1.jE) hs) ?_
 rintro ⟨b,V2⟩ hP
 have hP:Pts V2 m:=hP
 refine HL.ent (Ent.pick [10,0,1,2,3,4,5,6,7,8,9] I I) ?_
 repeat' (first|refine zh ?_|refine HL.jN jSP I I (fun w _=>Z9 target w) ?_|intro (bk:Nat))
 refine HR.cond I (fun h1=>?_) (fun h1=>?_)
 ·have h1:Tp.okN target=false:=by simpa using h1
  rw[if_pos h1]
  repeat' (first|refine zh ?_|intro (bk:Nat))
  refine HR.ret Tryz.func53 I [_,_] (fun w hw=>⟨⟨_,rfl,jP hw 0 I I I I rfl⟩,rfl,trivial⟩) ?_
  exact fun w' hw=>⟨V0,rfl,pts0,ndH0 (hw.pick [] I rfl)⟩
 have h1:¬Tp.okN target=false:=by simpa using h1
 rw[if_neg h1]
 repeat' (first|refine zh ?_|intro (bk:Nat))
 refine HL.JD (r:=fun v':Value=> .tuple ⟨[v',.int .i64 r.2]⟩) (Q:=fun _=>True) (G:=fun v'=>[jK v' 9 1 r.1.length (cellsOf sC r.1)]) fn117 I I (fun w1 _=>by rw[hr];exact jKR text (m.seq%256) w1 htx) ?_
 intro v1 _
 repeat' (first|refine zh ?_|intro (bk:Nat))
 refine HR.cond I (fun h2=>?_) (fun h2=>?_)
 ·have h2:r.2≠0:=by simpa using h2
  rw[if_pos h2]
  repeat' (first|refine zh ?_|intro (bk:Nat))
  refine HR.ret Tryz.func53 I [_,_] (fun w hw=>⟨⟨_,rfl,jP hw 1 I I I I rfl⟩,rfl,trivial⟩) ?_
  exact fun w' hw=>⟨V0,rfl,pts0,ndH0 (hw.pick [] I rfl)⟩
 have h2:¬r.2≠0:=by simpa using h2
 rw[if_neg h2]
 repeat' (first|refine zh ?_|intro (bk:Nat))
 refine HR.cond I (fun h3=>?_) (fun h3=>?_)
 ·have h3:target=m.addr:=eq_of_beq h3
  rw[if_pos h3]
  repeat' (first|refine zh ?_|intro (bk:Nat))
  refine HL.ent (Ent.pick [2,3,4,5,6,7,8,9,10,11,1] I I) ?_
  refine HL.Jo (r:=fun _:SV=> .tuple ⟨[]⟩) (Q:=fun _=>True) (G0:=stH b V2 m (tick 0)) (H0:=[_]) (G:=fun x=>stH b { V2 with ib:=x } (deliver m ⟨m.addr,text⟩) (tick 0)) jSq I I I (fun w1 hw1=>jBR b V2 m (tick 0) ⟨m.addr,text⟩ _ w1 (hw1.pick [0,1,2,3,4,5,6,7,8,9] I I) ho) ?_
  intro x _
  refine HL.ent (Ent.pick [10,0,1,2,3,4,5,6,7,8,9] I I) ?_
  repeat' (first|refine zh ?_|intro (bk:Nat))
  refine HR.ret Tryz.func53 I [_,_] (fun w hw=>⟨⟨_,rfl,jP hw 0 I I I I rfl⟩,rfl,trivial⟩) ?_
  exact fun w' hw=>⟨{ V2 with ib:=x },rfl,⟨by rw[zu];exact hP.eq,hP.sh⟩,hw.pick [2,3,4,5,6,7,8,9,10] I rfl⟩
 have h3:¬target=m.addr:=by simpa using h3
 rw[if_neg h3]
 obtain ⟨l,hl⟩:∃l,l=r.1:=⟨_,rfl⟩
 have hll:l.length≤1000:=by rw[hl,hr];exact jCH _ _
 rw[← hl]
 repeat' (first|refine zh ?_|refine HL.j4 (Rd.own 0 I) I I I ?_|intro (bk:Nat))
 refine HR.ent (Ent.pick [2,3,4,5,6,7,8,9,10,11,0,1] I I) ?_
 refine HR.loop (ι:=Nat×Nd×SV) (fun x=>x.1≤l.length∧Ord x.2.1∧x.2.1.parts=m.parts∧x.2.1.addr=m.addr∧sends target ur l m=sends target ur (l.drop x.1) x.2.1) (fun x=>[(1,.int .i64 target),(2,.bool ur),(8,ptr bk),(10,ptr b),(57,v1),(58,.int .i64 (l.length:Int)),(59,.int .i64 (x.1:Int))]) (fun x=>stH b { V2 with ou:=x.2.2 } x.2.1 (tick 0)++[jK v1 9 1 l.length (cellsOf sC l),jU bk (jQP) 62]) (fun x=>l.length-x.1) (0,m,V2.ou) ⟨Nat.zero_le _,ho,rfl,rfl,rfl⟩ ⟨I,I,I,I,I,I,I,trivial⟩ Ent.refl ?_
 rintro ⟨k,p,y⟩ ⟨hk,hop,hpp,hpa,hss⟩ ih
 have hk:k≤l.length:=hk
 have hop:Ord p:=hop
 have hpp:p.parts=m.parts:=hpp
 have hpa:p.addr=m.addr:=hpa
 have hss:sends target ur l m=sends target ur (l.drop k) p:=hss
 have hps:=hop.seq
 obtain ⟨hps0,hps1⟩:=hps
 repeat' (first|refine zh ?_|intro (bk:Nat))
 refine HR.cond I (fun h4=>?_) (fun h4=>?_)
 ·have hlt:k<l.length:=by have:=of_decide_eq_true h4;omega
  obtain ⟨x,hx⟩:=jH hlt
  have hdr:l.drop k=x::l.drop (k+1):=by
   obtain ⟨hlt',e⟩:=List.getElem?_eq_some_iff.1 hx
   rw[← e];exact List.drop_eq_getElem_cons hlt'
  repeat' (first|refine zh ?_|refine HL.jw (Rd.own 10 I) Zr k I I I I hlt ?_|refine HL.jY (Rd.own 10 I) I I I I (jV hx) ?_|intro (bk:Nat))
  refine HR.j3 [(0,true),(1,true),(2,true),(3,true),(4,true),(5,true),(6,true),(7,true),(8,true),(9,true),(10,true),(11,true),(12,true),(13,true),(14,true),(15,true),(16,true),(17,true),(18,true),(19,false),(20,false)] [0] I I JZ (by kernel_rfl) ?_
  repeat' (first|refine zd ?_|fail)
  refine HD.one I ?_
  refine HL.alloc I I ?_
  intro bf
  refine HL.back [1] I I ?_
  refine HD.one I ?_
  refine HL.S 0 I I I I I ?_
  refine HL.back [1] I I ?_
  refine HD.nil ?_
  repeat' (first|refine zh ?_|intro (bk:Nat))
  refine HL.ent (H':=stH b { V2 with ou:=y } p (tick 0)++[jK v1 9 1 l.length (cellsOf sC l),jU bk (jQP) 62]) (Ent.pick [1,2,3,4,5,6,7,8,9,10,11,12] I I) ?_
  have hf:kL p target ur x=⟨2,p.addr,255,p.addr,target,p.seq,0,ur,x⟩:=rfl
  refine HL.Jo (r:=fun _:SV=> .bool (queue p (kL p target ur x)).2) (Q:=fun _=>True) (G0:=stH b { V2 with ou:=y } p (tick 0)) (H0:=[jK v1 9 1 l.length (cellsOf sC l),jU bk (jQP) 62]) (G:=fun z=>stH b { V2 with ou:=z } (queue p (kL p target ur x)).1 (tick 0)) jM8 I I I (fun w1 hw1=>Zy b { V2 with ou:=y } p (tick 0) (kL p target ur x) _ w1 (hw1.pick [0,1,2,3,4,5,6,7,8,9] I I) hop) ?_
  intro z _
  repeat' (first|refine zh ?_|intro (bk:Nat))
  obtain ⟨Q,hQ⟩:∃Q,Q=queue p (kL p target ur x):=⟨_,rfl⟩
  have hQo:Ord Q.1:=by rw[hQ];exact hop.queue _
  have hQp:Q.1.parts=p.parts:=by rw[hQ];exact zM _ _
  have hQs:Q.1.seq=p.seq:=by rw[hQ];exact jFM _ _
  have hQa:Q.1.addr=p.addr:=by rw[hQ];exact (kN _ _).2
  have hst:sends target ur (x::l.drop (k+1)) p=if Q.2 then sends target ur (l.drop (k+1)) { Q.1 with seq:=(p.seq+1)%65536 } else none:=by rw[hQ];rfl
  rw[hdr,hst]at hss
  rw[← hQ]
  have hq0:=hQo.seq.1
  have hq1:=hQo.seq.2
  refine HR.cond I (fun h5=>?_) (fun h5=>?_)
  ·have h5:Q.2=false:=by simpa using h5
   rw[hss,h5]
   refine HR.ent (H':=[jU bk (jQP) 62]) (Ent.pick [11] I I) ?_
   repeat' (first|refine zh ?_|intro (bk:Nat))
   refine HR.ret Tryz.func53 I [_,_] (fun w hw=>⟨⟨_,rfl,jP hw 0 I I I I rfl⟩,rfl,trivial⟩) ?_
   exact fun w' hw=>⟨V0,rfl,pts0,ndH0 (hw.pick [] I rfl)⟩
  ·have h5:Q.2=true:=by simpa using h5
   rw[h5,if_pos rfl]at hss
   repeat' (first|refine zh ?_|intro (bk:Nat))
   refine ih (k+1,{ Q.1 with seq:=(p.seq+1)%65536 },z) _ _ ⟨hlt,jNW hQo ⟨by omega,by omega⟩,hQp.trans hpp,hQa.trans hpa,hss⟩ (by show l.length-(k+1)<l.length-k;omega) ⟨I,I,I,I,I,I,I,trivial⟩ ?_
   rw[← hQs]
   exact Ent.refl
 have hke:k=l.length:=by have:=of_decide_eq_false h4;omega
 subst hke
 have hss:sends target ur l m=some p:=by rw[hss,List.drop_length];rfl
 rw[hss]
 refine HR.ent (Ent.pick [11,0,1,2,3,4,5,6,7,8,9] I I) ?_
 repeat' (first|refine zh ?_|intro (bk:Nat))
 refine HR.ret Tryz.func53 I [_,_] (fun w hw=>⟨⟨_,rfl,jP hw 0 I I I I rfl⟩,rfl,trivial⟩) ?_
 exact fun w' hw=>⟨{ V2 with ou:=y },rfl,⟨by rw[show (p,(0:Int)).1.parts=m.parts from hpp];exact hP.eq,hP.sh⟩,hw.pick [2,3,4,5,6,7,8,9,10] I rfl⟩
end Go.Proofs.YtgfdoognildoeaaGreat
namespace Go.Proofs.YtgfdoognildoeaaGreat
open Go.GX Go.RowKit
attribute [local irreducible] Calls Run jg jh JU HR HL HD jU jK Jc Rd jL jd
open Nd
theorem fn93:IsFn Tryz.prog 93:=⟨⟨_,_,Tryz.func93,rfl,by decide⟩⟩
theorem fn44:IsFn Tryz.prog 44:=⟨⟨_,_,Tryz.func44,rfl,by decide⟩⟩
theorem fn89:IsFn Tryz.prog 89:=⟨⟨_,_,Tryz.func89,rfl,by decide⟩⟩
theorem jFi {l:List Li} (h:jA4 l=0):l.length≤24:=by
 unfold jA4 at h
 split at h
 ·cases h
 ·omega
theorem llen {n:Nd} (h:Ord n):n.links.length≤24:=jFi h.links
theorem klen {n:Nd} (h:Ord n):n.children.length≤251:=jGH h.kids fun x hx=>(h.kid x hx).1
abbrev tiC (bt:Nat) (to:Int):Chunk:=jU bt [.int .i64 to] 3
theorem jGa (b:Nat) (V:NV) (n:Nd) (now to:Int) (B:Base) (w:World) (hw:Sat B (stH b V n now) w) (ho:Ord n):
  Calls Tryz.prog 93 #[ptr b,.int .i64 to] w fun e w'=>∃x:SV×SV×SV,e= .returned (.tuple ⟨[]⟩)∧True∧Sat ⟨w,Zi (stH b V n now)⟩ (stH b { V with ta:=x.1,li:=x.2.1,ch:=x.2.2 } (giveUp n to) now) w':=by
 have h24:=jNb ho
 have l24:=llen ho
 have k251:=klen ho
 have hsp:giveUp n to=if Tp.okN to=false then lose n else { lose n with table:=jJx n.table n.addr to,links:=kY n.links to,children:=n.children.filter fun c=>!(c==to),parent:=if n.parent=to then 255 else n.parent }:=rfl
 rw[hsp]
 refine ji (stH b V n now) (hw) Tryz.func93 I (Nat.le_of_ble_eq_true I) ?_
 refine HR.sub (σ':=[(0,ptr b),(1,.int .i64 to)]) ⟨I,I,trivial⟩ ?_
 refine HR.ctl I ?_
 refine HR.region ?_
 refine HL.box I I ?_
 intro bt
 repeat' (first|refine zh ?_|intro (bk:Nat))
 refine HL.ent (H':=jCn b V n now::tiC bt to::ndH V n) (Ent.pick [1,0,2,3,4,5,6,7,8,9,10] I I) ?_
 refine HL.Jo (r:=fun _:Unit=> .tuple ⟨[]⟩) (Q:=fun _=>True) (G0:=[jCn b V n now]) (H0:=tiC bt to::ndH V n) (G:=fun _=>[jCn b V (lose n) now]) jKV I I I (fun w1 hw1=>Zz b V n now _ w1 (hw1.pick [0] I I) ho.lost) ?_
 intro _ _
 repeat' (first|refine zh ?_|refine HL.jN jSP I I (fun w _=>Z9 to w) ?_|intro (bk:Nat))
 refine HR.cond I (fun h1=>?_) (fun h1=>?_)
 ·have h1:Tp.okN to=false:=by simpa using h1
  rw[if_pos h1]
  repeat' (first|refine zh ?_|intro (bk:Nat))
  refine HR.ret Tryz.func93 I [] (fun _ _=>trivial) ?_
  exact fun w' hw=>⟨(V.ta,V.li,V.ch),rfl,trivial,hw.pick [0,2,3,4,5,6,7,8,9,10] I rfl⟩
 have h1:¬Tp.okN to=false:=by simpa using h1
 rw[if_neg h1]
 repeat' (first|refine zh ?_|intro (bk:Nat))
 refine HR.Jm [(0,true),(1,true),(2,true),(3,true),(4,true),(5,true),(6,true),(7,true),(8,true),(9,true),(10,true),(11,true),(12,false),(13,true),(14,true),(15,true)] 16 [0,1] I I JZ (by kernel_rfl) ?_
 repeat' (first|refine zd ?_|fail)
 refine HD.one I ?_
 refine HL.JN fn62 I I (fun w1 hw1=>jHz n.table n.addr to _ w1 ((Rd.own 2 rfl).at hw1) (by omega)) ?_
 intro v1
 refine HL.shape 0 I fun a1 c1 hv=>?_
 subst hv
 refine HL.back [1,2] I I ?_
 repeat' (first|refine zd ?_|fail)
 refine HD.last I ?_
 repeat' (first|refine zn ?_|intro (bk:Nat))
 refine HR.ent (Ent.pick [1,2,0,4,5,6,7,8,9,10,11] I I) ?_
 repeat' (first|refine zh ?_|intro (bk:Nat))
 refine HR.Jm [(0,true),(1,true),(2,true),(3,true),(4,true),(5,true),(6,true),(7,false),(8,true),(9,true),(10,true)] 11 [0,1] I I JZ (by kernel_rfl) ?_
 repeat' (first|refine zd ?_|fail)
 refine HD.one I ?_
 refine HL.JN fn170 I I (fun w1 hw1=>jHH n.links to _ w1 ((Rd.own 3 rfl).at hw1) (by omega)) ?_
 intro v2
 refine HL.shape 0 I fun a2 c2 hv=>?_
 subst hv
 refine HL.back [1,2] I I ?_
 repeat' (first|refine zd ?_|fail)
 refine HD.last I ?_
 repeat' (first|refine zn ?_|intro (bk:Nat))
 refine HR.ent (Ent.pick [6,2,1,3,0,5,7,8,9,10,11] I I) ?_
 repeat' (first|refine zh ?_|refine HL.mkF (g:=172) (caps:=[_]) I I ?_|intro (bk:Nat))
 refine HL.Jo (r:=fun z:Value=>z) (Q:=fun _=>True) (G0:=[cI (sv V.ch n.children.length) n.children,tiC bt to]) (H0:=[_,_,_,_,_,_,_,_,_]) (G:=fun z=>[jK z 3 1 (n.children.filter fun c=>!(c==to)).length (cellsOf iC (n.children.filter fun c=>!(c==to))),tiC bt to]) fn171 I I I (fun w1 hw1=>jNG n.children to bt _ _ w1 (hw1.pick [0,1] I I) (by omega)) ?_
 intro z _
 refine HL.shape 0 I fun a3 c3 hv=>?_
 subst hv
 repeat' (first|refine zh ?_|intro (bk:Nat))
 refine HR.ent (Ent.pick [2,1,3,4,5,0,6,7,8,9,10] I I) ?_
 refine HR.jo JZ (by kernel_rfl) ?_
 repeat' (first|refine zq ?_|apply zb ?_ ?_|exact zc|(refine zi fun hb=>?_;try simp at hb))
 refine HR.cond I (fun h2=>?_) (fun h2=>?_)
 ·have h2:n.parent=to:=eq_of_beq h2
  rw[if_pos h2]
  repeat' (first|refine zh ?_|intro (bk:Nat))
  refine HR.fin Tryz.func93 I [] (fun _ _=>trivial) ?_
  exact fun w' hw=>⟨((a1,c1),(a2,c2),(a3,c3)),rfl,trivial,hw.pick [0,2,3,4,5,6,7,8,9,10] I rfl⟩
 ·have h2:(n.parent==to)=false:=h2
  have h2:¬n.parent=to:=by simpa using h2
  rw[if_neg h2]
  repeat' (first|refine zh ?_|intro (bk:Nat))
  refine HR.fin Tryz.func93 I [] (fun _ _=>trivial) ?_
  exact fun w' hw=>⟨((a1,c1),(a2,c2),(a3,c3)),rfl,trivial,hw.pick [0,2,3,4,5,6,7,8,9,10] I rfl⟩
theorem jGq (bf:Nat) (f:Fr) (x:Sn) (w:World) (hcap:Sl w (.slice (some ⟨bf,0,none⟩) 9 9) (frC f) 9):Calls Tryz.prog 89 #[.agg ⟨snC x⟩,.pointer (some ⟨bf,0,none⟩)] w fun e w'=>e= .returned (.bool (hits f x))∧Below w.heap.size w w':=by
 refine jB Tryz.func89 I (Nat.le_of_ble_eq_true I) ?_
 refine HR.sub (σ':=[(0,.agg ⟨snC x⟩),(1,.pointer (some ⟨bf,0,none⟩))]) ⟨I,I,trivial⟩ ?_
 repeat' (first|refine zh ?_|refine HL.jY (j:=0) (Rd.arg hcap) I I I I I ?_|refine HL.jY (j:=3) (Rd.arg hcap) I I I I I ?_|refine HL.jY (j:=5) (Rd.arg hcap) I I I I I ?_|apply zb ?_ ?_|exact zc|(refine zi fun hb=>?_;try simp at hb)|intro (bk:Nat))
 refine HR.ret Tryz.func89 I [_] (fun _ _=>⟨I,trivial⟩) ?_
 exact fun w' hw=>⟨rfl,hw.jE⟩
theorem jBZ (n:Nd) (to:Int):(giveUp n to).parts=n.parts:=by
 by_cases h:Tp.okN to=false
 ·unfold giveUp;rw[if_pos h];rfl
 ·unfold giveUp;rw[if_neg h];rfl
theorem jGW (V:NV) (n:Nd) (f:Fr) (ok:Bool) (w:World) (h:OkN w V n) (hs:SmN n):
  Calls Tryz.prog 44 #[.agg ⟨ndC V n⟩,.agg ⟨frC f⟩,.bool ok] w fun e w'=>∃V':NV,e= .returned (.agg ⟨ndC V' (result n f ok)⟩)∧Pts V' (result n f ok)∧Sat (base w) (ndH V' (result n f ok)) w':=by
 obtain ⟨m,hm⟩:∃m,m=order n:=⟨_,rfl⟩
 have ho:Ord m:=by rw[hm];exact Ji n
 have h16:=ho.out
 have hsp:result n f ok=match m.out.findIdx? (hits f)with
  |none=>m
  |some i=>if (KM m.out i ok).2 then giveUp (if Tp.okN f.dst then { m with out:=(KM m.out i ok).1,links:=ZW m.links f.dst ok } else { m with out:=(KM m.out i ok).1 }) f.dst else (if Tp.okN f.dst then { m with out:=(KM m.out i ok).1,links:=ZW m.links f.dst ok } else { m with out:=(KM m.out i ok).1 }):=by rw[hm];rfl
 obtain ⟨Z,hZ⟩:∃Z,Z=result n f ok:=⟨_,rfl⟩
 rw[← hZ]
 rw[hsp]at hZ
 refine jB Tryz.func44 I (Nat.le_of_ble_eq_true I) ?_
 refine HR.sub (σ':=[(0,.agg ⟨ndC V n⟩),(1,.agg ⟨frC f⟩),(2,.bool ok)]) ⟨I,I,I,trivial⟩ ?_
 refine HR.ctl I ?_
 refine HR.region ?_
 refine HL.box I I ?_
 intro bn
 refine HL.box I I ?_
 intro bf
 repeat' (first|refine zh ?_|intro (bk:Nat))
 refine HL.JD (r:=fun x:Nat×NV=>ptr x.1) (Q:=fun x=>Pts x.2 m) (G:=fun x=>stH x.1 x.2 m (tick 0)) jQD I I (fun w1 hw1=>by rw[hm];exact ZN V n 0 w1 (h.ext hw1.jE) hs) ?_
 rintro ⟨b,V2⟩ hP
 have hP:Pts V2 m:=hP
 refine HL.ent (Ent.pick [10,11,0,1,2,3,4,5,6,7,8,9] I I) ?_
 repeat' (first|refine zh ?_|refine HL.mkF (g:=89) (caps:=[_]) I I ?_|refine HL.jN fn88 I I (fun w1 hw1=>jBY m.out (hits f) 89 [.pointer (some ⟨bf,0,none⟩)] (sv V2.ou m.out.length) w1 fn89 (fun a ha w2 hb=>jGq bf f a w2 (((Rd.blk (n:=9) 1 rfl).at hw1).ext hb)) ((Rd.own 5 rfl).at hw1) (by omega)) ?_|intro (bk:Nat))
 rcases Jr (hits f) m.out with ⟨e1,e2,_⟩|⟨i,x,e1,e2,e3,_⟩
 ·rw [e2]at hZ
  have hZ:Z=m:=hZ
  rw[e1,hZ]
  repeat' (first|refine zh ?_|intro (bk:Nat))
  refine HR.ret Tryz.func44 I [_] (fun w hw=>⟨⟨_,rfl,jP hw 0 I I I I rfl⟩,trivial⟩) ?_
  exact fun w' hw=>⟨V2,rfl,hP,hw.pick [3,4,5,6,7,8,9,10,11] I rfl⟩
 rw[e2]at hZ
 rw[e1]
 have hmr:=jAk m.out i ok
 obtain ⟨r,hr⟩:∃r,r=KM m.out i ok:=⟨_,rfl⟩
 rw[← hr]at hmr
 have hm1:=ho.jAb hmr
 have hml:Ord { m with out:=r.1,links:=ZW m.links f.dst ok }:=hm1.jD3 (jBu _ _ _)
 have hl24:=llen ho
 obtain ⟨m2,hm2⟩:∃m2,m2=if Tp.okN f.dst then { m with out:=r.1,links:=ZW m.links f.dst ok } else { m with out:=r.1 }:=⟨_,rfl⟩
 have ho2:Ord m2:=by rw[hm2];split;exact hml;exact hm1
 have hp2:m2.parts=m.parts:=by rw[hm2];split<;>rfl
 have hZ:Z=if r.2=true then giveUp m2 f.dst else m2:=by rw[hZ,hm2,hr]
 rw[hZ]
 repeat' (first|refine zh ?_|intro (bk:Nat))
 refine HL.JD (r:=fun v':Value=> .tuple ⟨[v',.bool r.2]⟩) (Q:=fun _=>True) (G:=fun v'=>[cSn v' r.1]) fn90 I I (fun w1 hw1=>by rw[hr];exact jCS m.out i ok _ w1 ((Rd.own 5 rfl).at hw1) (by omega)) ?_
 intro v1 _
 refine HL.shape 0 I fun a c hv=>?_
 subst hv
 repeat' (first|refine zh ?_|refine HL.jN jSP I I (fun w _=>Z9 f.dst w) ?_|intro (bk:Nat))
 refine HR.ent (H':=_::_::stH b { V2 with ou:=(a,c) } { m with out:=r.1 } (tick 0)) (Ent.pick [1,2,3,4,5,0,7,8,9,10,11,12] I I) ?_
 refine HR.join (ι:=SV) (fun _=>True) (fun _=>[(6,ptr bk),(4,ptr bf),(7,ptr b),(10,.bool r.2)]) (fun x=>jU bk jQP 62::jU bf (frC f) 75::stH b { V2 with ou:=(a,c),li:=x } m2 (tick 0)) (fun x _=>?_) (fun hj=>?_)
 rotate_left
 ·refine HR.cond I (fun h1=>?_) (fun h1=>?_)
  ·have h1:Tp.okN f.dst=true:=h1
   rw[h1,if_pos rfl]at hm2
   repeat' (first|refine zh ?_|intro (bk:Nat))
   refine HR.Jm [(0,true),(1,true),(2,true),(3,true),(4,true),(5,true),(6,true),(7,true),(8,true),(9,false),(10,true),(11,true),(12,true)] 13 [1,2] I I JZ (by kernel_rfl) ?_
   repeat' (first|refine zd ?_|fail)
   refine HD.one I ?_
   refine HL.JN fn92 I I (fun w1 hw1=>jFg m.links f.dst ok _ w1 ((Rd.own 4 rfl).at hw1) (by omega)) ?_
   intro v2
   refine HL.shape 0 I fun a2 c2 hv=>?_
   subst hv
   refine HL.back [2,3] I I ?_
   repeat' (first|refine zd ?_|fail)
   refine HD.last I ?_
   repeat' (first|refine zn ?_|intro (bk:Nat))
   refine hj (a2,c2) _ _ trivial ⟨I,I,I,I,trivial⟩ ?_
   rw[hm2]
   exact Ent.pick [1,2,3,4,0,6,7,8,9,10,11,12] I I
  ·have h1:Tp.okN f.dst=false:=h1
   rw[h1,if_neg (by decide)]at hm2
   refine HR.skip ?_
   refine hj V2.li _ _ trivial ⟨I,I,I,I,trivial⟩ ?_
   rw[hm2]
   exact Ent.refl
 repeat' (first|refine zh ?_|intro (bk:Nat))
 refine HR.cond I (fun h1=>?_) (fun h1=>?_)
 ·have h1:r.2=true:=h1
  rw[if_pos h1]
  repeat' (first|refine zh ?_|intro (bk:Nat))
  refine HL.ent (Ent.pick [2,3,4,5,6,7,8,9,10,11,0] I I) ?_
  refine HL.Jo (r:=fun _:SV×SV×SV=> .tuple ⟨[]⟩) (Q:=fun _=>True) (G0:=stH b { V2 with ou:=(a,c),li:=x } m2 (tick 0)) (H0:=[_]) (G:=fun y=>stH b { V2 with ou:=(a,c),ta:=y.1,li:=y.2.1,ch:=y.2.2 } (giveUp m2 f.dst) (tick 0)) fn93 I I I (fun w1 hw1=>jGa b { V2 with ou:=(a,c),li:=x } m2 (tick 0) f.dst _ w1 (hw1.pick [0,1,2,3,4,5,6,7,8,9] I I) ho2) ?_
  intro y _
  refine HL.ent (Ent.pick [10,0,1,2,3,4,5,6,7,8,9] I I) ?_
  repeat' (first|refine zh ?_|intro (bk:Nat))
  refine HR.ret Tryz.func44 I [_] (fun w hw=>⟨⟨_,rfl,jP hw 0 I I I I rfl⟩,trivial⟩) ?_
  exact fun w' hw=>⟨{ V2 with ou:=(a,c),ta:=y.1,li:=y.2.1,ch:=y.2.2 },rfl,⟨by rw[jBZ,hp2];exact hP.eq,hP.sh⟩,hw.pick [2,3,4,5,6,7,8,9,10] I rfl⟩
 ·have h1:r.2=false:=h1
  rw[if_neg (by rw[h1];decide)]
  repeat' (first|refine zh ?_|intro (bk:Nat))
  refine HR.ret Tryz.func44 I [_] (fun w hw=>⟨⟨_,rfl,jP hw 0 I I I I rfl⟩,trivial⟩) ?_
  exact fun w' hw=>⟨{ V2 with ou:=(a,c),li:=x },rfl,⟨by rw[hp2];exact hP.eq,hP.sh⟩,hw.pick [3,4,5,6,7,8,9,10,11] I rfl⟩
end Go.Proofs.YtgfdoognildoeaaGreat
namespace Go.Proofs.YtgfdoognildoeaaGreat
open Go.GX Go.RowKit
attribute [local irreducible] Calls Run jg jh JU HR HL HD jU jK Jc Rd jL jd
open Nd
theorem fn79:IsFn Tryz.prog 79:=⟨⟨_,_,Tryz.func79,rfl,by decide⟩⟩
theorem jQJ (n:Nd) (f:Fr) (now:Int):∃q l,box n f now={ n with boxes:=q,lost:=l }:=by
 by_cases h:(jGB n.boxes f now).2=false∨(jGB n.boxes f now).1.length=n.boxes.length
 ·exact ⟨(jGB n.boxes f now).1,min (n.lost+1) JY,by unfold box lose;simp only[if_pos h]⟩
 ·exact ⟨(jGB n.boxes f now).1,n.lost,by unfold box;simp only[if_neg h]⟩
theorem jCm (n:Nd) (f:Fr) (now:Int):(box n f now).parts=n.parts:=by obtain ⟨q,l,e⟩:=jQJ n f now;rw[e]
theorem jCk (now:Int):∀(l:List Fr) (n:Nd),(l.foldl (fun n f=>box n f now) n).parts=n.parts
 |[],_=>rfl
 |f::l,n=>(jCk now l (box n f now)).trans (jCm n f now)
theorem jBf (n:Nd) (now:Int):(asleep n now).parts=n.parts:=by unfold asleep;exact jCk now _ _
theorem jBe (n:Nd):(ZQ n).parts=n.parts:=by
 unfold ZQ;split
 ·exact (zM _ _).trans I
 ·rfl
theorem jDR (n:Nd):(poll n).parts=n.parts:=by
 unfold poll;split
 ·exact (zM _ _).trans I
 ·rfl
theorem jEF {L:List PtV} {p:PtV} (h:p∈L):ptH p∈ptG L∧ptD p∈ptG L:=by
 unfold ptG
 exact ⟨List.mem_flatMap.2 ⟨p,h,List.mem_cons_self ..⟩,List.mem_flatMap.2 ⟨p,h,List.mem_cons_of_mem _ (List.mem_cons_self ..)⟩⟩
theorem RdPts.own {B:Base} {H:List Chunk} {w:World} {v:Value} {L:List PtV} (i j:Nat) (hw:Sat B H w) (hi:zX H i=some (cPt v L)) (hj:zX H j=some (jD (ptG L))):RdPts w v L:=
 ⟨(Rd.own i hi).at hw,fun p hp=>⟨(Rd.group j hj (jEF hp).1).at hw,(Rd.group j hj (jEF hp).2).at hw⟩⟩
theorem jK5 (V:NV) (n:Nd) (now:Int) (w:World) (h:OkN w V n) (hs:SmN n) (hf:∀s∈n.out,fits .i64 s.wt):
  Calls Tryz.prog 79 #[.agg ⟨ndC V n⟩,.int .i64 now] w fun e w'=>∃V':NV,e= .returned (.agg ⟨ndC V' (kE n now)⟩)∧Pts V' (kE n now)∧Sat (base w) (ndH V' (kE n now)) w':=by
 obtain ⟨m,hm⟩:∃m,m=order n:=⟨_,rfl⟩
 have ho:Ord m:=by rw[hm];exact Ji n
 have h16:=ho.out
 have hb16:=ho.boxes
 have hmf:∀s∈m.out,fits .i64 s.wt:=fun s hs=>hf s (List.mem_of_mem_take (by rw[hm]at hs;exact hs))
 have hmp:m.parts=n.parts:=by rw[hm];rfl
 obtain ⟨T,hT⟩:∃T,T=tick now:=⟨_,rfl⟩
 have ht0:0≤T:=by rw[hT];unfold tick clamp;omega
 obtain ⟨a,ha⟩:∃a,a=asleep { m with out:=jAA m.out,boxes:=jCv m.boxes T 120,parts:=jEH m.parts T 120 } T:=⟨_,rfl⟩
 obtain ⟨g,hg⟩:∃g,g=if a.poll=0∧T%8=a.addr%8 then ZQ a else a:=⟨_,rfl⟩
 have hsp:kE n now=if g.poll>0∧g.parent≠255∧T%g.poll=0 then poll g else g:=by rw[hg,ha,hT,hm];rfl
 have ho1:Ord { m with out:=jAA m.out,boxes:=jCv m.boxes T 120,parts:=jEH m.parts T 120 }:=((ho.jAb (jFZ m.out)).kK (jEj m.boxes T 120)).jBk _
 have hao:Ord a:=by rw[ha];exact (jCq (Good.refl ho1) T).ord
 have hap:a.parts=jEH m.parts T 120:=by rw[ha];exact jBf _ _
 have hgo:Ord g:=by rw[hg];split;exact (jCo (Good.refl hao)).ord;exact hao
 have hgp:g.parts=jEH m.parts T 120:=by rw[hg,← hap];split;exact jBe _;rfl
 have ha8:=((ZR _).1 hao.addr).1
 rw[hsp]
 refine jB Tryz.func79 I (Nat.le_of_ble_eq_true I) ?_
 refine HR.sub (σ':=[(0,.agg ⟨ndC V n⟩),(1,.int .i64 now)]) ⟨I,I,trivial⟩ ?_
 repeat' (first|refine zh ?_|intro (bk:Nat))
 refine HL.JD (r:=fun x:Nat×NV=>ptr x.1) (Q:=fun x=>Pts x.2 m) (G:=fun x=>stH x.1 x.2 m T) jQD I I (fun w1 hw1=>by rw[hm,hT];exact ZN V n now w1 (h.ext hw1.jE) hs) ?_
 rintro ⟨b,V2⟩ hP
 have hP:Pts V2 m:=hP
 have hpl:V2.ps.length≤1000:=by rw[← JF,hP.eq,hmp];exact hs.pa
 have hps:∀p∈V2.ps,jBj p.pt:=fun p hp=>hs.sm p.pt (by rw[← hmp,← hP.eq];exact List.mem_map.2 ⟨p,hp,rfl⟩)
 refine HL.ent (Ent.pick [10,0,1,2,3,4,5,6,7,8,9] I I) ?_
 repeat' (first|refine zh ?_|refine HL.JN fn150 I I (fun w1 hw1=>jMH m.out _ w1 ((Rd.own 4 rfl).at hw1) (by omega) hmf) ?_|intro (bk:Nat))
 intro v1
 refine HL.shape 0 I fun a1 c1 hv=>?_
 subst hv
 repeat' (first|refine zh ?_|intro (bk:Nat))
 refine HR.ent (Ent.pick [1,2,3,4,0,6,7,8,9,10,11] I I) ?_
 refine HR.Jm [(0,true),(1,true),(2,true),(3,true),(4,true),(5,true),(6,true),(7,true),(8,true),(9,true),(10,false),(11,true),(12,true),(13,true)] 14 [1] I I JZ (by kernel_rfl) ?_
 repeat' (first|refine zd ?_|fail)
 refine HD.one I ?_
 refine HL.JN fn151 I I (fun w1 hw1=>jPu m.boxes T 120 _ w1 ((Rd.own 6 rfl).at hw1) (by omega)) ?_
 intro v2
 refine HL.shape 0 I fun a2 c2 hv=>?_
 subst hv
 refine HL.back [2] I I ?_
 repeat' (first|refine zd ?_|fail)
 refine HD.last I ?_
 repeat' (first|refine zn ?_|intro (bk:Nat))
 refine HR.ent (Ent.pick [1,2,3,4,5,6,0,8,9,10,11] I I) ?_
 repeat' (first|refine zh ?_|intro (bk:Nat))
 refine HR.Jm [(0,true),(1,true),(2,true),(3,true),(4,true),(5,true),(6,true),(7,true),(8,true),(9,true),(10,false),(11,true),(12,true),(13,true)] 14 [1] I I JZ (by kernel_rfl) ?_
 repeat' (first|refine zd ?_|fail)
 refine HD.one I ?_
 refine HL.JD (r:=fun x:Value×List PtV=>x.1) (Q:=fun x=>jEm x (jEH (pts V2.ps) T 120)) (G:=fun x=>jGy x) fn152 I I (fun w1 hw1=>jPk V2.ps T 120 _ w1 (RdPts.own 8 9 hw1 I I) hps hpl) ?_
 rintro ⟨v3,ps⟩ ⟨hg1,hg2⟩
 have hq1:pts ps=jEH m.parts T 120:=by rw[← hP.eq];exact hg1
 have hq2:∀p∈ps,jBN p:=hg2
 refine HL.shape (v:=v3) (e:=173) (sz:=6) (n:=ps.length) (xs:=cellsOf ptC ps) 0 I fun a3 c3 hv=>?_
 subst hv
 refine HL.back [3] I I ?_
 repeat' (first|refine zd ?_|fail)
 refine HD.last I ?_
 repeat' (first|refine zn ?_|intro (bk:Nat))
 obtain ⟨V3,hV3⟩:∃V3:NV,V3=⟨V2.ta,V2.li,(a1,c1),V2.ch,(a2,c2),V2.se,(a3,c3),V2.ib,ps⟩:=⟨_,rfl⟩
 have hps3:V3.ps=ps:=by rw[hV3]
 refine HR.ent (H':=_::stH b ⟨V2.ta,V2.li,(a1,c1),V2.ch,(a2,c2),V2.se,(a3,c3),V2.ib,ps⟩ { m with out:=jAA m.out,boxes:=jCv m.boxes T 120,parts:=jEH m.parts T 120 } T) (Ent.pick [2,3,4,5,6,7,8,9,0,1,12] I I) ?_
 rw[← hV3]
 repeat' (first|refine zh ?_|intro (bk:Nat))
 refine HL.ent (Ent.pick [1,2,3,4,5,6,7,8,9,10,0] I I) ?_
 refine HL.Jo (r:=fun _:SV×SV=> .tuple ⟨[]⟩) (Q:=fun _=>True) (G0:=stH b V3 { m with out:=jAA m.out,boxes:=jCv m.boxes T 120,parts:=jEH m.parts T 120 } T) (H0:=[_]) (G:=fun x=>stH b { V3 with ou:=x.1,bo:=x.2 } a T) fn153 I I I (fun w1 hw1=>by rw[ha];exact jGc b V3 _ T _ w1 (hw1.pick [0,1,2,3,4,5,6,7,8,9] I I) ho1) ?_
 rintro ⟨x1,x2⟩ _
 repeat' (first|refine zh ?_|intro (bk:Nat))
 refine HR.jo JZ (by kernel_rfl) ?_
 repeat' (first|refine zq ?_|apply zb ?_ ?_|exact zc|(refine zi fun hb=>?_;try simp at hb))
 refine HR.join (ι:=SV×SV) (fun _=>True) (fun _=>[(4,ptr bk),(5,ptr b)]) (fun y=>stH b { V3 with bo:=x2,ta:=y.1,ou:=y.2 } g T++[jU bk jQP 62]) (fun y _=>?_) (fun hj=>?_)
 rotate_left
 ·refine HR.cond I (fun h1=>?_) (fun h1=>?_)
  ·have h1:((a.poll==0)&&(T%8==a.addr%8))=true:=h1
   have h2:a.poll=0∧T%8=a.addr%8:=by simpa using h1
   rw[if_pos h2]at hg
   refine HR.region ?_
   repeat' (first|refine zn ?_|apply zb ?_ ?_|exact zc|(refine zi fun hb=>?_;try simp at hb)|intro (bk:Nat))
   refine HL.Jo (r:=fun _:SV×SV=> .tuple ⟨[]⟩) (Q:=fun _=>True) (G0:=stH b { V3 with ou:=x1,bo:=x2 } a T) (H0:=[_]) (G:=fun y=>stH b { V3 with bo:=x2,ta:=y.1,ou:=y.2 } g T) fn154 I I I (fun w1 hw1=>by rw[hg];exact jGb b { V3 with ou:=x1,bo:=x2 } a T _ w1 (hw1.pick [0,1,2,3,4,5,6,7,8,9] I I) hao) ?_
   intro y _
   repeat' (first|refine zn ?_|apply zb ?_ ?_|exact zc|(refine zi fun hb=>?_;try simp at hb)|intro (bk:Nat))
   exact hj y _ _ trivial ⟨I,I,trivial⟩ Ent.refl
  ·have h1:((a.poll==0)&&(T%8==a.addr%8))=false:=h1
   have h2:¬(a.poll=0∧T%8=a.addr%8):=by simpa using h1
   rw[if_neg h2]at hg
   refine HR.skip ?_
   refine hj (V3.ta,x1) _ _ trivial ⟨I,I,trivial⟩ ?_
   rw[hg]
   exact Ent.refl
 obtain ⟨y1,y2⟩:=y
 repeat' (first|refine zh ?_|intro (bk:Nat))
 refine HR.jo JZ (by kernel_rfl) ?_
 repeat' (first|refine zq ?_|apply zb ?_ ?_|exact zc|(refine zi fun hb=>?_;try simp at hb))
 refine HR.cond I (fun h1=>?_) (fun h1=>?_)
 ·have h1:((decide (g.poll>0)&&!(g.parent==255))&&(T%g.poll==0))=true:=h1
  have h2:g.poll>0∧g.parent≠255∧T%g.poll=0:=by simpa[and_assoc]using h1
  rw[if_pos h2]
  repeat' (first|refine zh ?_|intro (bk:Nat))
  refine HL.Jo (r:=fun _:SV×SV=> .tuple ⟨[]⟩) (Q:=fun _=>True) (G0:=stH b { V3 with bo:=x2,ta:=y1,ou:=y2 } g T) (H0:=[_]) (G:=fun y=>stH b { V3 with bo:=x2,ta:=y.1,ou:=y.2 } (poll g) T) fn155 I I I (fun w1 hw1=>jLD b { V3 with bo:=x2,ta:=y1,ou:=y2 } g T _ w1 (hw1.pick [0,1,2,3,4,5,6,7,8,9] I I) hgo) ?_
  intro z _
  refine HL.ent (Ent.pick [10,0,1,2,3,4,5,6,7,8,9] I I) ?_
  repeat' (first|refine zh ?_|intro (bk:Nat))
  refine HR.ret Tryz.func79 I [_] (fun w hw=>⟨⟨_,rfl,jP hw 0 I I I I rfl⟩,trivial⟩) ?_
  exact fun w' hw=>⟨{ V3 with bo:=x2,ta:=z.1,ou:=z.2 },rfl,⟨by rw[jDR,hgp,← hq1,hV3],by rw[hV3];exact hq2⟩,hw.pick [2,3,4,5,6,7,8,9,10] I rfl⟩
 ·have h1:((decide (g.poll>0)&&!(g.parent==255))&&(T%g.poll==0))=false:=h1
  have h2:¬(g.poll>0∧g.parent≠255∧T%g.poll=0):=by
   intro e
   have:((decide (g.poll>0)&&!(g.parent==255))&&(T%g.poll==0))=true:=by simpa[and_assoc]using e
   rw[h1]at this;cases this
  rw[if_neg h2]
  refine HR.skip ?_
  refine HR.ent (Ent.pick [10,0,1,2,3,4,5,6,7,8,9] I I) ?_
  repeat' (first|refine zh ?_|intro (bk:Nat))
  refine HR.ret Tryz.func79 I [_] (fun w hw=>⟨⟨_,rfl,jP hw 0 I I I I rfl⟩,trivial⟩) ?_
  exact fun w' hw=>⟨{ V3 with bo:=x2,ta:=y1,ou:=y2 },rfl,⟨by rw[hgp,← hq1,hV3],by rw[hV3];exact hq2⟩,hw.pick [2,3,4,5,6,7,8,9,10] I rfl⟩
end Go.Proofs.YtgfdoognildoeaaGreat
namespace Go.Proofs.YtgfdoognildoeaaGreat
open Go.GX Go.RowKit
attribute [local irreducible] Calls Run jg jh JU HR HL HD jU jK Jc Rd jL jd
open Nd
theorem fn80:IsFn Tryz.prog 80:=⟨⟨_,_,Tryz.func80,rfl,by decide⟩⟩
theorem jJ7 {q:List Sn} {i:Nat} (h16:q.length≤16) (hi:i<q.length):((KM q i false).2=true∧(KM q i false).1.length+1=q.length)∨((KM q i false).2=false∧(KM q i false).1.length=q.length):=by
 have ht:q.take 16=q:=List.take_of_length_le h16
 unfold KM
 rw[ht,List.getElem?_eq_getElem hi]
 simp only[Bool.false_eq_true,if_false]
 split
 ·exact .inl ⟨rfl,by show (q.eraseIdx i).length+1=_;rw[List.length_eraseIdx_of_lt hi];omega⟩
 ·exact .inr ⟨rfl,by show (q.set i _).length=_;rw[List.length_set]⟩
abbrev zerF:List Value:=[.int .i64 0,.int .i64 0,.int .i64 0,.int .i64 0,.int .i64 0,.int .i64 0,.int .i64 0,.bool false,str []]
abbrev rsC (bk:Nat):Chunk:=jU bk jQP 62
abbrev rfC (bk:Nat):Chunk:=jU bk zerF 75
theorem jJa {T : Int} {K : Nat} {p : Nd} {i : Nat} {x : Sn} (hx : p.out[i]? = some x) : zx T (K + 1) p i =
      if x.wt > 0 then zx T K p (i + 1)
      else if x.f.kd ≠ 2 ∨ x.f.dst ≠ 255 then (p, x.f, true)
      else if p.poll = 0 ∧ ZE p x.f.ta = true then zx T K (box { p with out := p.out.eraseIdx i } { x.f with dst := x.f.ta } T) i
      else if (hop p x.f.ta).2 then (p, { x.f with dst := (hop p x.f.ta).1 }, true)
      else if (KM p.out i false).2 then zx T K (lose { p with out := (KM p.out i false).1 }) i
      else zx T K { p with out := (KM p.out i false).1 } (i + 1) := by
  rw [zx, hx]
theorem jK6 (V:NV) (n:Nd) (now:Int) (w:World) (h:OkN w V n) (hs:SmN n):
  Calls Tryz.prog 80 #[.agg ⟨ndC V n⟩,.int .i64 now] w fun e w'=>∃V':NV,e= .returned (.tuple ⟨[.agg ⟨ndC V' (talk n now).1⟩,.agg ⟨frC (talk n now).2.1⟩,.bool (talk n now).2.2]⟩)∧Pts V' (talk n now).1∧Sat (base w) (ndH V' (talk n now).1) w':=by
 obtain ⟨m,hm⟩:∃m,m=order n:=⟨_,rfl⟩
 have ho:Ord m:=by rw[hm];exact Ji n
 have h16:=ho.out
 obtain ⟨T,hT⟩:∃T,T=tick now:=⟨_,rfl⟩
 obtain ⟨Z,hZ⟩:∃Z,Z=talk n now:=⟨_,rfl⟩
 have hZ0:Z=zx T 17 m 0:=by rw[hZ,hT,hm];rfl
 rw[← hZ]
 refine jB Tryz.func80 I (Nat.le_of_ble_eq_true I) ?_
 refine HR.sub (σ':=[(0,.agg ⟨ndC V n⟩),(1,.int .i64 now)]) ⟨I,I,trivial⟩ ?_
 refine HR.ctl I ?_
 refine HR.region ?_
 refine HL.box I I ?_
 intro bn
 refine HL.alloc I I ?_
 intro br
 refine HL.alloc I I ?_
 intro bf
 repeat' (first|refine zh ?_|intro (bk:Nat))
 refine HL.JD (r:=fun x:Nat×NV=>ptr x.1) (Q:=fun x=>Pts x.2 m) (G:=fun x=>stH x.1 x.2 m T) jQD I I (fun w1 hw1=>by rw[hm,hT];exact ZN V n now w1 (h.ext hw1.jE) hs) ?_
 rintro ⟨b,V2⟩ hP
 have hP:Pts V2 m:=hP
 refine HL.ent (H':=rsC br::rfC bf::stH b V2 m T) (Ent.pick [11,10,0,1,2,3,4,5,6,7,8,9] I I) ?_
 repeat' (first|refine zh ?_|intro (bk:Nat))
 refine HR.loop (ι:=Nat×Nat×Nd×SV×SV) (fun x=>Ord x.2.2.1∧x.2.2.1.parts=m.parts∧Z=zx T x.2.1 x.2.2.1 x.1∧x.1≤x.2.2.1.out.length∧x.2.2.1.out.length<x.1+x.2.1) (fun x=>[(4,ptr br),(5,ptr bf),(7,ptr b),(8,.int .i64 (x.1:Int))]) (fun x=>rsC br::rfC bf::stH b { V2 with ou:=x.2.2.2.1,bo:=x.2.2.2.2 } x.2.2.1 T) (fun x=>x.2.2.1.out.length-x.1) (0,17,m,V2.ou,V2.bo) ⟨ho,rfl,hZ0,Nat.zero_le _,by show m.out.length<0+17;omega⟩ ⟨I,I,I,I,trivial⟩ Ent.refl ?_
 rintro ⟨i,K,p,y1,y2⟩ ⟨hpo,hpp,hZ1,hi,hK⟩ ih
 have hpo:Ord p:=hpo
 have hpp:p.parts=m.parts:=hpp
 have hZ1:Z=zx T K p i:=hZ1
 have hi:i≤p.out.length:=hi
 have hK:p.out.length<i+K:=hK
 have hp16:=hpo.out
 have hp24:=jNb hpo
 have hpk:=klen hpo
 obtain ⟨K,rfl⟩:∃K',K=K'+1:=⟨K-1,by omega⟩
 repeat' (first|refine zh ?_|intro (bk:Nat))
 refine HR.cond I (fun h1=>?_) (fun h1=>?_)
 rotate_left
 ·have h1:¬(i:Int)<(p.out.length:Int):=of_decide_eq_false h1
  have hie:i=p.out.length:=by omega
  have hZ2:Z=(p,fr0,false):=by
   rw[hZ1,zx,show p.out[i]? =none from List.getElem?_eq_none (by omega)]
  rw[hZ2]
  repeat' (first|refine zh ?_|intro (bk:Nat))
  refine HR.ret Tryz.func80 I [_,_,_] (fun w hw=>⟨⟨_,rfl,jP hw 0 I I I I rfl⟩,⟨_,rfl,jP hw 1 I I I I rfl⟩,rfl,trivial⟩) ?_
  exact fun w' hw=>⟨{ V2 with ou:=y1,bo:=y2 },rfl,⟨by rw[show (p,fr0,false).1.parts=m.parts from hpp];exact hP.eq,hP.sh⟩,hw.pick [3,4,5,6,7,8,9,10,11] I rfl⟩
 have h1:(i:Int)<(p.out.length:Int):=of_decide_eq_true h1
 have hlt:i<p.out.length:=by omega
 obtain ⟨x,hx⟩:=jH hlt
 rw[jJa hx]at hZ1
 repeat' (first|refine zh ?_|refine HL.jw (Rd.own 5 I) Ja i I I I I hlt ?_|refine HL.JB (Rd.own 5 I) I I I I (by simp) I (jF je hx) ?_|intro (bk:Nat))
 refine HR.cond I (fun h2=>?_) (fun h2=>?_)
 ·have h2:x.wt>0:=of_decide_eq_true h2
  rw[if_pos h2]at hZ1
  repeat' (first|refine zh ?_|intro (bk:Nat))
  exact ih (i+1,K,p,y1,y2) _ _ ⟨hpo,hpp,hZ1,hlt,by show p.out.length<i+1+K;omega⟩ (by show p.out.length-(i+1)<p.out.length-i;omega) ⟨I,I,I,I,trivial⟩ (Ent.pick [2,3,4,5,6,7,8,9,10,11,12,13] I I)
 have h2:¬x.wt>0:=of_decide_eq_false h2
 rw[if_neg h2]at hZ1
 repeat' (first|refine zh ?_|apply zb ?_ ?_|exact zc|(refine zi fun hb=>?_;try simp at hb)|intro (bk:Nat))
 refine HR.cond I (fun h3=>?_) (fun h3=>?_)
 ·have h3:(!(x.f.kd==2)||!(x.f.dst==255))=true:=h3
  have h4:x.f.kd≠2∨x.f.dst≠255:=by simpa using h3
  rw[if_pos h4]at hZ1
  rw[hZ1]
  repeat' (first|refine zh ?_|intro (bk:Nat))
  refine HR.j3 [(0,true),(1,true),(2,true),(3,true),(4,true),(5,false),(6,false),(7,true)] [0,4] I I JZ (by kernel_rfl) ?_
  repeat' (first|refine zd ?_|fail)
  refine HD.one I ?_
  refine HL.S 2 I I I I I ?_
  refine HL.back [0,4] I I ?_
  refine HD.one I ?_
  refine HL.S 3 I I I I I ?_
  refine HL.back [0,4] I I ?_
  repeat' (first|refine zd ?_|fail)
  refine HD.nil ?_
  repeat' (first|refine zh ?_|intro (bk:Nat))
  refine HR.ret Tryz.func80 I [_,_,_] (fun w hw=>⟨⟨_,rfl,jP hw 2 I I I I rfl⟩,⟨_,rfl,jP hw 3 I I I I rfl⟩,rfl,trivial⟩) ?_
  exact fun w' hw=>⟨{ V2 with ou:=y1,bo:=y2 },rfl,⟨by rw[show (p,x.f,true).1.parts=m.parts from hpp];exact hP.eq,hP.sh⟩,hw.pick [5,6,7,8,9,10,11,12,13] I rfl⟩
 have h3:(!(x.f.kd==2)||!(x.f.dst==255))=false:=h3
 have h4:¬(x.f.kd≠2∨x.f.dst≠255):=by
  intro e
  have:(!(x.f.kd==2)||!(x.f.dst==255))=true:=by simpa using e
  rw[h3]at this;cases this
 rw[if_neg h4]at hZ1
 refine HR.skip ?_
 refine HR.ctl I ?_
 refine HR.join (ι:=Unit) (fun _=>True) (fun _=>[(4,ptr br),(5,ptr bf),(7,ptr b),(8,.int .i64 (i:Int)),(10,ptr bk),(66,.bool ((p.poll==0)&&ZE p x.f.ta))]) (fun _=>jU bk (frC x.f) 75::rsC br::rfC bf::stH b { V2 with ou:=y1,bo:=y2 } p T) (fun _ _=>?_) (fun hj=>?_)
 rotate_left
 ·refine HR.region ?_
  repeat' (first|refine zn ?_|intro (bk:Nat))
  refine HL.split 61 I (fun hb=>?_) (fun hb=>?_)
  ·repeat' (first|refine zn ?_|intro (bk:Nat))
   refine HL.ent (Ent.pick [4,5,6,7,8,9,10,11,12,13,0,2,3] I I) ?_
   refine HL.Jo (r:=fun _:Unit=> .bool (ZE p x.f.ta)) (Q:=fun _=>True) (G0:=stH b { V2 with ou:=y1,bo:=y2 } p T) (H0:=[_,_,_]) (G:=fun _=>stH b { V2 with ou:=y1,bo:=y2 } p T) fn156 I I I (fun w1 hw1=>jJd b { V2 with ou:=y1,bo:=y2 } p T x.f.ta _ w1 (hw1.pick [0,1,2,3,4,5,6,7,8,9] I I) (by omega) (by omega)) ?_
   intro _ _
   repeat' (first|refine zn ?_|intro (bk:Nat))
   refine hj () _ _ trivial ⟨rfl,rfl,rfl,rfl,rfl,?_,trivial⟩ (Ent.pick [10,11,12,0,1,2,3,4,5,6,7,8,9] I I)
   show some (Value.bool (ZE p x.f.ta))=some (Value.bool ((p.poll==0)&&ZE p x.f.ta))
   rw[show (p.poll==0)=true from hb];rfl
  ·repeat' (first|refine zn ?_|intro (bk:Nat))
   refine hj () _ _ trivial ⟨rfl,rfl,rfl,rfl,rfl,?_,trivial⟩ (Ent.pick [0,2,3,4,5,6,7,8,9,10,11,12,13] I I)
   show some (Value.bool false)=some (Value.bool ((p.poll==0)&&ZE p x.f.ta))
   rw[show (p.poll==0)=false from hb];rfl
 repeat' (first|refine zh ?_|intro (bk:Nat))
 refine HR.cond I (fun h5=>?_) (fun h5=>?_)
 ·have h5:((p.poll==0)&&ZE p x.f.ta)=true:=h5
  have h6:p.poll=0∧ZE p x.f.ta=true:=by simpa using h5
  rw[if_pos h6]at hZ1
  have hel:(p.out.eraseIdx i).length=p.out.length-1:=List.length_eraseIdx_of_lt hlt
  have ho1:Ord { p with out:=p.out.eraseIdx i }:=hpo.jAb (by omega)
  repeat' (first|refine zh ?_|refine HL.JN jPh I I (fun w1 hw1=>KA p.out _ w1 ((Rd.own 6 rfl).at hw1) (by omega)) ?_|intro (bk:Nat))
  intro v1
  repeat' (first|refine zh ?_|intro (bk:Nat))
  refine HL.Jo (r:=fun r:Value=>r) (Q:=fun _=>True) (G0:=[cSn v1 p.out]) (H0:=[_,_,_,_,_,_,_,_,_,_,_,_,_]) (G:=fun r=>[cSn r (p.out.eraseIdx i)]) jPg I I I (fun w1 hw1=>jA0 p.out i v1 _ w1 (hw1.pick [0] I I) hlt (by omega)) ?_
  intro v2 _
  refine HL.shape 0 I fun a c hv=>?_
  subst hv
  repeat' (first|refine zh ?_|intro (bk:Nat))
  refine HL.ent (Ent.pick [4,5,6,0,8,9,10,11,12,13,2,3] I I) ?_
  refine HL.Jo (r:=fun _:SV=> .tuple ⟨[]⟩) (Q:=fun _=>True) (G0:=stH b { V2 with ou:=(a,c),bo:=y2 } { p with out:=p.out.eraseIdx i } T) (H0:=[_,_]) (G:=fun z=>stH b { V2 with ou:=(a,c),bo:=z } (box { p with out:=p.out.eraseIdx i } { x.f with dst:=x.f.ta } T) T) jSf I I I (fun w1 hw1=>jHp b { V2 with ou:=(a,c),bo:=y2 } { p with out:=p.out.eraseIdx i } T { x.f with dst:=x.f.ta } _ w1 (hw1.pick [0,1,2,3,4,5,6,7,8,9] I I) ho1) ?_
  intro z _
  have hbo:(box { p with out:=p.out.eraseIdx i } { x.f with dst:=x.f.ta } T).out.length=p.out.length-1:=by
   obtain ⟨q,l,e⟩:=jQJ { p with out:=p.out.eraseIdx i } { x.f with dst:=x.f.ta } T
   rw[e];exact hel
  repeat' (first|refine zh ?_|intro (bk:Nat))
  exact ih (i,K,box { p with out:=p.out.eraseIdx i } { x.f with dst:=x.f.ta } T,(a,c),z) _ _ ⟨ho1.box _ _,(jCm _ _ _).trans hpp,hZ1,by rw[show (i,K,box { p with out:=p.out.eraseIdx i } { x.f with dst:=x.f.ta } T,(a,c),z).2.2.1.out.length=_ from hbo];show i≤_;omega,by rw[show (i,K,box { p with out:=p.out.eraseIdx i } { x.f with dst:=x.f.ta } T,(a,c),z).2.2.1.out.length=_ from hbo];show _<i+K;omega⟩ (by show (box { p with out:=p.out.eraseIdx i } { x.f with dst:=x.f.ta } T).out.length-i<p.out.length-i;omega) ⟨I,I,I,I,trivial⟩ (Ent.pick [10,11,0,1,2,3,4,5,6,7,8,9] I I)
 have h5:((p.poll==0)&&ZE p x.f.ta)=false:=h5
 have h6:¬(p.poll=0∧ZE p x.f.ta=true):=by
  intro e
  have:((p.poll==0)&&ZE p x.f.ta)=true:=by simpa using e
  rw[h5]at this;cases this
 rw[if_neg h6]at hZ1
 repeat' (first|refine zh ?_|intro (bk:Nat))
 refine HL.ent (Ent.pick [3,4,5,6,7,8,9,10,11,12,0,1,2] I I) ?_
 refine HL.Jo (r:=fun _:Unit=> .tuple ⟨[.int .i64 (hop p x.f.ta).1,.bool (hop p x.f.ta).2]⟩) (Q:=fun _=>True) (G0:=stH b { V2 with ou:=y1,bo:=y2 } p T) (H0:=[_,_,_]) (G:=fun _=>stH b { V2 with ou:=y1,bo:=y2 } p T) fn159 I I I (fun w1 hw1=>jNi b { V2 with ou:=y1,bo:=y2 } p T x.f _ w1 (hw1.pick [0,1,2,3,4,5,6,7,8,9] I I) (by omega)) ?_
 intro _ _
 refine HL.ent (Ent.pick [10,11,12,0,1,2,3,4,5,6,7,8,9] I I) ?_
 repeat' (first|refine zh ?_|intro (bk:Nat))
 refine HR.cond I (fun h7=>?_) (fun h7=>?_)
 ·have h7:(hop p x.f.ta).2=true:=h7
  rw[if_pos h7]at hZ1
  rw[hZ1]
  repeat' (first|refine zh ?_|intro (bk:Nat))
  refine HR.j3 [(0,true),(1,true),(2,true),(3,true),(4,true),(5,false),(6,false),(7,true)] [0,3] I I JZ (by kernel_rfl) ?_
  repeat' (first|refine zd ?_|fail)
  refine HD.one I ?_
  refine HL.S 1 I I I I I ?_
  refine HL.back [0,3] I I ?_
  refine HD.one I ?_
  refine HL.S 2 I I I I I ?_
  refine HL.back [0,3] I I ?_
  repeat' (first|refine zd ?_|fail)
  refine HD.nil ?_
  repeat' (first|refine zh ?_|intro (bk:Nat))
  refine HR.ret Tryz.func80 I [_,_,_] (fun w hw=>⟨⟨_,rfl,jP hw 1 I I I I rfl⟩,⟨_,rfl,jP hw 2 I I I I rfl⟩,rfl,trivial⟩) ?_
  exact fun w' hw=>⟨{ V2 with ou:=y1,bo:=y2 },rfl,⟨by rw[show (p,({ x.f with dst:=(hop p x.f.ta).1 }:Fr),true).1.parts=m.parts from hpp];exact hP.eq,hP.sh⟩,hw.pick [4,5,6,7,8,9,10,11,12] I rfl⟩
 have h7:¬(hop p x.f.ta).2=true:=by rw[show (hop p x.f.ta).2=false from h7];decide
 rw[if_neg h7]at hZ1
 have hmf:=jJ7 hp16 hlt
 have hml:=jAk p.out i false
 obtain ⟨r,hr⟩:∃r,r=KM p.out i false:=⟨_,rfl⟩
 rw[← hr]at hZ1 hmf hml
 have hor:Ord { p with out:=r.1 }:=hpo.jAb hml
 repeat' (first|refine zh ?_|intro (bk:Nat))
 refine HL.JD (r:=fun v':Value=> .tuple ⟨[v',.bool r.2]⟩) (Q:=fun _=>True) (G:=fun v'=>[cSn v' r.1]) fn90 I I (fun w1 hw1=>by rw[hr];exact jCS p.out i false _ w1 ((Rd.own 6 rfl).at hw1) (by omega)) ?_
 intro v1 _
 refine HL.shape 0 I fun a c hv=>?_
 subst hv
 repeat' (first|refine zh ?_|intro (bk:Nat))
 refine HR.ent (Ent.pick [4,2,3,5,6,0,8,9,10,11,12,13] I I) ?_
 refine HR.cond I (fun h8=>?_) (fun h8=>?_)
 ·have h8:r.2=true:=h8
  rw[if_pos h8]at hZ1
  have hlen:r.1.length+1=p.out.length:=by
   rcases hmf with e|e
   ·exact e.2
   ·rw [h8]at e;cases e.1
  repeat' (first|refine zh ?_|intro (bk:Nat))
  refine HL.Jo (r:=fun _:Unit=> .tuple ⟨[]⟩) (Q:=fun _=>True) (G0:=[jCn b { V2 with ou:=(a,c),bo:=y2 } { p with out:=r.1 } T]) (H0:=[_,_,_,_,_,_,_,_,_,_,_]) (G:=fun _=>[jCn b { V2 with ou:=(a,c),bo:=y2 } (lose { p with out:=r.1 }) T]) jKV I I I (fun w1 hw1=>Zz b { V2 with ou:=(a,c),bo:=y2 } { p with out:=r.1 } T _ w1 (hw1.pick [0] I I) hpo.lost) ?_
  intro _ _
  repeat' (first|refine zh ?_|intro (bk:Nat))
  refine HR.cond I (fun h9=>?_) (fun h9=>?_)
  ·exact absurd (eq_of_beq h9:(r.1.length:Int)=(p.out.length:Int)) (by omega)
  repeat' (first|refine zh ?_|intro (bk:Nat))
  exact ih (i,K,lose { p with out:=r.1 },(a,c),y2) _ _ ⟨hor.lose,hpp,hZ1,by show i≤r.1.length;omega,by show r.1.length<i+K;omega⟩ (by show r.1.length-i<p.out.length-i;omega) ⟨I,I,I,I,trivial⟩ (Ent.pick [1,2,0,3,4,5,6,7,8,9,10,11] I I)
 ·have h8:r.2=false:=h8
  rw[if_neg (by rw[h8];decide)]at hZ1
  have hlen:r.1.length=p.out.length:=by
   rcases hmf with e|e
   ·rw [h8]at e;cases e.1
   ·exact e.2
  repeat' (first|refine zh ?_|intro (bk:Nat))
  refine HR.cond I (fun h9=>?_) (fun h9=>?_)
  ·repeat' (first|refine zh ?_|intro (bk:Nat))
   exact ih (i+1,K,{ p with out:=r.1 },(a,c),y2) _ _ ⟨hor,hpp,hZ1,by show i+1≤r.1.length;omega,by show r.1.length<i+1+K;omega⟩ (by show r.1.length-(i+1)<p.out.length-i;omega) ⟨I,I,I,I,trivial⟩ (Ent.pick [1,2,0,3,4,5,6,7,8,9,10,11] I I)
  ·have h9:((r.1.length:Int)==(p.out.length:Int))=false:=h9
   simp at h9
   omega
end Go.Proofs.YtgfdoognildoeaaGreat
namespace Nd
open Go.GX Tp
theorem jQZ {s:By} (h:(jBg s).2=0):(jBg s).1.length≤24∧(∀ r∈(jBg s).1,usable r=true)∧Asc (·.dest) (jBg s).1:=by
 unfold jBg at h ⊢
 by_cases h1:s.length%4≠0
 ·rw [if_pos h1]at h;cases h
 rw[if_neg h1]at h ⊢
 by_cases h2:s.length>96
 ·rw [if_pos h2]at h;cases h
 rw[if_neg h2]at h ⊢
 by_cases h3:jf (jEo (zW s (s.length / 4))) (s.length / 4)≠0
 ·rw [if_pos h3]at h;exact absurd h h3
 rw[if_neg h3]
 have h3:jf (jEo (zW s (s.length / 4))) (s.length / 4)=0:=Decidable.not_not.1 h3
 have hl:=Z5 s (s.length / 4)
 have key:=ZF h3
 show (zW s (s.length / 4)).length≤24∧(∀ r∈zW s (s.length / 4),usable r=true)∧Asc (·.dest) (zW s (s.length / 4))
 generalize zW s (s.length / 4)=l at hl key
 refine ⟨by omega,fun r hr=>?_,jGG fun i a b ha hb=>?_⟩
 ·obtain ⟨i,hi⟩:=List.getElem?_of_mem hr
  have hk:=key i (by have:=(List.getElem?_eq_some_iff.1 hi).1;omega)
  unfold jEo at hk
  rw[hi]at hk
  simp only at hk
  by_cases hu:usable r=false
  ·rw [if_pos hu]at hk;cases hk
  ·exact Bool.not_eq_false _▸hu
 ·have hk:=key (i+1) (by have:=(List.getElem?_eq_some_iff.1 hb).1;omega)
  unfold jEo at hk
  rw[hb]at hk
  simp only[Nat.add_sub_cancel,ha]at hk
  by_cases hu:usable b=false
  ·rw [if_pos hu]at hk;cases hk
  ·rw [if_neg hu]at hk
   by_cases hd:b.dest≤a.dest
   ·rw [if_pos ⟨by omega,by simpa using hd⟩]at hk;cases hk
   ·show a.dest<b.dest;omega
theorem jMe {l:List Ro} (hu:∀r∈l,usable r=true) (ha:Asc (·.dest) l):(l.any fun r=>(r.dest==0)&&decide (r.cost≤200))=(KF l 0).2:=by
 have hfin:∀r∈l,fin r=decide (r.cost≤200):=by
  intro r hr
  have h1:=hu r hr
  unfold usable at h1
  by_cases hc:r.cost≤200
  ·rw [decide_eq_true hc]
   simp only[Bool.and_eq_true,Bool.or_eq_true,beq_iff_eq]at h1
   rcases h1.2 with h|h
   ·exact h.1
   ·omega
  ·unfold fin
   rw[decide_eq_false hc,Bool.and_false]
 unfold KF rat
 cases hf:l.find? (fun x=>x.dest==0)with
 |none=>
  rw[← Bool.not_eq_true,List.any_eq_true]
  ·rintro ⟨r,hr,h2⟩
   have:=List.find?_eq_none.1 hf r hr
   simp only[Bool.and_eq_true]at h2
   exact this h2.1
 |some r=>
  have hr:=List.mem_of_find?_eq_some hf
  have hd:(r.dest==0)=true:=List.find?_some (p:=fun x:Ro=>x.dest==0) hf
  simp only
  rw[hfin r hr]
  by_cases hc:r.cost≤200
  ·rw [decide_eq_true hc,if_pos rfl]
   show _=true
   rw[List.any_eq_true]
   exact ⟨r,hr,by rw[hd,decide_eq_true hc];rfl⟩
  ·rw [decide_eq_false hc,if_neg (by decide)]
   show _=false
   rw[← Bool.not_eq_true,List.any_eq_true]
   rintro ⟨q,hq,h2⟩
   simp only[Bool.and_eq_true,beq_iff_eq,decide_eq_true_eq]at h2
   obtain ⟨i,hi⟩:=List.getElem?_of_mem hr
   obtain ⟨j,hj⟩:=List.getElem?_of_mem hq
   have hd:r.dest=0:=by simpa using hd
   rcases Nat.lt_trichotomy i j with h|h|h
   ·have:r.dest<q.dest:=ha.lt h hi hj
    omega
   ·subst h;rw[hi]at hj;cases hj;exact hc h2.2
   ·have:q.dest<r.dest:=ha.lt h hj hi
    omega
theorem jD1 {l:List Int} (h:l.Pairwise fun x y=>x≤y) (hn:l.Nodup):Asc id l:=by
 have:=List.Pairwise.and h hn
 exact this.imp fun {a b} ⟨h1,h2⟩=>by
  have h2:a≠b:=h2
  show a<b
  omega
theorem jF4 {l:List Int} {c:Int} (h:Asc id l) (hc:¬c∈l):Tf.srt (l++[c])=child l c:=by
 have hp:(Tf.srt (l++[c])).Perm (l++[c]):=List.mergeSort_perm _ _
 have hn:(l++[c]).Nodup:=by
  rw[List.nodup_append]
  refine ⟨h.nodup,by simp,fun a ha b hb=>?_⟩
  rw[List.mem_singleton]at hb
  rintro rfl
  subst hb
  exact hc ha
 refine jHb (jD1 (Tf.jA6 _) (hp.nodup_iff.2 hn)) (Kn h c).1 fun x=>?_
 rw[hp.mem_iff,(Kn h c).2]
 simp[or_comm]
end Nd
