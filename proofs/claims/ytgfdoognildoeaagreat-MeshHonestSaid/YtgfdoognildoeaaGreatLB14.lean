/- A part of the proof: contracts of the program's functions. Conditions: none. -/
import Derived.Carry
import Derived.Deep.MidRow
import Derived.Deep.Quiet
import Derived.Laws.IdiomRangeMap
import Derived.Laws.MakeOwn
import Derived.Laws.StructEq
import Derived.Laws.Tables
import Derived.Lib.AppendStr
import Derived.Lib.AppendZerosOnto
import Derived.Lib.OthersKept
import Derived.Lib.Overlaps
import Derived.Lib.OwnBridge
import Derived.Lib.SlicesCompact
import Derived.MapKept
import Derived.Orders
import Derived.OrdersHeld
import Derived.Scope
import Derived.SizedLaws
import Derived.SliceStrings
import Derived.Sort.Grow
import Derived.StillTail
import Derived.Test.YtgfdoognildoeaaGreatProg
import Derived.Test.YtgfdoognildoeaaGreatShelf
import Derived.WalkKit
import Derived.WalkLawsBesides
import Derived.WalkSpells
import Derived.Test.YtgfdoognildoeaaGreatLB1
import Derived.Test.YtgfdoognildoeaaGreatLB2
import Derived.Test.YtgfdoognildoeaaGreatLB3
import Derived.Test.YtgfdoognildoeaaGreatLB4
import Derived.Test.YtgfdoognildoeaaGreatLB5
import Derived.Test.YtgfdoognildoeaaGreatLB6
import Derived.Test.YtgfdoognildoeaaGreatLB7
import Derived.Test.YtgfdoognildoeaaGreatLB8
import Derived.Test.YtgfdoognildoeaaGreatLB9
import Derived.Test.YtgfdoognildoeaaGreatLB10
import Derived.Test.YtgfdoognildoeaaGreatLB11
import Derived.Test.YtgfdoognildoeaaGreatLB12
import Derived.Test.YtgfdoognildoeaaGreatLB13
set_option linter.unusedVariables false
set_option linter.unusedSectionVars false
set_option linter.unusedSimpArgs false
set_option maxRecDepth 100000
set_option maxHeartbeats 4000000
namespace Go.GX
open Go.RowKit Go.ChangeShapes Go.WideShapes
section
variable {H : Type} {enc : TypeId × Value → H} {P : Program} {w : World}
def Sized (P:Program) (t:TypeId) (d:DataW H):Prop:=∀n∈d.weights P t,n≤reachBytes
def ZJ (enc:TypeId×Value→H) (P:Program) (w:World) (t:TypeId) {α:Type} (E:α→List Value) (good:α→Prop):Prop:=
 ∀(fuel:Nat) (cs:List Value) (x:DataW H×List MemPlace),DataW.trod enc P w 0 (fun _=>true) true fuel t cs=some x→Sized P t x.1→∃a,cs=E a∧good a
theorem Opens.z {t:TypeId} {α:Type} {E:α→List Value} {good:α→Prop} (h:Opens enc P w t E good):ZJ enc P w t E good:=fun f cs x hx _=>h f cs x hx
theorem jBc {α β:Type} {f:α→Option β}:∀ {l:List α} {r:List β},l.mapM f=some r→∀(i:Nat) (a:α),l[i]? =some a→∃b,r[i]? =some b∧f a=some b
 |[],r,h,i,a,ha=>by simp at ha
 |x::l,r,h,i,a,ha=>by
  simp only[List.mapM_cons,Option.bind_eq_bind,Option.pure_def]at h
  cases hx:f x with
  |none=>rw[hx]at h;cases h
  |some b=>
   rw[hx]at h
   simp only[Option.bind_some]at h
   cases hl:l.mapM f with
   |none=>rw[hl]at h;cases h
   |some r'=>
    rw[hl]at h
    simp only[Option.bind_some,Option.some.injEq]at h
    subst h
    cases i with
    |zero=>simp at ha;subst ha;exact ⟨b,rfl,hx⟩
    |succ i=>
     simp at ha
     obtain ⟨c,h1,h2⟩:=jBc hl i a ha
     exact ⟨c,by simpa using h1,h2⟩
theorem K7 {e:TypeId} {n:Nat}:∀ {l:List (DataW H)} {d:DataW H},d∈l→n∈d.weights P e→n∈DataW.weightsAll P e l
 |[],d,h,_=>by cases h
 |x::l,d,h,hn=>by
  unfold DataW.weightsAll
  rcases List.mem_cons.1 h with rfl|h
  ·exact List.mem_append_left _ hn
  ·exact List.mem_append_right _ (K7 h hn)
theorem Sized.slice {t e:TypeId} {elems spare:List (DataW H)} (h:Sized P t (.slice elems spare)) (ht:P.underlying t=some (.slice e)):elems.length*P.bytesOf e≤reachBytes∧∀d∈elems,Sized P e d:=by
 unfold Sized at h
 simp only[DataW.weights,ht]at h
 constructor
 ·have h1:=h _ (List.mem_cons_self ..)
  exact Nat.le_trans (Nat.mul_le_mul_right _ (Nat.le_add_right _ _)) h1
 ·exact fun d hd n hn=>h n (List.mem_cons_of_mem _ (List.mem_append_left _ (K7 hd hn)))
theorem ZJ.slice {t e:TypeId} {α:Type} {E:α→List Value} {good:α→Prop} {sz:Nat} (ht:P.underlying t=some (.slice e)) (hc:P.cellsOf e=sz) (hpos:0<sz) (hE:∀a,(E a).length=sz) (he:ZJ enc P w e E good):
  ZJ enc P w t (fun p:Value×List α=>[p.1]) (fun p=>Sl w p.1 (cellsOf E p.2) p.2.length∧p.2.length*P.bytesOf e≤reachBytes∧∀a∈p.2,good a):=by
 intro fuel cs x h hz
 cases fuel with
 |zero=>cases h
 |succ fuel=>
  unfold DataW.trod at h
  simp only[ht]at h
  split at h
  all_goals first
   |cases h;done
   |(rename_i h1;cases h1;done)
   |skip
  ·exact ⟨(.slice none 0 0,[]),rfl,Sl.nil w,by simp,fun a ha=>by cases ha⟩
  ·rename_i e0 a len cap h1
   cases h1
   split at h
   ·rename_i hb
    rw[hc]at h
    cases hm:(List.range len).mapM (fun i=>(w.cells? 0 (a.add (i*sz)) sz).bind (DataW.trod enc P w 0 (fun _=>true) true fuel e))with
    |none=>rw[hm]at h;cases h
    |some r=>
     rw[hm]at h
     simp only[Option.bind_some,if_true]at h
     cases hm2:(List.range (cap-len)).mapM (fun j=>(w.cells? 0 (a.add ((len+j)*sz)) sz).bind (DataW.trod enc P w 0 (fun _=>true) true fuel e))with
     |none=>rw[hm2]at h;cases h
     |some r2=>
     rw[hm2]at h
     simp only[Option.map_some,Option.some.injEq]at h
     subst h
     obtain ⟨hz1,hz2⟩:=Sized.slice hz ht
     have hrl:r.length=len:=by
      have:=jBc hm
      have key:∀ {α β:Type} {f:α→Option β} {l:List α} {r:List β},l.mapM f=some r→r.length=l.length:=by
       intro α β f l
       induction l with
       |nil=>intro r h;simp at h;subst h;rfl
       |cons x l ih=>
        intro r h
        simp only[List.mapM_cons,Option.bind_eq_bind,Option.pure_def]at h
        cases hx:f x with
        |none=>rw[hx]at h;cases h
        |some b=>
         rw[hx]at h
         simp only[Option.bind_some]at h
         cases hl:l.mapM f with
         |none=>rw[hl]at h;cases h
         |some r'=>
          rw[hl]at h
          simp only[Option.bind_some,Option.some.injEq]at h
          subst h
          simp[ih hl]
      rw[key hm];simp
     rw[List.length_map,hrl]at hz1
     have:∀i,i<len→∃b:α,good b∧∀(j:Nat) u,(E b)[j]? =some u→w.cell? ((a.add (i*sz)).add j)=some u:=by
      intro i hi
      obtain ⟨y,hy1,hy⟩:=jBc hm i i (by simp[hi])
      have hzy:Sized P e y.1:=hz2 _ (List.mem_map.2 ⟨y,List.mem_of_getElem? hy1,rfl⟩)
      cases hcs:w.cells? 0 (a.add (i*sz)) sz with
      |none=>rw[hcs]at hy;cases hy
      |some cs=>
       rw[hcs]at hy
       obtain ⟨b,rfl,hg⟩:=he fuel cs y hy hzy
       exact ⟨b,hg,(jJ0 hcs).2⟩
     have hlist:∀n,n≤len→∃l:List α,l.length=n∧(∀ b∈l,good b)∧∀(i:Nat) b,l[i]? =some b→∀(j:Nat) u,(E b)[j]? =some u→w.cell? ((a.add (i*sz)).add j)=some u:=by
      intro n
      induction n with
      |zero=>intro _;exact ⟨[],rfl,(fun b hb=>by cases hb),fun i b hb=>by simp at hb⟩
      |succ n ih=>
       intro hn
       obtain ⟨l,h1,h2,h3⟩:=ih (by omega)
       obtain ⟨b,g1,g2⟩:=this n (by omega)
       refine ⟨l++[b],by simp[h1],fun c hc=>?_,fun i c hc=>?_⟩
       ·rcases List.mem_append.1 hc with hc|hc
        ·exact h2 c hc
        ·simp at hc;subst hc;exact g1
       ·by_cases hi:i<l.length
        ·rw [List.getElem?_append_left hi]at hc;exact h3 i c hc
        ·have:i=n:=by have:=(List.getElem?_eq_some_iff.1 hc).1;simp at this;omega
         subst this
         rw[List.getElem?_append_right (by omega),h1]at hc
         simp at hc;subst hc;exact g2
     obtain ⟨l,h1,h2,h3⟩:=hlist len (Nat.le_refl _)
     refine ⟨(.slice (some a) len cap,l),rfl,⟨?_,some a,cap,by simp[h1],by rw[h1];exact hb.2.1⟩,by rw[h1];exact hz1,h2⟩
     by_cases h0:len=0
     ·subst h0
      have:l=[]:=List.eq_nil_of_length_eq_zero h1
      subst this
      exact .inl ⟨.inr ⟨a,cap,rfl⟩,rfl,rfl⟩
     ·obtain ⟨b,off,spot⟩:=a
      obtain ⟨b0,hb0⟩:=jJ (show 0<l.length by omega)
      obtain ⟨u0,hu0⟩:=jJ (show 0<(E b0).length by rw[hE];exact hpos)
      have hc0:=h3 0 b0 hb0 0 u0 hu0
      have hspot:spot=none:=by simpa[Addr.add]using World.cell?_spot hc0
      subst hspot
      have hadd:∀b off j,(⟨b,off,none⟩:Addr).add j=⟨b,off+j,none⟩:=fun b off j=>by unfold Addr.add;split<;>simp_all
      refine .inr ⟨b,off,cap,by simp[h1],fun j u hu=>?_⟩
      have hjl:j<(cellsOf E l).length:=(List.getElem?_eq_some_iff.1 hu).1
      rw[jC hE,h1]at hjl
      have hdiv:j / sz<len:=Nat.div_lt_of_lt_mul (by rw[Nat.mul_comm];exact hjl)
      have hmod:j%sz<sz:=Nat.mod_lt _ hpos
      obtain ⟨c,hc⟩:=jJ (show j / sz<l.length by omega)
      obtain ⟨u',hu'⟩:=jJ (show j%sz<(E c).length by rw[hE];exact hmod)
      have hj:j / sz*sz+j%sz=j:=by rw[Nat.mul_comm];exact Nat.div_add_mod j sz
      have hg:=jH hE hc (j%sz) u' hu'
      rw[hj,hu]at hg
      cases hg
      have:=h3 _ c hc _ u hu'
      rw[hadd,hadd,Nat.add_assoc,hj]at this
      exact this
   ·cases h
theorem Sized.of_each {ts:List TypeId} {ds:List (DataW H)} {j:Nat} {t:TypeId} {d:DataW H} (h:(DataW.weightsEach P ts ds).all (·≤reachBytes)=true) (ht:ts[j]? =some t) (hd:ds[j]? =some d):Sized P t d:=fun n hn=>by
 have:=List.all_eq_true.1 h _ (DataW.weights_mem_each ht hd n hn)
 simpa using this
theorem ZJ.fields {t:TypeId} {fs:Array Field} (ht:P.underlying t=some (.struct fs)) {fuel:Nat} {cs:List Value} {x:DataW H×List MemPlace} (h:DataW.trod enc P w 0 (fun _=>true) true fuel t cs=some x) (hz:Sized P t x.1):
  cs.length=P.cellsOf t∧∀f∈fs.toList,∃fuel' y,DataW.trod enc P w 0 (fun _=>true) true fuel' f.type ((cs.drop f.offset).take (P.cellsOf f.type))=some y∧Sized P f.type y.1:=by
 cases fuel with
 |zero=>cases h
 |succ fuel=>
  unfold DataW.trod at h
  simp only[ht]at h
  split at h
  ·rename_i hl
   refine ⟨hl,fun f hf=>?_⟩
   cases hm:fs.toList.mapM (fun f=>DataW.trod enc P w 0 (fun _=>true) true fuel f.type ((cs.drop f.offset).take (P.cellsOf f.type)))with
   |none=>rw[hm]at h;cases h
   |some r=>
    rw[hm]at h
    simp only[Option.map_some,Option.some.injEq]at h
    subst h
    obtain ⟨i,hi⟩:=List.getElem?_of_mem hf
    obtain ⟨y,hy1,hy⟩:=jBc hm i f hi
    refine ⟨fuel,y,hy,fun n hn=>hz n ?_⟩
    simp only[DataW.weights,ht]
    exact DataW.weights_mem_each (j:=i) (by rw[List.getElem?_map,hi];rfl) (by rw[List.getElem?_map,hy1];rfl) n hn
  ·cases h
end
end Go.GX
namespace Go.Proofs.YtgfdoognildoeaaGreat
open Go.GX Go.RowKit
attribute [local irreducible] Calls Run jZ jf JK HR HL HD jT jG JY Rd jK jY
open Nd
open Go.ChangeShapes Go.WideShapes
variable {H : Type} {enc : TypeId × Value → H} {W : World}
theorem jDZ {w:World} {v:Value} {cs:List Value} {n:Nat} (h:Sl w v cs n):∃x:SV,v=sv x n:=by
 obtain ⟨_,a,c,e,_⟩:=h
 exact ⟨(a,c),e⟩
theorem opZ22:ZJ enc Tryz.prog W 22 (fun p:Value×List Int=>[p.1]) (fun p=>Sl W p.1 (cellsOf iC p.2) p.2.length∧p.2.length*Tryz.prog.bytesOf 3≤reachBytes∧∀a∈p.2,(Lit.int .i64 a).wf=true):=
 ZJ.slice (sz:=1) I (by kernel_rfl) (by decide) jAd (Opens.int rfl).z
end Go.Proofs.YtgfdoognildoeaaGreat
namespace Go.Proofs.YtgfdoognildoeaaGreat
open Go.GX Go.RowKit
attribute [local irreducible] Calls Run jZ jf JK HR HL HD jT jG JY Rd jK jY
open Nd
theorem fn24:IsFn Tryz.prog 24:=⟨⟨_,_,Tryz.func24,rfl,by decide⟩⟩
theorem fn26:IsFn Tryz.prog 26:=⟨⟨_,_,Tryz.func26,rfl,by decide⟩⟩
theorem fn29:IsFn Tryz.prog 29:=⟨⟨_,_,Tryz.func29,rfl,by decide⟩⟩
theorem jJW {t:Int} {xs:List (NV×Nd)} {source target:Int} {ur:Bool} {text:By} (h:Me.idx (nds xs) source=none):Me.Zt ⟨t,nds xs⟩ source target ur text=(Me.jCn,8):=by
 unfold Me.Zt;simp only;rw[h]
theorem jJV {t:Int} {xs:List (NV×Nd)} {source target:Int} {ur:Bool} {text:By} {i:Nat} {V:NV} {n:Nd} (h:Me.idx (nds xs) source=some i) (hx:xs[i]? =some (V,n)):
  Me.Zt ⟨t,nds xs⟩ source target ur text=if (send n target ur text).2≠0 then (Me.jCn,(send n target ur text).2)else (⟨t,(nds xs).set i (send n target ur text).1⟩,0):=by
 unfold Me.Zt;simp only;rw[h];simp only;rw[jAy hx]
theorem jJU {t:Int} {xs:List (NV×Nd)} {a:Int} (h:Me.idx (nds xs) a=none):Me.Z8 ⟨t,nds xs⟩ a=(⟨t,nds xs⟩,[]):=by unfold Me.Z8;simp only;rw[h]
theorem jJT {t:Int} {xs:List (NV×Nd)} {a:Int} {i:Nat} {V:NV} {n:Nd} (h:Me.idx (nds xs) a=some i) (hx:xs[i]? =some (V,n)):Me.Z8 ⟨t,nds xs⟩ a=(⟨t,(nds xs).set i (take n).1⟩,(take n).2):=by
 unfold Me.Z8;simp only;rw[h];simp only;rw[jAy hx]
theorem jD0 {t:Int} {xs:List (NV×Nd)} {a:Int} (h:Me.idx (nds xs) a=none):Me.Jr ⟨t,nds xs⟩ a=⟨t,nds xs⟩:=by unfold Me.Jr;simp only;rw[h]
theorem jDz {t:Int} {xs:List (NV×Nd)} {a:Int} {i:Nat} {V:NV} {n:Nd} (h:Me.idx (nds xs) a=some i) (hx:xs[i]? =some (V,n)):Me.Jr ⟨t,nds xs⟩ a=⟨t,(nds xs).set i (Me.again n a)⟩:=by
 unfold Me.Jr;simp only;rw[h];simp only;rw[jAy hx]
theorem jLb {xs ys:List (NV×Nd)} {G G2:List Chunk} {i:Nat} {V:NV} {n:Nd} (hN:nds ys=nds xs) (hO:∀y∈ys,Own y.1 G y.2) (hG:∀x∈xs,GdN x.2) (hO2:Own V G2 n) (hn:GdN n):
  nds (ys.set i (V,n))=(nds xs).set i n∧(∀ y∈ys.set i (V,n),Own y.1 [jB G2,jB G] y.2)∧∀y∈ys.set i (V,n),GdN y.2:=by
 have hy:∀y∈ys,GdN y.2:=fun y hy=>by
  have:y.2∈nds ys:=List.mem_map.2 ⟨y,hy,rfl⟩
  rw[hN]at this
  obtain ⟨x,hx,e⟩:=List.mem_map.1 this
  rw[← e];exact hG x hx
 refine ⟨by rw[jP0,hN],fun y hm=>?_,fun y hm=>?_⟩
 ·rcases List.mem_or_eq_of_mem_set hm with hm|rfl
  ·exact fun w2 hg2=>hO y hm w2 (jM hg2 (by simp))
  ·exact fun w2 hg2=>hO2 w2 (jM hg2 (by simp))
 ·rcases List.mem_or_eq_of_mem_set hm with hm|rfl
  ·exact hy y hm
  ·exact hn
theorem jRc {xs ys:List (NV×Nd)} (hN:nds ys=nds xs) (hG:∀x∈xs,GdN x.2):∀y∈ys,GdN y.2:=fun y hy=>by
 have:y.2∈nds ys:=List.mem_map.2 ⟨y,hy,rfl⟩
 rw[hN]at this
 obtain ⟨x,hx,e⟩:=List.mem_map.1 this
 rw[← e];exact hG x hx
theorem jGm (v:Value) (ys:List (NV×Nd)) (i:Nat) (x:NV×Nd):cNd v (ys.set i x)=jG v 62 13 ys.length (cellsOf Zg (ys.set i x)):=by
 show jG v _ 13 (ys.set i x).length _=_
 rw[List.length_set]
theorem jLW (xs:List (NV×Nd)) (t source target:Int) (ur:Bool) (text:By) (v:Value) (w:World) (h:OkL w v xs) (hg:∀x∈xs,GdN x.2) (hl:xs.length≤1000) (htx:text.length≤9223372036854775807):
  Calls Tryz.prog 24 #[meV t v,.int .i64 source,.int .i64 target,.bool ur,str text] w fun e w'=>∃x:SV×List (NV×Nd)×List Chunk,e= .returned (.tuple ⟨[meV (Me.Zt ⟨t,nds xs⟩ source target ur text).1.tick (sv x.1 x.2.1.length),.int .i64 (Me.Zt ⟨t,nds xs⟩ source target ur text).2]⟩)∧jHm x (Me.Zt ⟨t,nds xs⟩ source target ur text).1.nodes∧Sat (base w) [cNd (sv x.1 x.2.1.length) x.2.1,jB x.2.2] w':=by
 refine jD Tryz.func24 I (Nat.le_of_ble_eq_true I) ?_
 refine HR.sub (σ':=[(0,meV t v),(1,.int .i64 source),(2,.int .i64 target),(3,.bool ur),(4,str text)]) ⟨I,I,I,I,I,trivial⟩ ?_
 refine HR.ctl I ?_
 refine HR.region ?_
 refine HL.box I I ?_
 intro b5
 refine HL.alloc I I ?_
 intro b10
 repeat' (first|refine zh ?_|intro (bk:Nat))
 rcases kC xs source with ⟨e1,e2⟩|⟨i,⟨V,n⟩,e1,e2,hx,hxa⟩
 ·rw [jJW e2]
  refine HL.jR (r:= .int .i64 (-1)) jMD I I (fun w1 hw1=>by rw[← e1];exact Jj xs source v w1 (h.s.ext hw1.jE) (by omega)) ?_
  repeat' (first|refine zh ?_|intro (bk:Nat))
  refine HR.ret Tryz.func24 I [_,_] (fun w hw=>⟨⟨_,rfl,jS hw 0 I I I I rfl⟩,rfl,trivial⟩) ?_
  exact fun w' hw=>⟨((none,0),[],[]),rfl,mk_zero,jAN hw⟩
 have hil:i<xs.length:=(List.getElem?_eq_some_iff.1 hx).1
 have hok:OkN w V n:=h.r _ (List.mem_of_getElem? hx)
 have hgn:GdN n:=hg _ (List.mem_of_getElem? hx)
 rw[jJV e2 hx]
 obtain ⟨S,hS⟩:∃S,S=send n target ur text:=⟨_,rfl⟩
 rw[← hS]
 refine HL.jR (r:= .int .i64 (i:Int)) jMD I I (fun w1 hw1=>by rw[← e1];exact Jj xs source v w1 (h.s.ext hw1.jE) (by omega)) ?_
 repeat' (first|refine zh ?_|refine HL.JA (Rd.arg h.s) Jm i I I I I hil ?_|refine HL.JW (us:=ndC V n) (Rd.arg h.s) I I I I (by simp) I (jH jm hx) ?_|intro (bk:Nat))
 refine HL.JC (r:=fun x:NV×List Chunk=> .tuple ⟨[.agg ⟨ndC x.1 S.1⟩,.int .i64 S.2]⟩) (Q:=fun x=>Own x.1 x.2 S.1) (G:=fun x=>[jB x.2]) fn53 I I (fun w1 hw1=>by rw[hS];exact jK5 V n target ur text w1 (hok.ext hw1.jE) hgn.sm htx) ?_
 rintro ⟨V2,G2⟩ hO2
 have hO2:Own V2 G2 S.1:=hO2
 repeat' (first|refine zh ?_|intro (bk:Nat))
 refine HR.cond I (fun h2=>?_) (fun h2=>?_)
 ·have h2:S.2≠0:=by have h2:(S.2 != 0)=true:=h2;simpa using h2
  rw[if_pos h2]
  repeat' (first|refine zh ?_|intro (bk:Nat))
  refine HR.ret Tryz.func24 I [_,_] (fun w hw=>⟨⟨_,rfl,jS hw 2 I I I I rfl⟩,rfl,trivial⟩) ?_
  exact fun w' hw=>⟨((none,0),[],[]),rfl,mk_zero,jAN hw⟩
 have h2:S.2=0:=by have h2:(S.2 != 0)=false:=h2;simpa using h2
 have hgS:GdN S.1:=by rw[hS]at h2 ⊢;exact hgn.send h2
 rw[if_neg (by rw[h2];decide)]
 generalize bk=b13
 repeat' (first|refine zh ?_|intro (bk:Nat))
 refine HL.JC (r:=fun x:SV×List (NV×Nd)×List Chunk=>meV t (sv x.1 x.2.1.length)) (Q:=fun x=>MkL x (nds xs)) (G:=fun x=>[cNd (sv x.1 x.2.1.length) x.2.1,jB x.2.2]) fn54 I I (fun w1 hw1=>jA6 t v xs w1 (h.ext hw1.jE) (fun x hx=>(hg x hx).sm) hl) ?_
 rintro ⟨y,ys,G⟩ ⟨hN,hO⟩
 have hN:nds ys=nds xs:=hN
 have hO:∀z∈ys,Own z.1 G z.2:=hO
 have hyl:ys.length=xs.length:=by rw[← JG,hN,JG]
 have cy:(cellsOf Zg ys).length=ys.length*13:=jC jm _
 obtain ⟨z,hz⟩:=jJ (show i<ys.length by omega)
 obtain ⟨k1,k2,k3⟩:=jLb (i:=i) hN hO hg hO2 hgS
 repeat' (first|refine zh ?_|refine HL.JA (Rd.own 1 I) Jm i I I I I (show i<ys.length by omega) ?_|refine HL.zP (us:=ndC V2 S.1) (j:=i*13) 1 I I I I I I I (by rw[cy];show i*13+13≤_;omega) (by simp) ?_|intro (bk:Nat))
 refine HR.ret Tryz.func24 I [_,_] (fun w hw=>⟨⟨_,rfl,jS hw 5 I I I I rfl⟩,rfl,trivial⟩) ?_
 refine fun w' hw=>⟨(y,ys.set i (V2,S.1),[jB G2,jB G]),by rw[show (ys.set i (V2,S.1)).length=ys.length from List.length_set];rfl,⟨⟨k1,k2⟩,k3⟩,?_⟩
 show Sat (base w) [cNd (sv y (ys.set i (V2,S.1)).length) (ys.set i (V2,S.1)),jB [jB G2,jB G]] w'
 rw[jGm,show (ys.set i (V2,S.1)).length=ys.length from List.length_set]
 exact Ent.trans (Ent.pick (H':=[jB G2,jB G]++[_]) [4,2,1] I I) (Ent.trans Ent.group (Ent.trans (Ent.pick [1,0] I I) (Ent.JV I (Jg (us:=ndC V2 S.1) (i:=0) jm hz I (show 0+13≤13 by decide))))) w' hw
theorem jLV (xs:List (NV×Nd)) (t a:Int) (v:Value) (w:World) (h:OkL w v xs) (hg:∀x∈xs,GdN x.2) (hl:xs.length≤1000):
  Calls Tryz.prog 26 #[meV t v,.int .i64 a] w fun e w'=>∃x:(SV×List (NV×Nd)×List Chunk)×Value,e= .returned (.tuple ⟨[meV t (sv x.1.1 x.1.2.1.length),x.2]⟩)∧jHm x.1 (Me.Z8 ⟨t,nds xs⟩ a).1.nodes∧Sat (base w) [cNd (sv x.1.1 x.1.2.1.length) x.1.2.1,jB x.1.2.2,cDe x.2 (Me.Z8 ⟨t,nds xs⟩ a).2] w':=by
 refine jD Tryz.func26 I (Nat.le_of_ble_eq_true I) ?_
 refine HR.sub (σ':=[(0,meV t v),(1,.int .i64 a)]) ⟨I,I,trivial⟩ ?_
 refine HR.ctl I ?_
 refine HR.region ?_
 refine HL.box I I ?_
 intro b2
 refine HL.alloc I I ?_
 intro b4
 repeat' (first|refine zh ?_|intro (bk:Nat))
 refine HL.JC (r:=fun x:SV×List (NV×Nd)×List Chunk=>meV t (sv x.1 x.2.1.length)) (Q:=fun x=>MkL x (nds xs)) (G:=fun x=>[cNd (sv x.1 x.2.1.length) x.2.1,jB x.2.2]) fn54 I I (fun w1 hw1=>jA6 t v xs w1 (h.ext hw1.jE) (fun x hx=>(hg x hx).sm) hl) ?_
 rintro ⟨y,ys,G⟩ ⟨hN,hO⟩
 have hN:nds ys=nds xs:=hN
 have hO:∀z∈ys,Own z.1 G z.2:=hO
 have hyl:ys.length=xs.length:=by rw[← JG,hN,JG]
 have cy:(cellsOf Zg ys).length=ys.length*13:=jC jm _
 repeat' (first|refine zh ?_|intro (bk:Nat))
 generalize bk=b6
 rcases kC xs a with ⟨e1,e2⟩|⟨i,⟨V,n⟩,e1,e2,hx,hxa⟩
 ·rw [jJU e2]
  refine HL.jR (r:= .int .i64 (-1)) jMD I I (fun w1 hw1=>by rw[← e1];exact Jj xs a v w1 (h.s.ext hw1.jE) (by omega)) ?_
  repeat' (first|refine zh ?_|intro (bk:Nat))
  refine HR.ret Tryz.func26 I [_,_] (fun w hw=>⟨⟨_,rfl,jS hw 3 I I I I rfl⟩,rfl,trivial⟩) ?_
  refine fun w' hw=>⟨((y,ys,G),.slice none 0 0),rfl,⟨⟨hN,hO⟩,jRc hN hg⟩,?_⟩
  exact Ent.pick [1,2,0] I I w' (Sat.ZC (hw.pick (H':=[cNd (sv y ys.length) ys,jB G]) [1,2] I I) 65 2)
 have hil:i<xs.length:=(List.getElem?_eq_some_iff.1 hx).1
 have hok:OkN w V n:=h.r _ (List.mem_of_getElem? hx)
 have hgn:GdN n:=hg _ (List.mem_of_getElem? hx)
 rw[jJT e2 hx]
 obtain ⟨K,hK⟩:∃K,K=take n:=⟨_,rfl⟩
 have hgK:GdN K.1:=by rw[hK];exact hgn.take
 have hKl:K.2.length≤1000:=by
  rw[hK]
  show (order n).inbox.length≤1000
  exact Nat.le_trans (List.length_take_le _ _) (by decide)
 rw[← hK]
 refine HL.jR (r:= .int .i64 (i:Int)) jMD I I (fun w1 hw1=>by rw[← e1];exact Jj xs a v w1 (h.s.ext hw1.jE) (by omega)) ?_
 repeat' (first|refine zh ?_|refine HL.JA (Rd.arg h.s) Jm i I I I I hil ?_|refine HL.JW (us:=ndC V n) (Rd.arg h.s) I I I I (by simp) I (jH jm hx) ?_|intro (bk:Nat))
 refine HL.JC (r:=fun x:(NV×SV)×List Chunk=> .tuple ⟨[.agg ⟨ndC x.1.1 K.1⟩,sv x.1.2 K.2.length]⟩) (Q:=fun x=>Own x.1.1 x.2 K.1∧∀w2,(jB x.2).p w2→Sl w2 (sv x.1.2 K.2.length) (cellsOf deC K.2) K.2.length) (G:=fun x=>[jB x.2]) fn58 I I (fun w1 hw1=>by rw[hK];exact jK2 V n w1 (hok.ext hw1.jE) hgn.sm) ?_
 rintro ⟨⟨V2,vk⟩,G2⟩ ⟨hO2,hI2⟩
 have hO2:Own V2 G2 K.1:=hO2
 have hI2:∀w2,(jB G2).p w2→Sl w2 (sv vk K.2.length) (cellsOf deC K.2) K.2.length:=hI2
 obtain ⟨z,hz⟩:=jJ (show i<ys.length by omega)
 obtain ⟨k1,k2,k3⟩:=jLb (i:=i) hN hO hg hO2 hgK
 repeat' (first|refine zh ?_|refine HL.JA (Rd.own 3 I) Jm i I I I I (show i<ys.length by omega) ?_|refine HL.zP (us:=ndC V2 K.1) (j:=i*13) 3 I I I I I I I (by rw[cy];show i*13+13≤_;omega) (by simp) ?_|intro (bk:Nat))
 refine HR.j4 [(0,true),(1,true),(2,false),(3,false),(4,true)] [2] I I Jc (by kernel_rfl) ?_
 repeat' (first|refine zd ?_|fail)
 refine HD.one I ?_
 refine HL.JQ fn59 I I (fun w1 hw1=>jAH K.2 _ w1 (hI2 w1 (Sat.grp 1 hw1 I)) hKl) ?_
 intro vd
 refine HL.back [3] I I ?_
 refine HD.one I ?_
 repeat' (first|refine zn ?_|intro (bk:Nat))
 refine HL.back [3] I I ?_
 repeat' (first|refine zd ?_|fail)
 refine HD.nil ?_
 repeat' (first|refine zh ?_|intro (bk:Nat))
 refine HR.ret Tryz.func26 I [_,_] (fun w hw=>⟨⟨_,rfl,jS hw 6 I I I I rfl⟩,rfl,trivial⟩) ?_
 refine fun w' hw=>⟨((y,ys.set i (V2,K.1),[jB G2,jB G]),vd),by rw[show (ys.set i (V2,K.1)).length=ys.length from List.length_set];rfl,⟨⟨k1,k2⟩,k3⟩,?_⟩
 show Sat (base w) [cNd (sv y (ys.set i (V2,K.1)).length) (ys.set i (V2,K.1)),jB [jB G2,jB G],cDe vd K.2] w'
 rw[jGm,show (ys.set i (V2,K.1)).length=ys.length from List.length_set]
 exact Ent.trans (Ent.pick (H':=[jB G2,jB G]++[_,cDe vd K.2]) [2,5,4,0] I I) (Ent.trans Ent.group (Ent.trans (Ent.pick [1,0,2] I I) (Ent.JV I (Jg (us:=ndC V2 K.1) (i:=0) jm hz I (show 0+13≤13 by decide))))) w' hw
end Go.Proofs.YtgfdoognildoeaaGreat
namespace Go.Proofs.YtgfdoognildoeaaGreat
open Go.GX Go.RowKit
attribute [local irreducible] Calls Run jZ jf JK HR HL HD jT jG JY Rd jK jY
open Nd
theorem jQ3 {w:World} {v:Value} {e sz n:Nat} {xs:List Value} (h:(jG v e sz n xs).p w):Sl w v xs n:=by unfold jG at h;exact (show Vw w v e sz n xs from h).sl
theorem jN3 (a:Int) {l t:List Ro} {k:Nat} {r:Ro} (hr:l[k]? =some r):Me.jCp a (l.take (k+1)) t=if r.nx≠a∧r.nx≠255 then jH6 (Me.jCp a (l.take k) t) a r.nx else Me.jCp a (l.take k) t:=by
 unfold Me.jCp
 rw[jN hr,List.foldl_append];rfl
theorem jEz (xs:List (NV×Nd)) (t a:Int) (v:Value) (w:World) (h:OkL w v xs) (hg:∀x∈xs,GdN x.2) (hl:xs.length≤1000):
  Calls Tryz.prog 29 #[meV t v,.int .i64 a] w fun e w'=>∃x:SV×List (NV×Nd)×List Chunk,e= .returned (meV t (sv x.1 x.2.1.length))∧jHm x (Me.Jr ⟨t,nds xs⟩ a).nodes∧Sat (base w) [cNd (sv x.1 x.2.1.length) x.2.1,jB x.2.2] w':=by
 refine jD Tryz.func29 I (Nat.le_of_ble_eq_true I) ?_
 refine HR.sub (σ':=[(0,meV t v),(1,.int .i64 a)]) ⟨I,I,trivial⟩ ?_
 refine HR.ctl I ?_
 refine HR.region ?_
 refine HL.box I I ?_
 intro b2
 refine HL.alloc I I ?_
 intro b4
 repeat' (first|refine zh ?_|intro (bk:Nat))
 refine HL.JC (r:=fun x:SV×List (NV×Nd)×List Chunk=>meV t (sv x.1 x.2.1.length)) (Q:=fun x=>MkL x (nds xs)) (G:=fun x=>[cNd (sv x.1 x.2.1.length) x.2.1,jB x.2.2]) fn54 I I (fun w1 hw1=>jA6 t v xs w1 (h.ext hw1.jE) (fun x hx=>(hg x hx).sm) hl) ?_
 rintro ⟨y,ys,G⟩ ⟨hN,hO⟩
 have hN:nds ys=nds xs:=hN
 have hO:∀z∈ys,Own z.1 G z.2:=hO
 have hyl:ys.length=xs.length:=by rw[← JG,hN,JG]
 have cy:(cellsOf Zg ys).length=ys.length*13:=jC jm _
 repeat' (first|refine zh ?_|intro (bk:Nat))
 generalize bk=b5
 rcases kC xs a with ⟨e1,e2⟩|⟨i,⟨V,n⟩,e1,e2,hx,hxa⟩
 ·rw [jD0 e2]
  refine HL.jR (r:= .int .i64 (-1)) jMD I I (fun w1 hw1=>by rw[← e1];exact Jj xs a v w1 (h.s.ext hw1.jE) (by omega)) ?_
  repeat' (first|refine zh ?_|intro (bk:Nat))
  refine HR.ret Tryz.func29 I [_] (fun w hw=>⟨⟨_,rfl,jS hw 3 I I I I rfl⟩,trivial⟩) ?_
  exact fun w' hw=>⟨(y,ys,G),rfl,⟨⟨hN,hO⟩,jRc hN hg⟩,hw.pick [1,2] I rfl⟩
 have hil:i<xs.length:=(List.getElem?_eq_some_iff.1 hx).1
 have hok:OkN w V n:=h.r _ (List.mem_of_getElem? hx)
 have hgn:GdN n:=hg _ (List.mem_of_getElem? hx)
 have hta:n.table.length≤1000:=hgn.sm.ta
 rw[jDz e2 hx]
 refine HL.jR (r:= .int .i64 (i:Int)) jMD I I (fun w1 hw1=>by rw[← e1];exact Jj xs a v w1 (h.s.ext hw1.jE) (by omega)) ?_
 repeat' (first|refine zh ?_|refine HL.JA (Rd.arg h.s) Jm i I I I I hil ?_|refine HL.JW (us:=ndC V n) (Rd.arg h.s) I I I I (by simp) I (jH jm hx) ?_|intro (bk:Nat))
 generalize bk=b7
 refine HL.JQ fn61 I I (fun w1 hw1=>ku n.table _ w1 (hok.ta.ext hw1.jE) hta) ?_
 intro v1
 repeat' (first|refine zh ?_|intro (bk:Nat))
 refine HR.loop (ι:=Nat×Value) (fun x=>x.1≤n.table.length) (fun x=>[(1,.int .i64 a),(4,ptr b4),(5,ptr b5),(6,.int .i64 (i:Int)),(7,ptr b7),(8,x.2),(30,sv V.ta n.table.length),(31,.int .i64 (n.table.length:Int)),(32,.int .i64 (x.1:Int))]) (fun x=>[jG x.2 94 4 (Me.jCp a (n.table.take x.1) n.table).length (cellsOf roC (Me.jCp a (n.table.take x.1) n.table)),jT b7 (ndC V n) 62,meB b5 t (sv y ys.length),jT b4 meZ 26,cNd (sv y ys.length) ys,jB G]) (fun x=>n.table.length-x.1) (0,v1) (Nat.zero_le _) ⟨I,I,I,I,I,I,I,I,I,trivial⟩ (Ent.pick [0,1,2,5,3,4] I I) ?_
 rintro ⟨k,vt⟩ hk ih
 have hk:k≤n.table.length:=hk
 obtain ⟨T,hT⟩:∃T,T=Me.jCp a (n.table.take k) n.table:=⟨_,rfl⟩
 have hTl:T.length≤1000:=by rw[hT];exact jEH a _ _ hta
 refine HR.ent (H':=[jG vt 94 4 T.length (cellsOf roC T),jT b7 (ndC V n) 62,meB b5 t (sv y ys.length),jT b4 meZ 26,cNd (sv y ys.length) ys,jB G]) (by rw[hT];exact Ent.refl) ?_
 repeat' (first|refine zh ?_|intro (bk:Nat))
 refine HR.cond I (fun h2=>?_) (fun h2=>?_)
 ·have hlt:k<n.table.length:=by have:(k:Int)<(n.table.length:Int):=of_decide_eq_true h2;omega
  obtain ⟨r,hr⟩:=jJ hlt
  have hst:=jN3 a (t:=n.table) hr
  rw[← hT]at hst
  repeat' (first|refine zh ?_|refine HL.JA (Rd.arg hok.ta) Je k I I I I hlt ?_|refine HL.JW (us:=roC r) (Rd.arg hok.ta) I I I I (by simp) I (jH jq hr) ?_|intro (bk:Nat))
  repeat' (first|refine zh ?_|apply zb ?_ ?_|exact zc|(refine zi fun hb=>?_;try simp at hb)|intro (bk:Nat))
  refine HR.cond I (fun h3=>?_) (fun h3=>?_)
  ·have h3:r.nx≠a∧r.nx≠255:=by have h3:((r.nx != a)&&(r.nx != 255))=true:=h3;simpa using h3
   rw[if_pos h3]at hst
   repeat' (first|refine zh ?_|intro (bk:Nat))
   refine HL.JQ fn62 I I (fun w1 hw1=>jHE T a r.nx vt w1 ((Rd.own 1 rfl).at hw1) hTl) ?_
   intro v2
   repeat' (first|refine zh ?_|intro (bk:Nat))
   exact ih (k+1,v2) _ _ hlt (by show n.table.length-(k+1)<n.table.length-k;omega) ⟨I,I,I,I,I,I,I,I,I,trivial⟩ (Ent.trans (Ent.pick [0,3,4,5,6,7] I I) (Ent.JV (by show _=(Me.jCp a (n.table.take (k+1)) n.table).length;rw[hst]) (by show _=cellsOf roC (Me.jCp a (n.table.take (k+1)) n.table);rw[hst])))
  ·have h3:¬(r.nx≠a∧r.nx≠255):=by have h3:((r.nx != a)&&(r.nx != 255))=false:=h3;intro hh;simp[hh.1,hh.2]at h3
   rw[if_neg h3]at hst
   repeat' (first|refine zh ?_|intro (bk:Nat))
   exact ih (k+1,vt) _ _ hlt (by show n.table.length-(k+1)<n.table.length-k;omega) ⟨I,I,I,I,I,I,I,I,I,trivial⟩ (Ent.trans (Ent.pick [1,2,3,4,5,6] I I) (Ent.JV (by show _=(Me.jCp a (n.table.take (k+1)) n.table).length;rw[hst]) (by show _=cellsOf roC (Me.jCp a (n.table.take (k+1)) n.table);rw[hst])))
 have hke:k=n.table.length:=by have:¬(k:Int)<(n.table.length:Int):=of_decide_eq_false h2;omega
 rw[hke,List.take_length]at hT
 obtain ⟨A,hA⟩:∃A,A=Me.again n a:=⟨_,rfl⟩
 have hAT:A={ new a n.poll with seq:=n.seq,table:=T }:=by rw[hA,hT];rfl
 rw[← hA]
 repeat' (first|refine zh ?_|intro (bk:Nat))
 refine HL.JC (r:=fun x:NV×List Chunk=> .agg ⟨ndC x.1 (new a n.poll)⟩) (Q:=fun x=>Own x.1 x.2 (new a n.poll)) (G:=fun x=>[jB x.2]) fn36 I I (fun w1 hw1=>jHJ a n.poll w1) ?_
 rintro ⟨V2,G2⟩ hO2
 have hO2:Own V2 G2 (new a n.poll):=hO2
 refine HL.shape 1 I fun ac cc hv=>?_
 have hv:vt= .slice ac T.length cc:=hv
 subst hv
 obtain ⟨V3,hV3⟩:∃V3:NV,V3={ V2 with ta:=(ac,cc) }:=⟨_,rfl⟩
 have hO3:Own V3 [jG (.slice ac T.length cc) 94 4 T.length (cellsOf roC T),jB G2] A:=fun w2 hg2=>by
  have hn:=hO2 w2 (jM hg2 (by simp))
  have ht:Sl w2 (.slice ac T.length cc) (cellsOf roC T) T.length:=jQ3 hg2.1
  rw[hAT,hV3]
  exact ⟨ht,hn.li,hn.ou,hn.ch,hn.bo,hn.se,hn.pa,hn.ib,hn.eq⟩
 have hgA:GdN A:=by rw[hA];exact hgn.again a
 obtain ⟨z,hz⟩:=jJ (show i<ys.length by omega)
 obtain ⟨k1,k2,k3⟩:=jLb (i:=i) hN hO hg hO3 hgA
 repeat' (first|refine zh ?_|refine HL.JA (Rd.own 6 I) Jm i I I I I (show i<ys.length by omega) ?_|intro (bk:Nat))
 refine HL.ZU 63 (v':= .agg ⟨ndC V3 A⟩) I (by rw[hAT,hV3]) ?_
 refine HL.zP (us:=ndC V3 A) (j:=i*13) 6 I I I I I I I (by rw[cy];show i*13+13≤_;omega) (by simp) ?_
 repeat' (first|refine zh ?_|intro (bk:Nat))
 refine HR.ret Tryz.func29 I [_] (fun w hw=>⟨⟨_,rfl,jS hw 5 I I I I rfl⟩,trivial⟩) ?_
 refine fun w' hw=>⟨(y,ys.set i (V3,A),[jB [jG (.slice ac T.length cc) 94 4 T.length (cellsOf roC T),jB G2],jB G]),by rw[show (ys.set i (V3,A)).length=ys.length from List.length_set];rfl,⟨⟨k1,k2⟩,k3⟩,?_⟩
 show Sat (base w) [cNd (sv y (ys.set i (V3,A)).length) (ys.set i (V3,A)),jB [jB [jG (.slice ac T.length cc) 94 4 T.length (cellsOf roC T),jB G2],jB G]] w'
 rw[jGm,show (ys.set i (V3,A)).length=ys.length from List.length_set]
 exact Ent.trans (Ent.pick (H':=[jG (.slice ac T.length cc) 94 4 T.length (cellsOf roC T),jB G2]++[jB G,_]) [2,1,7,6] I I) (Ent.trans Ent.group (Ent.trans (Ent.pick (H':=[jB [jG (.slice ac T.length cc) 94 4 T.length (cellsOf roC T),jB G2],jB G]++[_]) [0,1,2] I I) (Ent.trans Ent.group (Ent.trans (Ent.pick [1,0] I I) (Ent.JV I (Jg (us:=ndC V3 A) (i:=0) jm hz I (show 0+13≤13 by decide))))))) w' hw
end Go.Proofs.YtgfdoognildoeaaGreat
namespace Go.Proofs.YtgfdoognildoeaaGreat
open Go.GX Go.RowKit
attribute [local irreducible] Calls Run jZ jf JK HR HL HD jT jG JY Rd jK jY
open Nd
abbrev ImpL (v v':Value) (xs ys:List (NV×Nd)) (G:List Chunk):Prop:=∀w2,OkL w2 v xs→(jB G).p w2→OkL w2 v' ys
abbrev RfL (v:Value) (xs:List (NV×Nd)) (x:SV×List (NV×Nd)×List Chunk) (l:List Nd):Prop:=nds x.2.1=l∧ImpL v (sv x.1 x.2.1.length) xs x.2.1 x.2.2
theorem jKq {y:SV} {xs:List (NV×Nd)}:RfL (sv y xs.length) xs (y,xs,[]) (nds xs):=⟨rfl,fun _ h _=>h⟩
end Go.Proofs.YtgfdoognildoeaaGreat
namespace Go.Proofs.YtgfdoognildoeaaGreat
open Go.GX Go.RowKit
attribute [local irreducible] Calls Run jZ jf JK HR HL HD jT jG JY Rd jK jY
open Nd
abbrev opC (o:Me.Op) (ve vo vn:Value):List Value:=[.int .i64 o.kind,.int .i64 o.n,.int .i64 o.m,.bool o.ur,str o.te,ve,vo,vn]
end Go.Proofs.YtgfdoognildoeaaGreat
namespace Go.Proofs.YtgfdoognildoeaaGreat
open Go.GX Go.RowKit
attribute [local irreducible] Calls Run jZ jf JK HR HL HD jT jG JY Rd jK jY
open Nd
open Go.ChangeShapes Go.WideShapes
variable {H : Type} {enc : TypeId × Value → H} {W : World}
theorem jRH:ZJ enc Tryz.prog W 206 edC (fun _=>True):=by
 intro fuel cs x h hz
 obtain ⟨hl,hf⟩:=ZJ.fields (fs:=_) I h hz
 have cT:Tryz.prog.cellsOf 206=2:=by kernel_rfl
 have cf0:Tryz.prog.cellsOf 3=1:=by kernel_rfl
 rw[cT]at hl
 obtain ⟨fu0,y0,h0,i0⟩:=hf _ (List.mem_cons_self ..)
 obtain ⟨fu1,y1,h1,i1⟩:=hf _ (List.mem_cons_of_mem _ (List.mem_cons_self ..))
 obtain ⟨a0,g0,b0⟩:=(Opens.int (k:= .i64) rfl).z fu0 _ _ h0 i0
 obtain ⟨a1,g1,b1⟩:=(Opens.int (k:= .i64) rfl).z fu1 _ _ h1 i1
 have e0:=parts_eq g0 (m:=1) (by simp[cf0]) (by simp[cf0])
 have e1:=parts_eq g1 (m:=2) (by simp[cf0]) (by simp[cf0])
 refine ⟨⟨a0,a1⟩,?_,trivial⟩
 simp only[List.drop_zero]at e0
 rw[e0,e1,List.drop_eq_nil_of_le (by omega)];rfl
theorem opZ32:ZJ enc Tryz.prog W 32 (fun p:Value×List Ed=>[p.1]) (fun p=>Sl W p.1 (cellsOf edC p.2) p.2.length∧p.2.length*Tryz.prog.bytesOf 206≤reachBytes∧∀a∈p.2,True):=
 ZJ.slice (sz:=2) I (by kernel_rfl) (by decide) jGg jRH
abbrev AirA:=(Value×Value×Value)×Me.Air
abbrev aiE (a:AirA):List Value:=[a.1.1,a.1.2.1,a.1.2.2]
structure AiOk (W:World) (a:AirA):Prop where
 e:Sl W a.1.1 (cellsOf edC a.2.e) a.2.e.length
 o:Sl W a.1.2.1 (cellsOf iC a.2.o) a.2.o.length
 n:Sl W a.1.2.2 (cellsOf iC a.2.n) a.2.n.length
theorem opZ34:ZJ enc Tryz.prog W 34 aiE (AiOk W):=by
 intro fuel cs x h hz
 obtain ⟨hl,hf⟩:=ZJ.fields (fs:=_) I h hz
 have cT:Tryz.prog.cellsOf 34=3:=by kernel_rfl
 have cf0:Tryz.prog.cellsOf 32=1:=by kernel_rfl
 have cf1:Tryz.prog.cellsOf 22=1:=by kernel_rfl
 rw[cT]at hl
 obtain ⟨fu0,y0,h0,i0⟩:=hf _ (List.mem_cons_self ..)
 obtain ⟨fu1,y1,h1,i1⟩:=hf _ (List.mem_cons_of_mem _ (List.mem_cons_self ..))
 obtain ⟨fu2,y2,h2,i2⟩:=hf _ (List.mem_cons_of_mem _ (List.mem_cons_of_mem _ (List.mem_cons_self ..)))
 obtain ⟨⟨v0,l0⟩,g0,s0,n0,q0⟩:=opZ32 fu0 _ _ h0 i0
 obtain ⟨⟨v1,l1⟩,g1,s1,n1,q1⟩:=opZ22 fu1 _ _ h1 i1
 obtain ⟨⟨v2,l2⟩,g2,s2,n2,q2⟩:=opZ22 fu2 _ _ h2 i2
 obtain ⟨z0,hz0⟩:=jDZ s0
 have hz0:v0=sv z0 l0.length:=hz0
 subst hz0
 obtain ⟨z1,hz1⟩:=jDZ s1
 have hz1:v1=sv z1 l1.length:=hz1
 subst hz1
 obtain ⟨z2,hz2⟩:=jDZ s2
 have hz2:v2=sv z2 l2.length:=hz2
 subst hz2
 have e0:=parts_eq g0 (m:=1) (by simp[cf0]) (by simp[cf0])
 have e1:=parts_eq g1 (m:=2) (by simp[cf1]) (by simp[cf1])
 have e2:=parts_eq g2 (m:=3) (by simp[cf1]) (by simp[cf1])
 refine ⟨((sv z0 l0.length,sv z1 l1.length,sv z2 l2.length),⟨l0,l1,l2⟩),?_,⟨s0,s1,s2⟩⟩
 simp only[List.drop_zero]at e0
 rw[e0,e1,e2,List.drop_eq_nil_of_le (by omega)];rfl
abbrev OpA:=(Value×Value×Value)×Me.Op
abbrev opE (a:OpA):List Value:=opC a.2 a.1.1 a.1.2.1 a.1.2.2
theorem zC (a:OpA):(opE a).length=8:=rfl
structure OpOk (W:World) (a:OpA):Prop where
 air:AiOk W (a.1,a.2.air)
 te:a.2.te.length≤9223372036854775807
theorem opZ44:ZJ enc Tryz.prog W 44 opE (OpOk W):=by
 intro fuel cs x h hz
 obtain ⟨hl,hf⟩:=ZJ.fields (fs:=_) I h hz
 have cT:Tryz.prog.cellsOf 44=8:=by kernel_rfl
 have cf0:Tryz.prog.cellsOf 3=1:=by kernel_rfl
 have cf1:Tryz.prog.cellsOf 4=1:=by kernel_rfl
 have cf2:Tryz.prog.cellsOf 9=1:=by kernel_rfl
 have cf3:Tryz.prog.cellsOf 34=3:=by kernel_rfl
 rw[cT]at hl
 obtain ⟨fu0,y0,h0,i0⟩:=hf _ (List.mem_cons_self ..)
 obtain ⟨fu1,y1,h1,i1⟩:=hf _ (List.mem_cons_of_mem _ (List.mem_cons_self ..))
 obtain ⟨fu2,y2,h2,i2⟩:=hf _ (List.mem_cons_of_mem _ (List.mem_cons_of_mem _ (List.mem_cons_self ..)))
 obtain ⟨fu3,y3,h3,i3⟩:=hf _ (List.mem_cons_of_mem _ (List.mem_cons_of_mem _ (List.mem_cons_of_mem _ (List.mem_cons_self ..))))
 obtain ⟨fu4,y4,h4,i4⟩:=hf _ (List.mem_cons_of_mem _ (List.mem_cons_of_mem _ (List.mem_cons_of_mem _ (List.mem_cons_of_mem _ (List.mem_cons_self ..)))))
 obtain ⟨fu5,y5,h5,i5⟩:=hf _ (List.mem_cons_of_mem _ (List.mem_cons_of_mem _ (List.mem_cons_of_mem _ (List.mem_cons_of_mem _ (List.mem_cons_of_mem _ (List.mem_cons_self ..))))))
 obtain ⟨a0,g0,b0⟩:=(Opens.int (k:= .i64) rfl).z fu0 _ _ h0 i0
 obtain ⟨a1,g1,b1⟩:=(Opens.int (k:= .i64) rfl).z fu1 _ _ h1 i1
 obtain ⟨a2,g2,b2⟩:=(Opens.int (k:= .i64) rfl).z fu2 _ _ h2 i2
 obtain ⟨a3,g3,b3⟩:=(Opens.bool rfl).z fu3 _ _ h3 i3
 obtain ⟨a4,g4,b4⟩:=(Opens.str rfl).z fu4 _ _ h4 i4
 obtain ⟨⟨⟨u5,w5,x5⟩,m5⟩,g5,b5⟩:=opZ34 fu5 _ _ h5 i5
 have e0:=parts_eq g0 (m:=1) (by simp[cf0]) (by simp[cf0])
 have e1:=parts_eq g1 (m:=2) (by simp[cf0]) (by simp[cf0])
 have e2:=parts_eq g2 (m:=3) (by simp[cf0]) (by simp[cf0])
 have e3:=parts_eq g3 (m:=4) (by simp[cf1]) (by simp[cf1])
 have e4:=parts_eq g4 (m:=5) (by simp[cf2]) (by simp[cf2])
 have e5:=parts_eq g5 (m:=8) (by simp[cf3]) (by simp[cf3])
 refine ⟨((u5,w5,x5),⟨a0,a1,a2,a3,a4,m5⟩),?_,⟨b5,b4⟩⟩
 simp only[List.drop_zero]at e0
 rw[e0,e1,e2,e3,e4,e5,List.drop_eq_nil_of_le (by omega)];rfl
theorem opZ52:ZJ enc Tryz.prog W 52 (fun p:Value×List OpA=>[p.1]) (fun p=>Sl W p.1 (cellsOf opE p.2) p.2.length∧p.2.length*Tryz.prog.bytesOf 44≤reachBytes∧∀a∈p.2,OpOk W a):=
 ZJ.slice (sz:=8) I (by kernel_rfl) (by decide) zC opZ44
end Go.Proofs.YtgfdoognildoeaaGreat
namespace Go.Proofs.YtgfdoognildoeaaGreat
open Go.GX Go.RowKit
attribute [local irreducible] Calls Run jZ jf JK HR HL HD jT jG JY Rd jK jY
open Nd
theorem fn14:IsFn Tryz.prog 14:=⟨⟨_,_,Tryz.func14,rfl,by decide⟩⟩
theorem fn31:IsFn Tryz.prog 31:=⟨⟨_,_,Tryz.func31,rfl,by decide⟩⟩
def jEW (a:Me.Air):Bool:=(decide ((a.e.length:Int)>60)||decide ((a.o.length:Int)>60))||decide ((a.n.length:Int)>60)
theorem jMh {a:Me.Air} (h:jEW a=false):a.e.length≤60∧a.o.length≤60∧a.n.length≤60:=by
 unfold jEW at h
 simp only[Bool.or_eq_false_iff,decide_eq_false_iff_not]at h
 omega
theorem jMi (a:AirA) (w:World) (h:AiOk w a):
  Calls Tryz.prog 14 #[.agg ⟨aiE a⟩] w fun e w'=>e= .returned (.bool (jEW a.2))∧Below w.heap.size w w':=by
 refine jD Tryz.func14 I (Nat.le_of_ble_eq_true I) ?_
 refine HR.sub (σ':=[(0,.agg ⟨aiE a⟩)]) ⟨I,trivial⟩ ?_
 refine HR.ctl I ?_
 refine HR.region ?_
 refine HL.box I I ?_
 intro b1
 repeat' (first|refine zh ?_|refine HL.JN (Rd.arg h.e) I I I ?_|refine HL.JN (Rd.arg h.o) I I I ?_|refine HL.JN (Rd.arg h.n) I I I ?_|apply zb ?_ ?_|exact zc|(refine zi fun hb=>?_;try simp at hb)|intro (bk:Nat))
 refine HR.ret Tryz.func14 I [_] (fun _ _=>⟨I,trivial⟩) ?_
 exact fun w' hw=>⟨rfl,hw.jE⟩
theorem jCL:Elem Tryz.prog 52 44 8 120:=⟨rfl,⟨_,_,rfl,rfl,rfl,rfl,rfl⟩,by decide⟩
theorem jRG {l:List OpA} {i:Nat} {x:OpA} (hx:l[i]? =some x) (k:Nat) (u:Value) (hu:(aiE (x.1,x.2.air))[k]? =some u):(cellsOf opE l)[i*8+5+k]? =some u:=by
 rw[Nat.add_assoc]
 refine jH zC hx (5+k) u ?_
 rw[← List.getElem?_drop];exact hu
structure SmallL (addrs polls:List Int) (l:List OpA):Prop where
 ad:addrs.length≤6
 po:polls.length≤6
 le:l.length≤80
 ok:∀x∈l,jEW x.2.air=false∧x.2.te.length≤300
theorem jEd (addrs polls:List Int) (l:List OpA) (va vp vl:Value) (w:World) (ha:Sl w va (cellsOf iC addrs) addrs.length) (hp:Sl w vp (cellsOf iC polls) polls.length) (hl:Sl w vl (cellsOf opE l) l.length) (hO:∀x∈l,OpOk w x):
  Calls Tryz.prog 31 #[va,vp,vl] w fun e w'=>∃b:Bool,e= .returned (.bool b)∧(b=true→SmallL addrs polls l)∧Sat (base w) [] w':=by
 have cl:(cellsOf opE l).length=l.length*8:=jC zC _
 refine jD Tryz.func31 I (Nat.le_of_ble_eq_true I) ?_
 refine HR.sub (σ':=[(0,va),(1,vp),(2,vl)]) ⟨I,I,I,trivial⟩ ?_
 repeat' (first|refine zh ?_|intro (bk:Nat))
 refine HR.loop (ι:=Nat) (fun i=>(i=0∨l.length≤80)∧i≤l.length∧∀j x,j<i→l[j]? =some x→jEW x.2.air=false∧x.2.te.length≤300) (fun i=>[(0,va),(1,vp),(2,vl),(7,.int .i64 (i:Int))]) (fun _=>[]) (fun i=>l.length-i) 0 ⟨.inl rfl,Nat.zero_le _,fun j x hj=>absurd hj (Nat.not_lt_zero _)⟩ ⟨I,I,I,I,trivial⟩ Ent.refl ?_
 rintro i ⟨h80,hi,hok⟩ ih
 have h80:i=0∨l.length≤80:=h80
 have hi:i≤l.length:=hi
 have hok:∀j x,j<i→l[j]? =some x→jEW x.2.air=false∧x.2.te.length≤300:=hok
 repeat' (first|refine zh ?_|refine HL.JN (Rd.arg hl) I I I ?_|apply zb ?_ ?_|exact zc|(refine zi fun hb=>?_;try simp at hb)|intro (bk:Nat))
 refine HR.cond I (fun h2=>?_) (fun h2=>?_)
 ·have h2:i<l.length∧l.length≤80:=by have h2:(decide ((i:Int)<(l.length:Int))&&decide ((l.length:Int)≤80))=true:=h2;simp only[Bool.and_eq_true,decide_eq_true_eq]at h2;omega
  obtain ⟨x,hx⟩:=jJ h2.1
  have hox:=hO x (List.mem_of_getElem? hx)
  obtain ⟨wi,hwi⟩:∃wi,wi=jEW x.2.air:=⟨_,rfl⟩
  repeat' (first|refine zh ?_|refine HL.JA (Rd.arg hl) jCL i I I I I h2.1 ?_|refine HL.jo 5 (Rd.arg hl) (by rw[cl];omega) I I I I I I I ?_|refine HL.jo 4 (Rd.arg hl) (by rw[cl];omega) I I I I I I I ?_|refine HL.JW (us:=aiE (x.1,x.2.air)) (Rd.arg hl) I I I I (by simp) I (jRG hx) ?_|refine HL.ji (Rd.arg hl) I I I I (jQ zC hx (i:=4) I) ?_|refine HL.jR (r:= .bool wi) fn14 I I (fun w1 hw1=>by rw[hwi];exact jMi (x.1,x.2.air) w1 ⟨(Rd.arg hox.air.e).at hw1,(Rd.arg hox.air.o).at hw1,(Rd.arg hox.air.n).at hw1⟩) ?_|apply zb ?_ ?_|exact zc|(refine zi fun hb=>?_;try simp at hb)|intro (bk:Nat))
  refine HR.cond I (fun h3=>?_) (fun h3=>?_)
  ·repeat' (first|refine zh ?_|intro (bk:Nat))
   refine HR.ret Tryz.func31 I [_] (fun _ _=>⟨I,trivial⟩) ?_
   exact fun w' hw=>⟨false,rfl,fun h=>(by cases h),hw⟩
  have h3:(wi||decide ((x.2.te.length:Int)>300))=false:=h3
  simp only[Bool.or_eq_false_iff,decide_eq_false_iff_not]at h3
  repeat' (first|refine zh ?_|intro (bk:Nat))
  refine ih (i+1) _ _ ⟨.inr h2.2,h2.1,fun j y hj hy=>?_⟩ (by show l.length-(i+1)<l.length-i;omega) ⟨I,I,I,I,trivial⟩ Ent.refl
  by_cases e:j=i
  ·rw [e,hx]at hy;cases hy;exact ⟨by rw[← hwi];exact h3.1,by omega⟩
  ·exact hok j y (by omega) hy
 have h2:(decide ((i:Int)<(l.length:Int))&&decide ((l.length:Int)≤80))=false:=h2
 repeat' (first|refine zh ?_|refine HL.JN (Rd.arg ha) I I I ?_|refine HL.JN (Rd.arg hp) I I I ?_|refine HL.JN (Rd.arg hl) I I I ?_|apply zb ?_ ?_|exact zc|(refine zi fun hb=>?_;try simp at hb)|intro (bk:Nat))
 refine HR.ret Tryz.func31 I [_] (fun _ _=>⟨I,trivial⟩) ?_
 refine fun w' hw=>⟨_,rfl,fun h=>?_,hw⟩
 have h:((decide ((addrs.length:Int)≤6)&&decide ((polls.length:Int)≤6))&&decide ((l.length:Int)≤80))=true:=h
 simp only[Bool.and_eq_true,decide_eq_true_eq,Bool.and_eq_false_iff,decide_eq_false_iff_not]at h h2
 refine ⟨by omega,by omega,by omega,fun x hx=>?_⟩
 obtain ⟨j,hj⟩:=List.getElem?_of_mem hx
 exact hok j x (by have:=(List.getElem?_eq_some_iff.1 hj).1;omega) hj
end Go.Proofs.YtgfdoognildoeaaGreat
namespace Go.Proofs.YtgfdoognildoeaaGreat
open Go.GX Go.RowKit
attribute [local irreducible] Calls Run jZ jf JK HR HL HD jT jG JY Rd jK jY
open Nd
theorem fn32:IsFn Tryz.prog 32:=⟨⟨_,_,Tryz.func32,rfl,by decide⟩⟩
theorem jPj {v:Value} {xs:List (NV×Nd)} {x:SV×List (NV×Nd)×List Chunk} {l:List Nd} (h:MkL x l):RfL v xs (x.1,x.2.1,[cNd (sv x.1 x.2.1.length) x.2.1,jB x.2.2]) l:=
 ⟨h.1,fun w2 _ hg=>⟨zB (jM hg (c:=cNd (sv x.1 x.2.1.length) x.2.1) (by simp)),fun y hy=>h.2 y hy w2 (jM hg (by simp))⟩⟩
theorem jQ7 {v:Value} {xs:List (NV×Nd)} {x:SV×List (NV×Nd)×List Chunk} {l:List Nd} {c:Chunk} (h:MkL x l):RfL v xs (x.1,x.2.1,[cNd (sv x.1 x.2.1.length) x.2.1,jB x.2.2,c]) l:=
 ⟨h.1,fun w2 _ hg=>⟨zB (jM hg (c:=cNd (sv x.1 x.2.1.length) x.2.1) (by simp)),fun y hy=>h.2 y hy w2 (jM hg (by simp))⟩⟩
theorem jPP {M:Me.Mesh} {o:Me.Op} (h:o.kind=0):Me.next M o=(Me.jDy M o.air,[]):=by unfold Me.next;rw[if_pos h]
theorem jPN {M:Me.Mesh} {o:Me.Op} (h:o.kind=1):Me.next M o=if (Me.Zt M o.n o.m o.ur o.te).2=0 then ((Me.Zt M o.n o.m o.ur o.te).1,[])else (M,[]):=by unfold Me.next;rw[if_neg (by rw[h];decide),if_pos h]
theorem jPM {M:Me.Mesh} {o:Me.Op} (h:o.kind=2):Me.next M o=Me.Z8 M o.n:=by unfold Me.next;rw[if_neg (by rw[h];decide),if_neg (by rw[h];decide),if_pos h]
theorem jPL {M:Me.Mesh} {o:Me.Op} (h:o.kind=3):Me.next M o=(Me.Jr M o.n,[]):=by unfold Me.next;rw[if_neg (by rw[h];decide),if_neg (by rw[h];decide),if_neg (by rw[h];decide),if_pos h]
theorem jPK {M:Me.Mesh} {o:Me.Op} (h0:o.kind≠0) (h1:o.kind≠1) (h2:o.kind≠2) (h3:o.kind≠3):Me.next M o=(M,[]):=by unfold Me.next;rw[if_neg h0,if_neg h1,if_neg h2,if_neg h3]
theorem jBZ (t:Int) (v:Value) (xs:List (NV×Nd)) (o:OpA) (w:World) (h:OkL w v xs) (hg:∀x∈xs,GdN x.2) (hl:xs.length≤1000) (ho:OpOk w o) (hw:jEW o.2.air=false):
  Calls Tryz.prog 32 #[meV t v,.agg ⟨opE o⟩] w fun e w'=>∃x:(SV×List (NV×Nd)×List Chunk)×Value,e= .returned (.tuple ⟨[meV (Me.next ⟨t,nds xs⟩ o.2).1.tick (sv x.1.1 x.1.2.1.length),x.2]⟩)∧(RfL v xs x.1 (Me.next ⟨t,nds xs⟩ o.2).1.nodes∧(∀ y∈x.1.2.1,GdN y.2)∧∀w2,(jB x.1.2.2).p w2→Sl w2 x.2 (cellsOf deC (Me.next ⟨t,nds xs⟩ o.2).2) (Me.next ⟨t,nds xs⟩ o.2).2.length)∧Sat (base w) [jB x.1.2.2] w':=by
 obtain ⟨av,cv,hv,_⟩:=h.s.2
 subst hv
 obtain ⟨⟨ve,vo,vn⟩,⟨k,n,m,ur,te,air⟩⟩:=o
 have hwf:=jMh hw
 have hair:OkA w air ve vo vn:=⟨ho.air.e,ho.air.o,ho.air.n,by have:=hwf.1;show air.e.length≤300;exact Nat.le_trans this (by decide),hwf.2.1,hwf.2.2⟩
 have hte:te.length≤9223372036854775807:=ho.te
 refine jD Tryz.func32 I (Nat.le_of_ble_eq_true I) ?_
 refine HR.sub (σ':=[(0,meV t (sv (av,cv) xs.length)),(1,.agg ⟨opE ((ve,vo,vn),⟨k,n,m,ur,te,air⟩)⟩)]) ⟨I,I,trivial⟩ ?_
 refine HR.ctl I ?_
 refine HR.region ?_
 refine HL.box I I ?_
 intro b2
 refine HL.box I I ?_
 intro b3
 refine HL.alloc I I ?_
 intro b4
 repeat' (first|refine zh ?_|intro (bk:Nat))
 refine HR.cond I (fun h0=>?_) (fun h0=>?_)
 ·have h0:k=0:=eq_of_beq h0
  rw[jPP h0]
  obtain ⟨R,hR⟩:∃R,R=Me.jDy ⟨t,nds xs⟩ air:=⟨_,rfl⟩
  rw[← hR]
  repeat' (first|refine zh ?_|intro (bk:Nat))
  refine HL.JC (r:=fun x:SV×List (NV×Nd)×List Chunk=>meV R.tick (sv x.1 x.2.1.length)) (Q:=fun x=>jHm x R.nodes) (G:=fun x=>[cNd (sv x.1 x.2.1.length) x.2.1,jB x.2.2]) fn15 I I (fun w1 hw1=>by rw[hR];exact jEx t _ xs air ve vo vn w1 (h.ext hw1.jE) hg hl (hair.at hw1)) ?_
  rintro ⟨y,ys,G⟩ ⟨hM,hG⟩
  repeat' (first|refine zh ?_|intro (bk:Nat))
  refine HR.ret Tryz.func32 I [_,_] (fun w hw=>⟨⟨_,rfl,jS hw 2 I I I I rfl⟩,rfl,trivial⟩) ?_
  exact fun w' hw=>⟨((y,ys,[cNd (sv y ys.length) ys,jB G]),.slice none 0 0),rfl,⟨jPj hM,hG,fun w2 _=>Sl.nil w2⟩,Ent.trans (Ent.pick (H':=[cNd (sv y ys.length) ys,jB G]++[]) [0,1] I I) Ent.group w' hw⟩
 have h0:k≠0:=by have h0:(k==0)=false:=h0;simpa using h0
 repeat' (first|refine zh ?_|intro (bk:Nat))
 refine HR.cond I (fun h1=>?_) (fun h1=>?_)
 ·have h1:k=1:=eq_of_beq h1
  rw[jPN h1]
  obtain ⟨R,hR⟩:∃R,R=Me.Zt ⟨t,nds xs⟩ n m ur te:=⟨_,rfl⟩
  have hR':Me.Zt ⟨t,nds xs⟩ n m ur te=R:=hR.symm
  simp only[hR']
  repeat' (first|refine zh ?_|intro (bk:Nat))
  refine HL.JC (r:=fun x:SV×List (NV×Nd)×List Chunk=> .tuple ⟨[meV R.1.tick (sv x.1 x.2.1.length),.int .i64 R.2]⟩) (Q:=fun x=>jHm x R.1.nodes) (G:=fun x=>[cNd (sv x.1 x.2.1.length) x.2.1,jB x.2.2]) fn24 I I (fun w1 hw1=>by rw[hR];exact jLW xs t n m ur te _ w1 (h.ext hw1.jE) hg hl hte) ?_
  rintro ⟨y,ys,G⟩ ⟨hM,hG⟩
  repeat' (first|refine zh ?_|intro (bk:Nat))
  refine HR.cond I (fun h2=>?_) (fun h2=>?_)
  ·have h2:R.2=0:=eq_of_beq h2
   rw[if_pos h2]
   repeat' (first|refine zh ?_|intro (bk:Nat))
   refine HR.ret Tryz.func32 I [_,_] (fun w hw=>⟨⟨_,rfl,jS hw 3 I I I I rfl⟩,rfl,trivial⟩) ?_
   exact fun w' hw=>⟨((y,ys,[cNd (sv y ys.length) ys,jB G]),.slice none 0 0),rfl,⟨jPj hM,hG,fun w2 _=>Sl.nil w2⟩,Ent.trans (Ent.pick (H':=[cNd (sv y ys.length) ys,jB G]++[]) [1,2] I I) Ent.group w' hw⟩
  have h2:R.2≠0:=by have h2:(R.2==0)=false:=h2;simpa using h2
  rw[if_neg h2]
  repeat' (first|refine zh ?_|intro (bk:Nat))
  refine HR.ret Tryz.func32 I [_,_] (fun w hw=>⟨⟨_,rfl,jS hw 3 I I I I rfl⟩,rfl,trivial⟩) ?_
  exact fun w' hw=>⟨(((av,cv),xs,[]),.slice none 0 0),rfl,⟨jKq,hg,fun w2 _=>Sl.nil w2⟩,jPC hw⟩
 have h1:k≠1:=by have h1:(k==1)=false:=h1;simpa using h1
 repeat' (first|refine zh ?_|intro (bk:Nat))
 refine HR.cond I (fun h2=>?_) (fun h2=>?_)
 ·have h2:k=2:=eq_of_beq h2
  rw[jPM h2]
  obtain ⟨K,hK⟩:∃K,K=Me.Z8 ⟨t,nds xs⟩ n:=⟨_,rfl⟩
  have hKt:K.1.tick=t:=by rw[hK];unfold Me.Z8;split<;>rfl
  have hK':Me.Z8 ⟨t,nds xs⟩ n=K:=hK.symm
  simp only[hK']
  rw[hKt]
  repeat' (first|refine zh ?_|intro (bk:Nat))
  refine HL.JC (r:=fun x:(SV×List (NV×Nd)×List Chunk)×Value=> .tuple ⟨[meV t (sv x.1.1 x.1.2.1.length),x.2]⟩) (Q:=fun x=>jHm x.1 K.1.nodes) (G:=fun x=>[cNd (sv x.1.1 x.1.2.1.length) x.1.2.1,jB x.1.2.2,cDe x.2 K.2]) fn26 I I (fun w1 hw1=>by rw[hK];exact jLV xs t n _ w1 (h.ext hw1.jE) hg hl) ?_
  rintro ⟨⟨y,ys,G⟩,vd⟩ ⟨hM,hG⟩
  repeat' (first|refine zh ?_|intro (bk:Nat))
  refine HR.ret Tryz.func32 I [_,_] (fun w hw=>⟨⟨_,rfl,jS hw 3 I I I I rfl⟩,rfl,trivial⟩) ?_
  exact fun w' hw=>⟨((y,ys,[cNd (sv y ys.length) ys,jB G,cDe vd K.2]),vd),rfl,⟨jQ7 hM,hG,fun w2 hg2=>zB (jM hg2 (c:=cDe vd K.2) (by simp))⟩,Ent.trans (Ent.pick (H':=[cNd (sv y ys.length) ys,jB G,cDe vd K.2]++[]) [0,1,2] I I) Ent.group w' hw⟩
 have h2:k≠2:=by have h2:(k==2)=false:=h2;simpa using h2
 repeat' (first|refine zh ?_|intro (bk:Nat))
 refine HR.cond I (fun h3=>?_) (fun h3=>?_)
 ·have h3:k=3:=eq_of_beq h3
  rw[jPL h3]
  obtain ⟨R,hR⟩:∃R,R=Me.Jr ⟨t,nds xs⟩ n:=⟨_,rfl⟩
  have hRt:R.tick=t:=by rw[hR];unfold Me.Jr;split<;>rfl
  have hR':Me.Jr ⟨t,nds xs⟩ n=R:=hR.symm
  simp only[hR']
  rw[hRt]
  repeat' (first|refine zh ?_|intro (bk:Nat))
  refine HL.JC (r:=fun x:SV×List (NV×Nd)×List Chunk=>meV t (sv x.1 x.2.1.length)) (Q:=fun x=>jHm x R.nodes) (G:=fun x=>[cNd (sv x.1 x.2.1.length) x.2.1,jB x.2.2]) fn29 I I (fun w1 hw1=>by rw[hR];exact jEz xs t n _ w1 (h.ext hw1.jE) hg hl) ?_
  rintro ⟨y,ys,G⟩ ⟨hM,hG⟩
  repeat' (first|refine zh ?_|intro (bk:Nat))
  refine HR.ret Tryz.func32 I [_,_] (fun w hw=>⟨⟨_,rfl,jS hw 2 I I I I rfl⟩,rfl,trivial⟩) ?_
  exact fun w' hw=>⟨((y,ys,[cNd (sv y ys.length) ys,jB G]),.slice none 0 0),rfl,⟨jPj hM,hG,fun w2 _=>Sl.nil w2⟩,Ent.trans (Ent.pick (H':=[cNd (sv y ys.length) ys,jB G]++[]) [0,1] I I) Ent.group w' hw⟩
 have h3:k≠3:=by have h3:(k==3)=false:=h3;simpa using h3
 rw[jPK h0 h1 h2 h3]
 repeat' (first|refine zh ?_|intro (bk:Nat))
 refine HR.ret Tryz.func32 I [_,_] (fun w hw=>⟨⟨_,rfl,jS hw 0 I I I I rfl⟩,rfl,trivial⟩) ?_
 exact fun w' hw=>⟨(((av,cv),xs,[]),.slice none 0 0),rfl,⟨jKq,hg,fun w2 _=>Sl.nil w2⟩,jPC hw⟩
end Go.Proofs.YtgfdoognildoeaaGreat
namespace Go.Proofs.YtgfdoognildoeaaGreat
open Go.GX Go.RowKit
attribute [local irreducible] Calls Run jZ jf JK HR HL HD jT jG JY Rd jK jY
open Nd
theorem jPn {B:Base} {H:List Chunk} {v:Value} {xs:List Value} {n:Nat} (h:∀w,Sat B H w→Sl w v xs n):Rd B H v xs n:=by unfold Rd;exact h
theorem OpOk.ext {w w':World} {x:OpA} (h:OpOk w x) (hb:Below w.heap.size w w'):OpOk w' x:=⟨⟨h.air.e.ext hb,h.air.o.ext hb,h.air.n.ext hb⟩,h.te⟩
abbrev opsOf (l:List OpA):List Me.Op:=l.map (·.2)
theorem jGN {l:List OpA} {i:Nat} {x:OpA} (h:l[i]? =some x):(opsOf l)[i]? =some x.2:=by unfold opsOf;rw[List.getElem?_map,h];rfl
end Go.Proofs.YtgfdoognildoeaaGreat
