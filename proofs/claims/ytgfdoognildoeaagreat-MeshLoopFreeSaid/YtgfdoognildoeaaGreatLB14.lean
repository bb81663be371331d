/- A part of the proof: contracts of the program's functions. Conditions: none. -/
import Derived.Carry
import Derived.Deep.MidRow
import Derived.Deep.Quiet
import Derived.Laws.IdiomRangeMap
import Derived.Laws.MakeOwn
import Derived.Laws.StructEq
import Derived.Laws.Tables
import Derived.Lib.AppendStr
import Derived.Lib.AppendZerosOnto
import Derived.Lib.OthersKept
import Derived.Lib.Overlaps
import Derived.Lib.OwnBridge
import Derived.Lib.SlicesCompact
import Derived.MapKept
import Derived.Orders
import Derived.OrdersHeld
import Derived.Scope
import Derived.SizedLaws
import Derived.SliceStrings
import Derived.Sort.Grow
import Derived.StillTail
import Derived.Test.YtgfdoognildoeaaGreatProg
import Derived.Test.YtgfdoognildoeaaGreatShelf
import Derived.WalkKit
import Derived.WalkLawsBesides
import Derived.WalkSpells
import Derived.Test.YtgfdoognildoeaaGreatLB1
import Derived.Test.YtgfdoognildoeaaGreatLB2
import Derived.Test.YtgfdoognildoeaaGreatLB3
import Derived.Test.YtgfdoognildoeaaGreatLB4
import Derived.Test.YtgfdoognildoeaaGreatLB5
import Derived.Test.YtgfdoognildoeaaGreatLB6
import Derived.Test.YtgfdoognildoeaaGreatLB7
import Derived.Test.YtgfdoognildoeaaGreatLB8
import Derived.Test.YtgfdoognildoeaaGreatLB9
import Derived.Test.YtgfdoognildoeaaGreatLB10
import Derived.Test.YtgfdoognildoeaaGreatLB11
import Derived.Test.YtgfdoognildoeaaGreatLB12
import Derived.Test.YtgfdoognildoeaaGreatLB13
set_option linter.unusedVariables false
set_option linter.unusedSectionVars false
set_option linter.unusedSimpArgs false
set_option maxRecDepth 100000
set_option maxHeartbeats 4000000
namespace Go.GX
open Go.RowKit Go.ChangeShapes Go.WideShapes
section
variable {H : Type} {enc : TypeId × Value → H} {P : Program} {w : World}
def Sized (P:Program) (t:TypeId) (d:DataW H):Prop:=∀n∈d.weights P t,n≤reachBytes
def ZH (enc:TypeId×Value→H) (P:Program) (w:World) (t:TypeId) {α:Type} (E:α→List Value) (good:α→Prop):Prop:=
 ∀(fuel:Nat) (cs:List Value) (x:DataW H×List MemPlace),DataW.trod enc P w 0 (fun _=>true) true fuel t cs=some x→Sized P t x.1→∃a,cs=E a∧good a
theorem Opens.z {t:TypeId} {α:Type} {E:α→List Value} {good:α→Prop} (h:Opens enc P w t E good):ZH enc P w t E good:=fun f cs x hx _=>h f cs x hx
theorem jBV {α β:Type} {f:α→Option β}:∀ {l:List α} {r:List β},l.mapM f=some r→∀(i:Nat) (a:α),l[i]? =some a→∃b,r[i]? =some b∧f a=some b
 |[],r,h,i,a,ha=>by simp at ha
 |x::l,r,h,i,a,ha=>by
  simp only[List.mapM_cons,Option.bind_eq_bind,Option.pure_def]at h
  cases hx:f x with
  |none=>rw[hx]at h;cases h
  |some b=>
   rw[hx]at h
   simp only[Option.bind_some]at h
   cases hl:l.mapM f with
   |none=>rw[hl]at h;cases h
   |some r'=>
    rw[hl]at h
    simp only[Option.bind_some,Option.some.injEq]at h
    subst h
    cases i with
    |zero=>simp at ha;subst ha;exact ⟨b,rfl,hx⟩
    |succ i=>
     simp at ha
     obtain ⟨c,h1,h2⟩:=jBV hl i a ha
     exact ⟨c,by simpa using h1,h2⟩
theorem K4 {e:TypeId} {n:Nat}:∀ {l:List (DataW H)} {d:DataW H},d∈l→n∈d.weights P e→n∈DataW.weightsAll P e l
 |[],d,h,_=>by cases h
 |x::l,d,h,hn=>by
  unfold DataW.weightsAll
  rcases List.mem_cons.1 h with rfl|h
  ·exact List.mem_append_left _ hn
  ·exact List.mem_append_right _ (K4 h hn)
theorem Sized.slice {t e:TypeId} {elems spare:List (DataW H)} (h:Sized P t (.slice elems spare)) (ht:P.underlying t=some (.slice e)):elems.length*P.bytesOf e≤reachBytes∧∀d∈elems,Sized P e d:=by
 unfold Sized at h
 simp only[DataW.weights,ht]at h
 constructor
 ·have h1:=h _ (List.mem_cons_self ..)
  exact Nat.le_trans (Nat.mul_le_mul_right _ (Nat.le_add_right _ _)) h1
 ·exact fun d hd n hn=>h n (List.mem_cons_of_mem _ (List.mem_append_left _ (K4 hd hn)))
theorem ZH.slice {t e:TypeId} {α:Type} {E:α→List Value} {good:α→Prop} {sz:Nat} (ht:P.underlying t=some (.slice e)) (hc:P.cellsOf e=sz) (hpos:0<sz) (hE:∀a,(E a).length=sz) (he:ZH enc P w e E good):
  ZH enc P w t (fun p:Value×List α=>[p.1]) (fun p=>Sl w p.1 (cellsOf E p.2) p.2.length∧p.2.length*P.bytesOf e≤reachBytes∧∀a∈p.2,good a):=by
 intro fuel cs x h hz
 cases fuel with
 |zero=>cases h
 |succ fuel=>
  unfold DataW.trod at h
  simp only[ht]at h
  split at h
  all_goals first
   |cases h;done
   |(rename_i h1;cases h1;done)
   |skip
  ·exact ⟨(.slice none 0 0,[]),rfl,Sl.nil w,by simp,fun a ha=>by cases ha⟩
  ·rename_i e0 a len cap h1
   cases h1
   split at h
   ·rename_i hb
    rw[hc]at h
    cases hm:(List.range len).mapM (fun i=>(w.cells? 0 (a.add (i*sz)) sz).bind (DataW.trod enc P w 0 (fun _=>true) true fuel e))with
    |none=>rw[hm]at h;cases h
    |some r=>
     rw[hm]at h
     simp only[Option.bind_some,if_true]at h
     cases hm2:(List.range (cap-len)).mapM (fun j=>(w.cells? 0 (a.add ((len+j)*sz)) sz).bind (DataW.trod enc P w 0 (fun _=>true) true fuel e))with
     |none=>rw[hm2]at h;cases h
     |some r2=>
     rw[hm2]at h
     simp only[Option.map_some,Option.some.injEq]at h
     subst h
     obtain ⟨hz1,hz2⟩:=Sized.slice hz ht
     have hrl:r.length=len:=by
      have:=jBV hm
      have key:∀ {α β:Type} {f:α→Option β} {l:List α} {r:List β},l.mapM f=some r→r.length=l.length:=by
       intro α β f l
       induction l with
       |nil=>intro r h;simp at h;subst h;rfl
       |cons x l ih=>
        intro r h
        simp only[List.mapM_cons,Option.bind_eq_bind,Option.pure_def]at h
        cases hx:f x with
        |none=>rw[hx]at h;cases h
        |some b=>
         rw[hx]at h
         simp only[Option.bind_some]at h
         cases hl:l.mapM f with
         |none=>rw[hl]at h;cases h
         |some r'=>
          rw[hl]at h
          simp only[Option.bind_some,Option.some.injEq]at h
          subst h
          simp[ih hl]
      rw[key hm];simp
     rw[List.length_map,hrl]at hz1
     have:∀i,i<len→∃b:α,good b∧∀(j:Nat) u,(E b)[j]? =some u→w.cell? ((a.add (i*sz)).add j)=some u:=by
      intro i hi
      obtain ⟨y,hy1,hy⟩:=jBV hm i i (by simp[hi])
      have hzy:Sized P e y.1:=hz2 _ (List.mem_map.2 ⟨y,List.mem_of_getElem? hy1,rfl⟩)
      cases hcs:w.cells? 0 (a.add (i*sz)) sz with
      |none=>rw[hcs]at hy;cases hy
      |some cs=>
       rw[hcs]at hy
       obtain ⟨b,rfl,hg⟩:=he fuel cs y hy hzy
       exact ⟨b,hg,(jJs hcs).2⟩
     have hlist:∀n,n≤len→∃l:List α,l.length=n∧(∀ b∈l,good b)∧∀(i:Nat) b,l[i]? =some b→∀(j:Nat) u,(E b)[j]? =some u→w.cell? ((a.add (i*sz)).add j)=some u:=by
      intro n
      induction n with
      |zero=>intro _;exact ⟨[],rfl,(fun b hb=>by cases hb),fun i b hb=>by simp at hb⟩
      |succ n ih=>
       intro hn
       obtain ⟨l,h1,h2,h3⟩:=ih (by omega)
       obtain ⟨b,g1,g2⟩:=this n (by omega)
       refine ⟨l++[b],by simp[h1],fun c hc=>?_,fun i c hc=>?_⟩
       ·rcases List.mem_append.1 hc with hc|hc
        ·exact h2 c hc
        ·simp at hc;subst hc;exact g1
       ·by_cases hi:i<l.length
        ·rw [List.getElem?_append_left hi]at hc;exact h3 i c hc
        ·have:i=n:=by have:=(List.getElem?_eq_some_iff.1 hc).1;simp at this;omega
         subst this
         rw[List.getElem?_append_right (by omega),h1]at hc
         simp at hc;subst hc;exact g2
     obtain ⟨l,h1,h2,h3⟩:=hlist len (Nat.le_refl _)
     refine ⟨(.slice (some a) len cap,l),rfl,⟨?_,some a,cap,by simp[h1],by rw[h1];exact hb.2.1⟩,by rw[h1];exact hz1,h2⟩
     by_cases h0:len=0
     ·subst h0
      have:l=[]:=List.eq_nil_of_length_eq_zero h1
      subst this
      exact .inl ⟨.inr ⟨a,cap,rfl⟩,rfl,rfl⟩
     ·obtain ⟨b,off,spot⟩:=a
      obtain ⟨b0,hb0⟩:=jJ (show 0<l.length by omega)
      obtain ⟨u0,hu0⟩:=jJ (show 0<(E b0).length by rw[hE];exact hpos)
      have hc0:=h3 0 b0 hb0 0 u0 hu0
      have hspot:spot=none:=by simpa[Addr.add]using World.cell?_spot hc0
      subst hspot
      have hadd:∀b off j,(⟨b,off,none⟩:Addr).add j=⟨b,off+j,none⟩:=fun b off j=>by unfold Addr.add;split<;>simp_all
      refine .inr ⟨b,off,cap,by simp[h1],fun j u hu=>?_⟩
      have hjl:j<(cellsOf E l).length:=(List.getElem?_eq_some_iff.1 hu).1
      rw[jC hE,h1]at hjl
      have hdiv:j / sz<len:=Nat.div_lt_of_lt_mul (by rw[Nat.mul_comm];exact hjl)
      have hmod:j%sz<sz:=Nat.mod_lt _ hpos
      obtain ⟨c,hc⟩:=jJ (show j / sz<l.length by omega)
      obtain ⟨u',hu'⟩:=jJ (show j%sz<(E c).length by rw[hE];exact hmod)
      have hj:j / sz*sz+j%sz=j:=by rw[Nat.mul_comm];exact Nat.div_add_mod j sz
      have hg:=jH hE hc (j%sz) u' hu'
      rw[hj,hu]at hg
      cases hg
      have:=h3 _ c hc _ u hu'
      rw[hadd,hadd,Nat.add_assoc,hj]at this
      exact this
   ·cases h
theorem Sized.of_each {ts:List TypeId} {ds:List (DataW H)} {j:Nat} {t:TypeId} {d:DataW H} (h:(DataW.weightsEach P ts ds).all (·≤reachBytes)=true) (ht:ts[j]? =some t) (hd:ds[j]? =some d):Sized P t d:=fun n hn=>by
 have:=List.all_eq_true.1 h _ (DataW.weights_mem_each ht hd n hn)
 simpa using this
theorem ZH.fields {t:TypeId} {fs:Array Field} (ht:P.underlying t=some (.struct fs)) {fuel:Nat} {cs:List Value} {x:DataW H×List MemPlace} (h:DataW.trod enc P w 0 (fun _=>true) true fuel t cs=some x) (hz:Sized P t x.1):
  cs.length=P.cellsOf t∧∀f∈fs.toList,∃fuel' y,DataW.trod enc P w 0 (fun _=>true) true fuel' f.type ((cs.drop f.offset).take (P.cellsOf f.type))=some y∧Sized P f.type y.1:=by
 cases fuel with
 |zero=>cases h
 |succ fuel=>
  unfold DataW.trod at h
  simp only[ht]at h
  split at h
  ·rename_i hl
   refine ⟨hl,fun f hf=>?_⟩
   cases hm:fs.toList.mapM (fun f=>DataW.trod enc P w 0 (fun _=>true) true fuel f.type ((cs.drop f.offset).take (P.cellsOf f.type)))with
   |none=>rw[hm]at h;cases h
   |some r=>
    rw[hm]at h
    simp only[Option.map_some,Option.some.injEq]at h
    subst h
    obtain ⟨i,hi⟩:=List.getElem?_of_mem hf
    obtain ⟨y,hy1,hy⟩:=jBV hm i f hi
    refine ⟨fuel,y,hy,fun n hn=>hz n ?_⟩
    simp only[DataW.weights,ht]
    exact DataW.weights_mem_each (j:=i) (by rw[List.getElem?_map,hi];rfl) (by rw[List.getElem?_map,hy1];rfl) n hn
  ·cases h
end
end Go.GX
namespace Go.Proofs.YtgfdoognildoeaaGreat
open Go.GX Go.RowKit
attribute [local irreducible] Calls Run jY jg JM HR HL HD jT jG Jb Rd jK jc
open Nd
open Go.ChangeShapes Go.WideShapes
variable {H : Type} {enc : TypeId × Value → H} {W : World}
theorem jDT {w:World} {v:Value} {cs:List Value} {n:Nat} (h:Sl w v cs n):∃x:SV,v=sv x n:=by
 obtain ⟨_,a,c,e,_⟩:=h
 exact ⟨(a,c),e⟩
theorem opZ22:ZH enc Tryz.prog W 22 (fun p:Value×List Int=>[p.1]) (fun p=>Sl W p.1 (cellsOf iC p.2) p.2.length∧p.2.length*Tryz.prog.bytesOf 3≤reachBytes∧∀a∈p.2,(Lit.int .i64 a).wf=true):=
 ZH.slice (sz:=1) I (by kernel_rfl) (by decide) jAZ (Opens.int rfl).z
end Go.Proofs.YtgfdoognildoeaaGreat
namespace Go.Proofs.YtgfdoognildoeaaGreat
open Go.GX Go.RowKit
attribute [local irreducible] Calls Run jY jg JM HR HL HD jT jG Jb Rd jK jc
open Nd
theorem fn24:IsFn Tryz.prog 24:=⟨⟨_,_,Tryz.func24,rfl,by decide⟩⟩
theorem fn26:IsFn Tryz.prog 26:=⟨⟨_,_,Tryz.func26,rfl,by decide⟩⟩
theorem fn29:IsFn Tryz.prog 29:=⟨⟨_,_,Tryz.func29,rfl,by decide⟩⟩
theorem jJN {t:Int} {xs:List (NV×Nd)} {source target:Int} {ur:Bool} {text:By} (h:Me.idx (nds xs) source=none):Me.Zq ⟨t,nds xs⟩ source target ur text=(Me.jCg,8):=by
 unfold Me.Zq;simp only;rw[h]
theorem jJM {t:Int} {xs:List (NV×Nd)} {source target:Int} {ur:Bool} {text:By} {i:Nat} {V:NV} {n:Nd} (h:Me.idx (nds xs) source=some i) (hx:xs[i]? =some (V,n)):
  Me.Zq ⟨t,nds xs⟩ source target ur text=if (send n target ur text).2≠0 then (Me.jCg,(send n target ur text).2)else (⟨t,(nds xs).set i (send n target ur text).1⟩,0):=by
 unfold Me.Zq;simp only;rw[h];simp only;rw[jAt hx]
theorem jJL {t:Int} {xs:List (NV×Nd)} {a:Int} (h:Me.idx (nds xs) a=none):Me.KN ⟨t,nds xs⟩ a=(⟨t,nds xs⟩,[]):=by unfold Me.KN;simp only;rw[h]
theorem jJK {t:Int} {xs:List (NV×Nd)} {a:Int} {i:Nat} {V:NV} {n:Nd} (h:Me.idx (nds xs) a=some i) (hx:xs[i]? =some (V,n)):Me.KN ⟨t,nds xs⟩ a=(⟨t,(nds xs).set i (take n).1⟩,(take n).2):=by
 unfold Me.KN;simp only;rw[h];simp only;rw[jAt hx]
theorem jDv {t:Int} {xs:List (NV×Nd)} {a:Int} (h:Me.idx (nds xs) a=none):Me.Jr ⟨t,nds xs⟩ a=⟨t,nds xs⟩:=by unfold Me.Jr;simp only;rw[h]
theorem jDu {t:Int} {xs:List (NV×Nd)} {a:Int} {i:Nat} {V:NV} {n:Nd} (h:Me.idx (nds xs) a=some i) (hx:xs[i]? =some (V,n)):Me.Jr ⟨t,nds xs⟩ a=⟨t,(nds xs).set i (Me.again n a)⟩:=by
 unfold Me.Jr;simp only;rw[h];simp only;rw[jAt hx]
theorem jLX {xs ys:List (NV×Nd)} {G G2:List Chunk} {i:Nat} {V:NV} {n:Nd} (hN:nds ys=nds xs) (hO:∀y∈ys,Own y.1 G y.2) (hG:∀x∈xs,GdN x.2) (hO2:Own V G2 n) (hn:GdN n):
  nds (ys.set i (V,n))=(nds xs).set i n∧(∀ y∈ys.set i (V,n),Own y.1 [jB G2,jB G] y.2)∧∀y∈ys.set i (V,n),GdN y.2:=by
 have hy:∀y∈ys,GdN y.2:=fun y hy=>by
  have:y.2∈nds ys:=List.mem_map.2 ⟨y,hy,rfl⟩
  rw[hN]at this
  obtain ⟨x,hx,e⟩:=List.mem_map.1 this
  rw[← e];exact hG x hx
 refine ⟨by rw[jPn,hN],fun y hm=>?_,fun y hm=>?_⟩
 ·rcases List.mem_or_eq_of_mem_set hm with hm|rfl
  ·exact fun w2 hg2=>hO y hm w2 (jP hg2 (by simp))
  ·exact fun w2 hg2=>hO2 w2 (jP hg2 (by simp))
 ·rcases List.mem_or_eq_of_mem_set hm with hm|rfl
  ·exact hy y hm
  ·exact hn
theorem jRV {xs ys:List (NV×Nd)} (hN:nds ys=nds xs) (hG:∀x∈xs,GdN x.2):∀y∈ys,GdN y.2:=fun y hy=>by
 have:y.2∈nds ys:=List.mem_map.2 ⟨y,hy,rfl⟩
 rw[hN]at this
 obtain ⟨x,hx,e⟩:=List.mem_map.1 this
 rw[← e];exact hG x hx
theorem jGc (v:Value) (ys:List (NV×Nd)) (i:Nat) (x:NV×Nd):cNd v (ys.set i x)=jG v 62 13 ys.length (cellsOf Ze (ys.set i x)):=by
 show jG v _ 13 (ys.set i x).length _=_
 rw[List.length_set]
theorem jLS (xs:List (NV×Nd)) (t source target:Int) (ur:Bool) (text:By) (v:Value) (w:World) (h:OkL w v xs) (hg:∀x∈xs,GdN x.2) (hl:xs.length≤1000) (htx:text.length≤9223372036854775807):
  Calls Tryz.prog 24 #[meV t v,.int .i64 source,.int .i64 target,.bool ur,str text] w fun e w'=>∃x:SV×List (NV×Nd)×List Chunk,e= .returned (.tuple ⟨[meV (Me.Zq ⟨t,nds xs⟩ source target ur text).1.tick (sv x.1 x.2.1.length),.int .i64 (Me.Zq ⟨t,nds xs⟩ source target ur text).2]⟩)∧jJ1 x (Me.Zq ⟨t,nds xs⟩ source target ur text).1.nodes∧Sat (base w) [cNd (sv x.1 x.2.1.length) x.2.1,jB x.2.2] w':=by
 refine jD Tryz.func24 I (Nat.le_of_ble_eq_true I) ?_
 refine HR.sub (σ':=[(0,meV t v),(1,.int .i64 source),(2,.int .i64 target),(3,.bool ur),(4,str text)]) ⟨I,I,I,I,I,trivial⟩ ?_
 refine HR.ctl I ?_
 refine HR.region ?_
 refine HL.box I I ?_
 intro b5
 refine HL.alloc I I ?_
 intro b10
 repeat' (first|refine zh ?_|intro (bk:Nat))
 rcases Z7 xs source with ⟨e1,e2⟩|⟨i,⟨V,n⟩,e1,e2,hx,hxa⟩
 ·rw [jJN e2]
  refine HL.jQ (r:= .int .i64 (-1)) jL8 I I (fun w1 hw1=>by rw[← e1];exact Jj xs source v w1 (h.s.ext hw1.jE) (by omega)) ?_
  repeat' (first|refine zh ?_|intro (bk:Nat))
  refine HR.ret Tryz.func24 I [_,_] (fun w hw=>⟨⟨_,rfl,jR hw 0 I I I I rfl⟩,rfl,trivial⟩) ?_
  exact fun w' hw=>⟨((none,0),[],[]),rfl,mk_zero,jAL hw⟩
 have hil:i<xs.length:=(List.getElem?_eq_some_iff.1 hx).1
 have hok:OkN w V n:=h.r _ (List.mem_of_getElem? hx)
 have hgn:GdN n:=hg _ (List.mem_of_getElem? hx)
 rw[jJM e2 hx]
 obtain ⟨S,hS⟩:∃S,S=send n target ur text:=⟨_,rfl⟩
 rw[← hS]
 refine HL.jQ (r:= .int .i64 (i:Int)) jL8 I I (fun w1 hw1=>by rw[← e1];exact Jj xs source v w1 (h.s.ext hw1.jE) (by omega)) ?_
 repeat' (first|refine zh ?_|refine HL.JD (Rd.arg h.s) Jm i I I I I hil ?_|refine HL.JX (us:=ndC V n) (Rd.arg h.s) I I I I (by simp) I (jH ji hx) ?_|intro (bk:Nat))
 refine HL.JG (r:=fun x:NV×List Chunk=> .tuple ⟨[.agg ⟨ndC x.1 S.1⟩,.int .i64 S.2]⟩) (Q:=fun x=>Own x.1 x.2 S.1) (G:=fun x=>[jB x.2]) fn53 I I (fun w1 hw1=>by rw[hS];exact jKz V n target ur text w1 (hok.ext hw1.jE) hgn.sm htx) ?_
 rintro ⟨V2,G2⟩ hO2
 have hO2:Own V2 G2 S.1:=hO2
 repeat' (first|refine zh ?_|intro (bk:Nat))
 refine HR.cond I (fun h2=>?_) (fun h2=>?_)
 ·have h2:S.2≠0:=by have h2:(S.2 != 0)=true:=h2;simpa using h2
  rw[if_pos h2]
  repeat' (first|refine zh ?_|intro (bk:Nat))
  refine HR.ret Tryz.func24 I [_,_] (fun w hw=>⟨⟨_,rfl,jR hw 2 I I I I rfl⟩,rfl,trivial⟩) ?_
  exact fun w' hw=>⟨((none,0),[],[]),rfl,mk_zero,jAL hw⟩
 have h2:S.2=0:=by have h2:(S.2 != 0)=false:=h2;simpa using h2
 have hgS:GdN S.1:=by rw[hS]at h2 ⊢;exact hgn.send h2
 rw[if_neg (by rw[h2];decide)]
 generalize bk=b13
 repeat' (first|refine zh ?_|intro (bk:Nat))
 refine HL.JG (r:=fun x:SV×List (NV×Nd)×List Chunk=>meV t (sv x.1 x.2.1.length)) (Q:=fun x=>MkL x (nds xs)) (G:=fun x=>[cNd (sv x.1 x.2.1.length) x.2.1,jB x.2.2]) fn54 I I (fun w1 hw1=>jA2 t v xs w1 (h.ext hw1.jE) (fun x hx=>(hg x hx).sm) hl) ?_
 rintro ⟨y,ys,G⟩ ⟨hN,hO⟩
 have hN:nds ys=nds xs:=hN
 have hO:∀z∈ys,Own z.1 G z.2:=hO
 have hyl:ys.length=xs.length:=by rw[← JL,hN,JL]
 have cy:(cellsOf Ze ys).length=ys.length*13:=jC ji _
 obtain ⟨z,hz⟩:=jJ (show i<ys.length by omega)
 obtain ⟨k1,k2,k3⟩:=jLX (i:=i) hN hO hg hO2 hgS
 repeat' (first|refine zh ?_|refine HL.JD (Rd.own 1 I) Jm i I I I I (show i<ys.length by omega) ?_|refine HL.zM (us:=ndC V2 S.1) (j:=i*13) 1 I I I I I I I (by rw[cy];show i*13+13≤_;omega) (by simp) ?_|intro (bk:Nat))
 refine HR.ret Tryz.func24 I [_,_] (fun w hw=>⟨⟨_,rfl,jR hw 5 I I I I rfl⟩,rfl,trivial⟩) ?_
 refine fun w' hw=>⟨(y,ys.set i (V2,S.1),[jB G2,jB G]),by rw[show (ys.set i (V2,S.1)).length=ys.length from List.length_set];rfl,⟨⟨k1,k2⟩,k3⟩,?_⟩
 show Sat (base w) [cNd (sv y (ys.set i (V2,S.1)).length) (ys.set i (V2,S.1)),jB [jB G2,jB G]] w'
 rw[jGc,show (ys.set i (V2,S.1)).length=ys.length from List.length_set]
 exact Ent.trans (Ent.pick (H':=[jB G2,jB G]++[_]) [4,2,1] I I) (Ent.trans Ent.group (Ent.trans (Ent.pick [1,0] I I) (Ent.JV I (Jg (us:=ndC V2 S.1) (i:=0) ji hz I (show 0+13≤13 by decide))))) w' hw
theorem jLR (xs:List (NV×Nd)) (t a:Int) (v:Value) (w:World) (h:OkL w v xs) (hg:∀x∈xs,GdN x.2) (hl:xs.length≤1000):
  Calls Tryz.prog 26 #[meV t v,.int .i64 a] w fun e w'=>∃x:(SV×List (NV×Nd)×List Chunk)×Value,e= .returned (.tuple ⟨[meV t (sv x.1.1 x.1.2.1.length),x.2]⟩)∧jJ1 x.1 (Me.KN ⟨t,nds xs⟩ a).1.nodes∧Sat (base w) [cNd (sv x.1.1 x.1.2.1.length) x.1.2.1,jB x.1.2.2,cDe x.2 (Me.KN ⟨t,nds xs⟩ a).2] w':=by
 refine jD Tryz.func26 I (Nat.le_of_ble_eq_true I) ?_
 refine HR.sub (σ':=[(0,meV t v),(1,.int .i64 a)]) ⟨I,I,trivial⟩ ?_
 refine HR.ctl I ?_
 refine HR.region ?_
 refine HL.box I I ?_
 intro b2
 refine HL.alloc I I ?_
 intro b4
 repeat' (first|refine zh ?_|intro (bk:Nat))
 refine HL.JG (r:=fun x:SV×List (NV×Nd)×List Chunk=>meV t (sv x.1 x.2.1.length)) (Q:=fun x=>MkL x (nds xs)) (G:=fun x=>[cNd (sv x.1 x.2.1.length) x.2.1,jB x.2.2]) fn54 I I (fun w1 hw1=>jA2 t v xs w1 (h.ext hw1.jE) (fun x hx=>(hg x hx).sm) hl) ?_
 rintro ⟨y,ys,G⟩ ⟨hN,hO⟩
 have hN:nds ys=nds xs:=hN
 have hO:∀z∈ys,Own z.1 G z.2:=hO
 have hyl:ys.length=xs.length:=by rw[← JL,hN,JL]
 have cy:(cellsOf Ze ys).length=ys.length*13:=jC ji _
 repeat' (first|refine zh ?_|intro (bk:Nat))
 generalize bk=b6
 rcases Z7 xs a with ⟨e1,e2⟩|⟨i,⟨V,n⟩,e1,e2,hx,hxa⟩
 ·rw [jJL e2]
  refine HL.jQ (r:= .int .i64 (-1)) jL8 I I (fun w1 hw1=>by rw[← e1];exact Jj xs a v w1 (h.s.ext hw1.jE) (by omega)) ?_
  repeat' (first|refine zh ?_|intro (bk:Nat))
  refine HR.ret Tryz.func26 I [_,_] (fun w hw=>⟨⟨_,rfl,jR hw 3 I I I I rfl⟩,rfl,trivial⟩) ?_
  refine fun w' hw=>⟨((y,ys,G),.slice none 0 0),rfl,⟨⟨hN,hO⟩,jRV hN hg⟩,?_⟩
  exact Ent.pick [1,2,0] I I w' (Sat.ZB (hw.pick (H':=[cNd (sv y ys.length) ys,jB G]) [1,2] I I) 65 2)
 have hil:i<xs.length:=(List.getElem?_eq_some_iff.1 hx).1
 have hok:OkN w V n:=h.r _ (List.mem_of_getElem? hx)
 have hgn:GdN n:=hg _ (List.mem_of_getElem? hx)
 rw[jJK e2 hx]
 obtain ⟨K,hK⟩:∃K,K=take n:=⟨_,rfl⟩
 have hgK:GdN K.1:=by rw[hK];exact hgn.take
 have hKl:K.2.length≤1000:=by
  rw[hK]
  show (order n).inbox.length≤1000
  exact Nat.le_trans (List.length_take_le _ _) (by decide)
 rw[← hK]
 refine HL.jQ (r:= .int .i64 (i:Int)) jL8 I I (fun w1 hw1=>by rw[← e1];exact Jj xs a v w1 (h.s.ext hw1.jE) (by omega)) ?_
 repeat' (first|refine zh ?_|refine HL.JD (Rd.arg h.s) Jm i I I I I hil ?_|refine HL.JX (us:=ndC V n) (Rd.arg h.s) I I I I (by simp) I (jH ji hx) ?_|intro (bk:Nat))
 refine HL.JG (r:=fun x:(NV×SV)×List Chunk=> .tuple ⟨[.agg ⟨ndC x.1.1 K.1⟩,sv x.1.2 K.2.length]⟩) (Q:=fun x=>Own x.1.1 x.2 K.1∧∀w2,(jB x.2).p w2→Sl w2 (sv x.1.2 K.2.length) (cellsOf deC K.2) K.2.length) (G:=fun x=>[jB x.2]) fn58 I I (fun w1 hw1=>by rw[hK];exact jKw V n w1 (hok.ext hw1.jE) hgn.sm) ?_
 rintro ⟨⟨V2,vk⟩,G2⟩ ⟨hO2,hI2⟩
 have hO2:Own V2 G2 K.1:=hO2
 have hI2:∀w2,(jB G2).p w2→Sl w2 (sv vk K.2.length) (cellsOf deC K.2) K.2.length:=hI2
 obtain ⟨z,hz⟩:=jJ (show i<ys.length by omega)
 obtain ⟨k1,k2,k3⟩:=jLX (i:=i) hN hO hg hO2 hgK
 repeat' (first|refine zh ?_|refine HL.JD (Rd.own 3 I) Jm i I I I I (show i<ys.length by omega) ?_|refine HL.zM (us:=ndC V2 K.1) (j:=i*13) 3 I I I I I I I (by rw[cy];show i*13+13≤_;omega) (by simp) ?_|intro (bk:Nat))
 refine HR.j6 [(0,true),(1,true),(2,false),(3,false),(4,true)] [2] I I Jf (by kernel_rfl) ?_
 repeat' (first|refine zd ?_|fail)
 refine HD.one I ?_
 refine HL.JN fn59 I I (fun w1 hw1=>jAF K.2 _ w1 (hI2 w1 (Sat.grp 1 hw1 I)) hKl) ?_
 intro vd
 refine HL.back [3] I I ?_
 refine HD.one I ?_
 repeat' (first|refine zn ?_|intro (bk:Nat))
 refine HL.back [3] I I ?_
 repeat' (first|refine zd ?_|fail)
 refine HD.nil ?_
 repeat' (first|refine zh ?_|intro (bk:Nat))
 refine HR.ret Tryz.func26 I [_,_] (fun w hw=>⟨⟨_,rfl,jR hw 6 I I I I rfl⟩,rfl,trivial⟩) ?_
 refine fun w' hw=>⟨((y,ys.set i (V2,K.1),[jB G2,jB G]),vd),by rw[show (ys.set i (V2,K.1)).length=ys.length from List.length_set];rfl,⟨⟨k1,k2⟩,k3⟩,?_⟩
 show Sat (base w) [cNd (sv y (ys.set i (V2,K.1)).length) (ys.set i (V2,K.1)),jB [jB G2,jB G],cDe vd K.2] w'
 rw[jGc,show (ys.set i (V2,K.1)).length=ys.length from List.length_set]
 exact Ent.trans (Ent.pick (H':=[jB G2,jB G]++[_,cDe vd K.2]) [2,5,4,0] I I) (Ent.trans Ent.group (Ent.trans (Ent.pick [1,0,2] I I) (Ent.JV I (Jg (us:=ndC V2 K.1) (i:=0) ji hz I (show 0+13≤13 by decide))))) w' hw
end Go.Proofs.YtgfdoognildoeaaGreat
namespace Go.Proofs.YtgfdoognildoeaaGreat
open Go.GX Go.RowKit
attribute [local irreducible] Calls Run jY jg JM HR HL HD jT jG Jb Rd jK jc
open Nd
theorem jQr {w:World} {v:Value} {e sz n:Nat} {xs:List Value} (h:(jG v e sz n xs).p w):Sl w v xs n:=by unfold jG at h;exact (show Vw w v e sz n xs from h).sl
theorem jNv (a:Int) {l t:List Ro} {k:Nat} {r:Ro} (hr:l[k]? =some r):Me.jCi a (l.take (k+1)) t=if r.nx≠a∧r.nx≠255 then jHz (Me.jCi a (l.take k) t) a r.nx else Me.jCi a (l.take k) t:=by
 unfold Me.jCi
 rw[jM hr,List.foldl_append];rfl
theorem jEv (xs:List (NV×Nd)) (t a:Int) (v:Value) (w:World) (h:OkL w v xs) (hg:∀x∈xs,GdN x.2) (hl:xs.length≤1000):
  Calls Tryz.prog 29 #[meV t v,.int .i64 a] w fun e w'=>∃x:SV×List (NV×Nd)×List Chunk,e= .returned (meV t (sv x.1 x.2.1.length))∧jJ1 x (Me.Jr ⟨t,nds xs⟩ a).nodes∧Sat (base w) [cNd (sv x.1 x.2.1.length) x.2.1,jB x.2.2] w':=by
 refine jD Tryz.func29 I (Nat.le_of_ble_eq_true I) ?_
 refine HR.sub (σ':=[(0,meV t v),(1,.int .i64 a)]) ⟨I,I,trivial⟩ ?_
 refine HR.ctl I ?_
 refine HR.region ?_
 refine HL.box I I ?_
 intro b2
 refine HL.alloc I I ?_
 intro b4
 repeat' (first|refine zh ?_|intro (bk:Nat))
 refine HL.JG (r:=fun x:SV×List (NV×Nd)×List Chunk=>meV t (sv x.1 x.2.1.length)) (Q:=fun x=>MkL x (nds xs)) (G:=fun x=>[cNd (sv x.1 x.2.1.length) x.2.1,jB x.2.2]) fn54 I I (fun w1 hw1=>jA2 t v xs w1 (h.ext hw1.jE) (fun x hx=>(hg x hx).sm) hl) ?_
 rintro ⟨y,ys,G⟩ ⟨hN,hO⟩
 have hN:nds ys=nds xs:=hN
 have hO:∀z∈ys,Own z.1 G z.2:=hO
 have hyl:ys.length=xs.length:=by rw[← JL,hN,JL]
 have cy:(cellsOf Ze ys).length=ys.length*13:=jC ji _
 repeat' (first|refine zh ?_|intro (bk:Nat))
 generalize bk=b5
 rcases Z7 xs a with ⟨e1,e2⟩|⟨i,⟨V,n⟩,e1,e2,hx,hxa⟩
 ·rw [jDv e2]
  refine HL.jQ (r:= .int .i64 (-1)) jL8 I I (fun w1 hw1=>by rw[← e1];exact Jj xs a v w1 (h.s.ext hw1.jE) (by omega)) ?_
  repeat' (first|refine zh ?_|intro (bk:Nat))
  refine HR.ret Tryz.func29 I [_] (fun w hw=>⟨⟨_,rfl,jR hw 3 I I I I rfl⟩,trivial⟩) ?_
  exact fun w' hw=>⟨(y,ys,G),rfl,⟨⟨hN,hO⟩,jRV hN hg⟩,hw.pick [1,2] I rfl⟩
 have hil:i<xs.length:=(List.getElem?_eq_some_iff.1 hx).1
 have hok:OkN w V n:=h.r _ (List.mem_of_getElem? hx)
 have hgn:GdN n:=hg _ (List.mem_of_getElem? hx)
 have hta:n.table.length≤1000:=hgn.sm.ta
 rw[jDu e2 hx]
 refine HL.jQ (r:= .int .i64 (i:Int)) jL8 I I (fun w1 hw1=>by rw[← e1];exact Jj xs a v w1 (h.s.ext hw1.jE) (by omega)) ?_
 repeat' (first|refine zh ?_|refine HL.JD (Rd.arg h.s) Jm i I I I I hil ?_|refine HL.JX (us:=ndC V n) (Rd.arg h.s) I I I I (by simp) I (jH ji hx) ?_|intro (bk:Nat))
 generalize bk=b7
 refine HL.JN fn61 I I (fun w1 hw1=>kZ n.table _ w1 (hok.ta.ext hw1.jE) hta) ?_
 intro v1
 repeat' (first|refine zh ?_|intro (bk:Nat))
 refine HR.loop (ι:=Nat×Value) (fun x=>x.1≤n.table.length) (fun x=>[(1,.int .i64 a),(4,ptr b4),(5,ptr b5),(6,.int .i64 (i:Int)),(7,ptr b7),(8,x.2),(30,sv V.ta n.table.length),(31,.int .i64 (n.table.length:Int)),(32,.int .i64 (x.1:Int))]) (fun x=>[jG x.2 94 4 (Me.jCi a (n.table.take x.1) n.table).length (cellsOf roC (Me.jCi a (n.table.take x.1) n.table)),jT b7 (ndC V n) 62,meB b5 t (sv y ys.length),jT b4 meZ 26,cNd (sv y ys.length) ys,jB G]) (fun x=>n.table.length-x.1) (0,v1) (Nat.zero_le _) ⟨I,I,I,I,I,I,I,I,I,trivial⟩ (Ent.pick [0,1,2,5,3,4] I I) ?_
 rintro ⟨k,vt⟩ hk ih
 have hk:k≤n.table.length:=hk
 obtain ⟨T,hT⟩:∃T,T=Me.jCi a (n.table.take k) n.table:=⟨_,rfl⟩
 have hTl:T.length≤1000:=by rw[hT];exact jEB a _ _ hta
 refine HR.ent (H':=[jG vt 94 4 T.length (cellsOf roC T),jT b7 (ndC V n) 62,meB b5 t (sv y ys.length),jT b4 meZ 26,cNd (sv y ys.length) ys,jB G]) (by rw[hT];exact Ent.refl) ?_
 repeat' (first|refine zh ?_|intro (bk:Nat))
 refine HR.cond I (fun h2=>?_) (fun h2=>?_)
 ·have hlt:k<n.table.length:=by have:(k:Int)<(n.table.length:Int):=of_decide_eq_true h2;omega
  obtain ⟨r,hr⟩:=jJ hlt
  have hst:=jNv a (t:=n.table) hr
  rw[← hT]at hst
  repeat' (first|refine zh ?_|refine HL.JD (Rd.arg hok.ta) Jd k I I I I hlt ?_|refine HL.JX (us:=roC r) (Rd.arg hok.ta) I I I I (by simp) I (jH jk hr) ?_|intro (bk:Nat))
  repeat' (first|refine zh ?_|apply zb ?_ ?_|exact zc|(refine zi fun hb=>?_;try simp at hb)|intro (bk:Nat))
  refine HR.cond I (fun h3=>?_) (fun h3=>?_)
  ·have h3:r.nx≠a∧r.nx≠255:=by have h3:((r.nx != a)&&(r.nx != 255))=true:=h3;simpa using h3
   rw[if_pos h3]at hst
   repeat' (first|refine zh ?_|intro (bk:Nat))
   refine HL.JN fn62 I I (fun w1 hw1=>jG5 T a r.nx vt w1 ((Rd.own 1 rfl).at hw1) hTl) ?_
   intro v2
   repeat' (first|refine zh ?_|intro (bk:Nat))
   exact ih (k+1,v2) _ _ hlt (by show n.table.length-(k+1)<n.table.length-k;omega) ⟨I,I,I,I,I,I,I,I,I,trivial⟩ (Ent.trans (Ent.pick [0,3,4,5,6,7] I I) (Ent.JV (by show _=(Me.jCi a (n.table.take (k+1)) n.table).length;rw[hst]) (by show _=cellsOf roC (Me.jCi a (n.table.take (k+1)) n.table);rw[hst])))
  ·have h3:¬(r.nx≠a∧r.nx≠255):=by have h3:((r.nx != a)&&(r.nx != 255))=false:=h3;intro hh;simp[hh.1,hh.2]at h3
   rw[if_neg h3]at hst
   repeat' (first|refine zh ?_|intro (bk:Nat))
   exact ih (k+1,vt) _ _ hlt (by show n.table.length-(k+1)<n.table.length-k;omega) ⟨I,I,I,I,I,I,I,I,I,trivial⟩ (Ent.trans (Ent.pick [1,2,3,4,5,6] I I) (Ent.JV (by show _=(Me.jCi a (n.table.take (k+1)) n.table).length;rw[hst]) (by show _=cellsOf roC (Me.jCi a (n.table.take (k+1)) n.table);rw[hst])))
 have hke:k=n.table.length:=by have:¬(k:Int)<(n.table.length:Int):=of_decide_eq_false h2;omega
 rw[hke,List.take_length]at hT
 obtain ⟨A,hA⟩:∃A,A=Me.again n a:=⟨_,rfl⟩
 have hAT:A={ new a n.poll with seq:=n.seq,table:=T }:=by rw[hA,hT];rfl
 rw[← hA]
 repeat' (first|refine zh ?_|intro (bk:Nat))
 refine HL.JG (r:=fun x:NV×List Chunk=> .agg ⟨ndC x.1 (new a n.poll)⟩) (Q:=fun x=>Own x.1 x.2 (new a n.poll)) (G:=fun x=>[jB x.2]) fn36 I I (fun w1 hw1=>jG9 a n.poll w1) ?_
 rintro ⟨V2,G2⟩ hO2
 have hO2:Own V2 G2 (new a n.poll):=hO2
 refine HL.shape 1 I fun ac cc hv=>?_
 have hv:vt= .slice ac T.length cc:=hv
 subst hv
 obtain ⟨V3,hV3⟩:∃V3:NV,V3={ V2 with ta:=(ac,cc) }:=⟨_,rfl⟩
 have hO3:Own V3 [jG (.slice ac T.length cc) 94 4 T.length (cellsOf roC T),jB G2] A:=fun w2 hg2=>by
  have hn:=hO2 w2 (jP hg2 (by simp))
  have ht:Sl w2 (.slice ac T.length cc) (cellsOf roC T) T.length:=jQr hg2.1
  rw[hAT,hV3]
  exact ⟨ht,hn.li,hn.ou,hn.ch,hn.bo,hn.se,hn.pa,hn.ib,hn.eq⟩
 have hgA:GdN A:=by rw[hA];exact hgn.again a
 obtain ⟨z,hz⟩:=jJ (show i<ys.length by omega)
 obtain ⟨k1,k2,k3⟩:=jLX (i:=i) hN hO hg hO3 hgA
 repeat' (first|refine zh ?_|refine HL.JD (Rd.own 6 I) Jm i I I I I (show i<ys.length by omega) ?_|intro (bk:Nat))
 refine HL.ZT 63 (v':= .agg ⟨ndC V3 A⟩) I (by rw[hAT,hV3]) ?_
 refine HL.zM (us:=ndC V3 A) (j:=i*13) 6 I I I I I I I (by rw[cy];show i*13+13≤_;omega) (by simp) ?_
 repeat' (first|refine zh ?_|intro (bk:Nat))
 refine HR.ret Tryz.func29 I [_] (fun w hw=>⟨⟨_,rfl,jR hw 5 I I I I rfl⟩,trivial⟩) ?_
 refine fun w' hw=>⟨(y,ys.set i (V3,A),[jB [jG (.slice ac T.length cc) 94 4 T.length (cellsOf roC T),jB G2],jB G]),by rw[show (ys.set i (V3,A)).length=ys.length from List.length_set];rfl,⟨⟨k1,k2⟩,k3⟩,?_⟩
 show Sat (base w) [cNd (sv y (ys.set i (V3,A)).length) (ys.set i (V3,A)),jB [jB [jG (.slice ac T.length cc) 94 4 T.length (cellsOf roC T),jB G2],jB G]] w'
 rw[jGc,show (ys.set i (V3,A)).length=ys.length from List.length_set]
 exact Ent.trans (Ent.pick (H':=[jG (.slice ac T.length cc) 94 4 T.length (cellsOf roC T),jB G2]++[jB G,_]) [2,1,7,6] I I) (Ent.trans Ent.group (Ent.trans (Ent.pick (H':=[jB [jG (.slice ac T.length cc) 94 4 T.length (cellsOf roC T),jB G2],jB G]++[_]) [0,1,2] I I) (Ent.trans Ent.group (Ent.trans (Ent.pick [1,0] I I) (Ent.JV I (Jg (us:=ndC V3 A) (i:=0) ji hz I (show 0+13≤13 by decide))))))) w' hw
end Go.Proofs.YtgfdoognildoeaaGreat
namespace Go.Proofs.YtgfdoognildoeaaGreat
open Go.GX Go.RowKit
attribute [local irreducible] Calls Run jY jg JM HR HL HD jT jG Jb Rd jK jc
open Nd
abbrev ImpL (v v':Value) (xs ys:List (NV×Nd)) (G:List Chunk):Prop:=∀w2,OkL w2 v xs→(jB G).p w2→OkL w2 v' ys
abbrev RfL (v:Value) (xs:List (NV×Nd)) (x:SV×List (NV×Nd)×List Chunk) (l:List Nd):Prop:=nds x.2.1=l∧ImpL v (sv x.1 x.2.1.length) xs x.2.1 x.2.2
theorem jKj {y:SV} {xs:List (NV×Nd)}:RfL (sv y xs.length) xs (y,xs,[]) (nds xs):=⟨rfl,fun _ h _=>h⟩
end Go.Proofs.YtgfdoognildoeaaGreat
namespace Go.Proofs.YtgfdoognildoeaaGreat
open Go.GX Go.RowKit
attribute [local irreducible] Calls Run jY jg JM HR HL HD jT jG Jb Rd jK jc
open Nd
abbrev opC (o:Me.Op) (ve vo vn:Value):List Value:=[.int .i64 o.kind,.int .i64 o.n,.int .i64 o.m,.bool o.ur,str o.te,ve,vo,vn]
end Go.Proofs.YtgfdoognildoeaaGreat
namespace Go.Proofs.YtgfdoognildoeaaGreat
open Go.GX Go.RowKit
attribute [local irreducible] Calls Run jY jg JM HR HL HD jT jG Jb Rd jK jc
open Nd
open Go.ChangeShapes Go.WideShapes
variable {H : Type} {enc : TypeId × Value → H} {W : World}
theorem jQ5:ZH enc Tryz.prog W 206 edC (fun _=>True):=by
 intro fuel cs x h hz
 obtain ⟨hl,hf⟩:=ZH.fields (fs:=_) I h hz
 have cT:Tryz.prog.cellsOf 206=2:=by kernel_rfl
 have cf0:Tryz.prog.cellsOf 3=1:=by kernel_rfl
 rw[cT]at hl
 obtain ⟨fu0,y0,h0,i0⟩:=hf _ (List.mem_cons_self ..)
 obtain ⟨fu1,y1,h1,i1⟩:=hf _ (List.mem_cons_of_mem _ (List.mem_cons_self ..))
 obtain ⟨a0,g0,b0⟩:=(Opens.int (k:= .i64) rfl).z fu0 _ _ h0 i0
 obtain ⟨a1,g1,b1⟩:=(Opens.int (k:= .i64) rfl).z fu1 _ _ h1 i1
 have e0:=parts_eq g0 (m:=1) (by simp[cf0]) (by simp[cf0])
 have e1:=parts_eq g1 (m:=2) (by simp[cf0]) (by simp[cf0])
 refine ⟨⟨a0,a1⟩,?_,trivial⟩
 simp only[List.drop_zero]at e0
 rw[e0,e1,List.drop_eq_nil_of_le (by omega)];rfl
theorem opZ32:ZH enc Tryz.prog W 32 (fun p:Value×List Ed=>[p.1]) (fun p=>Sl W p.1 (cellsOf edC p.2) p.2.length∧p.2.length*Tryz.prog.bytesOf 206≤reachBytes∧∀a∈p.2,True):=
 ZH.slice (sz:=2) I (by kernel_rfl) (by decide) jGX jQ5
abbrev AirA:=(Value×Value×Value)×Me.Air
abbrev aiE (a:AirA):List Value:=[a.1.1,a.1.2.1,a.1.2.2]
structure AiOk (W:World) (a:AirA):Prop where
 e:Sl W a.1.1 (cellsOf edC a.2.e) a.2.e.length
 o:Sl W a.1.2.1 (cellsOf iC a.2.o) a.2.o.length
 n:Sl W a.1.2.2 (cellsOf iC a.2.n) a.2.n.length
theorem opZ34:ZH enc Tryz.prog W 34 aiE (AiOk W):=by
 intro fuel cs x h hz
 obtain ⟨hl,hf⟩:=ZH.fields (fs:=_) I h hz
 have cT:Tryz.prog.cellsOf 34=3:=by kernel_rfl
 have cf0:Tryz.prog.cellsOf 32=1:=by kernel_rfl
 have cf1:Tryz.prog.cellsOf 22=1:=by kernel_rfl
 rw[cT]at hl
 obtain ⟨fu0,y0,h0,i0⟩:=hf _ (List.mem_cons_self ..)
 obtain ⟨fu1,y1,h1,i1⟩:=hf _ (List.mem_cons_of_mem _ (List.mem_cons_self ..))
 obtain ⟨fu2,y2,h2,i2⟩:=hf _ (List.mem_cons_of_mem _ (List.mem_cons_of_mem _ (List.mem_cons_self ..)))
 obtain ⟨⟨v0,l0⟩,g0,s0,n0,q0⟩:=opZ32 fu0 _ _ h0 i0
 obtain ⟨⟨v1,l1⟩,g1,s1,n1,q1⟩:=opZ22 fu1 _ _ h1 i1
 obtain ⟨⟨v2,l2⟩,g2,s2,n2,q2⟩:=opZ22 fu2 _ _ h2 i2
 obtain ⟨z0,hz0⟩:=jDT s0
 have hz0:v0=sv z0 l0.length:=hz0
 subst hz0
 obtain ⟨z1,hz1⟩:=jDT s1
 have hz1:v1=sv z1 l1.length:=hz1
 subst hz1
 obtain ⟨z2,hz2⟩:=jDT s2
 have hz2:v2=sv z2 l2.length:=hz2
 subst hz2
 have e0:=parts_eq g0 (m:=1) (by simp[cf0]) (by simp[cf0])
 have e1:=parts_eq g1 (m:=2) (by simp[cf1]) (by simp[cf1])
 have e2:=parts_eq g2 (m:=3) (by simp[cf1]) (by simp[cf1])
 refine ⟨((sv z0 l0.length,sv z1 l1.length,sv z2 l2.length),⟨l0,l1,l2⟩),?_,⟨s0,s1,s2⟩⟩
 simp only[List.drop_zero]at e0
 rw[e0,e1,e2,List.drop_eq_nil_of_le (by omega)];rfl
abbrev OpA:=(Value×Value×Value)×Me.Op
abbrev opE (a:OpA):List Value:=opC a.2 a.1.1 a.1.2.1 a.1.2.2
theorem K9 (a:OpA):(opE a).length=8:=rfl
structure OpOk (W:World) (a:OpA):Prop where
 air:AiOk W (a.1,a.2.air)
 te:a.2.te.length≤9223372036854775807
theorem opZ44:ZH enc Tryz.prog W 44 opE (OpOk W):=by
 intro fuel cs x h hz
 obtain ⟨hl,hf⟩:=ZH.fields (fs:=_) I h hz
 have cT:Tryz.prog.cellsOf 44=8:=by kernel_rfl
 have cf0:Tryz.prog.cellsOf 3=1:=by kernel_rfl
 have cf1:Tryz.prog.cellsOf 4=1:=by kernel_rfl
 have cf2:Tryz.prog.cellsOf 9=1:=by kernel_rfl
 have cf3:Tryz.prog.cellsOf 34=3:=by kernel_rfl
 rw[cT]at hl
 obtain ⟨fu0,y0,h0,i0⟩:=hf _ (List.mem_cons_self ..)
 obtain ⟨fu1,y1,h1,i1⟩:=hf _ (List.mem_cons_of_mem _ (List.mem_cons_self ..))
 obtain ⟨fu2,y2,h2,i2⟩:=hf _ (List.mem_cons_of_mem _ (List.mem_cons_of_mem _ (List.mem_cons_self ..)))
 obtain ⟨fu3,y3,h3,i3⟩:=hf _ (List.mem_cons_of_mem _ (List.mem_cons_of_mem _ (List.mem_cons_of_mem _ (List.mem_cons_self ..))))
 obtain ⟨fu4,y4,h4,i4⟩:=hf _ (List.mem_cons_of_mem _ (List.mem_cons_of_mem _ (List.mem_cons_of_mem _ (List.mem_cons_of_mem _ (List.mem_cons_self ..)))))
 obtain ⟨fu5,y5,h5,i5⟩:=hf _ (List.mem_cons_of_mem _ (List.mem_cons_of_mem _ (List.mem_cons_of_mem _ (List.mem_cons_of_mem _ (List.mem_cons_of_mem _ (List.mem_cons_self ..))))))
 obtain ⟨a0,g0,b0⟩:=(Opens.int (k:= .i64) rfl).z fu0 _ _ h0 i0
 obtain ⟨a1,g1,b1⟩:=(Opens.int (k:= .i64) rfl).z fu1 _ _ h1 i1
 obtain ⟨a2,g2,b2⟩:=(Opens.int (k:= .i64) rfl).z fu2 _ _ h2 i2
 obtain ⟨a3,g3,b3⟩:=(Opens.bool rfl).z fu3 _ _ h3 i3
 obtain ⟨a4,g4,b4⟩:=(Opens.str rfl).z fu4 _ _ h4 i4
 obtain ⟨⟨⟨u5,w5,x5⟩,m5⟩,g5,b5⟩:=opZ34 fu5 _ _ h5 i5
 have e0:=parts_eq g0 (m:=1) (by simp[cf0]) (by simp[cf0])
 have e1:=parts_eq g1 (m:=2) (by simp[cf0]) (by simp[cf0])
 have e2:=parts_eq g2 (m:=3) (by simp[cf0]) (by simp[cf0])
 have e3:=parts_eq g3 (m:=4) (by simp[cf1]) (by simp[cf1])
 have e4:=parts_eq g4 (m:=5) (by simp[cf2]) (by simp[cf2])
 have e5:=parts_eq g5 (m:=8) (by simp[cf3]) (by simp[cf3])
 refine ⟨((u5,w5,x5),⟨a0,a1,a2,a3,a4,m5⟩),?_,⟨b5,b4⟩⟩
 simp only[List.drop_zero]at e0
 rw[e0,e1,e2,e3,e4,e5,List.drop_eq_nil_of_le (by omega)];rfl
theorem opZ52:ZH enc Tryz.prog W 52 (fun p:Value×List OpA=>[p.1]) (fun p=>Sl W p.1 (cellsOf opE p.2) p.2.length∧p.2.length*Tryz.prog.bytesOf 44≤reachBytes∧∀a∈p.2,OpOk W a):=
 ZH.slice (sz:=8) I (by kernel_rfl) (by decide) K9 opZ44
end Go.Proofs.YtgfdoognildoeaaGreat
namespace Go.Proofs.YtgfdoognildoeaaGreat
open Go.GX Go.RowKit
attribute [local irreducible] Calls Run jY jg JM HR HL HD jT jG Jb Rd jK jc
open Nd
theorem fn14:IsFn Tryz.prog 14:=⟨⟨_,_,Tryz.func14,rfl,by decide⟩⟩
theorem fn31:IsFn Tryz.prog 31:=⟨⟨_,_,Tryz.func31,rfl,by decide⟩⟩
def jER (a:Me.Air):Bool:=(decide ((a.e.length:Int)>60)||decide ((a.o.length:Int)>60))||decide ((a.n.length:Int)>60)
theorem jMd {a:Me.Air} (h:jER a=false):a.e.length≤60∧a.o.length≤60∧a.n.length≤60:=by
 unfold jER at h
 simp only[Bool.or_eq_false_iff,decide_eq_false_iff_not]at h
 omega
theorem jMe (a:AirA) (w:World) (h:AiOk w a):
  Calls Tryz.prog 14 #[.agg ⟨aiE a⟩] w fun e w'=>e= .returned (.bool (jER a.2))∧Below w.heap.size w w':=by
 refine jD Tryz.func14 I (Nat.le_of_ble_eq_true I) ?_
 refine HR.sub (σ':=[(0,.agg ⟨aiE a⟩)]) ⟨I,trivial⟩ ?_
 refine HR.ctl I ?_
 refine HR.region ?_
 refine HL.box I I ?_
 intro b1
 repeat' (first|refine zh ?_|refine HL.JQ (Rd.arg h.e) I I I ?_|refine HL.JQ (Rd.arg h.o) I I I ?_|refine HL.JQ (Rd.arg h.n) I I I ?_|apply zb ?_ ?_|exact zc|(refine zi fun hb=>?_;try simp at hb)|intro (bk:Nat))
 refine HR.ret Tryz.func14 I [_] (fun _ _=>⟨I,trivial⟩) ?_
 exact fun w' hw=>⟨rfl,hw.jE⟩
theorem jMG:Elem Tryz.prog 52 44 8 120:=⟨rfl,⟨_,_,rfl,rfl,rfl,rfl,rfl⟩,by decide⟩
theorem jQ4 {l:List OpA} {i:Nat} {x:OpA} (hx:l[i]? =some x) (k:Nat) (u:Value) (hu:(aiE (x.1,x.2.air))[k]? =some u):(cellsOf opE l)[i*8+5+k]? =some u:=by
 rw[Nat.add_assoc]
 refine jH K9 hx (5+k) u ?_
 rw[← List.getElem?_drop];exact hu
structure SmallL (addrs polls:List Int) (l:List OpA):Prop where
 ad:addrs.length≤6
 po:polls.length≤6
 le:l.length≤80
 ok:∀x∈l,jER x.2.air=false∧x.2.te.length≤300
theorem jKR (addrs polls:List Int) (l:List OpA) (va vp vl:Value) (w:World) (ha:Sl w va (cellsOf iC addrs) addrs.length) (hp:Sl w vp (cellsOf iC polls) polls.length) (hl:Sl w vl (cellsOf opE l) l.length) (hO:∀x∈l,OpOk w x):
  Calls Tryz.prog 31 #[va,vp,vl] w fun e w'=>∃b:Bool,e= .returned (.bool b)∧(b=true→SmallL addrs polls l)∧Sat (base w) [] w':=by
 have cl:(cellsOf opE l).length=l.length*8:=jC K9 _
 refine jD Tryz.func31 I (Nat.le_of_ble_eq_true I) ?_
 refine HR.sub (σ':=[(0,va),(1,vp),(2,vl)]) ⟨I,I,I,trivial⟩ ?_
 repeat' (first|refine zh ?_|intro (bk:Nat))
 refine HR.loop (ι:=Nat) (fun i=>(i=0∨l.length≤80)∧i≤l.length∧∀j x,j<i→l[j]? =some x→jER x.2.air=false∧x.2.te.length≤300) (fun i=>[(0,va),(1,vp),(2,vl),(7,.int .i64 (i:Int))]) (fun _=>[]) (fun i=>l.length-i) 0 ⟨.inl rfl,Nat.zero_le _,fun j x hj=>absurd hj (Nat.not_lt_zero _)⟩ ⟨I,I,I,I,trivial⟩ Ent.refl ?_
 rintro i ⟨h80,hi,hok⟩ ih
 have h80:i=0∨l.length≤80:=h80
 have hi:i≤l.length:=hi
 have hok:∀j x,j<i→l[j]? =some x→jER x.2.air=false∧x.2.te.length≤300:=hok
 repeat' (first|refine zh ?_|refine HL.JQ (Rd.arg hl) I I I ?_|apply zb ?_ ?_|exact zc|(refine zi fun hb=>?_;try simp at hb)|intro (bk:Nat))
 refine HR.cond I (fun h2=>?_) (fun h2=>?_)
 ·have h2:i<l.length∧l.length≤80:=by have h2:(decide ((i:Int)<(l.length:Int))&&decide ((l.length:Int)≤80))=true:=h2;simp only[Bool.and_eq_true,decide_eq_true_eq]at h2;omega
  obtain ⟨x,hx⟩:=jJ h2.1
  have hox:=hO x (List.mem_of_getElem? hx)
  obtain ⟨wi,hwi⟩:∃wi,wi=jER x.2.air:=⟨_,rfl⟩
  repeat' (first|refine zh ?_|refine HL.JD (Rd.arg hl) jMG i I I I I h2.1 ?_|refine HL.j5 5 (Rd.arg hl) (by rw[cl];omega) I I I I I I I ?_|refine HL.j5 4 (Rd.arg hl) (by rw[cl];omega) I I I I I I I ?_|refine HL.JX (us:=aiE (x.1,x.2.air)) (Rd.arg hl) I I I I (by simp) I (jQ4 hx) ?_|refine HL.jw (Rd.arg hl) I I I I (jS K9 hx (i:=4) I) ?_|refine HL.jQ (r:= .bool wi) fn14 I I (fun w1 hw1=>by rw[hwi];exact jMe (x.1,x.2.air) w1 ⟨(Rd.arg hox.air.e).at hw1,(Rd.arg hox.air.o).at hw1,(Rd.arg hox.air.n).at hw1⟩) ?_|apply zb ?_ ?_|exact zc|(refine zi fun hb=>?_;try simp at hb)|intro (bk:Nat))
  refine HR.cond I (fun h3=>?_) (fun h3=>?_)
  ·repeat' (first|refine zh ?_|intro (bk:Nat))
   refine HR.ret Tryz.func31 I [_] (fun _ _=>⟨I,trivial⟩) ?_
   exact fun w' hw=>⟨false,rfl,fun h=>(by cases h),hw⟩
  have h3:(wi||decide ((x.2.te.length:Int)>300))=false:=h3
  simp only[Bool.or_eq_false_iff,decide_eq_false_iff_not]at h3
  repeat' (first|refine zh ?_|intro (bk:Nat))
  refine ih (i+1) _ _ ⟨.inr h2.2,h2.1,fun j y hj hy=>?_⟩ (by show l.length-(i+1)<l.length-i;omega) ⟨I,I,I,I,trivial⟩ Ent.refl
  by_cases e:j=i
  ·rw [e,hx]at hy;cases hy;exact ⟨by rw[← hwi];exact h3.1,by omega⟩
  ·exact hok j y (by omega) hy
 have h2:(decide ((i:Int)<(l.length:Int))&&decide ((l.length:Int)≤80))=false:=h2
 repeat' (first|refine zh ?_|refine HL.JQ (Rd.arg ha) I I I ?_|refine HL.JQ (Rd.arg hp) I I I ?_|refine HL.JQ (Rd.arg hl) I I I ?_|apply zb ?_ ?_|exact zc|(refine zi fun hb=>?_;try simp at hb)|intro (bk:Nat))
 refine HR.ret Tryz.func31 I [_] (fun _ _=>⟨I,trivial⟩) ?_
 refine fun w' hw=>⟨_,rfl,fun h=>?_,hw⟩
 have h:((decide ((addrs.length:Int)≤6)&&decide ((polls.length:Int)≤6))&&decide ((l.length:Int)≤80))=true:=h
 simp only[Bool.and_eq_true,decide_eq_true_eq,Bool.and_eq_false_iff,decide_eq_false_iff_not]at h h2
 refine ⟨by omega,by omega,by omega,fun x hx=>?_⟩
 obtain ⟨j,hj⟩:=List.getElem?_of_mem hx
 exact hok j x (by have:=(List.getElem?_eq_some_iff.1 hj).1;omega) hj
end Go.Proofs.YtgfdoognildoeaaGreat
namespace Go.Proofs.YtgfdoognildoeaaGreat
open Go.GX Go.RowKit
attribute [local irreducible] Calls Run jY jg JM HR HL HD jT jG Jb Rd jK jc
open Nd
theorem fn32:IsFn Tryz.prog 32:=⟨⟨_,_,Tryz.func32,rfl,by decide⟩⟩
theorem jPW {v:Value} {xs:List (NV×Nd)} {x:SV×List (NV×Nd)×List Chunk} {l:List Nd} (h:MkL x l):RfL v xs (x.1,x.2.1,[cNd (sv x.1 x.2.1.length) x.2.1,jB x.2.2]) l:=
 ⟨h.1,fun w2 _ hg=>⟨zG (jP hg (c:=cNd (sv x.1 x.2.1.length) x.2.1) (by simp)),fun y hy=>h.2 y hy w2 (jP hg (by simp))⟩⟩
theorem jQv {v:Value} {xs:List (NV×Nd)} {x:SV×List (NV×Nd)×List Chunk} {l:List Nd} {c:Chunk} (h:MkL x l):RfL v xs (x.1,x.2.1,[cNd (sv x.1 x.2.1.length) x.2.1,jB x.2.2,c]) l:=
 ⟨h.1,fun w2 _ hg=>⟨zG (jP hg (c:=cNd (sv x.1 x.2.1.length) x.2.1) (by simp)),fun y hy=>h.2 y hy w2 (jP hg (by simp))⟩⟩
theorem jRJ {M:Me.Mesh} {o:Me.Op} (h:o.kind=0):Me.next M o=(Me.jDt M o.air,[]):=by unfold Me.next;rw[if_pos h]
theorem jRH {M:Me.Mesh} {o:Me.Op} (h:o.kind=1):Me.next M o=if (Me.Zq M o.n o.m o.ur o.te).2=0 then ((Me.Zq M o.n o.m o.ur o.te).1,[])else (M,[]):=by unfold Me.next;rw[if_neg (by rw[h];decide),if_pos h]
theorem jRG {M:Me.Mesh} {o:Me.Op} (h:o.kind=2):Me.next M o=Me.KN M o.n:=by unfold Me.next;rw[if_neg (by rw[h];decide),if_neg (by rw[h];decide),if_pos h]
theorem jRF {M:Me.Mesh} {o:Me.Op} (h:o.kind=3):Me.next M o=(Me.Jr M o.n,[]):=by unfold Me.next;rw[if_neg (by rw[h];decide),if_neg (by rw[h];decide),if_neg (by rw[h];decide),if_pos h]
theorem jRE {M:Me.Mesh} {o:Me.Op} (h0:o.kind≠0) (h1:o.kind≠1) (h2:o.kind≠2) (h3:o.kind≠3):Me.next M o=(M,[]):=by unfold Me.next;rw[if_neg h0,if_neg h1,if_neg h2,if_neg h3]
theorem jHF (t:Int) (v:Value) (xs:List (NV×Nd)) (o:OpA) (w:World) (h:OkL w v xs) (hg:∀x∈xs,GdN x.2) (hl:xs.length≤1000) (ho:OpOk w o) (hw:jER o.2.air=false):
  Calls Tryz.prog 32 #[meV t v,.agg ⟨opE o⟩] w fun e w'=>∃x:(SV×List (NV×Nd)×List Chunk)×Value,e= .returned (.tuple ⟨[meV (Me.next ⟨t,nds xs⟩ o.2).1.tick (sv x.1.1 x.1.2.1.length),x.2]⟩)∧(RfL v xs x.1 (Me.next ⟨t,nds xs⟩ o.2).1.nodes∧(∀ y∈x.1.2.1,GdN y.2)∧∀w2,(jB x.1.2.2).p w2→Sl w2 x.2 (cellsOf deC (Me.next ⟨t,nds xs⟩ o.2).2) (Me.next ⟨t,nds xs⟩ o.2).2.length)∧Sat (base w) [jB x.1.2.2] w':=by
 obtain ⟨av,cv,hv,_⟩:=h.s.2
 subst hv
 obtain ⟨⟨ve,vo,vn⟩,⟨k,n,m,ur,te,air⟩⟩:=o
 have hwf:=jMd hw
 have hair:OkA w air ve vo vn:=⟨ho.air.e,ho.air.o,ho.air.n,by have:=hwf.1;show air.e.length≤300;exact Nat.le_trans this (by decide),hwf.2.1,hwf.2.2⟩
 have hte:te.length≤9223372036854775807:=ho.te
 refine jD Tryz.func32 I (Nat.le_of_ble_eq_true I) ?_
 refine HR.sub (σ':=[(0,meV t (sv (av,cv) xs.length)),(1,.agg ⟨opE ((ve,vo,vn),⟨k,n,m,ur,te,air⟩)⟩)]) ⟨I,I,trivial⟩ ?_
 refine HR.ctl I ?_
 refine HR.region ?_
 refine HL.box I I ?_
 intro b2
 refine HL.box I I ?_
 intro b3
 refine HL.alloc I I ?_
 intro b4
 repeat' (first|refine zh ?_|intro (bk:Nat))
 refine HR.cond I (fun h0=>?_) (fun h0=>?_)
 ·have h0:k=0:=eq_of_beq h0
  rw[jRJ h0]
  obtain ⟨R,hR⟩:∃R,R=Me.jDt ⟨t,nds xs⟩ air:=⟨_,rfl⟩
  rw[← hR]
  repeat' (first|refine zh ?_|intro (bk:Nat))
  refine HL.JG (r:=fun x:SV×List (NV×Nd)×List Chunk=>meV R.tick (sv x.1 x.2.1.length)) (Q:=fun x=>jJ1 x R.nodes) (G:=fun x=>[cNd (sv x.1 x.2.1.length) x.2.1,jB x.2.2]) fn15 I I (fun w1 hw1=>by rw[hR];exact jEt t _ xs air ve vo vn w1 (h.ext hw1.jE) hg hl (hair.at hw1)) ?_
  rintro ⟨y,ys,G⟩ ⟨hM,hG⟩
  repeat' (first|refine zh ?_|intro (bk:Nat))
  refine HR.ret Tryz.func32 I [_,_] (fun w hw=>⟨⟨_,rfl,jR hw 2 I I I I rfl⟩,rfl,trivial⟩) ?_
  exact fun w' hw=>⟨((y,ys,[cNd (sv y ys.length) ys,jB G]),.slice none 0 0),rfl,⟨jPW hM,hG,fun w2 _=>Sl.nil w2⟩,Ent.trans (Ent.pick (H':=[cNd (sv y ys.length) ys,jB G]++[]) [0,1] I I) Ent.group w' hw⟩
 have h0:k≠0:=by have h0:(k==0)=false:=h0;simpa using h0
 repeat' (first|refine zh ?_|intro (bk:Nat))
 refine HR.cond I (fun h1=>?_) (fun h1=>?_)
 ·have h1:k=1:=eq_of_beq h1
  rw[jRH h1]
  obtain ⟨R,hR⟩:∃R,R=Me.Zq ⟨t,nds xs⟩ n m ur te:=⟨_,rfl⟩
  have hR':Me.Zq ⟨t,nds xs⟩ n m ur te=R:=hR.symm
  simp only[hR']
  repeat' (first|refine zh ?_|intro (bk:Nat))
  refine HL.JG (r:=fun x:SV×List (NV×Nd)×List Chunk=> .tuple ⟨[meV R.1.tick (sv x.1 x.2.1.length),.int .i64 R.2]⟩) (Q:=fun x=>jJ1 x R.1.nodes) (G:=fun x=>[cNd (sv x.1 x.2.1.length) x.2.1,jB x.2.2]) fn24 I I (fun w1 hw1=>by rw[hR];exact jLS xs t n m ur te _ w1 (h.ext hw1.jE) hg hl hte) ?_
  rintro ⟨y,ys,G⟩ ⟨hM,hG⟩
  repeat' (first|refine zh ?_|intro (bk:Nat))
  refine HR.cond I (fun h2=>?_) (fun h2=>?_)
  ·have h2:R.2=0:=eq_of_beq h2
   rw[if_pos h2]
   repeat' (first|refine zh ?_|intro (bk:Nat))
   refine HR.ret Tryz.func32 I [_,_] (fun w hw=>⟨⟨_,rfl,jR hw 3 I I I I rfl⟩,rfl,trivial⟩) ?_
   exact fun w' hw=>⟨((y,ys,[cNd (sv y ys.length) ys,jB G]),.slice none 0 0),rfl,⟨jPW hM,hG,fun w2 _=>Sl.nil w2⟩,Ent.trans (Ent.pick (H':=[cNd (sv y ys.length) ys,jB G]++[]) [1,2] I I) Ent.group w' hw⟩
  have h2:R.2≠0:=by have h2:(R.2==0)=false:=h2;simpa using h2
  rw[if_neg h2]
  repeat' (first|refine zh ?_|intro (bk:Nat))
  refine HR.ret Tryz.func32 I [_,_] (fun w hw=>⟨⟨_,rfl,jR hw 3 I I I I rfl⟩,rfl,trivial⟩) ?_
  exact fun w' hw=>⟨(((av,cv),xs,[]),.slice none 0 0),rfl,⟨jKj,hg,fun w2 _=>Sl.nil w2⟩,jN4 hw⟩
 have h1:k≠1:=by have h1:(k==1)=false:=h1;simpa using h1
 repeat' (first|refine zh ?_|intro (bk:Nat))
 refine HR.cond I (fun h2=>?_) (fun h2=>?_)
 ·have h2:k=2:=eq_of_beq h2
  rw[jRG h2]
  obtain ⟨K,hK⟩:∃K,K=Me.KN ⟨t,nds xs⟩ n:=⟨_,rfl⟩
  have hKt:K.1.tick=t:=by rw[hK];unfold Me.KN;split<;>rfl
  have hK':Me.KN ⟨t,nds xs⟩ n=K:=hK.symm
  simp only[hK']
  rw[hKt]
  repeat' (first|refine zh ?_|intro (bk:Nat))
  refine HL.JG (r:=fun x:(SV×List (NV×Nd)×List Chunk)×Value=> .tuple ⟨[meV t (sv x.1.1 x.1.2.1.length),x.2]⟩) (Q:=fun x=>jJ1 x.1 K.1.nodes) (G:=fun x=>[cNd (sv x.1.1 x.1.2.1.length) x.1.2.1,jB x.1.2.2,cDe x.2 K.2]) fn26 I I (fun w1 hw1=>by rw[hK];exact jLR xs t n _ w1 (h.ext hw1.jE) hg hl) ?_
  rintro ⟨⟨y,ys,G⟩,vd⟩ ⟨hM,hG⟩
  repeat' (first|refine zh ?_|intro (bk:Nat))
  refine HR.ret Tryz.func32 I [_,_] (fun w hw=>⟨⟨_,rfl,jR hw 3 I I I I rfl⟩,rfl,trivial⟩) ?_
  exact fun w' hw=>⟨((y,ys,[cNd (sv y ys.length) ys,jB G,cDe vd K.2]),vd),rfl,⟨jQv hM,hG,fun w2 hg2=>zG (jP hg2 (c:=cDe vd K.2) (by simp))⟩,Ent.trans (Ent.pick (H':=[cNd (sv y ys.length) ys,jB G,cDe vd K.2]++[]) [0,1,2] I I) Ent.group w' hw⟩
 have h2:k≠2:=by have h2:(k==2)=false:=h2;simpa using h2
 repeat' (first|refine zh ?_|intro (bk:Nat))
 refine HR.cond I (fun h3=>?_) (fun h3=>?_)
 ·have h3:k=3:=eq_of_beq h3
  rw[jRF h3]
  obtain ⟨R,hR⟩:∃R,R=Me.Jr ⟨t,nds xs⟩ n:=⟨_,rfl⟩
  have hRt:R.tick=t:=by rw[hR];unfold Me.Jr;split<;>rfl
  have hR':Me.Jr ⟨t,nds xs⟩ n=R:=hR.symm
  simp only[hR']
  rw[hRt]
  repeat' (first|refine zh ?_|intro (bk:Nat))
  refine HL.JG (r:=fun x:SV×List (NV×Nd)×List Chunk=>meV t (sv x.1 x.2.1.length)) (Q:=fun x=>jJ1 x R.nodes) (G:=fun x=>[cNd (sv x.1 x.2.1.length) x.2.1,jB x.2.2]) fn29 I I (fun w1 hw1=>by rw[hR];exact jEv xs t n _ w1 (h.ext hw1.jE) hg hl) ?_
  rintro ⟨y,ys,G⟩ ⟨hM,hG⟩
  repeat' (first|refine zh ?_|intro (bk:Nat))
  refine HR.ret Tryz.func32 I [_,_] (fun w hw=>⟨⟨_,rfl,jR hw 2 I I I I rfl⟩,rfl,trivial⟩) ?_
  exact fun w' hw=>⟨((y,ys,[cNd (sv y ys.length) ys,jB G]),.slice none 0 0),rfl,⟨jPW hM,hG,fun w2 _=>Sl.nil w2⟩,Ent.trans (Ent.pick (H':=[cNd (sv y ys.length) ys,jB G]++[]) [0,1] I I) Ent.group w' hw⟩
 have h3:k≠3:=by have h3:(k==3)=false:=h3;simpa using h3
 rw[jRE h0 h1 h2 h3]
 repeat' (first|refine zh ?_|intro (bk:Nat))
 refine HR.ret Tryz.func32 I [_,_] (fun w hw=>⟨⟨_,rfl,jR hw 0 I I I I rfl⟩,rfl,trivial⟩) ?_
 exact fun w' hw=>⟨(((av,cv),xs,[]),.slice none 0 0),rfl,⟨jKj,hg,fun w2 _=>Sl.nil w2⟩,jN4 hw⟩
end Go.Proofs.YtgfdoognildoeaaGreat
namespace Go.Proofs.YtgfdoognildoeaaGreat
open Go.GX Go.RowKit
attribute [local irreducible] Calls Run jY jg JM HR HL HD jT jG Jb Rd jK jc
open Nd
theorem jQw {B:Base} {H:List Chunk} {v:Value} {xs:List Value} {n:Nat} (h:∀w,Sat B H w→Sl w v xs n):Rd B H v xs n:=by unfold Rd;exact h
theorem OpOk.ext {w w':World} {x:OpA} (h:OpOk w x) (hb:Below w.heap.size w w'):OpOk w' x:=⟨⟨h.air.e.ext hb,h.air.o.ext hb,h.air.n.ext hb⟩,h.te⟩
abbrev opsOf (l:List OpA):List Me.Op:=l.map (·.2)
theorem jPj {l:List OpA} {i:Nat} {x:OpA} (h:l[i]? =some x):(opsOf l)[i]? =some x.2:=by unfold opsOf;rw[List.getElem?_map,h];rfl
theorem meshLoopFree_any (addrs:List Int) (va:Value) (polls:List Int) (vp:Value) (l:List OpA) (vl:Value) (w:World) (ha:Sl w va (cellsOf iC addrs) addrs.length) (hp:Sl w vp (cellsOf iC polls) polls.length) (hl:Sl w vl (cellsOf opE l) l.length) (hO:∀x∈l,OpOk w x):
  Calls Tryz.prog 7 #[va,vp,vl] w fun e w'=>e= .returned (.bool true)∧Below w.heap.size w w':=by
 have cl:(cellsOf opE l).length=l.length*8:=jC K9 _
 refine jD Tryz.func7 I (Nat.le_of_ble_eq_true I) ?_
 refine HR.sub (σ':=[(0,va),(1,vp),(2,vl)]) ⟨I,I,I,trivial⟩ ?_
 repeat' (first|refine zh ?_|intro (bk:Nat))
 refine HL.JG (r:=fun b:Bool=> .bool b) (Q:=fun b=>b=true→SmallL addrs polls l) (G:=fun _=>[]) fn31 I I (fun w1 hw1=>jKR addrs polls l va vp vl w1 (ha.ext hw1.jE) (hp.ext hw1.jE) (hl.ext hw1.jE) (fun x hx=>(hO x hx).ext hw1.jE)) ?_
 intro b hb
 cases b with
 |false=>
  repeat' (first|refine zh ?_|refine HL.jQ fn9 I I (fun w1 _=>jB0 w1) ?_|intro (bk:Nat))
  refine HR.ret Tryz.func7 I [_] (fun _ _=>⟨I,trivial⟩) ?_
  exact fun w' hw=>⟨rfl,hw.jE⟩
 |true=>
 have hs:SmallL addrs polls l:=hb I
 clear hb
 have ha6:=hs.ad
 have hp6:=hs.po
 have hl80:=hs.le
 obtain ⟨M,hM⟩:∃M,M=Me.jAw addrs polls:=⟨_,rfl⟩
 repeat' (first|refine zh ?_|intro (bk:Nat))
 refine HL.JG (r:=fun x:SV×List (NV×Nd)×List Chunk=> .tuple ⟨[meV 0 (sv x.1 x.2.1.length),.int .i64 M.2]⟩) (Q:=fun x=>jJ1 x M.1.nodes) (G:=fun x=>[cNd (sv x.1 x.2.1.length) x.2.1,jB x.2.2]) fn10 I I (fun w1 hw1=>by rw[hM];exact jDr addrs polls va vp w1 (ha.ext hw1.jE) (hp.ext hw1.jE) (by omega) (by omega)) ?_
 rintro ⟨y0,ys0,G0⟩ ⟨⟨hN0,hO0⟩,hG0⟩
 have hN0:nds ys0=M.1.nodes:=hN0
 have hO0:∀z∈ys0,Own z.1 G0 z.2:=hO0
 have hG0:∀z∈ys0,GdN z.2:=hG0
 repeat' (first|refine zh ?_|intro (bk:Nat))
 generalize bk=b7
 refine HR.cond I (fun h1=>?_) (fun h1=>?_)
 ·have h1:M.2≠0:=by have h1:(M.2 != 0)=true:=h1;simpa using h1
  have h0:ys0.length=0:=by rw[← JL,hN0,hM,Me.jNT (by rw[← hM];exact h1)];rfl
  repeat' (first|refine zh ?_|refine HL.JQ (Rd.own 1 I) I I I ?_|refine HL.jQ fn9 I I (fun w1 _=>jB0 w1) ?_|apply zb ?_ ?_|exact zc|(refine zi fun hb=>?_;try simp at hb)|intro (bk:Nat))
  refine HR.ret Tryz.func7 I [_] (fun _ _=>⟨I,trivial⟩) ?_
  exact fun w' hw=>⟨by simp[jCw,h0],hw.jE⟩
 have h1:M.2=0:=by have h1:(M.2 != 0)=false:=h1;simpa using h1
 have hM2:(Me.jAw addrs polls).2=0:=by rw[← hM];exact h1
 have hlen0:ys0.length=addrs.length:=by rw[← JL,hN0,hM,(Me.Inv.new (C:=jQj) hM2).2.2]
 repeat' (first|refine zh ?_|refine HL.JQ (Rd.own 1 I) I I I ?_|refine HL.JQ (Rd.arg ha) I I I ?_|intro (bk:Nat))
 refine HR.cond I (fun h2=>?_) (fun h2=>?_)
 ·have h2:((ys0.length:Int) != (addrs.length:Int))=true:=h2
  rw[hlen0]at h2
  simp at h2
 repeat' (first|refine zh ?_|intro (bk:Nat))
 refine HR.ent (Ent.trans (Ent.pick (H':=[cNd (sv y0 ys0.length) ys0,jB G0]++[meB b7 0 (sv y0 ys0.length)]) [1,2,0] I I) (Ent.trans Ent.group (Ent.pick (H':=[meB b7 0 (sv y0 ys0.length),jB [cNd (sv y0 ys0.length) ys0,jB G0]]) [1,0] I I))) ?_
 obtain ⟨A,hA⟩:∃A:Nat→Me.Mesh,A=Me.runs M.1 (opsOf l):=⟨_,rfl⟩
 have hR:∀i,i≤l.length→Me.Ran jQj M.1 (A i) i:=fun i hi=>by rw[hA,hM];exact ran0 hM2 (by rw[List.length_map];omega) i (by rw[List.length_map];exact hi)
 have hAs:∀i x,l[i]? =some x→A (i+1)=(Me.next (A i) x.2).1:=fun i x hx=>by rw[hA];exact jEc (jPj hx)
 have hA0:A 0=M.1:=by rw[hA];rfl
 refine HR.loop (ι:=Nat×SV×List (NV×Nd)×List Chunk) (fun x=>x.1≤l.length∧nds x.2.2.1=(A x.1).nodes∧(∀ w2,(jB x.2.2.2).p w2→OkL w2 (sv x.2.1 x.2.2.1.length) x.2.2.1)∧∀z∈x.2.2.1,GdN z.2) (fun x=>[(0,va),(1,vp),(2,vl),(7,ptr b7),(9,.int .i64 (x.1:Int))]) (fun x=>[meB b7 (A x.1).tick (sv x.2.1 x.2.2.1.length),jB x.2.2.2]) (fun x=>l.length-x.1) (0,y0,ys0,[cNd (sv y0 ys0.length) ys0,jB G0]) ⟨Nat.zero_le _,by rw[hA0];exact hN0,fun w2 hg2=>⟨zG (jP hg2 (c:=cNd (sv y0 ys0.length) ys0) (by simp)),fun z hz=>hO0 z hz w2 (jP hg2 (by simp))⟩,hG0⟩ ⟨I,I,I,I,I,trivial⟩ (Ent.of_eq (by rw[hA0,hM,(Me.Inv.new (C:=jQj) hM2).2.1])) ?_
 rintro ⟨i,y,ys,G⟩ ⟨hi,hN,hS,hG⟩ ih
 have hi:i≤l.length:=hi
 have hN:nds ys=(A i).nodes:=hN
 have hS:∀w2,(jB G).p w2→OkL w2 (sv y ys.length) ys:=hS
 have hG:∀z∈ys,GdN z.2:=hG
 have hRi:=hR i hi
 have hlen:ys.length=addrs.length:=by
  rw[← hlen0,← JL,← JL,hN,hN0,← List.length_map (f:=fun n:Nd=>n.addr),hRi.adr,List.length_map]
 obtain ⟨t,ht⟩:∃t,t=(A i).tick:=⟨_,rfl⟩
 have ht0:0≤t:=by rw[ht];exact hRi.t0
 have ht1:t≤1000:=by have:=hRi.t1;omega
 have hAi:A i=⟨t,nds ys⟩:=by rw[ht,hN]
 refine HR.ent (H':=[meB b7 t (sv y ys.length),jB G]) (Ent.of_eq (by rw[ht])) ?_
 repeat' (first|refine zh ?_|refine HL.JQ (Rd.arg hl) I I I ?_|intro (bk:Nat))
 refine HR.cond I (fun h3=>?_) (fun h3=>?_)
 rotate_left
 ·repeat' (first|refine zh ?_|refine HL.jQ fn9 I I (fun w1 _=>jB0 w1) ?_|intro (bk:Nat))
  refine HR.ret Tryz.func7 I [_] (fun _ _=>⟨I,trivial⟩) ?_
  exact fun w' hw=>⟨rfl,hw.jE⟩
 have h3:i<l.length:=by have:(i:Int)<(l.length:Int):=of_decide_eq_true h3;omega
 obtain ⟨x,hx⟩:=jJ h3
 have hox:=hO x (List.mem_of_getElem? hx)
 have hwx:=hs.ok x (List.mem_of_getElem? hx)
 obtain ⟨X,hX⟩:∃X,X=Me.next ⟨t,nds ys⟩ x.2:=⟨_,rfl⟩
 have hA1:A (i+1)=X.1:=by rw[hAs i x hx,hX,hAi]
 repeat' (first|refine zh ?_|intro (bk:Nat))
 refine HR.join (ι:=Nat×(SV×List (NV×Nd)×List Chunk)×Value) (fun z=>RfL (sv y ys.length) ys z.2.1 X.1.nodes∧∀q∈z.2.1.2.1,GdN q.2) (fun z=>[(0,va),(1,vp),(2,vl),(7,ptr b7),(9,.int .i64 (i:Int)),(10,ptr z.1)]) (fun z=>[meB z.1 X.1.tick (sv z.2.1.1 z.2.1.2.1.length),jB z.2.1.2.2,meB b7 t (sv y ys.length),jB G]) ?_ (fun hj=>?_)
 rotate_left
 ·refine HR.KE [0,1] I I Jf ?_
  refine za 0 ?_
  refine za 1 ?_
  refine za 2 ?_
  refine HA.rd 3 (by kernel_rfl) I I (jHP (Rd.arg hl) jMG i I I I h3) ?_
  refine HA.rd 4 (by kernel_rfl) I I (jBX (us:=opE x) (Rd.arg hl) I I I (by simp) I (jH K9 hx)) ?_
  refine HA.two 5 9 (by kernel_rfl) I I ?_ ?_
  ·refine HL.JG (r:=fun x:(SV×List (NV×Nd)×List Chunk)×Value=> .tuple ⟨[meV X.1.tick (sv x.1.1 x.1.2.1.length),x.2]⟩) (Q:=fun x=>RfL (sv y ys.length) ys x.1 X.1.nodes∧∀q∈x.1.2.1,GdN q.2) (G:=fun x=>[jB x.1.2.2]) fn32 I I (fun w1 hw1=>by rw[hX];exact (jHF t _ ys x w1 (hS w1 (Sat.grp 1 hw1 I)) hG (by omega) (hox.ext hw1.jE) hwx.1).mono fun e w' ⟨x,e1,e2,e3⟩=>⟨x,e1,⟨e2.1,e2.2.1⟩,e3⟩) ?_
   rintro ⟨⟨y2,ys2,G2⟩,vd⟩ hQ
   refine HL.jv [1,2] I I ?_
   refine za 6 ?_
   refine za 7 ?_
   refine za 8 ?_
   refine HA.one 9 (by kernel_rfl) I ?_
   refine HL.alloc I I ?_
   intro b10
   refine HL.jv [2,3] I I ?_
   refine HA.one 10 (by kernel_rfl) I ?_
   repeat' (first|refine zn ?_|intro (bk:Nat))
   refine HL.jv [2,3] I I ?_
   refine za 11 ?_
   refine HA.done (by kernel_rfl) ?_
   exact hj (b10,(y2,ys2,G2),vd) _ _ hQ ⟨I,I,I,I,I,I,trivial⟩ (Ent.pick [0,1,2,3] I I)
  ·refine HL.alloc I I ?_
   intro b10
   refine HL.jv [1,2] I I ?_
   refine HA.one 5 (by kernel_rfl) I ?_
   refine HL.JG (r:=fun x:(SV×List (NV×Nd)×List Chunk)×Value=> .tuple ⟨[meV X.1.tick (sv x.1.1 x.1.2.1.length),x.2]⟩) (Q:=fun x=>RfL (sv y ys.length) ys x.1 X.1.nodes∧∀q∈x.1.2.1,GdN q.2) (G:=fun x=>[jB x.1.2.2]) fn32 I I (fun w1 hw1=>by rw[hX];exact (jHF t _ ys x w1 (hS w1 (Sat.grp 2 hw1 I)) hG (by omega) (hox.ext hw1.jE) hwx.1).mono fun e w' ⟨x,e1,e2,e3⟩=>⟨x,e1,⟨e2.1,e2.2.1⟩,e3⟩) ?_
   rintro ⟨⟨y2,ys2,G2⟩,vd⟩ hQ
   refine HL.jv [2,3] I I ?_
   refine za 6 ?_
   refine za 7 ?_
   refine za 8 ?_
   refine HA.one 10 (by kernel_rfl) I ?_
   repeat' (first|refine zn ?_|intro (bk:Nat))
   refine HL.jv [2,3] I I ?_
   refine za 11 ?_
   refine HA.done (by kernel_rfl) ?_
   exact hj (b10,(y2,ys2,G2),vd) _ _ hQ ⟨I,I,I,I,I,I,trivial⟩ (Ent.pick [1,0,2,3] I I)
 rintro ⟨b10,⟨y2,ys2,G2⟩,vd⟩ ⟨⟨hN2,hI2⟩,hG2⟩
 have hN2:nds ys2=X.1.nodes:=hN2
 have hI2:ImpL (sv y ys.length) (sv y2 ys2.length) ys ys2 G2:=hI2
 have hG2:∀q∈ys2,GdN q.2:=hG2
 have hR2:=hR (i+1) h3
 have hN2':nds ys2=(A (i+1)).nodes:=by rw[hA1];exact hN2
 have hadr:(nds ys2).map (·.addr)=(nds ys).map (·.addr):=by rw[hN2',hN,hR2.adr,hRi.adr]
 have hlen2:ys2.length=addrs.length:=by rw[← hlen,← JL,← JL,← List.length_map (f:=fun n:Nd=>n.addr),hadr,List.length_map]
 have htick:X.1.tick=if x.2.kind=0 then t+1 else t:=by
  have:=(hRi.step (by omega) x.2 (fit0 _)).2
  rw[hAi]at this;rw[hX];exact this
 have hA2:∀w2,(jB [jB G2,jB G]).p w2→OkL w2 (sv y2 ys2.length) ys2:=fun w2 hg2=>hI2 w2 (hS w2 (jP hg2 (by simp))) (jP hg2 (by simp))
 have hAo:∀w2,(jB [jB G2,jB G]).p w2→OkL w2 (sv y ys.length) ys:=fun w2 hg2=>hS w2 (jP hg2 (by simp))
 have rd2:∀ {H:List Chunk} (k:Nat),zH H k=some (jB [jB G2,jB G])→Rd (base w) H (sv y2 ys2.length) (cellsOf Ze ys2) ys2.length:=fun k hH=>jQw fun w2 hw=>(hA2 w2 (Sat.grp k hw hH)).s
 have rdo:∀ {H:List Chunk} (k:Nat),zH H k=some (jB [jB G2,jB G])→Rd (base w) H (sv y ys.length) (cellsOf Ze ys) ys.length:=fun k hH=>jQw fun w2 hw=>(hAo w2 (Sat.grp k hw hH)).s
 refine HR.ent (Ent.trans (Ent.pick (H':=[jB G2,jB G]++[meB b10 X.1.tick (sv y2 ys2.length),meB b7 t (sv y ys.length)]) [1,3,0,2] I I) (Ent.trans Ent.group (Ent.pick (H':=[meB b10 X.1.tick (sv y2 ys2.length),meB b7 t (sv y ys.length),jB [jB G2,jB G]]) [1,2,0] I I))) ?_
 obtain ⟨T,hT⟩:∃T,T=X.1.tick:=⟨_,rfl⟩
 rw[← hT]at htick ⊢
 repeat' (first|refine zh ?_|refine HL.JQ (rd2 2 I) I I I ?_|refine HL.JQ (Rd.arg ha) I I I ?_|refine HL.JD (Rd.arg hl) jMG i I I I I h3 ?_|refine HL.j5 0 (Rd.arg hl) (by rw[cl];omega) I I I I I I I ?_|refine HL.jw (Rd.arg hl) I I I I (jS K9 hx (i:=0) I) ?_|apply zb ?_ ?_|exact zc|(refine zi fun hb=>?_;try simp at hb)|intro (bk:Nat))
 refine HR.cond I (fun h4=>?_) (fun h4=>?_)
 ·have h4:((((ys2.length:Int) != (addrs.length:Int))||((x.2.kind==0)&&(T != t+1)))||((x.2.kind != 0)&&(T != t)))=true:=h4
  rw[hlen2,htick]at h4
  by_cases k0:x.2.kind=0<;>simp[k0]at h4
 repeat' (first|refine zh ?_|intro (bk:Nat))
 refine HR.loop (ι:=Nat) (fun k=>k≤ys2.length) (fun k=>[(0,va),(1,vp),(2,vl),(7,ptr b7),(9,.int .i64 (i:Int)),(10,ptr b10),(12,.int .i64 (k:Int))]) (fun _=>[meB b10 T (sv y2 ys2.length),meB b7 t (sv y ys.length),jB [jB G2,jB G]]) (fun k=>ys2.length-k) 0 (Nat.zero_le _) ⟨I,I,I,I,I,I,I,trivial⟩ Ent.refl ?_
 rintro k hk ih2
 have hk:k≤ys2.length:=hk
 repeat' (first|refine zh ?_|refine HL.JQ (rd2 2 I) I I I ?_|intro (bk:Nat))
 refine HR.cond I (fun h5=>?_) (fun h5=>?_)
 rotate_left
 ·clear ih2
  repeat' (first|refine zh ?_|refine HL.jQ (r:= .bool false) fn20 I I (fun w1 hw1=>by have:=jC6 ys2 T (sv y2 ys2.length) w1 (hA2 w1 (Sat.grp 2 hw1 I)) (fun z hz=>(hG2 z hz).sm) (by omega);rw[hN2',hR2.inv.jHE]at this;exact this) ?_|intro (bk:Nat))
  exact ih (i+1,y2,ys2,[jB G2,jB G]) _ _ ⟨h3,hN2',hA2,hG2⟩ (by show l.length-(i+1)<l.length-i;omega) ⟨I,I,I,I,I,trivial⟩ (Ent.trans (Ent.pick [1,2] I I) (Ent.of_eq (by rw[hT,hA1];rfl)))
 have hlt:k<ys2.length:=by have:(k:Int)<(ys2.length:Int):=of_decide_eq_true h5;omega
 obtain ⟨z2,hz2⟩:=jJ hlt
 obtain ⟨z,hz⟩:=jJ (show k<ys.length by omega)
 have hz12:z2.2.addr=z.2.addr:=by
  have e:((nds ys2).map (·.addr))[k]? =((nds ys).map (·.addr))[k]? :=by rw[hadr]
  unfold nds at e
  simp only[List.getElem?_map,hz2,hz]at e
  exact Option.some.inj e
 have c2:(cellsOf Ze ys2).length=ys2.length*13:=jC ji _
 have co:(cellsOf Ze ys).length=ys.length*13:=jC ji _
 repeat' (first|refine zh ?_|intro (bk:Nat))
 refine HR.JE Jf (by kernel_rfl) ?_
 repeat' (first|refine zq ?_|refine HQ.JD (rd2 2 I) Jm k I I I I hlt ?_|refine HQ.j5 0 (rd2 2 I) (by rw[c2];omega) I I I I I I I ?_|refine HQ.jw (rd2 2 I) I I I I (jS ji hz2 (i:=0) I) ?_|refine HQ.JD (rdo 2 I) Jm k I I I I (show k<ys.length by omega) ?_|refine HQ.j5 0 (rdo 2 I) (by rw[co];omega) I I I I I I I ?_|refine HQ.jw (rdo 2 I) I I I I (jS ji hz (i:=0) I) ?_|apply zb ?_ ?_|exact zc|(refine zi fun hb=>?_;try simp at hb))
 refine HR.cond I (fun h6=>?_) (fun h6=>?_)
 ·have h6:(z2.2.addr != z.2.addr)=true:=h6
  rw[hz12]at h6
  simp at h6
 repeat' (first|refine zh ?_|intro (bk:Nat))
 exact ih2 (k+1) _ _ hlt (by show ys2.length-(k+1)<ys2.length-k;omega) ⟨I,I,I,I,I,I,I,trivial⟩ Ent.refl
end Go.Proofs.YtgfdoognildoeaaGreat
namespace Go.Proofs.YtgfdoognildoeaaGreat
open Go.GX Go.RowKit
attribute [local irreducible] Calls Run jY jg JM HR HL HD jT jG Jb Rd jK jc
open Nd
theorem meshLoopFree.meshLoopFree_any (l0:List Int) (v0:Value) (l1:List Int) (v1:Value) (l2:List OpA) (v2:Value) (w:World) (s0:Sl w v0 (cellsOf iC l0) l0.length) (_:∀a∈l0,(Lit.int .i64 a).wf=true) (s1:Sl w v1 (cellsOf iC l1) l1.length) (_:∀a∈l1,(Lit.int .i64 a).wf=true) (s2:Sl w v2 (cellsOf opE l2) l2.length) (g2:∀a∈l2,OpOk w a):
  Calls Tryz.prog 7 #[v0,v1,v2] w fun e w'=>e= .returned (.bool true)∧Below w.heap.size w w':=Proofs.YtgfdoognildoeaaGreat.meshLoopFree_any l0 v0 l1 v1 l2 v2 w s0 s1 s2 g2
end Go.Proofs.YtgfdoognildoeaaGreat
