/- A part of the proof: contracts of the program's functions. Conditions: none. -/
import Derived.Carry
import Derived.Deep.MidRow
import Derived.Deep.Quiet
import Derived.Laws.IdiomRangeMap
import Derived.Laws.MakeOwn
import Derived.Laws.StructEq
import Derived.Laws.Tables
import Derived.Lib.AppendStr
import Derived.Lib.AppendZerosOnto
import Derived.Lib.OthersKept
import Derived.Lib.Overlaps
import Derived.Lib.OwnBridge
import Derived.Lib.SlicesCompact
import Derived.MapKept
import Derived.Orders
import Derived.OrdersHeld
import Derived.Scope
import Derived.SliceStrings
import Derived.Sort.Grow
import Derived.StillTail
import Derived.Test.YtgfdoognildoeaaGreatProg
import Derived.Test.YtgfdoognildoeaaGreatShelf
import Derived.WalkKit
import Derived.WalkLawsBesides
import Derived.WalkSpells
import Derived.Test.YtgfdoognildoeaaGreatLB1
import Derived.Test.YtgfdoognildoeaaGreatLB2
import Derived.Test.YtgfdoognildoeaaGreatLB3
import Derived.Test.YtgfdoognildoeaaGreatLB4
import Derived.Test.YtgfdoognildoeaaGreatLB5
import Derived.Test.YtgfdoognildoeaaGreatLB6
import Derived.Test.YtgfdoognildoeaaGreatLB7
import Derived.Test.YtgfdoognildoeaaGreatLB8
import Derived.Test.YtgfdoognildoeaaGreatLB9
import Derived.Test.YtgfdoognildoeaaGreatLB10
import Derived.Test.YtgfdoognildoeaaGreatLB11
import Derived.Test.YtgfdoognildoeaaGreatLB12
set_option linter.unusedVariables false
set_option linter.unusedSectionVars false
set_option linter.unusedSimpArgs false
set_option maxRecDepth 100000
set_option maxHeartbeats 4000000
namespace Go.Proofs.YtgfdoognildoeaaGreat
open Go.GX Go.RowKit
attribute [local irreducible] Calls Run jZ jf JK HR HL HD jT jG JY Rd jK jY
open Nd
theorem fn39:IsFn Tryz.prog 39:=⟨⟨_,_,Tryz.func39,rfl,by decide⟩⟩
theorem fn40:IsFn Tryz.prog 40:=⟨⟨_,_,Tryz.func40,rfl,by decide⟩⟩
theorem fn41:IsFn Tryz.prog 41:=⟨⟨_,_,Tryz.func41,rfl,by decide⟩⟩
theorem fn84:IsFn Tryz.prog 84:=⟨⟨_,_,Tryz.func84,rfl,by decide⟩⟩
theorem fn85:IsFn Tryz.prog 85:=⟨⟨_,_,Tryz.func85,rfl,by decide⟩⟩
theorem fn43:IsFn Tryz.prog 43:=⟨⟨_,_,Tryz.func43,rfl,by decide⟩⟩
abbrev StX:=(NV×Nd)×Bool×Bool×Fr
abbrev stE (s:StX):List Value:=[.int .i64 s.1.2.addr,.int .i64 s.1.2.poll,.int .i64 s.1.2.parent,sv s.1.1.ta s.1.2.table.length,sv s.1.1.li s.1.2.links.length,sv s.1.1.ou s.1.2.out.length,sv s.1.1.ch s.1.2.children.length,sv s.1.1.bo s.1.2.boxes.length,sv s.1.1.se s.1.2.seen.length,sv s.1.1.pa s.1.1.ps.length,sv s.1.1.ib s.1.2.inbox.length,.int .i64 s.1.2.seq,.int .i64 s.1.2.lost,.bool s.2.1,.bool s.2.2.1,.int .i64 s.2.2.2.kd,.int .i64 s.2.2.2.fr,.int .i64 s.2.2.2.dst,.int .i64 s.2.2.2.so,.int .i64 s.2.2.2.ta,.int .i64 s.2.2.2.sq,.int .i64 s.2.2.2.hp,.bool s.2.2.2.ur,str s.2.2.2.da]
theorem Jq (s:StX):(stE s).length=24:=rfl
abbrev cSt (v:Value) (ss:List StX):Chunk:=jG v 77 24 ss.length (cellsOf stE ss)
abbrev ssN (ss:List StX):List Nd:=ss.map (·.1.2)
theorem jQs (v:Value) (ys:List StX) (x:StX):cSt v (ys++[x])=jG v 77 24 (ys.length+1) (cellsOf stE ys++stE x):=by
 show jG v _ 24 (ys++[x]).length (cellsOf stE (ys++[x]))=_
 rw[jP,List.length_append,J2];rfl
theorem jPf {ss:List StX} {k:Nat} {s:StX} (h:ss[k]? =some s):(ssN ss)[k]? =some s.1.2:=by unfold ssN;rw[List.getElem?_map,h];rfl
theorem jKV {ss:List StX} {k:Nat} {s:StX} (h:ss[k]? =some s):Me.nth (ssN ss) k=s.1.2:=by unfold Me.nth;rw[List.getD_eq_getElem?_getD,jPf h];rfl
theorem jKU (ss:List StX) (k:Nat) (s:StX):ssN (ss.set k s)=(ssN ss).set k s.1.2:=by unfold ssN;rw[List.map_set]
theorem Ke {ss:List StX} {k:Nat} {s:StX} (h:ss[k]? =some s):∀(i:Nat) u,(ndC s.1.1 s.1.2)[i]? =some u→(cellsOf stE ss)[k*24+0+i]? =some u:=by
 intro i u hu
 have hi:=(List.getElem?_eq_some_iff.1 hu).1
 rw[Nat.add_zero]
 refine jH Jq h i u ?_
 show (ndC s.1.1 s.1.2++[.bool s.2.1,.bool s.2.2.1,.int .i64 s.2.2.2.kd,.int .i64 s.2.2.2.fr,.int .i64 s.2.2.2.dst,.int .i64 s.2.2.2.so,.int .i64 s.2.2.2.ta,.int .i64 s.2.2.2.sq,.int .i64 s.2.2.2.hp,.bool s.2.2.2.ur,str s.2.2.2.da])[i]? =some u
 rw[List.getElem?_append_left hi];exact hu
theorem jMr {ss:List StX} {k:Nat} {s:StX} (h:ss[k]? =some s):∀(i:Nat) u,(frC s.2.2.2)[i]? =some u→(cellsOf stE ss)[k*24+15+i]? =some u:=by
 intro i u hu
 rw[Nat.add_assoc]
 refine jH Jq h (15+i) u ?_
 show (ndC s.1.1 s.1.2++[.bool s.2.1,.bool s.2.2.1]++frC s.2.2.2)[15+i]? =some u
 rw[List.getElem?_append_right (by show 15≤15+i;omega)]
 show (frC s.2.2.2)[15+i-15]? =some u
 rw[Nat.add_sub_cancel_left];exact hu
theorem jEa (t:Int) (v:Value) (xs:List (NV×Nd)) (a:Me.Air) (ve vo vn:Value) (w:World) (h:OkL w v xs) (hg:∀x∈xs,SmN x.2) (hl:xs.length≤1000) (hA:OkA w a ve vo vn):
  Calls Tryz.prog 39 #[meV t v,jKD ve vo vn] w fun e w'=>∃x:SV×List StX×List Chunk,e= .returned (sv x.1 x.2.1.length)∧(x.2.1.map (fun s=>(s.1.2,s.2))=(nds xs).map (fun n=>(n,Me.live a n.addr,false,fr0))∧∀s∈x.2.1,Own s.1.1 x.2.2 s.1.2)∧Sat (base w) [cSt (sv x.1 x.2.1.length) x.2.1,jB x.2.2] w':=by
 obtain ⟨av,cv,rfl,_⟩:=h.s.2
 have hlo:=hA.lo
 refine jD Tryz.func39 I (Nat.le_of_ble_eq_true I) ?_
 refine HR.sub (σ':=[(0,meV t (sv (av,cv) xs.length)),(1,jKD ve vo vn)]) ⟨I,I,trivial⟩ ?_
 refine HR.ctl I ?_
 refine HR.region ?_
 refine HL.box I I ?_
 intro b2
 refine HL.box I I ?_
 intro b3
 repeat' (first|refine zh ?_|refine HL.jR fn77 I I (fun w1 hw1=>jAJ a ve vo vn w1 (hA.at hw1)) ?_|refine HL.JN (Rd.arg h.s) I I I ?_|intro (bk:Nat))
 refine HL.kV 0 xs.length zA I I I I I I (Nat.zero_le _) (show 320*xs.length≤_ by omega) (by omega) ?_
 intro v3
 refine HL.shape 0 I fun a3 c3 hv=>?_
 subst hv
 repeat' (first|refine zh ?_|refine HL.JN (Rd.arg h.s) I I I ?_|intro (bk:Nat))
 refine HR.loop (ι:=Nat×SV×List StX×List Chunk) (fun x=>x.1≤xs.length∧x.2.2.1.map (fun s=>(s.1.2,s.2))=((nds xs).take x.1).map (fun n=>(n,Me.live a n.addr,false,fr0))∧∀s∈x.2.2.1,Own s.1.1 x.2.2.2 s.1.2) (fun x=>[(3,ptr b3),(5,.bool (Ra.check a==0)),(6,sv x.2.1 x.2.2.1.length),(17,sv (av,cv) xs.length),(18,.int .i64 (xs.length:Int)),(19,.int .i64 (x.1:Int))]) (fun x=>[jT b3 [ve,vo,vn] 34,cSt (sv x.2.1 x.2.2.1.length) x.2.2.1,jB x.2.2.2]) (fun x=>xs.length-x.1) (0,(a3,c3),[],[]) ⟨Nat.zero_le _,rfl,fun y hy=>(List.not_mem_nil hy).elim⟩ ⟨I,I,I,I,I,I,trivial⟩ (Ent.trans Ent.jL8 (Ent.pick [2,1,0] I I)) ?_
 rintro ⟨k,y,ss,G⟩ ⟨hk,hss,hown⟩ ih
 have hk:k≤xs.length:=hk
 have hss:ss.map (fun s=>(s.1.2,s.2))=((nds xs).take k).map (fun n=>(n,Me.live a n.addr,false,fr0)):=hss
 have hown:∀s∈ss,Own s.1.1 G s.1.2:=hown
 have hsl:ss.length=k:=by have:=congrArg List.length hss;rw[List.length_map,List.length_map,List.length_take,JG]at this;omega
 repeat' (first|refine zh ?_|intro (bk:Nat))
 refine HR.cond I (fun h2=>?_) (fun h2=>?_)
 rotate_left
 ·have hke:k=xs.length:=by have:¬(k:Int)<(xs.length:Int):=of_decide_eq_false h2;omega
  repeat' (first|refine zh ?_|intro (bk:Nat))
  refine HR.ret Tryz.func39 I [_] (fun _ _=>⟨I,trivial⟩) ?_
  refine fun w' hw=>⟨(y,ss,G),rfl,⟨?_,hown⟩,hw.pick [1,2] I rfl⟩
  show ss.map (fun s=>(s.1.2,s.2))=(nds xs).map _
  rw[hss,hke,← JG,List.take_length]
 have hlt:k<xs.length:=by have:(k:Int)<(xs.length:Int):=of_decide_eq_true h2;omega
 obtain ⟨⟨V,n⟩,hx⟩:=jJ hlt
 have hok:OkN w V n:=h.r _ (List.mem_of_getElem? hx)
 have hsn:SmN n:=hg _ (List.mem_of_getElem? hx)
 repeat' (first|refine zh ?_|refine HL.JA (Rd.arg h.s) Jm k I I I I hlt ?_|refine HL.JW (Rd.arg h.s) I I I I (by simp) I (jH jm hx) ?_|intro (bk:Nat))
 refine HL.JC (r:=fun x:NV×List Chunk=> .agg ⟨ndC x.1 n⟩) (Q:=fun x=>Own x.1 x.2 n) (G:=fun x=>[jB x.2]) fn78 I I (fun w1 hw1=>jDD V n w1 (hok.ext hw1.jE) hsn) ?_
 rintro ⟨V2,G2⟩ hO
 have hO:Own V2 G2 n:=hO
 repeat' (first|refine zh ?_|refine HL.jR jPT I I (fun w1 hw1=>ZG a.o n.addr vo w1 ((hA.at hw1).o) (by omega)) ?_|apply zb ?_ ?_|exact zc|(refine zi fun hb=>?_;try simp at hb)|intro (bk:Nat))
 refine HL.jv zA I I I I I (by decide) (by decide) ?_
 intro va
 refine HL.ZN 4 I zA (Rd.own 0 I) I I I I (jF I) (by show (ss.length+1)*320≤_;omega) (by show ss.length+1≤_;omega) ?_
 intro vc
 refine HL.shape 4 I fun ac cc hv=>?_
 subst hv
 repeat' (first|refine zh ?_|intro (bk:Nat))
 obtain ⟨S,hS⟩:∃S:StX,S=((V2,n),Me.live a n.addr,false,fr0):=⟨_,rfl⟩
 refine ih (k+1,(ac,cc),ss++[S],[jB G2,jB G]) _ _ ⟨hlt,?_,?_⟩ (by show xs.length-(k+1)<xs.length-k;omega) ⟨rfl,rfl,?_,rfl,rfl,rfl,trivial⟩ ?_
 ·show (ss++[S]).map (fun s=>(s.1.2,s.2))=((nds xs).take (k+1)).map _
  rw[jN (jAC hx),List.map_append,List.map_append,hss,hS];rfl
 ·intro z hz
  have hz:z∈ss++[S]:=hz
  rcases List.mem_append.1 hz with hz|hz
  ·exact fun w2 hg2=>hown z hz w2 (jM hg2 (by simp))
  ·rw [List.mem_singleton.1 hz,hS];exact fun w2 hg2=>hO w2 (jM hg2 (by simp))
 ·show _=some (sv (ac,cc) (ss++[S]).length)
  rw[show (ss++[S]).length=ss.length+1 by simp];rfl
 ·show Ent _ _ [jT b3 [ve,vo,vn] 34,cSt (sv (ac,cc) (ss++[S]).length) (ss++[S]),jB [jB G2,jB G]]
  rw[jQs,show (ss++[S]).length=ss.length+1 by simp,hS]
  exact Ent.trans (Ent.pick (H':=[jB G2,jB G]++[jT b3 [ve,vo,vn] 34,jG (sv (ac,cc) (ss.length+1)) 77 24 (ss.length+1) (cellsOf stE ss++stE ((V2,n),Me.live a n.addr,false,fr0))]) [1,5,3,4] I I) (Ent.trans Ent.group (Ent.pick [1,2,0] I I))
abbrev jQx (V:NV) (n:Nd) (V':NV) (G:List Chunk) (m:Nd):Prop:=∀w2,OkN w2 V n→(jB G).p w2→OkN w2 V' m
def J4 (now:Int) (s:Nd×Bool×Bool×Fr):Nd×Bool×Bool×Fr:=(if s.2.1 then Zr s.1 now else s.1,s.2)
def z8 (now:Int) (s:Nd×Bool×Bool×Fr):Nd×Bool×Bool×Fr:=if s.2.1 then ((talk s.1 now).1,s.2.1,(talk s.1 now).2.2,(talk s.1 now).2.1)else s
theorem jQ4 {w w':World} {H:List Chunk} (h:Sat (base w) H w'):Sat (base w) [jB []] w':=Ent.jL8 w' (h.pick [] I I)
theorem jMZ (V:NV) (n:Nd) (on tk:Bool) (f:Fr) (now:Int) (w:World) (h:OkN w V n) (hg:GdN n):
  Calls Tryz.prog 40 #[.agg ⟨stE ((V,n),on,tk,f)⟩,.int .i64 now] w fun e w'=>∃x:NV×List Chunk,e= .returned (.agg ⟨stE ((x.1,(J4 now (n,on,tk,f)).1),(J4 now (n,on,tk,f)).2)⟩)∧jQx V n x.1 x.2 (J4 now (n,on,tk,f)).1∧Sat (base w) [jB x.2] w':=by
 refine jD Tryz.func40 I (Nat.le_of_ble_eq_true I) ?_
 refine HR.sub (σ':=[(0,.agg ⟨stE ((V,n),on,tk,f)⟩),(1,.int .i64 now)]) ⟨I,I,trivial⟩ ?_
 refine HR.ctl I ?_
 refine HR.region ?_
 refine HL.box I I ?_
 intro b2
 refine HL.alloc I I ?_
 intro b4
 repeat' (first|refine zh ?_|intro (bk:Nat))
 refine HR.cond I (fun h2=>?_) (fun h2=>?_)
 ·subst h2
  repeat' (first|refine zh ?_|intro (bk:Nat))
  refine HL.JC (r:=fun x:NV×List Chunk=> .agg ⟨ndC x.1 (Zr n now)⟩) (Q:=fun x=>Own x.1 x.2 (Zr n now)) (G:=fun x=>[jB x.2]) fn79 I I (fun w1 hw1=>jK0 V n now w1 (h.ext hw1.jE) hg.sm (fun s hs=>(hg.wf.out s hs).wt)) ?_
  rintro ⟨V2,G2⟩ hO
  have hO:Own V2 G2 (Zr n now):=hO
  repeat' (first|refine zh ?_|intro (bk:Nat))
  refine HR.ret Tryz.func40 I [_] (fun w hw=>⟨⟨_,rfl,jS hw 1 I I I I rfl⟩,trivial⟩) ?_
  exact fun w' hw=>⟨(V2,G2),rfl,fun w2 _ hg2=>hO w2 hg2,hw.pick [0] I rfl⟩
 ·subst h2
  repeat' (first|refine zh ?_|intro (bk:Nat))
  refine HR.ret Tryz.func40 I [_] (fun w hw=>⟨⟨_,rfl,jS hw 0 I I I I rfl⟩,trivial⟩) ?_
  exact fun w' hw=>⟨(V,[]),rfl,fun w2 hok _=>hok,jQ4 hw⟩
theorem jFn (V:NV) (n:Nd) (on tk:Bool) (f:Fr) (now:Int) (w:World) (h:OkN w V n) (hg:GdN n):
  Calls Tryz.prog 41 #[.agg ⟨stE ((V,n),on,tk,f)⟩,.int .i64 now] w fun e w'=>∃x:NV×List Chunk,e= .returned (.agg ⟨stE ((x.1,(z8 now (n,on,tk,f)).1),(z8 now (n,on,tk,f)).2)⟩)∧jQx V n x.1 x.2 (z8 now (n,on,tk,f)).1∧Sat (base w) [jB x.2] w':=by
 refine jD Tryz.func41 I (Nat.le_of_ble_eq_true I) ?_
 refine HR.sub (σ':=[(0,.agg ⟨stE ((V,n),on,tk,f)⟩),(1,.int .i64 now)]) ⟨I,I,trivial⟩ ?_
 refine HR.ctl I ?_
 refine HR.region ?_
 refine HL.box I I ?_
 intro b2
 refine HL.alloc I I ?_
 intro b4
 repeat' (first|refine zh ?_|intro (bk:Nat))
 refine HR.cond I (fun h2=>?_) (fun h2=>?_)
 ·subst h2
  repeat' (first|refine zh ?_|intro (bk:Nat))
  refine HL.JC (r:=fun x:NV×List Chunk=> .tuple ⟨[.agg ⟨ndC x.1 (talk n now).1⟩,.agg ⟨frC (talk n now).2.1⟩,.bool (talk n now).2.2]⟩) (Q:=fun x=>Own x.1 x.2 (talk n now).1) (G:=fun x=>[jB x.2]) fn80 I I (fun w1 hw1=>jK1 V n now w1 (h.ext hw1.jE) hg.sm) ?_
  rintro ⟨V2,G2⟩ hO
  have hO:Own V2 G2 (talk n now).1:=hO
  repeat' (first|refine zh ?_|intro (bk:Nat))
  refine HR.ret Tryz.func41 I [_] (fun w hw=>⟨⟨_,rfl,jS hw 1 I I I I rfl⟩,trivial⟩) ?_
  exact fun w' hw=>⟨(V2,G2),rfl,fun w2 _ hg2=>hO w2 hg2,hw.pick [0] I rfl⟩
 ·subst h2
  repeat' (first|refine zh ?_|intro (bk:Nat))
  refine HR.ret Tryz.func41 I [_] (fun w hw=>⟨⟨_,rfl,jS hw 0 I I I I rfl⟩,trivial⟩) ?_
  exact fun w' hw=>⟨(V,[]),rfl,fun w2 hok _=>hok,jQ4 hw⟩
end Go.Proofs.YtgfdoognildoeaaGreat
namespace Go.Proofs.YtgfdoognildoeaaGreat
open Go.GX Go.RowKit
attribute [local irreducible] Calls Run jZ jf JK HR HL HD jT jG JY Rd jK jY
open Nd
theorem jBH (l:List StX) (p:StX→Bool) (g:FuncId) (caps:List Value) (v:Value) (w:World) (hg:IsFn Tryz.prog g) (hp:jPa Tryz.prog g caps (fun a=> .agg ⟨stE a⟩) p l w) (hv:Sl w v (cellsOf stE l) l.length) (hl:l.length≤1000000):
  Calls Tryz.prog 84 #[v,.func (.func g) #[] caps.toArray] w fun e w'=>e= .returned (.int .i64 (fidx p l))∧Below w.heap.size w w':=by
 refine jD Tryz.func84 I (Nat.le_of_ble_eq_true I) ?_
 refine HR.sub (σ':=[(0,v),(1,.func (.func g) #[] caps.toArray)]) ⟨I,I,trivial⟩ ?_
 repeat' (first|refine zh ?_|refine HL.JN (Rd.arg hv) I I I ?_|intro (bk:Nat))
 refine HR.loop (ι:=Nat) (fun k=>k≤l.length∧∀j b,j<k→l[j]? =some b→p b=false) (fun k=>[(0,v),(1,.func (.func g) #[] caps.toArray),(7,.int .i64 (l.length:Int)),(8,.int .i64 (k:Int))]) (fun _=>[]) (fun k=>l.length-k) 0 ⟨Nat.zero_le _,fun j b hj=>absurd hj (Nat.not_lt_zero _)⟩ ⟨I,I,I,I,trivial⟩ Ent.refl ?_
 rintro k ⟨hk,hno⟩ ih
 repeat' (first|refine zh ?_|intro (bk:Nat))
 refine HR.cond I (fun h2=>?_) (fun h2=>?_)
 ·have hlt:k<l.length:=by have:=of_decide_eq_true h2;omega
  obtain ⟨x,hx⟩:=jJ hlt
  repeat' (first|refine zh ?_|refine HL.JA (Rd.arg hv) zA k I I I I hlt ?_|refine HL.JW (Rd.arg hv) I I I I (by simp) I (jH Jq hx) ?_|refine HL.jEF (caps:=caps) hg I I I (fun w' hw=>hp x (List.mem_of_getElem? hx) w' hw.jE) ?_|intro (bk:Nat))
  refine HR.cond I (fun h3=>?_) (fun h3=>?_)
  ·have h3:p x=true:=h3
   repeat' (first|refine zh ?_|intro (bk:Nat))
   refine HR.ret Tryz.func84 I [_] (fun _ _=>⟨I,trivial⟩) ?_
   rw[kY hx h3 hno]
   exact fun w' hw=>⟨rfl,hw.jE⟩
  ·have h3:p x=false:=h3
   repeat' (first|refine zh ?_|intro (bk:Nat))
   refine ih (k+1) _ _ ⟨hlt,fun j b hj hb=>?_⟩ (by omega) ⟨I,I,I,I,trivial⟩ Ent.refl
   by_cases e:j=k
   ·subst e;rw[hx]at hb;cases hb;exact h3
   ·exact hno j b (by omega) hb
 ·have hke:k=l.length:=by have:=of_decide_eq_false h2;omega
  subst hke
  rw[zX hno]
  repeat' (first|refine zh ?_|intro (bk:Nat))
  refine HR.ret Tryz.func84 I [_] (fun _ _=>⟨I,trivial⟩) ?_
  exact fun w' hw=>⟨rfl,hw.jE⟩
theorem jFD (bt:Nat) (k:Int) (s:StX) (w:World) (hb:Sl w (.slice (some ⟨bt,0,none⟩) 1 1) [.int .i64 k] 1):Calls Tryz.prog 85 #[.agg ⟨stE s⟩,.pointer (some ⟨bt,0,none⟩)] w fun e w'=>e= .returned (.bool (s.1.2.addr==k))∧Below w.heap.size w w':=by
 refine jD Tryz.func85 I (Nat.le_of_ble_eq_true I) ?_
 refine HR.sub (σ':=[(0,.agg ⟨stE s⟩),(1,.pointer (some ⟨bt,0,none⟩))]) ⟨I,I,trivial⟩ ?_
 repeat' (first|refine zh ?_|refine HL.ji (j:=0) (Rd.arg hb) I I I I I ?_|intro (bk:Nat))
 refine HR.ret Tryz.func85 I [_] (fun _ _=>⟨I,trivial⟩) ?_
 exact fun w' hw=>⟨rfl,hw.jE⟩
theorem jQC (ss:List StX) (a:Int):(fidx (fun s:StX=>s.1.2.addr==a) ss= -1∧Me.idx (ssN ss) a=none)∨∃(i:Nat) (s:StX),fidx (fun s:StX=>s.1.2.addr==a) ss=(i:Int)∧Me.idx (ssN ss) a=some i∧ss[i]? =some s:=by
 have e:Me.idx (ssN ss) a=ss.findIdx? (fun s:StX=>s.1.2.addr==a):=by unfold Me.idx ssN;rw[List.findIdx?_map];rfl
 rw[e]
 rcases Jk (fun s:StX=>s.1.2.addr==a) ss with ⟨h1,h2,_⟩|⟨i,s,h1,h2,h3,_⟩
 ·exact .inl ⟨h1,h2⟩
 ·exact .inr ⟨i,s,h1,h2,h3⟩
abbrev cIr (v:Value) (l:List Int):Chunk:=jG v 3 1 l.length (cellsOf iC l)
theorem jJg {f:Fr} {now:Int} {l:List Nd} {r:Bool} {a:Int} (h:Me.idx l a=none):Me.ZK f now (l,r) a=(l,r):=by unfold Me.ZK;rw[h]
theorem jJf {f:Fr} {now:Int} {l:List Nd} {r:Bool} {a:Int} {i:Nat} (h:Me.idx l a=some i):Me.ZK f now (l,r) a=if awake (Me.nth l i) now then (l.set i (hear (Me.nth l i) now f),r||(a==f.dst))else (l,r):=by unfold Me.ZK;rw[h]
theorem jJm {α β:Type} (g:β→α→β) (b:β) {l:List α} {k:Nat} {x:α} (hx:l[k]? =some x):(l.take (k+1)).foldl g b=g ((l.take k).foldl g b) x:=by
 rw[jN hx,List.foldl_append];rfl
theorem jLc (ss:List StX) (f:Fr) (rs:List Int) (now:Int) (v vr:Value) (G:List Chunk) (B0:Base) (w:World) (hw0:Sat B0 [cSt v ss,cIr vr rs,jB G] w) (hown:∀s∈ss,Own s.1.1 G s.1.2) (hgd:∀s∈ss,GdN s.1.2) (hf:f.da.length≤9223372036854775807) (hl:ss.length≤1000) (hrl:rs.length≤1000):
  Calls Tryz.prog 43 #[v,.agg ⟨frC f⟩,vr,.int .i64 now] w fun e w'=>∃x:List StX×List Chunk,e= .returned (.bool (Me.hears f now (ssN ss) rs).2)∧(ssN x.1=(Me.hears f now (ssN ss) rs).1∧x.1.map (·.2)=ss.map (·.2)∧(∀ s∈x.1,Own s.1.1 x.2 s.1.2)∧∀s∈x.1,GdN s.1.2)∧Sat ⟨w,Zn [cSt v ss,cIr vr rs,jB G]⟩ [cSt v x.1,cIr vr rs,jB x.2] w':=by
 refine jg [cSt v ss,cIr vr rs,jB G] (hw0) Tryz.func43 I (Nat.le_of_ble_eq_true I) ?_
 refine HR.sub (σ':=[(0,v),(1,.agg ⟨frC f⟩),(2,vr),(3,.int .i64 now)]) ⟨I,I,I,I,trivial⟩ ?_
 refine HR.ctl I ?_
 refine HR.region ?_
 refine HL.box I I ?_
 intro b5
 repeat' (first|refine zh ?_|refine HL.JN (Rd.own 2 I) I I I ?_|intro (bk:Nat))
 refine HR.loop (ι:=Nat×List StX×Bool×List Chunk) (fun x=>x.1≤rs.length∧(rs.take x.1).foldl (Me.ZK f now) (ssN ss,false)=(ssN x.2.1,x.2.2.1)∧x.2.1.map (·.2)=ss.map (·.2)∧(∀ s∈x.2.1,Own s.1.1 x.2.2.2 s.1.2)∧∀s∈x.2.1,GdN s.1.2) (fun x=>[(0,v),(3,.int .i64 now),(5,ptr b5),(9,.bool x.2.2.1),(13,vr),(14,.int .i64 (rs.length:Int)),(15,.int .i64 (x.1:Int))]) (fun x=>[jT b5 (frC f) 75,cSt v x.2.1,cIr vr rs,jB x.2.2.2]) (fun x=>rs.length-x.1) (0,ss,false,G) ⟨Nat.zero_le _,rfl,rfl,hown,hgd⟩ ⟨I,I,I,I,I,I,I,trivial⟩ Ent.refl ?_
 rintro ⟨k,S,r,Gk⟩ ⟨hk,hfo,hS2,hownk,hgdk⟩ ih
 have hk:k≤rs.length:=hk
 have hfo:(rs.take k).foldl (Me.ZK f now) (ssN ss,false)=(ssN S,r):=hfo
 have hS2:S.map (·.2)=ss.map (·.2):=hS2
 have hownk:∀s∈S,Own s.1.1 Gk s.1.2:=hownk
 have hgdk:∀s∈S,GdN s.1.2:=hgdk
 have hSl:S.length≤1000:=by have:=congrArg List.length hS2;rw[List.length_map,List.length_map]at this;omega
 have cS:(cellsOf stE S).length=S.length*24:=jC Jq _
 repeat' (first|refine zh ?_|intro (bk:Nat))
 refine HR.cond I (fun h2=>?_) (fun h2=>?_)
 rotate_left
 ·have hke:k=rs.length:=by have:¬(k:Int)<(rs.length:Int):=of_decide_eq_false h2;omega
  rw[hke,List.take_length]at hfo
  have e1:Me.hears f now (ssN ss) rs=(ssN S,r):=hfo
  rw[e1]
  repeat' (first|refine zh ?_|intro (bk:Nat))
  refine HR.ret Tryz.func43 I [_] (fun _ _=>⟨I,trivial⟩) ?_
  exact fun w' hw=>⟨(S,Gk),rfl,⟨rfl,hS2,hownk,hgdk⟩,hw.pick [1,2,3] I rfl⟩
 have hlt:k<rs.length:=by have:(k:Int)<(rs.length:Int):=of_decide_eq_true h2;omega
 obtain ⟨a,ha⟩:=jJ hlt
 have hst:=jJm (Me.ZK f now) (ssN ss,false) ha
 rw[hfo]at hst
 repeat' (first|refine zh ?_|refine HL.JA (Rd.own 2 I) Jw k I I I I hlt ?_|refine HL.ji (Rd.own 2 I) I I I I (jW ha) ?_|refine HL.mkF (g:=85) (caps:=[_]) I I ?_|intro (bk:Nat))
 rcases jQC S a with ⟨e1,e2⟩|⟨i,s,e1,e2,hs⟩
 ·rw [jJg e2]at hst
  refine HL.jR (r:= .int .i64 (-1)) fn84 I I (fun w1 hw1=>by have:=jBH S (fun s=>s.1.2.addr==a) 85 [.pointer (some ⟨bk,0,none⟩)] v w1 fn85 (fun x hx w2 hb=>jFD bk a x w2 (((Rd.blk (n:=1) 0 rfl).at hw1).ext hb)) ((Rd.own 2 rfl).at hw1) (by omega);rw[e1]at this;exact this) ?_
  repeat' (first|refine zh ?_|intro (bk:Nat))
  exact ih (k+1,S,r,Gk) _ _ ⟨hlt,hst,hS2,hownk,hgdk⟩ (by show rs.length-(k+1)<rs.length-k;omega) ⟨I,I,I,I,I,I,I,trivial⟩ (Ent.pick [1,2,3,4] I I)
 obtain ⟨⟨V,n⟩,on,tk,fr⟩:=s
 have hil:i<S.length:=(List.getElem?_eq_some_iff.1 hs).1
 have hsm:((V,n),on,tk,fr)∈S:=List.mem_of_getElem? hs
 have hOn:Own V Gk n:=hownk _ hsm
 have hGn:GdN n:=hgdk _ hsm
 rw[jJf e2,jKV hs]at hst
 have hst:(rs.take (k+1)).foldl (Me.ZK f now) (ssN ss,false)=if awake n now then ((ssN S).set i (hear n now f),r||(a==f.dst))else (ssN S,r):=hst
 refine HL.jR (r:= .int .i64 (i:Int)) fn84 I I (fun w1 hw1=>by have:=jBH S (fun s=>s.1.2.addr==a) 85 [.pointer (some ⟨bk,0,none⟩)] v w1 fn85 (fun x hx w2 hb=>jFD bk a x w2 (((Rd.blk (n:=1) 0 rfl).at hw1).ext hb)) ((Rd.own 2 rfl).at hw1) (by omega);rw[e1]at this;exact this) ?_
 repeat' (first|refine zh ?_|refine HL.JA (Rd.own 2 I) zA i I I I I hil ?_|refine HL.jo 0 (Rd.own 2 I) (by rw[cS];omega) I I I I I I I ?_|refine HL.JW (us:=ndC V n) (Rd.own 2 I) I I I I (by simp) I (Ke hs) ?_|refine HL.jR fn86 I I (fun w1 hw1=>jHu V n now w1 (hOn w1 (Sat.grp 4 hw1 I)) hGn.sm) ?_|intro (bk:Nat))
 refine HR.cond I (fun h3=>?_) (fun h3=>?_)
 ·have h3:awake n now=false:=by have h3:(!awake n now)=true:=h3;simpa using h3
  rw[h3,if_neg (by decide)]at hst
  repeat' (first|refine zh ?_|intro (bk:Nat))
  exact ih (k+1,S,r,Gk) _ _ ⟨hlt,hst,hS2,hownk,hgdk⟩ (by show rs.length-(k+1)<rs.length-k;omega) ⟨I,I,I,I,I,I,I,trivial⟩ (Ent.pick [1,2,3,4] I I)
 have h3:awake n now=true:=by have h3:(!awake n now)=false:=h3;simpa using h3
 rw[h3,if_pos rfl]at hst
 repeat' (first|refine zh ?_|intro (bk:Nat))
 refine HR.Jf [(0,true),(1,true),(2,true),(3,true),(4,true),(5,true),(6,true),(7,true),(8,true),(9,false),(10,true),(11,true)] 12 [1,2] I I Jc (by kernel_rfl) ?_
 repeat' (first|refine zd ?_|refine HD.JA (Rd.own 1 I) zA i I I I I I hil ?_|refine HD.jo 0 (Rd.own 1 I) (by rw[cS];omega) I I I I I I I I ?_|refine HD.JW (us:=ndC V n) (Rd.own 1 I) I I I I I (by simp) I (Ke hs) ?_)
 refine HD.one I ?_
 refine HL.JC (r:=fun x:NV×List Chunk=> .agg ⟨ndC x.1 (hear n now f)⟩) (Q:=fun x=>Own x.1 x.2 (hear n now f)) (G:=fun x=>[jB x.2]) fn87 I I (fun w1 hw1=>jLF V n now f w1 (hOn w1 (Sat.grp 4 hw1 I)) hGn.sm hf) ?_
 rintro ⟨V2,G2⟩ hO
 have hO:Own V2 G2 (hear n now f):=hO
 refine HL.back [2,3] I I ?_
 repeat' (first|refine zd ?_|refine HD.JA (Rd.own 1 I) zA i I I I I I hil ?_|refine HD.jo 0 (Rd.own 1 I) (by rw[cS];omega) I I I I I I I I ?_)
 refine HD.last I ?_
 refine HL.zP (us:=ndC V2 (hear n now f)) (j:=i*24+0) 3 I I I I I I I (by rw[cS];show i*24+0+13≤_;omega) (by simp) ?_
 obtain ⟨S',hS'⟩:∃S',S'=S.set i ((V2,hear n now f),on,tk,fr):=⟨_,rfl⟩
 have hl':S'.length=S.length:=by rw[hS'];exact List.length_set
 refine HL.ent (H':=[cSt v S',jB G2,jT bk [.int .i64 a] 3,jT b5 (frC f) 75,cIr vr rs,jB Gk]) (Ent.trans (Ent.pick [3,0,1,2,4,5] I I) (Ent.JV hl'.symm (by rw[hS'];exact Jg (i:=0) Jq hs I (show 0+13≤24 by decide)))) ?_
 repeat' (first|refine zh ?_|apply zb ?_ ?_|exact zc|(refine zi fun hb=>?_;try simp at hb)|intro (bk:Nat))
 refine ih (k+1,S',r||(a==f.dst),[jB G2,jB Gk]) _ _ ⟨hlt,?_,?_,?_,?_⟩ (by show rs.length-(k+1)<rs.length-k;omega) ⟨I,I,I,I,I,I,I,trivial⟩ (Ent.trans (Ent.pick (H':=[jB G2,jB Gk]++[jT b5 (frC f) 75,cSt v S',cIr vr rs]) [1,5,3,0,4] I I) (Ent.trans Ent.group (Ent.pick [1,2,3,0] I I)))
 ·show (rs.take (k+1)).foldl (Me.ZK f now) (ssN ss,false)=(ssN S',r||(a==f.dst))
  rw[hst,hS',jKU]
 ·show S'.map (·.2)=ss.map (·.2)
  rw[← hS2,hS',List.map_set]
  exact jDa (by rw[List.getElem?_map,hs];rfl)
 ·intro z hz
  have hz:z∈S':=hz
  rw[hS']at hz
  rcases List.mem_or_eq_of_mem_set hz with hz|rfl
  ·exact fun w2 hg2=>hownk z hz w2 (jM hg2 (by simp))
  ·exact fun w2 hg2=>hO w2 (jM hg2 (by simp))
 ·intro z hz
  have hz:z∈S':=hz
  rw[hS']at hz
  rcases List.mem_or_eq_of_mem_set hz with hz|rfl
  ·exact hgdk z hz
  ·exact hGn.hear hf now
end Go.Proofs.YtgfdoognildoeaaGreat
namespace Go.Proofs.YtgfdoognildoeaaGreat
open Go.GX Go.RowKit
attribute [local irreducible] Calls Run jZ jf JK HR HL HD jT jG JY Rd jK jY
open Nd
theorem fn15:IsFn Tryz.prog 15:=⟨⟨_,_,Tryz.func15,rfl,by decide⟩⟩
theorem jRP (t:Int):(if (if (1099511627775:Int)<t then 1099511627775 else t)>0 then (if (1099511627775:Int)<t then 1099511627775 else t)else 0)=max 0 (min t 1099511627775):=by
 split<;>split at* <;>omega
abbrev ssP (ss:List StX):List (Nd×Bool×Bool×Fr):=ss.map fun s=>(s.1.2,s.2)
theorem jKS (ss:List StX) (k:Nat) (s:StX):ssP (ss.set k s)=(ssP ss).set k (s.1.2,s.2):=by unfold ssP;rw[List.map_set]
theorem jKT {ss:List StX} {k:Nat} {s:StX} (h:ss[k]? =some s):(ssP ss)[k]? =some (s.1.2,s.2):=by unfold ssP;rw[List.getElem?_map,h];rfl
theorem kG (ss:List StX):(ssP ss).length=ss.length:=by simp[ssP]
theorem phases (nw:Int) (a:Me.Air) (n:Nd):z8 nw (J4 nw (n,Me.live a n.addr,false,fr0))=((Me.jBS nw (Me.live a n.addr) (Me.phase1 a nw n)).1,Me.live a n.addr,(Me.jBS nw (Me.live a n.addr) (Me.phase1 a nw n)).2.2,(Me.jBS nw (Me.live a n.addr) (Me.phase1 a nw n)).2.1):=by
 unfold z8 J4 Me.jBS Me.phase1
 by_cases h:Me.live a n.addr=true
 ·simp only[h,if_true]
 ·simp only[h,if_false,Bool.false_eq_true]
theorem jNE (m:Me.Mesh) (a:Me.Air):(m.nodes.map (fun n=>z8 (Me.jHN m.tick) (J4 (Me.jHN m.tick) (n,Me.live a n.addr,false,fr0)))).map (·.1)=(Me.spoken m a).map (·.1):=by
 unfold Me.spoken
 rw[List.map_map,List.map_map]
 refine List.map_congr_left fun n _=>?_
 show (z8 _ _).1=_
 rw[phases];rfl
theorem jNF (m:Me.Mesh) (a:Me.Air):(m.nodes.map (fun n=>z8 (Me.jHN m.tick) (J4 (Me.jHN m.tick) (n,Me.live a n.addr,false,fr0)))).map (fun s=>(s.2.2.2,s.2.2.1))=(Me.spoken m a).map (·.2):=by
 unfold Me.spoken
 rw[List.map_map,List.map_map]
 refine List.map_congr_left fun n _=>?_
 show ((z8 _ _).2.2.2,(z8 _ _).2.2.1)=_
 rw[phases];rfl
theorem jNn {now:Int} {s:Nd×Bool×Bool×Fr} (h:GdN s.1):GdN (J4 now s).1:=by
 unfold J4;simp only;split
 ·exact h.tick now
 ·exact h
theorem jQH {now:Int} {s:Nd×Bool×Bool×Fr} (h:GdN s.1) (hf:s.2.2.2.da.length≤9223372036854775807):GdN (z8 now s).1∧(z8 now s).2.2.2.da.length≤9223372036854775807:=by
 unfold z8;split
 ·exact h.talk now
 ·exact ⟨h,hf⟩
theorem jHo {a:Me.Air} {now:Int} {fs:List (Fr×Bool)} {k:Nat} {l:List Nd} {f:Fr} {tk:Bool} (h:fs[k]? =some (f,tk)):Me.tells a now fs (k+1) l=if tk then Me.told a now (Me.tells a now fs k l) k f else Me.tells a now fs k l:=by
 show Me.jQ1 a now (Me.tells a now fs k l) k fs[k]? =_
 rw[h];cases tk<;>rfl
theorem jEx (t:Int) (v:Value) (xs:List (NV×Nd)) (a:Me.Air) (ve vo vn:Value) (w:World) (h:OkL w v xs) (hg:∀x∈xs,GdN x.2) (hl:xs.length≤1000) (hA:OkA w a ve vo vn):
  Calls Tryz.prog 15 #[meV t v,jKD ve vo vn] w fun e w'=>∃x:SV×List (NV×Nd)×List Chunk,e= .returned (meV (Me.jHN t) (sv x.1 x.2.1.length))∧(MkL x (Me.jDy ⟨t,nds xs⟩ a).nodes∧∀y∈x.2.1,GdN y.2)∧Sat (base w) [cNd (sv x.1 x.2.1.length) x.2.1,jB x.2.2] w':=by
 obtain ⟨nw,hnw⟩:∃z,z=Me.jHN t:=⟨_,rfl⟩
 refine jD Tryz.func15 I (Nat.le_of_ble_eq_true I) ?_
 refine HR.sub (σ':=[(0,meV t v),(1,jKD ve vo vn)]) ⟨I,I,trivial⟩ ?_
 refine HR.ctl I ?_
 refine HR.region ?_
 refine HL.box I I ?_
 intro b2
 refine HL.box I I ?_
 intro b3
 refine HL.alloc I I ?_
 intro b4
 refine HL.nil ?_
 refine HR.ctl I ?_
 refine HR.region ?_
 refine zn ?_
 refine HR.ZU 5 (v':= .int .i64 nw) I (by rw[jRP,hnw];rfl) ?_
 repeat' (first|refine zh ?_|intro (bk:Nat))
 refine HL.JC (r:=fun x:SV×List StX×List Chunk=>sv x.1 x.2.1.length) (Q:=fun x=>x.2.1.map (fun s=>(s.1.2,s.2))=(nds xs).map (fun n=>(n,Me.live a n.addr,false,fr0))∧∀s∈x.2.1,Own s.1.1 x.2.2 s.1.2) (G:=fun x=>[cSt (sv x.1 x.2.1.length) x.2.1,jB x.2.2]) fn39 I I (fun w1 hw1=>jEa t v xs a ve vo vn w1 (h.ext hw1.jE) (fun x hx=>(hg x hx).sm) hl (hA.at hw1)) ?_
 rintro ⟨y,S0,G0⟩ ⟨hP0,hO0⟩
 have hP0:ssP S0=(nds xs).map (fun n=>(n,Me.live a n.addr,false,fr0)):=hP0
 have hO0:∀s∈S0,Own s.1.1 G0 s.1.2:=hO0
 have hS0:S0.length=xs.length:=by rw[← kG,hP0,List.length_map,JG]
 have hgd0:∀s∈S0,GdN s.1.2∧s.2.2.2.da.length≤9223372036854775807:=fun s hs=>by
  have hm:(s.1.2,s.2)∈ssP S0:=List.mem_map.2 ⟨s,hs,rfl⟩
  rw[hP0]at hm
  obtain ⟨n,hn,e⟩:=List.mem_map.1 hm
  obtain ⟨x,hx,rfl⟩:=List.mem_map.1 hn
  have e1:x.2=s.1.2:=congrArg (·.1) e
  have e2:(Me.live a x.2.addr,false,fr0)=s.2:=congrArg (·.2) e
  exact ⟨by rw[← e1];exact hg x hx,by rw[← e2];exact Nat.zero_le _⟩
 have y_sv:∀(S:List StX),S.length=S0.length→sv y S0.length=sv y S.length:=fun S e=>by rw[e]
 repeat' (first|refine zh ?_|intro (bk:Nat))
 refine HR.loop (ι:=Nat×List StX×List Chunk) (fun x=>x.1≤S0.length∧ssP x.2.1=((ssP S0).take x.1).map (J4 nw)++(ssP S0).drop x.1∧(∀ s∈x.2.1,Own s.1.1 x.2.2 s.1.2)∧∀s∈x.2.1,GdN s.1.2∧s.2.2.2.da.length≤9223372036854775807) (fun x=>[(3,ptr b3),(4,ptr b4),(5,.int .i64 nw),(6,sv y S0.length),(7,.func (.func 40) #[] #[]),(27,.int .i64 (S0.length:Int)),(28,.int .i64 (x.1:Int))]) (fun x=>[jT b3 [ve,vo,vn] 34,jT b4 meZ 26,jG (sv y S0.length) 77 24 S0.length (cellsOf stE x.2.1),jB x.2.2]) (fun x=>S0.length-x.1) (0,S0,G0) ⟨Nat.zero_le _,rfl,hO0,hgd0⟩ ⟨I,I,I,I,I,I,I,trivial⟩ (Ent.pick [3,2,0,1] I I) ?_
 rintro ⟨k,S,G⟩ ⟨hk,hP,hO,hgd⟩ ih
 have hk:k≤S0.length:=hk
 have hP:ssP S=((ssP S0).take k).map (J4 nw)++(ssP S0).drop k:=hP
 have hO:∀s∈S,Own s.1.1 G s.1.2:=hO
 have hgd:∀s∈S,GdN s.1.2∧s.2.2.2.da.length≤9223372036854775807:=hgd
 have hSl:S.length=S0.length:=by rw[← kG,hP,List.length_append,List.length_map,← List.length_append,List.take_append_drop,kG]
 have cS:(cellsOf stE S).length=S.length*24:=jC Jq _
 repeat' (first|refine zh ?_|intro (bk:Nat))
 refine HR.cond I (fun h2=>?_) (fun h2=>?_)
 ·have hlt:k<S0.length:=by have:(k:Int)<(S0.length:Int):=of_decide_eq_true h2;omega
  obtain ⟨⟨⟨V,n⟩,on,tk,fr⟩,hs⟩:=jJ (show k<S.length by omega)
  have hsm:=List.mem_of_getElem? hs
  have hOn:Own V G n:=hO _ hsm
  have hGn:GdN n:=(hgd _ hsm).1
  have hfn:fr.da.length≤9223372036854775807:=(hgd _ hsm).2
  have hs0:(ssP S0)[k]? =some (n,on,tk,fr):=by
   obtain ⟨z,hz⟩:=jJ (show k<(ssP S0).length by rw[kG];exact hlt)
   have e:=Zk (J4 nw) hz
   rw[← hP,jKT hs]at e
   rw[hz];exact e.symm
  repeat' (first|refine zh ?_|refine HL.JA (n:=S0.length) (cs:=cellsOf stE S) (Rd.own 2 I) zA k I I I I hlt ?_|refine HL.JW (us:=stE ((V,n),on,tk,fr)) (cs:=cellsOf stE S) (Rd.own 2 I) I I I I (by simp) I (jH Jq hs) ?_|intro (bk:Nat))
  refine HL.jPV (caps:=[]) (r:=fun x:NV×List Chunk=> .agg ⟨stE ((x.1,(J4 nw (n,on,tk,fr)).1),(J4 nw (n,on,tk,fr)).2)⟩) (Q:=fun x=>jQx V n x.1 x.2 (J4 nw (n,on,tk,fr)).1) (G:=fun x=>[jB x.2]) fn40 I I I (fun w1 hw1=>jMZ V n on tk fr nw w1 (hOn w1 (Sat.grp 3 hw1 I)) hGn) ?_
  rintro ⟨V2,G2⟩ hI
  have hI:jQx V n V2 G2 (J4 nw (n,on,tk,fr)).1:=hI
  obtain ⟨s2,hs2⟩:∃s2:StX,s2=((V2,(J4 nw (n,on,tk,fr)).1),(J4 nw (n,on,tk,fr)).2):=⟨_,rfl⟩
  repeat' (first|refine zh ?_|refine HL.JA (n:=S0.length) (cs:=cellsOf stE S) (Rd.own 3 I) zA k I I I I hlt ?_|refine HL.zP (us:=stE ((V2,(J4 nw (n,on,tk,fr)).1),(J4 nw (n,on,tk,fr)).2)) (j:=k*24) 3 I I I I I I I (by rw[cS];show k*24+24≤_;omega) (by simp) ?_|intro (bk:Nat))
  have hSet:∀z∈S.set k s2,z∈S∨z=s2:=fun z hz=>List.mem_or_eq_of_mem_set hz
  refine ih (k+1,S.set k s2,[jB G2,jB G]) _ _ ⟨hlt,?_,?_,?_⟩ (by show S0.length-(k+1)<S0.length-k;omega) ⟨I,I,I,I,I,I,I,trivial⟩ ?_
  ·show ssP (S.set k s2)=_
   rw[jKS,hP,hs2]
   exact jBb (J4 nw) hs0
  ·intro z hz
   rcases hSet z hz with hz|rfl
   ·exact fun w2 hg2=>hO z hz w2 (jM hg2 (by simp))
   ·rw [hs2];exact fun w2 hg2=>hI w2 (hOn w2 (jM hg2 (by simp))) (jM hg2 (by simp))
  ·intro z hz
   rcases hSet z hz with hz|rfl
   ·exact hgd z hz
   ·rw [hs2];exact ⟨jNn hGn,hfn⟩
  ·show Ent _ _ [jT b3 [ve,vo,vn] 34,jT b4 meZ 26,jG (sv y S0.length) 77 24 S0.length (cellsOf stE (S.set k s2)),jB [jB G2,jB G]]
   refine Ent.trans (Ent.pick (H':=[jB G2,jB G]++[jT b3 [ve,vo,vn] 34,jT b4 meZ 26,_]) [0,4,1,2,3] I I) (Ent.trans Ent.group (Ent.trans (Ent.pick [3,1,2,0] I I) (Ent.trans (Ent.JV I ?_) (Ent.pick [1,2,0,3] I I))))
   rw[hs2]
   exact Jg (i:=0) Jq hs I (show 0+24≤24 by decide)
 have hke:k=S0.length:=by have:¬(k:Int)<(S0.length:Int):=of_decide_eq_false h2;omega
 rw[hke,← kG S0,List.take_length,List.drop_length,List.append_nil]at hP
 have hP1:ssP S=(ssP S0).map (J4 nw):=hP
 have hO1:=hO
 have hgd1:=hgd
 obtain ⟨S1,hS1⟩:∃S1,S1=S:=⟨_,rfl⟩
 obtain ⟨G1,hG1⟩:∃G1,G1=G:=⟨_,rfl⟩
 subst hS1
 subst hG1
 have hSl1:S1.length=S0.length:=hSl
 rw[← hSl]
 rw[← hSl]at y_sv
 clear hO hgd hP ih hk cS
 repeat' (first|refine zh ?_|intro (bk:Nat))
 refine HR.loop (ι:=Nat×List StX×List Chunk) (fun x=>x.1≤S1.length∧ssP x.2.1=((ssP S1).take x.1).map (z8 nw)++(ssP S1).drop x.1∧(∀ s∈x.2.1,Own s.1.1 x.2.2 s.1.2)∧∀s∈x.2.1,GdN s.1.2∧s.2.2.2.da.length≤9223372036854775807) (fun x=>[(3,ptr b3),(4,ptr b4),(5,.int .i64 nw),(6,sv y S1.length),(7,.func (.func 41) #[] #[]),(43,.int .i64 (S1.length:Int)),(44,.int .i64 (x.1:Int))]) (fun x=>[jT b3 [ve,vo,vn] 34,jT b4 meZ 26,jG (sv y S1.length) 77 24 S1.length (cellsOf stE x.2.1),jB x.2.2]) (fun x=>S1.length-x.1) (0,S1,G1) ⟨Nat.zero_le _,rfl,hO1,hgd1⟩ ⟨I,I,I,I,I,I,I,trivial⟩ Ent.refl ?_
 rintro ⟨k,S,G⟩ ⟨hk,hP,hO,hgd⟩ ih
 have hk:k≤S1.length:=hk
 have hP:ssP S=((ssP S1).take k).map (z8 nw)++(ssP S1).drop k:=hP
 have hO:∀s∈S,Own s.1.1 G s.1.2:=hO
 have hgd:∀s∈S,GdN s.1.2∧s.2.2.2.da.length≤9223372036854775807:=hgd
 have hSl:S.length=S1.length:=by rw[← kG,hP,List.length_append,List.length_map,← List.length_append,List.take_append_drop,kG]
 have cS:(cellsOf stE S).length=S.length*24:=jC Jq _
 repeat' (first|refine zh ?_|intro (bk:Nat))
 refine HR.cond I (fun h2=>?_) (fun h2=>?_)
 ·have hlt:k<S1.length:=by have:(k:Int)<(S1.length:Int):=of_decide_eq_true h2;omega
  obtain ⟨⟨⟨V,n⟩,on,tk,fr⟩,hs⟩:=jJ (show k<S.length by omega)
  have hsm:=List.mem_of_getElem? hs
  have hOn:Own V G n:=hO _ hsm
  have hGn:GdN n:=(hgd _ hsm).1
  have hfn:fr.da.length≤9223372036854775807:=(hgd _ hsm).2
  have hs0:(ssP S1)[k]? =some (n,on,tk,fr):=by
   obtain ⟨z,hz⟩:=jJ (show k<(ssP S1).length by rw[kG];exact hlt)
   have e:=Zk (z8 nw) hz
   rw[← hP,jKT hs]at e
   rw[hz];exact e.symm
  repeat' (first|refine zh ?_|refine HL.JA (n:=S1.length) (cs:=cellsOf stE S) (Rd.own 2 I) zA k I I I I hlt ?_|refine HL.JW (us:=stE ((V,n),on,tk,fr)) (cs:=cellsOf stE S) (Rd.own 2 I) I I I I (by simp) I (jH Jq hs) ?_|intro (bk:Nat))
  refine HL.jPV (caps:=[]) (r:=fun x:NV×List Chunk=> .agg ⟨stE ((x.1,(z8 nw (n,on,tk,fr)).1),(z8 nw (n,on,tk,fr)).2)⟩) (Q:=fun x=>jQx V n x.1 x.2 (z8 nw (n,on,tk,fr)).1) (G:=fun x=>[jB x.2]) fn41 I I I (fun w1 hw1=>jFn V n on tk fr nw w1 (hOn w1 (Sat.grp 3 hw1 I)) hGn) ?_
  rintro ⟨V2,G2⟩ hI
  have hI:jQx V n V2 G2 (z8 nw (n,on,tk,fr)).1:=hI
  obtain ⟨s2,hs2⟩:∃s2:StX,s2=((V2,(z8 nw (n,on,tk,fr)).1),(z8 nw (n,on,tk,fr)).2):=⟨_,rfl⟩
  repeat' (first|refine zh ?_|refine HL.JA (n:=S1.length) (cs:=cellsOf stE S) (Rd.own 3 I) zA k I I I I hlt ?_|refine HL.zP (us:=stE ((V2,(z8 nw (n,on,tk,fr)).1),(z8 nw (n,on,tk,fr)).2)) (j:=k*24) 3 I I I I I I I (by rw[cS];show k*24+24≤_;omega) (by simp) ?_|intro (bk:Nat))
  have hSet:∀z∈S.set k s2,z∈S∨z=s2:=fun z hz=>List.mem_or_eq_of_mem_set hz
  refine ih (k+1,S.set k s2,[jB G2,jB G]) _ _ ⟨hlt,?_,?_,?_⟩ (by show S1.length-(k+1)<S1.length-k;omega) ⟨I,I,I,I,I,I,I,trivial⟩ ?_
  ·show ssP (S.set k s2)=_
   rw[jKS,hP,hs2]
   exact jBb (z8 nw) hs0
  ·intro z hz
   rcases hSet z hz with hz|rfl
   ·exact fun w2 hg2=>hO z hz w2 (jM hg2 (by simp))
   ·rw [hs2];exact fun w2 hg2=>hI w2 (hOn w2 (jM hg2 (by simp))) (jM hg2 (by simp))
  ·intro z hz
   rcases hSet z hz with hz|rfl
   ·exact hgd z hz
   ·rw [hs2];exact jQH (s:=(n,on,tk,fr)) hGn hfn
  ·show Ent _ _ [jT b3 [ve,vo,vn] 34,jT b4 meZ 26,jG (sv y S1.length) 77 24 S1.length (cellsOf stE (S.set k s2)),jB [jB G2,jB G]]
   refine Ent.trans (Ent.pick (H':=[jB G2,jB G]++[jT b3 [ve,vo,vn] 34,jT b4 meZ 26,_]) [0,4,1,2,3] I I) (Ent.trans Ent.group (Ent.trans (Ent.pick [3,1,2,0] I I) (Ent.trans (Ent.JV I ?_) (Ent.pick [1,2,0,3] I I))))
   rw[hs2]
   exact Jg (i:=0) Jq hs I (show 0+24≤24 by decide)
 have hke:k=S1.length:=by have:¬(k:Int)<(S1.length:Int):=of_decide_eq_false h2;omega
 rw[hke,← kG S1,List.take_length,List.drop_length,List.append_nil]at hP
 have hP2:ssP S=(nds xs).map (fun n=>z8 nw (J4 nw (n,Me.live a n.addr,false,fr0))):=by rw[hP,hP1,hP0,List.map_map,List.map_map];rfl
 obtain ⟨fs,hfs⟩:∃fs,fs=(Me.spoken ⟨t,nds xs⟩ a).map (·.2):=⟨_,rfl⟩
 have hF:S.map (fun s=>(s.2.2.2,s.2.2.1))=fs:=by
  have:=jNF ⟨t,nds xs⟩ a
  rw[hfs,← this,← hnw,← hP2,List.map_map];rfl
 have hN:ssN S=(Me.spoken ⟨t,nds xs⟩ a).map (·.1):=by
  have:=jNE ⟨t,nds xs⟩ a
  rw[← this,← hnw,← hP2,List.map_map];rfl
 obtain ⟨l2,hl2⟩:∃l2,l2=ssN S:=⟨_,rfl⟩
 have hO2:=hO
 have hgd2:=hgd
 obtain ⟨S2,hS2⟩:∃S2,S2=S:=⟨_,rfl⟩
 obtain ⟨G2,hG2⟩:∃G2,G2=G:=⟨_,rfl⟩
 subst hS2
 subst hG2
 have hL2:S2.length=xs.length:=by rw[hSl,hSl1,hS0]
 rw[← hSl]
 clear hO hgd hP ih hk cS y_sv hP1 hP0 hO1 hgd1 hO0 hgd0
 repeat' (first|refine zh ?_|intro (bk:Nat))
 refine HR.loop (ι:=Nat×List StX×List Chunk) (fun x=>x.1≤S2.length∧ssN x.2.1=Me.tells a nw fs x.1 l2∧x.2.1.map (·.2)=S2.map (·.2)∧(∀ s∈x.2.1,Own s.1.1 x.2.2 s.1.2)∧∀s∈x.2.1,GdN s.1.2) (fun x=>[(3,ptr b3),(4,ptr b4),(5,.int .i64 nw),(6,sv y S2.length),(59,.int .i64 (S2.length:Int)),(60,.int .i64 (x.1:Int))]) (fun x=>[jT b3 [ve,vo,vn] 34,jT b4 meZ 26,cSt (sv y S2.length) x.2.1,jB x.2.2]) (fun x=>S2.length-x.1) (0,S2,G2) ⟨Nat.zero_le _,hl2.symm,rfl,hO2,fun s hs=>(hgd2 s hs).1⟩ ⟨I,I,I,I,I,I,trivial⟩ (Ent.pick [0,1,2,3] I I) ?_
 rintro ⟨k,S,G⟩ ⟨hk,hT,hS2m,hO,hgd⟩ ih
 have hk:k≤S2.length:=hk
 have hT:ssN S=Me.tells a nw fs k l2:=hT
 have hS2m:S.map (·.2)=S2.map (·.2):=hS2m
 have hO:∀s∈S,Own s.1.1 G s.1.2:=hO
 have hgd:∀s∈S,GdN s.1.2:=hgd
 have hSl:S.length=S2.length:=by have:=congrArg List.length hS2m;rwa[List.length_map,List.length_map]at this
 have cS:(cellsOf stE S).length=S.length*24:=jC Jq _
 repeat' (first|refine zh ?_|intro (bk:Nat))
 refine HR.cond I (fun h2=>?_) (fun h2=>?_)
 ·have hlt:k<S2.length:=by have:(k:Int)<(S2.length:Int):=of_decide_eq_true h2;omega
  have hlt':k<S.length:=by omega
  obtain ⟨⟨⟨V,n⟩,on,tk,fr⟩,hs⟩:=jJ hlt'
  have hs2:(S2.map (·.2))[k]? =some (on,tk,fr):=by rw[← hS2m,List.getElem?_map,hs];rfl
  have hfk:fs[k]? =some (fr,tk):=by
   rw[← hF,List.getElem?_map]
   rw[List.getElem?_map]at hs2
   cases hz:S2[k]? with
   |none=>rw[hz]at hs2;cases hs2
   |some z=>rw[hz]at hs2;cases z with|mk z1 z2=>cases hs2;rfl
  have hfd:fr.da.length≤9223372036854775807:=by
   obtain ⟨z,hz,e⟩:=List.mem_map.1 (List.mem_of_getElem? hs2)
   have:=(hgd2 z hz).2
   rw[e]at this;exact this
  have hstep:=jHo (a:=a) (now:=nw) (l:=l2) hfk
  rw[← hT]at hstep
  repeat' (first|refine zh ?_|refine HL.JA (Rd.own 2 I) zA k I I I I hlt' ?_|refine HL.jo 14 (Rd.own 2 I) (by rw[cS];omega) I I I I I I I ?_|refine HL.ji (Rd.own 2 I) I I I I (jQ Jq hs (i:=14) I) ?_|intro (bk:Nat))
  refine HR.cond I (fun h3=>?_) (fun h3=>?_)
  ·have h3:tk=false:=by have h3:(!tk)=true:=h3;simpa using h3
   rw[h3,if_neg (by decide)]at hstep
   repeat' (first|refine zh ?_|intro (bk:Nat))
   exact ih (k+1,S,G) _ _ ⟨hlt,hstep.symm,hS2m,hO,hgd⟩ (by show S2.length-(k+1)<S2.length-k;omega) ⟨I,I,I,I,I,I,trivial⟩ Ent.refl
  have h3:tk=true:=by have h3:(!tk)=false:=h3;simpa using h3
  rw[h3,if_pos rfl]at hstep
  obtain ⟨rs,hrs⟩:∃rs,rs=Ra.recv (Ra.san a) fr:=⟨_,rfl⟩
  obtain ⟨ac,hac⟩:∃ac,ac=Ra.jFe (Ra.san a) fr:=⟨_,rfl⟩
  have hrl:rs.length≤251:=by rw[hrs];exact Ra.jM3 _ _
  repeat' (first|refine zh ?_|refine HL.JA (Rd.own 2 I) zA k I I I I hlt' ?_|refine HL.jo 15 (Rd.own 2 I) (by rw[cS];omega) I I I I I I I ?_|refine HL.JW (us:=frC fr) (Rd.own 2 I) I I I I (by simp) I (jMr hs) ?_|intro (bk:Nat))
  refine HL.JC (r:=fun x:Value=> .tuple ⟨[x,.bool ac]⟩) (Q:=fun _=>True) (G:=fun x=>[cIr x rs]) fn42 I I (fun w1 hw1=>by rw[hrs,hac];exact (jGh a fr ve vo vn w1 (hA.at hw1)).mono fun e w' ⟨x,e1,e2⟩=>⟨x,e1,trivial,e2⟩) ?_
  intro vr _
  repeat' (first|refine zh ?_|intro (bk:Nat))
  refine HL.ent (H':=[cSt (sv y S2.length) S,cIr vr rs,jB G]++[jT bk (frC fr) 75,jT b3 [ve,vo,vn] 34,jT b4 meZ 26]) (Ent.pick [4,0,5,1,2,3] I I) ?_
  refine HL.Jh (r:=fun _=> .bool (Me.hears fr nw (ssN S) rs).2) (Q:=fun x:List StX×List Chunk=>ssN x.1=(Me.hears fr nw (ssN S) rs).1∧x.1.map (·.2)=S.map (·.2)∧(∀ s∈x.1,Own s.1.1 x.2 s.1.2)∧∀s∈x.1,GdN s.1.2) (G:=fun x=>[cSt (sv y S2.length) x.1,cIr vr rs,jB x.2]) fn43 I I I (fun w1 hw1=>jLc S fr rs nw (sv y S2.length) vr G _ w1 (hw1.pick [0,1,2] I I) hO hgd hfd (by omega) (by omega)) ?_
  rintro ⟨S',G'⟩ ⟨hN',hM',hO',hgd'⟩
  have hN':ssN S'=(Me.hears fr nw (ssN S) rs).1:=hN'
  have hM':S'.map (·.2)=S.map (·.2):=hM'
  have hO':∀s∈S',Own s.1.1 G' s.1.2:=hO'
  have hgd':∀s∈S',GdN s.1.2:=hgd'
  obtain ⟨rc,hrc⟩:∃rc,rc=(Me.hears fr nw (ssN S) rs).2:=⟨_,rfl⟩
  rw[← hrc]
  have hSl':S'.length=S.length:=by have:=congrArg List.length hM';rwa[List.length_map,List.length_map]at this
  have cS':(cellsOf stE S').length=S'.length*24:=jC Jq _
  have hlt2:k<S'.length:=by omega
  obtain ⟨⟨⟨V1,n1⟩,on1,tk1,fr1⟩,hs1⟩:=jJ hlt2
  have hsm1:=List.mem_of_getElem? hs1
  have hOn1:Own V1 G' n1:=hO' _ hsm1
  have hGn1:GdN n1:=hgd' _ hsm1
  have hnth:Me.nth (Me.hears fr nw (ssN S) rs).1 k=n1:=by rw[← hN'];exact jKV hs1
  obtain ⟨okk,hokk⟩:∃okk,okk=(ac&&(rc||(fr.dst==255))):=⟨_,rfl⟩
  have hstep2:Me.tells a nw fs (k+1) l2=(ssN S').set k (result n1 fr okk):=by
   rw[hstep]
   show (Me.hears fr nw (ssN S) (Ra.recv (Ra.san a) fr)).1.set k (result (Me.nth (Me.hears fr nw (ssN S) (Ra.recv (Ra.san a) fr)).1 k) fr (Ra.jFe (Ra.san a) fr&&((Me.hears fr nw (ssN S) (Ra.recv (Ra.san a) fr)).2||(fr.dst==255))))=_
   rw[← hrs,← hac,← hrc,hnth,← hokk,hN']
  repeat' (first|refine zh ?_|intro (bk:Nat))
  refine HR.join (ι:=NV×List Chunk) (fun x=>Own x.1 x.2 (result n1 fr okk)) (fun x=>[(3,ptr b3),(4,ptr b4),(5,.int .i64 nw),(6,sv y S2.length),(59,.int .i64 (S2.length:Int)),(60,.int .i64 (k:Int))]) (fun x=>[jG (sv y S2.length) 77 24 S'.length (cellsOf stE (S'.set k ((x.1,result n1 fr okk),on1,tk1,fr1))),jB x.2,jB G',jT b3 [ve,vo,vn] 34,jT b4 meZ 26]) ?_ (fun hj=>?_)
  rotate_left
  ·clear hstep hac
   cases ac with
   |false=>
    cases rc with
    |false=>
     refine HR.Jf [(0,true),(1,true),(2,true),(3,true),(4,true),(5,true),(6,true),(7,true),(8,true),(9,true),(10,true),(11,true),(12,true),(13,true),(14,true),(15,true),(16,true),(17,false),(18,true),(19,true)] 20 [0,3] I I Jc (by kernel_rfl) ?_
     repeat' (first|refine zd ?_|refine HD.JA (Rd.own 0 I) zA k I I I I I hlt2 ?_|refine HD.jo 0 (Rd.own 0 I) (by rw[cS'];omega) I I I I I I I I ?_|refine HD.JW (us:=ndC V1 n1) (Rd.own 0 I) I I I I I (by simp) I (Ke hs1) ?_)
     refine HD.one I ?_
     refine HL.JC (r:=fun x:NV×List Chunk=> .agg ⟨ndC x.1 (result n1 fr okk)⟩) (Q:=fun x=>Own x.1 x.2 (result n1 fr okk)) (G:=fun x=>[jB x.2]) fn44 I I (fun w1 hw1=>by rw[hokk];exact kP V1 n1 fr _ w1 (hOn1 w1 (Sat.grp 2 hw1 I)) hGn1.sm) ?_
     rintro ⟨V3,G3⟩ hO3
     have hO3:Own V3 G3 (result n1 fr okk):=hO3
     refine HL.back [1,4] I I ?_
     repeat' (first|refine zd ?_|refine HD.JA (Rd.own 0 I) zA k I I I I I hlt2 ?_|refine HD.jo 0 (Rd.own 0 I) (by rw[cS'];omega) I I I I I I I I ?_)
     refine HD.last I ?_
     refine HL.zP (us:=ndC V3 (result n1 fr okk)) (j:=k*24+0) 1 I I I I I I I (by rw[cS'];show k*24+0+13≤_;omega) (by simp) ?_
     repeat' (first|refine zn ?_|intro (bk:Nat))
     exact hj (V3,G3) _ _ hO3 ⟨I,I,I,I,I,I,trivial⟩ (Ent.trans (Ent.pick [1,0,3,5,6] I I) (Ent.JV I (Jg (i:=0) Jq hs1 I (show 0+13≤24 by decide))))
    |true=>
     refine HR.Jf [(0,true),(1,true),(2,true),(3,true),(4,true),(5,true),(6,true),(7,true),(8,true),(9,true),(10,true),(11,true),(12,true),(13,true),(14,true),(15,true),(16,true),(17,false),(18,true),(19,true)] 20 [0,3] I I Jc (by kernel_rfl) ?_
     repeat' (first|refine zd ?_|refine HD.JA (Rd.own 0 I) zA k I I I I I hlt2 ?_|refine HD.jo 0 (Rd.own 0 I) (by rw[cS'];omega) I I I I I I I I ?_|refine HD.JW (us:=ndC V1 n1) (Rd.own 0 I) I I I I I (by simp) I (Ke hs1) ?_)
     refine HD.one I ?_
     refine HL.JC (r:=fun x:NV×List Chunk=> .agg ⟨ndC x.1 (result n1 fr okk)⟩) (Q:=fun x=>Own x.1 x.2 (result n1 fr okk)) (G:=fun x=>[jB x.2]) fn44 I I (fun w1 hw1=>by rw[hokk];exact kP V1 n1 fr _ w1 (hOn1 w1 (Sat.grp 2 hw1 I)) hGn1.sm) ?_
     rintro ⟨V3,G3⟩ hO3
     have hO3:Own V3 G3 (result n1 fr okk):=hO3
     refine HL.back [1,4] I I ?_
     repeat' (first|refine zd ?_|refine HD.JA (Rd.own 0 I) zA k I I I I I hlt2 ?_|refine HD.jo 0 (Rd.own 0 I) (by rw[cS'];omega) I I I I I I I I ?_)
     refine HD.last I ?_
     refine HL.zP (us:=ndC V3 (result n1 fr okk)) (j:=k*24+0) 1 I I I I I I I (by rw[cS'];show k*24+0+13≤_;omega) (by simp) ?_
     repeat' (first|refine zn ?_|intro (bk:Nat))
     exact hj (V3,G3) _ _ hO3 ⟨I,I,I,I,I,I,trivial⟩ (Ent.trans (Ent.pick [1,0,3,5,6] I I) (Ent.JV I (Jg (i:=0) Jq hs1 I (show 0+13≤24 by decide))))
   |true=>
    cases rc with
    |false=>
     refine HR.Jf [(0,true),(1,true),(2,true),(3,true),(4,true),(5,true),(6,true),(7,true),(8,true),(9,true),(10,true),(11,true),(12,true),(13,true),(14,true),(15,true),(16,true),(17,false),(18,true),(19,true)] 20 [0,3] I I Jc (by kernel_rfl) ?_
     repeat' (first|refine zd ?_|refine HD.JA (Rd.own 0 I) zA k I I I I I hlt2 ?_|refine HD.jo 0 (Rd.own 0 I) (by rw[cS'];omega) I I I I I I I I ?_|refine HD.JW (us:=ndC V1 n1) (Rd.own 0 I) I I I I I (by simp) I (Ke hs1) ?_)
     refine HD.one I ?_
     refine HL.JC (r:=fun x:NV×List Chunk=> .agg ⟨ndC x.1 (result n1 fr okk)⟩) (Q:=fun x=>Own x.1 x.2 (result n1 fr okk)) (G:=fun x=>[jB x.2]) fn44 I I (fun w1 hw1=>by rw[hokk];exact kP V1 n1 fr _ w1 (hOn1 w1 (Sat.grp 2 hw1 I)) hGn1.sm) ?_
     rintro ⟨V3,G3⟩ hO3
     have hO3:Own V3 G3 (result n1 fr okk):=hO3
     refine HL.back [1,4] I I ?_
     repeat' (first|refine zd ?_|refine HD.JA (Rd.own 0 I) zA k I I I I I hlt2 ?_|refine HD.jo 0 (Rd.own 0 I) (by rw[cS'];omega) I I I I I I I I ?_)
     refine HD.last I ?_
     refine HL.zP (us:=ndC V3 (result n1 fr okk)) (j:=k*24+0) 1 I I I I I I I (by rw[cS'];show k*24+0+13≤_;omega) (by simp) ?_
     repeat' (first|refine zn ?_|intro (bk:Nat))
     exact hj (V3,G3) _ _ hO3 ⟨I,I,I,I,I,I,trivial⟩ (Ent.trans (Ent.pick [1,0,3,5,6] I I) (Ent.JV I (Jg (i:=0) Jq hs1 I (show 0+13≤24 by decide))))
    |true=>
     refine HR.Jf [(0,true),(1,true),(2,true),(3,true),(4,true),(5,true),(6,true),(7,true),(8,true),(9,true),(10,true),(11,true),(12,true),(13,true),(14,true),(15,true),(16,true),(17,false),(18,true),(19,true)] 20 [0,3] I I Jc (by kernel_rfl) ?_
     repeat' (first|refine zd ?_|refine HD.JA (Rd.own 0 I) zA k I I I I I hlt2 ?_|refine HD.jo 0 (Rd.own 0 I) (by rw[cS'];omega) I I I I I I I I ?_|refine HD.JW (us:=ndC V1 n1) (Rd.own 0 I) I I I I I (by simp) I (Ke hs1) ?_)
     refine HD.one I ?_
     refine HL.JC (r:=fun x:NV×List Chunk=> .agg ⟨ndC x.1 (result n1 fr okk)⟩) (Q:=fun x=>Own x.1 x.2 (result n1 fr okk)) (G:=fun x=>[jB x.2]) fn44 I I (fun w1 hw1=>by rw[hokk];exact kP V1 n1 fr _ w1 (hOn1 w1 (Sat.grp 2 hw1 I)) hGn1.sm) ?_
     rintro ⟨V3,G3⟩ hO3
     have hO3:Own V3 G3 (result n1 fr okk):=hO3
     refine HL.back [1,4] I I ?_
     repeat' (first|refine zd ?_|refine HD.JA (Rd.own 0 I) zA k I I I I I hlt2 ?_|refine HD.jo 0 (Rd.own 0 I) (by rw[cS'];omega) I I I I I I I I ?_)
     refine HD.last I ?_
     refine HL.zP (us:=ndC V3 (result n1 fr okk)) (j:=k*24+0) 1 I I I I I I I (by rw[cS'];show k*24+0+13≤_;omega) (by simp) ?_
     repeat' (first|refine zn ?_|intro (bk:Nat))
     exact hj (V3,G3) _ _ hO3 ⟨I,I,I,I,I,I,trivial⟩ (Ent.trans (Ent.pick [1,0,3,5,6] I I) (Ent.JV I (Jg (i:=0) Jq hs1 I (show 0+13≤24 by decide))))
  rintro ⟨V3,G3⟩ hO3
  have hO3:Own V3 G3 (result n1 fr okk):=hO3
  obtain ⟨s3,hs3⟩:∃s3:StX,s3=((V3,result n1 fr okk),on1,tk1,fr1):=⟨_,rfl⟩
  have hSet:∀z∈S'.set k s3,z∈S'∨z=s3:=fun z hz=>List.mem_or_eq_of_mem_set hz
  repeat' (first|refine zh ?_|intro (bk:Nat))
  refine ih (k+1,S'.set k s3,[jB G3,jB G']) _ _ ⟨hlt,?_,?_,?_,?_⟩ (by show S2.length-(k+1)<S2.length-k;omega) ⟨I,I,I,I,I,I,trivial⟩ ?_
  ·show ssN (S'.set k s3)=_
   rw[jKU,hstep2,hs3]
  ·show (S'.set k s3).map (·.2)=_
   rw[List.map_set,jDa (by rw[List.getElem?_map,hs1,hs3];rfl),hM',hS2m]
  ·intro z hz
   rcases hSet z hz with hz|rfl
   ·exact fun w2 hg2=>hO' z hz w2 (jM hg2 (by simp))
   ·rw [hs3];exact fun w2 hg2=>hO3 w2 (jM hg2 (by simp))
  ·intro z hz
   rcases hSet z hz with hz|rfl
   ·exact hgd' z hz
   ·rw [hs3];exact hGn1.result fr okk
  ·show Ent _ _ [jT b3 [ve,vo,vn] 34,jT b4 meZ 26,jG (sv y S2.length) 77 24 (S'.set k s3).length (cellsOf stE (S'.set k s3)),jB [jB G3,jB G']]
   refine Ent.trans (Ent.pick (H':=[jB G3,jB G']++[jT b3 [ve,vo,vn] 34,jT b4 meZ 26,_]) [1,2,3,4,0] I I) (Ent.trans Ent.group (Ent.trans (Ent.pick [3,1,2,0] I I) (Ent.trans (Ent.JV List.length_set.symm (by rw[hs3])) (Ent.pick [1,2,0,3] I I))))
 have hke:k=S2.length:=by have:¬(k:Int)<(S2.length:Int):=of_decide_eq_false h2;omega
 rw[hke]at hT
 have hfin:ssN S=(Me.jDy ⟨t,nds xs⟩ a).nodes:=by
  rw[hT]
  show _=Me.tells a (Me.jHN t) ((Me.spoken ⟨t,nds xs⟩ a).map (·.2)) (nds xs).length ((Me.spoken ⟨t,nds xs⟩ a).map (·.1))
  rw[← hnw,← hfs,← hN,← hl2,JG,hL2]
 repeat' (first|refine zh ?_|refine HL.JN (Rd.own 0 I) I I I ?_|intro (bk:Nat))
 generalize bk=b15
 refine HR.ZC 62 13 ?_
 refine HR.loop (ι:=Nat×SV×List (NV×Nd)) (fun x=>x.1≤S.length∧x.2.2=(S.take x.1).map (·.1)) (fun x=>[(4,ptr b4),(15,ptr b15),(108,sv y S2.length),(109,.int .i64 (S2.length:Int)),(110,.int .i64 (x.1:Int))]) (fun x=>[meB b15 nw (sv x.2.1 x.2.2.length),jT b4 meZ 26,cSt (sv y S2.length) S,cNd (sv x.2.1 x.2.2.length) x.2.2,jB G]) (fun x=>S.length-x.1) (0,(none,0),[]) ⟨Nat.zero_le _,rfl⟩ ⟨I,I,I,I,I,trivial⟩ (Ent.pick [1,3,4,0,5] I I) ?_
 rintro ⟨j,z,zs⟩ ⟨hj,hzs⟩ ih4
 have hj:j≤S.length:=hj
 have hzs:zs=(S.take j).map (·.1):=hzs
 have hzl:zs.length=j:=by rw[hzs];simp;omega
 repeat' (first|refine zh ?_|intro (bk:Nat))
 refine HR.cond I (fun h4=>?_) (fun h4=>?_)
 rotate_left
 ·have hje:j=S.length:=by have:¬(j:Int)<(S2.length:Int):=of_decide_eq_false h4;omega
  rw[hje,List.take_length]at hzs
  repeat' (first|refine zh ?_|intro (bk:Nat))
  refine HR.ret Tryz.func15 I [_] (fun w hw=>⟨⟨_,rfl,jS hw 1 I I I I rfl⟩,trivial⟩) ?_
  refine fun w' hw=>⟨(z,zs,G),by rw[← hnw];rfl,⟨⟨?_,?_⟩,?_⟩,hw.pick [3,4] I rfl⟩
  ·show nds zs=_
   rw[hzs,← hfin];unfold nds ssN;rw[List.map_map];rfl
  ·intro q hq
   have hq:q∈zs:=hq
   rw[hzs]at hq
   obtain ⟨s,hs,rfl⟩:=List.mem_map.1 hq
   exact hO s hs
  ·intro q hq
   have hq:q∈zs:=hq
   rw[hzs]at hq
   obtain ⟨s,hs,rfl⟩:=List.mem_map.1 hq
   exact hgd s hs
 have hlt:j<S.length:=by have:(j:Int)<(S2.length:Int):=of_decide_eq_true h4;omega
 obtain ⟨⟨⟨V,n⟩,on,tk,fr⟩,hs⟩:=jJ hlt
 repeat' (first|refine zh ?_|refine HL.JA (Rd.own 2 I) zA j I I I I hlt ?_|refine HL.JW (us:=stE ((V,n),on,tk,fr)) (Rd.own 2 I) I I I I (by simp) I (jH Jq hs) ?_|intro (bk:Nat))
 refine HL.jv Jm I I I I I (by decide) (by decide) ?_
 intro va
 refine HL.ZN 5 I Jm (Rd.own 0 I) I I I I (jF I) (by show (zs.length+1)*232≤_;omega) (by show zs.length+1≤_;omega) ?_
 intro vc
 refine HL.shape 5 I fun ac2 cc2 hv=>?_
 subst hv
 repeat' (first|refine zh ?_|intro (bk:Nat))
 refine ih4 (j+1,(ac2,cc2),zs++[(V,n)]) _ _ ⟨hlt,?_⟩ (by show S.length-(j+1)<S.length-j;omega) ⟨I,I,I,I,I,trivial⟩ ?_
 ·show zs++[(V,n)]=(S.take (j+1)).map (·.1)
  rw[jN hs,List.map_append,← hzs];rfl
 ·show Ent _ _ [meB b15 nw (sv (ac2,cc2) (zs++[(V,n)]).length),jT b4 meZ 26,cSt (sv y S2.length) S,cNd (sv (ac2,cc2) (zs++[(V,n)]).length) (zs++[(V,n)]),jB G]
  rw[jMT,show (zs++[((V,n):NV×Nd)]).length=zs.length+1 by simp]
  exact Ent.pick [2,3,4,5,6] I I
end Go.Proofs.YtgfdoognildoeaaGreat
namespace Me
open Go.GX Nd Tp
section
variable {addrs polls : List Int}
theorem jFU {k:Nat} {x:Nd.Nd}:x∈build addrs polls k↔∃i,i<k∧nodeAt addrs polls i=x:=by
 rw[(Kv addrs polls k).mem_iff,List.mem_map]
 constructor
 ·rintro ⟨i,hi,e⟩;exact ⟨i,List.mem_range.1 hi,e⟩
 ·rintro ⟨i,hi,e⟩;exact ⟨i,List.mem_range.2 hi,e⟩
theorem jMV (k:Nat):(build addrs polls k).length=k:=by rw[(Kv addrs polls k).length_eq];simp
theorem jHk {k:Nat} (h:jc (Js addrs) k=0) {i:Nat} (hi:i<k) (hl:k≤addrs.length):okN (addrs.getD i 0)=true∧∀j,j<i→addrs.getD j 0≠addrs.getD i 0:=by
 have h1:=zo h i hi
 unfold Js at h1
 have hil:i<addrs.length:=by omega
 rw[List.getElem?_eq_getElem hil]at h1
 have e:addrs.getD i 0=addrs[i]:=by rw[List.getD_eq_getElem?_getD,List.getElem?_eq_getElem hil];rfl
 simp only at h1
 split at h1
 ·cases h1
 ·rename_i h2
  split at h1
  ·cases h1
  ·rename_i h3
   refine ⟨by rw[e];cases g:okN addrs[i];exact absurd g h2;rfl,fun j hj e2=>h3 ?_⟩
   rw[e,List.getD_eq_getElem?_getD,List.getElem?_eq_getElem (show j<addrs.length by omega)]at e2
   rw[← e2]
   exact List.mem_of_getElem? (i:=j) (by rw[List.getElem?_take_of_lt hj,List.getElem?_eq_getElem (show j<addrs.length by omega)];rfl)
theorem jJ1 {k:Nat} (h:jc (Js addrs) k=0) (hl:k≤addrs.length) {x:Nd.Nd} (hx:x∈build addrs polls k):∃i,i<k∧x.addr=addrs.getD i 0:=by
 obtain ⟨i,hi,rfl⟩:=jFU.1 hx
 refine ⟨i,hi,?_⟩
 unfold nodeAt
 exact (Zi (jHk h hi hl).1).1
theorem jMX {k:Nat} (h:jc (Js addrs) k=0) (hl:k≤addrs.length) (a:Int):(idx (build addrs polls k) a).isSome=decide (a∈addrs.take k):=by
 have hiff:(∃ x∈build addrs polls k,x.addr=a)↔a∈addrs.take k:=by
  constructor
  ·rintro ⟨x,hx,e⟩
   obtain ⟨i,hi,e2⟩:=jJ1 h hl hx
   refine List.mem_of_getElem? (i:=i) ?_
   rw[List.getElem?_take_of_lt hi,List.getElem?_eq_getElem (show i<addrs.length by omega),← e,e2,List.getD_eq_getElem?_getD,List.getElem?_eq_getElem (show i<addrs.length by omega)]
   rfl
  ·intro ha
   obtain ⟨i,hi⟩:=List.getElem?_of_mem ha
   have hik:i<k:=by have:=(List.getElem?_eq_some_iff.1 hi).1;simp at this;omega
   rw[List.getElem?_take_of_lt hik]at hi
   refine ⟨nodeAt addrs polls i,jFU.2 ⟨i,hik,rfl⟩,?_⟩
   unfold nodeAt
   rw[(Zi (jHk h hik hl).1).1,List.getD_eq_getElem?_getD,hi];rfl
 by_cases ha:a∈addrs.take k
 ·rw [decide_eq_true ha]
  obtain ⟨x,hx,e⟩:=hiff.2 ha
  obtain ⟨i,hi⟩:=jLz hx
  rw[e]at hi
  rw[hi];rfl
 ·rw [decide_eq_false ha]
  cases hi:idx (build addrs polls k) a with
  |none=>rfl
  |some i=>
   obtain ⟨h1,h2⟩:=ZQ hi
   exact absurd (hiff.1 ⟨_,List.mem_of_getElem? h1,h2⟩) ha
end
end Me
namespace Go.Proofs.YtgfdoognildoeaaGreat
open Go.GX Go.RowKit
attribute [local irreducible] Calls Run jZ jf JK HR HL HD jT jG JY Rd jK jY
open Nd
theorem fn10:IsFn Tryz.prog 10:=⟨⟨_,_,Tryz.func10,rfl,by decide⟩⟩
theorem jPG {l:List Nd} {n:Nd} {j:Nat} (hj:j≤l.length) (h1:∀i x,i<j→l[i]? =some x→x.addr<n.addr) (h2:∀x,l[j]? =some x→¬x.addr<n.addr):Me.put l n=l.take j++n::l.drop j:=by
 obtain ⟨e1,e2⟩:=Nd.jQ0 (p:=fun x:Nd=>decide (x.addr<n.addr)) hj (fun i x hi hx=>decide_eq_true (h1 i x hi hx)) (fun x hx=>decide_eq_false (h2 x hx))
 unfold Me.put Nd.ins
 rw[e1,e2]
theorem jFA {xs:List (NV×Nd)} {a:Int}:(Me.idx (nds xs) a).isSome=decide (jMe (nds xs) a≥0):=by
 unfold jMe
 cases Me.idx (nds xs) a with
 |none=>rfl
 |some i=>simp
theorem jJ8 {l:List Int} {k:Nat} {a:Int} (h:l[k]? =some a):Me.Js l k=if Tp.okN a=false then 2 else if a∈l.take k then 9 else 0:=by unfold Me.Js;rw[h]
theorem jD2 {addrs polls:List Int} {k:Nat} (hl:addrs.length≤24) (h0:jc (Me.Js addrs) k=0) (hk:k<addrs.length) (h1:Me.Js addrs k≠0):Me.Kj addrs polls=(Me.jCn,Me.Js addrs k):=by
 have e:=KX h0 h1 hk
 unfold Me.Kj
 rw[if_neg (by omega),if_pos (by rw[e];exact h1),e]
theorem jLh {addrs polls:List Int} (hl:addrs.length≤24) (h0:jc (Me.Js addrs) addrs.length=0):Me.Kj addrs polls=(⟨0,Me.build addrs polls addrs.length⟩,0):=by
 unfold Me.Kj
 rw[if_neg (by omega),if_neg (by rw[h0];decide)]
theorem jLi {addrs polls:List Int} (hl:addrs.length>24):Me.Kj addrs polls=(Me.jCn,3):=by unfold Me.Kj;rw[if_pos hl]
theorem jGD {polls:List Int} {k:Nat} {p:Int} (h:polls[k]? =some p):Me.jBz polls k=p:=by unfold Me.jBz;rw[List.getD_eq_getElem?_getD,h];rfl
theorem jGE {polls:List Int} {k:Nat} (h:polls.length≤k):Me.jBz polls k=0:=by unfold Me.jBz;rw[List.getD_eq_getElem?_getD,List.getElem?_eq_none h];rfl
theorem jPJ {a:Int}:(decide (a<0)||decide (a>250))=!Tp.okN a:=by
 cases h:Tp.okN a with
 |true=>rw[Nd.zT]at h;simp;omega
 |false=>
  have:¬Tp.okN a=true:=by rw[h];decide
  rw[Nd.zT]at this;simp;omega
abbrev jHm (x:SV×List (NV×Nd)×List Chunk) (l:List Nd):Prop:=MkL x l∧∀y∈x.2.1,GdN y.2
theorem mk_zero:jHm ((none,0),[],[]) []:=⟨⟨rfl,fun y hy=>(List.not_mem_nil hy).elim⟩,fun y hy=>(List.not_mem_nil hy).elim⟩
theorem jAN {B:Base} {H:List Chunk} {w:World} (h:Sat B H w):Sat B [cNd (sv (none,0) 0) [],jB []] w:=
 Ent.trans (Ent.jL8 (H:=[cNd (sv (none,0) 0) []])) (Ent.pick [1,0] I I) w (Sat.ZC (h.pick [] I I) 62 13)
theorem jBa (addrs polls:List Int) (va vp:Value) (w:World) (ha:Sl w va (cellsOf iC addrs) addrs.length) (hp:Sl w vp (cellsOf iC polls) polls.length) (hla:addrs.length≤1000000) (hlp:polls.length≤1000000):
  Calls Tryz.prog 10 #[va,vp] w fun e w'=>∃x:SV×List (NV×Nd)×List Chunk,e= .returned (.tuple ⟨[meV 0 (sv x.1 x.2.1.length),.int .i64 (Me.Kj addrs polls).2]⟩)∧jHm x (Me.Kj addrs polls).1.nodes∧Sat (base w) [cNd (sv x.1 x.2.1.length) x.2.1,jB x.2.2] w':=by
 refine jD Tryz.func10 I (Nat.le_of_ble_eq_true I) ?_
 refine HR.sub (σ':=[(0,va),(1,vp)]) ⟨I,I,trivial⟩ ?_
 refine HR.ctl I ?_
 refine HR.region ?_
 refine HL.alloc I I ?_
 intro b4
 repeat' (first|refine zh ?_|refine HL.JN (Rd.arg ha) I I I ?_|intro (bk:Nat))
 refine HR.cond I (fun h1=>?_) (fun h1=>?_)
 ·have h1:addrs.length>24:=by have:(addrs.length:Int)>24:=of_decide_eq_true h1;omega
  rw[jLi h1]
  repeat' (first|refine zh ?_|intro (bk:Nat))
  refine HR.ret Tryz.func10 I [_,_] (fun w hw=>⟨⟨_,rfl,jS hw 0 I I I I rfl⟩,rfl,trivial⟩) ?_
  exact fun w' hw=>⟨((none,0),[],[]),rfl,mk_zero,jAN hw⟩
 have h24:addrs.length≤24:=by have:¬(addrs.length:Int)>24:=of_decide_eq_false h1;omega
 refine HR.ctl I ?_
 refine HR.region ?_
 refine HL.alloc I I ?_
 intro b6
 repeat' (first|refine zh ?_|refine HL.JN (Rd.arg ha) I I I ?_|intro (bk:Nat))
 refine HR.ZC 62 13 ?_
 refine HR.loop (ι:=Nat×SV×List (NV×Nd)×List Chunk) (fun x=>x.1≤addrs.length∧jc (Me.Js addrs) x.1=0∧jHm x.2 (Me.build addrs polls x.1)) (fun x=>[(0,va),(1,vp),(4,ptr b4),(6,ptr b6),(15,va),(16,.int .i64 (addrs.length:Int)),(17,.int .i64 (x.1:Int))]) (fun x=>[meB b6 0 (sv x.2.1 x.2.2.1.length),jT b4 meZ 26,cNd (sv x.2.1 x.2.2.1.length) x.2.2.1,jB x.2.2.2]) (fun x=>addrs.length-x.1) (0,(none,0),[],[]) ⟨Nat.zero_le _,rfl,mk_zero⟩ ⟨I,I,I,I,I,I,I,trivial⟩ (Ent.trans Ent.jL8 (Ent.pick [2,3,1,0] I I)) ?_
 rintro ⟨k,y,ys,G⟩ ⟨hk,hE,⟨hN,hO⟩,hG⟩ ih
 have hk:k≤addrs.length:=hk
 have hE:jc (Me.Js addrs) k=0:=hE
 have hN:nds ys=Me.build addrs polls k:=hN
 have hO:∀z∈ys,Own z.1 G z.2:=hO
 have hG:∀z∈ys,GdN z.2:=hG
 have hyl:ys.length=k:=by rw[← JG,hN,Me.jMV]
 have cy:(cellsOf Zg ys).length=ys.length*13:=jC jm _
 repeat' (first|refine zh ?_|intro (bk:Nat))
 refine HR.cond I (fun h2=>?_) (fun h2=>?_)
 rotate_left
 ·have hke:k=addrs.length:=by have:¬(k:Int)<(addrs.length:Int):=of_decide_eq_false h2;omega
  subst hke
  rw[jLh h24 hE]
  repeat' (first|refine zh ?_|intro (bk:Nat))
  refine HR.ret Tryz.func10 I [_,_] (fun w hw=>⟨⟨_,rfl,jS hw 1 I I I I rfl⟩,rfl,trivial⟩) ?_
  exact fun w' hw=>⟨(y,ys,G),rfl,⟨⟨hN,hO⟩,hG⟩,hw.pick [2,3] I rfl⟩
 have hlt:k<addrs.length:=by have:(k:Int)<(addrs.length:Int):=of_decide_eq_true h2;omega
 obtain ⟨a,hak⟩:=jJ hlt
 have hbad:=jJ8 hak
 repeat' (first|refine zh ?_|refine HL.JA (Rd.arg ha) Jw k I I I I hlt ?_|refine HL.ji (Rd.arg ha) I I I I (jW hak) ?_|apply zb ?_ ?_|exact zc|(refine zi fun hb=>?_;try simp at hb)|intro (bk:Nat))
 refine HR.cond I (fun h3=>?_) (fun h3=>?_)
 ·have h3:Tp.okN a=false:=by have h3:(decide (a<0)||decide (a>250))=true:=h3;rw[jPJ]at h3;simpa using h3
  rw[if_pos h3]at hbad
  rw[jD2 h24 hE hlt (by rw[hbad];decide),hbad]
  repeat' (first|refine zh ?_|intro (bk:Nat))
  refine HR.ret Tryz.func10 I [_,_] (fun w hw=>⟨⟨_,rfl,jS hw 1 I I I I rfl⟩,rfl,trivial⟩) ?_
  exact fun w' hw=>⟨((none,0),[],[]),rfl,mk_zero,jAN hw⟩
 have hok:Tp.okN a=true:=by have h3:(decide (a<0)||decide (a>250))=false:=h3;rw[jPJ]at h3;simpa using h3
 rw[if_neg (by rw[hok];decide)]at hbad
 have hhas:=Me.jMX (polls:=polls) hE hk a
 rw[← hN,jFA]at hhas
 repeat' (first|refine zh ?_|refine HL.jR jMD I I (fun w1 hw1=>Jj ys a _ w1 ((Rd.own 2 rfl).at hw1) (by omega)) ?_|intro (bk:Nat))
 refine HR.cond I (fun h4=>?_) (fun h4=>?_)
 ·have h4:decide (jMe (nds ys) a≥0)=true:=h4
  rw[h4]at hhas
  rw[if_pos (of_decide_eq_true hhas.symm)]at hbad
  rw[jD2 h24 hE hlt (by rw[hbad];decide),hbad]
  repeat' (first|refine zh ?_|intro (bk:Nat))
  refine HR.ret Tryz.func10 I [_,_] (fun w hw=>⟨⟨_,rfl,jS hw 1 I I I I rfl⟩,rfl,trivial⟩) ?_
  exact fun w' hw=>⟨((none,0),[],[]),rfl,mk_zero,jAN hw⟩
 have h4:decide (jMe (nds ys) a≥0)=false:=h4
 rw[h4]at hhas
 rw[if_neg (of_decide_eq_false hhas.symm)]at hbad
 have hE1:jc (Me.Js addrs) (k+1)=0:=Zd hE hbad
 obtain ⟨P,hP⟩:∃P,P=Me.jBz polls k:=⟨_,rfl⟩
 have hna:Me.nodeAt addrs polls k=new a P:=by unfold Me.nodeAt;rw[List.getD_eq_getElem?_getD,hak,← hP];rfl
 have hnaa:(new a P).addr=a:=(Me.Zi hok).1
 repeat' (first|refine zh ?_|refine HL.JN (Rd.arg hp) I I I ?_|intro (bk:Nat))
 refine HR.join (ι:=Unit) (fun _=>True) (fun _=>[(0,va),(1,vp),(4,ptr b4),(6,ptr b6),(8,.int .i64 a),(9,.int .i64 P),(15,va),(16,.int .i64 (addrs.length:Int)),(17,.int .i64 (k:Int))]) (fun _=>[meB b6 0 (sv y ys.length),jT b4 meZ 26,cNd (sv y ys.length) ys,jB G]) ?_ (fun hj=>?_)
 rotate_left
 ·refine HR.cond I (fun h5=>?_) (fun h5=>?_)
  ·have hlt5:k<polls.length:=by have:(k:Int)<(polls.length:Int):=of_decide_eq_true h5;omega
   obtain ⟨p,hpk⟩:=jJ hlt5
   rw[jGD hpk]at hP
   subst hP
   refine HR.region ?_
   repeat' (first|refine zn ?_|refine HL.JA (Rd.arg hp) Jw k I I I I hlt5 ?_|refine HL.ji (Rd.arg hp) I I I I (jW hpk) ?_|intro (bk:Nat))
   exact hj () _ _ trivial ⟨I,I,I,I,I,I,I,I,I,trivial⟩ Ent.refl
  ·have hlt5:polls.length≤k:=by have:¬(k:Int)<(polls.length:Int):=of_decide_eq_false h5;omega
   rw[jGE hlt5]at hP
   subst hP
   refine HR.skip ?_
   exact hj () _ _ trivial ⟨I,I,I,I,I,I,I,I,I,trivial⟩ Ent.refl
 rintro _ _
 refine HR.ctl I ?_
 refine HR.region ?_
 repeat' (first|refine zn ?_|apply zb ?_ ?_|exact zc|(refine zi fun hb=>?_;try simp at hb)|intro (bk:Nat))
 refine HR.seq ?_
 refine HR.join (ι:=Nat) (fun j=>j≤ys.length∧(∀ i x,i<j→ys[i]? =some x→x.2.addr<a)∧∀x,ys[j]? =some x→¬x.2.addr<a) (fun j=>[(0,va),(1,vp),(4,ptr b4),(6,ptr b6),(8,.int .i64 a),(9,.int .i64 P),(10,.int .i64 (j:Int)),(15,va),(16,.int .i64 (addrs.length:Int)),(17,.int .i64 (k:Int))]) (fun _=>[meB b6 0 (sv y ys.length),jT b4 meZ 26,cNd (sv y ys.length) ys,jB G]) ?_ (fun hjn=>?_)
 rotate_left
 ·refine HR.ctl I ?_
  refine HR.loop (ι:=Nat) (fun j=>j≤ys.length∧∀i x,i<j→ys[i]? =some x→x.2.addr<a) (fun j=>[(0,va),(1,vp),(4,ptr b4),(6,ptr b6),(8,.int .i64 a),(9,.int .i64 P),(10,.int .i64 (j:Int)),(15,va),(16,.int .i64 (addrs.length:Int)),(17,.int .i64 (k:Int))]) (fun _=>[meB b6 0 (sv y ys.length),jT b4 meZ 26,cNd (sv y ys.length) ys,jB G]) (fun j=>ys.length-j) 0 ⟨Nat.zero_le _,fun i x hi=>absurd hi (Nat.not_lt_zero _)⟩ ⟨I,I,I,I,I,I,I,I,I,I,trivial⟩ Ent.refl ?_
  rintro j ⟨hj,hlo⟩ ih2
  have hj:j≤ys.length:=hj
  have hlo:∀i x,i<j→ys[i]? =some x→x.2.addr<a:=hlo
  repeat' (first|refine zh ?_|refine HL.JN (Rd.own 2 I) I I I ?_|intro (bk:Nat))
  by_cases hjl:j<ys.length
  ·obtain ⟨x,hx⟩:=jJ hjl
   refine HL.jDc 48 true I (decide_eq_true (by omega)) ?_
   repeat' (first|refine zh ?_|refine HL.JA (Rd.own 2 I) Jm j I I I I hjl ?_|refine HL.jo 0 (Rd.own 2 I) (by rw[cy];omega) I I I I I I I ?_|refine HL.ji (Rd.own 2 I) I I I I (jQ jm hx (i:=0) I) ?_|intro (bk:Nat))
   refine HR.cond I (fun h6=>?_) (fun h6=>?_)
   ·have h6:x.2.addr<a:=of_decide_eq_true h6
    repeat' (first|refine zh ?_|intro (bk:Nat))
    refine ih2 (j+1) _ _ ⟨hjl,fun i z hi hz=>?_⟩ (by show ys.length-(j+1)<ys.length-j;omega) ⟨I,I,I,I,I,I,I,I,I,I,trivial⟩ Ent.refl
    by_cases e:i=j
    ·subst e;rw[hx]at hz;cases hz;exact h6
    ·exact hlo i z (by omega) hz
   ·have h6:¬x.2.addr<a:=of_decide_eq_false h6
    refine HR.exit I ?_
    exact hjn j _ _ ⟨hj,hlo,fun z hz=>by rw[hx]at hz;cases hz;exact h6⟩ ⟨I,I,I,I,I,I,I,I,I,I,trivial⟩ Ent.refl
  ·refine HL.jDc 48 false I (decide_eq_false (by omega)) ?_
   repeat' (first|refine zn ?_|apply zb ?_ ?_|exact zc|(refine zi fun hb=>?_;try simp at hb)|intro (bk:Nat))
   refine HR.jr I ?_
   refine HR.exit I ?_
   exact hjn j _ _ ⟨hj,hlo,fun z hz=>by rw[List.getElem?_eq_none (by omega)]at hz;cases hz⟩ ⟨I,I,I,I,I,I,I,I,I,I,trivial⟩ Ent.refl
 rintro j ⟨hj,hlo,hhi⟩
 have hj:j≤ys.length:=hj
 have hput:Me.put (nds ys) (new a P)=(nds ys).take j++new a P::(nds ys).drop j:=by
  refine jPG (by rw[JG];exact hj) (fun i x hi hx=>?_) (fun x hx=>?_)
  ·rw [hnaa]
   obtain ⟨z,hz⟩:=jJ (show i<ys.length by omega)
   rw[jAC hz]at hx;cases hx
   exact hlo i z hi hz
  ·rw [hnaa]
   have hjl:j<ys.length:=by have:=(List.getElem?_eq_some_iff.1 hx).1;rwa[JG]at this
   obtain ⟨z,hz⟩:=jJ hjl
   rw[jAC hz]at hx;cases hx
   exact hhi z hz
 repeat' (first|refine zh ?_|intro (bk:Nat))
 refine HR.Jf [(0,true),(1,true),(2,true),(3,true),(4,true),(5,false),(6,false),(7,false),(8,true)] 9 [0] I I Jc (by kernel_rfl) ?_
 repeat' (first|refine zd ?_|fail)
 refine HD.one I ?_
 refine HL.JC (r:=fun x:NV×List Chunk=> .agg ⟨ndC x.1 (new a P)⟩) (Q:=fun x=>Own x.1 x.2 (new a P)) (G:=fun x=>[jB x.2]) fn36 I I (fun w1 hw1=>jHJ a P w1) ?_
 rintro ⟨V2,G2⟩ hO2
 have hO2:Own V2 G2 (new a P):=hO2
 refine HL.back [1] I I ?_
 refine HD.one I ?_
 refine HL.jv Jm I I I I I (by decide) (by decide) ?_
 intro vx
 refine HL.back [2] I I ?_
 refine HD.one I ?_
 obtain ⟨zs,hzs⟩:∃zs,zs=ys.take j++(V2,new a P)::ys.drop j:=⟨_,rfl⟩
 refine HL.ent (H':=[jG vx 62 13 1 (Zg (V2,new a P)),cNd (sv y ys.length) ys]++[jB G2,meB b6 0 (sv y ys.length),jT b4 meZ 26,jB G]) (Ent.pick [0,4,1,2,3,5] I I) ?_
 refine HL.Jh (r:=fun x:Value=>x) (Q:=fun _=>True) (G:=fun r=>[jG r 62 13 zs.length (cellsOf Zg zs)]) fn35 I I I (fun w1 hw1=>by rw[hzs];exact jLw ys (V2,new a P) j _ vx _ w1 (hw1.pick [0,1] I I) hj (by omega)) ?_
 intro r _
 refine HL.back [2] I I ?_
 repeat' (first|refine zd ?_|fail)
 refine HD.last I ?_
 refine HL.shape 0 I fun ar cr hv=>?_
 subst hv
 repeat' (first|refine zn ?_|intro (bk:Nat))
 repeat' (first|refine zh ?_|intro (bk:Nat))
 have hmem:∀z∈zs,z∈ys∨z=(V2,new a P):=fun z hz=>by
  rw[hzs]at hz
  rcases List.mem_append.1 hz with hz|hz
  ·exact .inl (List.mem_of_mem_take hz)
  ·rcases List.mem_cons.1 hz with hz|hz
   ·exact .inr hz
   ·exact .inl (List.mem_of_mem_drop hz)
 refine ih (k+1,(ar,cr),zs,[jB G2,jB G]) _ _ ⟨hlt,hE1,⟨?_,?_⟩,?_⟩ (by show addrs.length-(k+1)<addrs.length-k;omega) ⟨I,I,I,I,I,I,I,trivial⟩ ?_
 ·show nds zs=Me.put (Me.build addrs polls k) (Me.nodeAt addrs polls k)
  rw[hna,← hN,hput,hzs]
  unfold nds
  rw[List.map_append,List.map_cons,List.map_take,List.map_drop]
 ·intro z hz
  rcases hmem z hz with hz|rfl
  ·exact fun w2 hg2=>hO z hz w2 (jM hg2 (by simp))
  ·exact fun w2 hg2=>hO2 w2 (jM hg2 (by simp))
 ·intro z hz
  rcases hmem z hz with hz|rfl
  ·exact hG z hz
  ·exact GdN.new a P
 ·show Ent _ _ [meB b6 0 (sv (ar,cr) zs.length),jT b4 meZ 26,cNd (sv (ar,cr) zs.length) zs,jB [jB G2,jB G]]
  exact Ent.trans (Ent.pick (H':=[jB G2,jB G]++[meB b6 0 (sv (ar,cr) zs.length),jT b4 meZ 26,cNd (sv (ar,cr) zs.length) zs]) [1,4,2,3,0] I I) (Ent.trans Ent.group (Ent.pick [1,2,3,0] I I))
end Go.Proofs.YtgfdoognildoeaaGreat
namespace Me
open Go.GX Nd Tp
theorem jEu:∀ {l m:List Int},l.Nodup→(∀ a∈l,a∈m)→l.length≤m.length
 |[],m,_,_=>Nat.zero_le _
 |a::l,m,hn,hs=>by
  rw[List.nodup_cons]at hn
  have ha:a∈m:=hs a (List.mem_cons_self ..)
  have h1:=jEu (l:=l) (m:=m.erase a) hn.2 fun b hb=>by
   have hne:b≠a:=fun e=>hn.1 (e▸hb)
   exact (List.mem_erase_of_ne hne).2 (hs b (List.mem_cons_of_mem _ hb))
  rw[List.length_erase_of_mem ha]at h1
  have:=List.length_pos_of_mem ha
  simp only[List.length_cons]
  omega
theorem jRV {l:List Nd.Nd} {a:Int} {i:Nat} (h:idx l a=some i):a∈l.map (·.addr):=by
 obtain ⟨h1,h2⟩:=ZQ h
 exact List.mem_map.2 ⟨_,List.mem_of_getElem? h1,h2⟩
structure Fol (l:List Nd.Nd) (src to:Int) (k:Nat) (p:List Int) (now:Int):Prop where
 eq:jMf l to k p now=follow l src to
 nod:p.Nodup
 sub:∀a∈p,a∈l.map (·.addr)
 dst:to ∉ p
 len:p.length+k=l.length+2
theorem Fol.start (l:List Nd.Nd) (src to:Int):Fol l src to (l.length+2) [] src:=⟨rfl,List.nodup_nil,fun a h=>(List.not_mem_nil h).elim,List.not_mem_nil,by simp⟩
section
variable {l : List Nd.Nd} {src to now : Int} {k : Nat} {p : List Int}
theorem Fol.le (h:Fol l src to k p now):p.length≤l.length:=by have:=jEu h.nod h.sub;simpa using this
theorem Fol.pos (h:Fol l src to k p now):∃j,k=j+1:=⟨k-1,by have:=h.le;have:=h.len;omega⟩
theorem Fol.none (h:Fol l src to k p now) (hi:idx l now=none):follow l src to=(p,1):=by
 obtain ⟨j,rfl⟩:=h.pos
 rw[← h.eq];unfold jMf;rw[hi]
theorem Fol.again (h:Fol l src to k p now) {i:Nat} (hi:idx l now=some i) (hp:now∈p):follow l src to=(p,2):=by
 obtain ⟨j,rfl⟩:=h.pos
 rw[← h.eq];unfold jMf;rw[hi];simp only;rw[if_pos hp]
theorem Fol.done (h:Fol l src to k p now) {i:Nat} (hi:idx l now=some i) (hp:now ∉ p) (he:now=to):follow l src to=(p++[now],0):=by
 obtain ⟨j,rfl⟩:=h.pos
 rw[← h.eq];unfold jMf;rw[hi];simp only;rw[if_neg hp,if_pos he]
theorem Fol.stop (h:Fol l src to k p now) {i:Nat} (hi:idx l now=some i) (hp:now ∉ p) (he:now≠to) (hh:(kL (nth l i).table to).2=false):follow l src to=(p++[now],1):=by
 obtain ⟨j,rfl⟩:=h.pos
 rw[← h.eq];unfold jMf;rw[hi];simp only;rw[if_neg hp,if_neg he,if_neg (by rw[hh];decide)]
theorem Fol.step (h:Fol l src to k p now) {i:Nat} (hi:idx l now=some i) (hp:now ∉ p) (he:now≠to) (hh:(kL (nth l i).table to).2=true):Fol l src to (k-1) (p++[now]) (kL (nth l i).table to).1:=by
 have hl:=h.len
 obtain ⟨j,rfl⟩:=h.pos
 refine ⟨?_,?_,fun a ha=>?_,?_,by simp;omega⟩
 ·rw [← h.eq]
  conv=>rhs;unfold jMf
  rw[hi];simp only;rw[if_neg hp,if_neg he,if_pos hh];rfl
 ·rw [List.nodup_append]
  exact ⟨h.nod,by simp,fun a ha b hb=>by rw[List.mem_singleton.1 hb];exact fun e=>hp (e▸ha)⟩
 ·rcases List.mem_append.1 ha with ha|ha
  ·exact h.sub a ha
  ·rw [List.mem_singleton.1 ha];exact jRV hi
 ·rw [List.mem_append,List.mem_singleton]
  rintro (h1|h1)
  ·exact h.dst h1
  ·exact he h1.symm
theorem Fol.back (h:Fol l src to k p now) (hp:now∈p):∃i,idx l now=some i:=by
 obtain ⟨x,hx,e⟩:=List.mem_map.1 (h.sub now hp)
 rw[← e]
 exact jLz hx
theorem Fol.two (h:Fol l src to k p now) (hp:now∈p):(follow l src to).2=2:=by
 obtain ⟨i,hi⟩:=h.back hp
 rw[h.again hi hp]
theorem Fol.at_end (h:Fol l src to k p now) (he:now=to):(follow l src to).2≠2:=by
 have hp:now ∉ p:=by rw[he];exact h.dst
 cases hi:idx l now with
 |none=>rw[h.none hi];exact show (1:Int)≠2 by decide
 |some i=>rw[h.done hi hp he];exact show (0:Int)≠2 by decide
end
theorem jLH {l:List Nd.Nd} {src to:Int} {p:List Int} {e:Int} (h:follow l src to=(p,e)):path l src to=if e=0 then (p,true)else ([],false):=by
 unfold path;rw[h]
end Me
namespace Go.Proofs.YtgfdoognildoeaaGreat
open Go.GX Go.RowKit
attribute [local irreducible] Calls Run jZ jf JK HR HL HD jT jG JY Rd jK jY
open Nd
theorem fn17:IsFn Tryz.prog 17:=⟨⟨_,_,Tryz.func17,rfl,by decide⟩⟩
theorem fn52:IsFn Tryz.prog 52:=⟨⟨_,_,Tryz.func52,rfl,by decide⟩⟩
theorem fn20:IsFn Tryz.prog 20:=⟨⟨_,_,Tryz.func20,rfl,by decide⟩⟩
theorem jDr {l:List Nd} {src to:Int} {p:List Int} {e:Int} (h:Me.follow l src to=(p,e)) (he:e≠0):Me.path l src to=([],false):=by rw[Me.jLH h,if_neg he]
theorem jLG {l:List Nd} {src to:Int} {p:List Int} (h:Me.follow l src to=(p,0)):Me.path l src to=(p,true):=by rw[Me.jLH h,if_pos rfl]
theorem jLa (xs:List (NV×Nd)) (t src to:Int) (v:Value) (w:World) (h:OkL w v xs) (hg:∀x∈xs,SmN x.2) (hl:xs.length≤1000):
  Calls Tryz.prog 17 #[meV t v,.int .i64 src,.int .i64 to] w fun e w'=>∃v',e= .returned (.tuple ⟨[v',.bool (Me.path (nds xs) src to).2]⟩)∧Sat (base w) [jG v' 3 1 (Me.path (nds xs) src to).1.length (cellsOf iC (Me.path (nds xs) src to).1)] w':=by
 have cx:(cellsOf Zg xs).length=xs.length*13:=jC jm _
 refine jD Tryz.func17 I (Nat.le_of_ble_eq_true I) ?_
 refine HR.sub (σ':=[(0,meV t v),(1,.int .i64 src),(2,.int .i64 to)]) ⟨I,I,I,trivial⟩ ?_
 refine HR.ctl I ?_
 refine HR.region ?_
 refine HL.box I I ?_
 intro b3
 repeat' (first|refine zh ?_|intro (bk:Nat))
 refine HR.ZC 3 1 ?_
 refine HR.loop (ι:=Nat×List Int×Int×Value) (fun x=>Me.Fol (nds xs) src to x.1 x.2.1 x.2.2.1) (fun x=>[(2,.int .i64 to),(3,ptr b3),(8,x.2.2.2),(9,.int .i64 x.2.2.1)]) (fun x=>[jG x.2.2.2 3 1 x.2.1.length (cellsOf iC x.2.1),meB b3 t v]) (fun x=>x.1) ((nds xs).length+2,[],src,.slice none 0 0) (Me.Fol.start _ _ _) ⟨I,I,I,I,trivial⟩ Ent.refl ?_
 rintro ⟨k,p,now,vp⟩ hF ih
 have hF:Me.Fol (nds xs) src to k p now:=hF
 have hpl:p.length≤1000:=by have:=hF.le;rw[JG]at this;omega
 obtain ⟨k',hk'⟩:=hF.pos
 repeat' (first|refine zh ?_|intro (bk:Nat))
 rcases kC xs now with ⟨e1,e2⟩|⟨i,⟨V,n⟩,e1,e2,hx,hxa⟩
 ·rw [jDr (hF.none e2) (by decide)]
  refine HL.jR (r:= .int .i64 (-1)) jMD I I (fun w1 hw1=>by rw[← e1];exact Jj xs now v w1 (h.s.ext hw1.jE) (by omega)) ?_
  repeat' (first|refine zh ?_|intro (bk:Nat))
  refine HR.ret Tryz.func17 I [_,_] (fun _ _=>⟨I,I,trivial⟩) ?_
  exact fun w' hw=>⟨.slice none 0 0,rfl,Sat.ZC (hw.pick [] I I) 3 1⟩
 have hil:i<xs.length:=(List.getElem?_eq_some_iff.1 hx).1
 have hxm:=List.mem_of_getElem? hx
 have hok:OkN w V n:=h.r _ hxm
 have hsn:SmN n:=hg _ hxm
 have hnt:Me.nth (nds xs) i=n:=jAy hx
 refine HL.jR (r:= .int .i64 (i:Int)) jMD I I (fun w1 hw1=>by rw[← e1];exact Jj xs now v w1 (h.s.ext hw1.jE) (by omega)) ?_
 repeat' (first|refine zh ?_|refine HL.jR jPT I I (fun w1 hw1=>ZG p now vp w1 ((Rd.own 0 rfl).at hw1) (by omega)) ?_|intro (bk:Nat))
 refine HR.cond I (fun h2=>?_) (fun h2=>?_)
 ·have h2:now∈p:=of_decide_eq_true h2
  rw[jDr (hF.again e2 h2) (by decide)]
  repeat' (first|refine zh ?_|intro (bk:Nat))
  refine HR.ret Tryz.func17 I [_,_] (fun _ _=>⟨I,I,trivial⟩) ?_
  exact fun w' hw=>⟨.slice none 0 0,rfl,Sat.ZC (hw.pick [] I I) 3 1⟩
 have h2:now ∉ p:=of_decide_eq_false h2
 repeat' (first|refine zh ?_|intro (bk:Nat))
 refine HL.jv Jw I I I I I (by decide) (by decide) ?_
 intro va
 refine HL.ZN 1 I Jw (Rd.own 0 I) I I I I (jF I) (by show (p.length+1)*8≤_;omega) (by show p.length+1≤_;omega) ?_
 intro vc
 refine HL.ent (H':=[jG vc 3 1 (p++[now]).length (cellsOf iC (p++[now])),meB b3 t v]) (Ent.trans (Ent.pick [1,2] I I) (Ent.JV (by simp) (by rw[jP];rfl))) ?_
 repeat' (first|refine zh ?_|intro (bk:Nat))
 refine HR.cond I (fun h3=>?_) (fun h3=>?_)
 ·have h3:now=to:=eq_of_beq h3
  rw[jLG (hF.done e2 h2 h3)]
  repeat' (first|refine zh ?_|intro (bk:Nat))
  refine HR.ret Tryz.func17 I [_,_] (fun _ _=>⟨I,I,trivial⟩) ?_
  exact fun w' hw=>⟨vc,rfl,hw.pick [0] I rfl⟩
 have h3:now≠to:=by have h3:(now==to)=false:=h3;simpa using h3
 repeat' (first|refine zh ?_|refine HL.JA (Rd.arg h.s) Jm i I I I I hil ?_|refine HL.jo 3 (Rd.arg h.s) (by rw[cx];omega) I I I I I I I ?_|refine HL.ji (Rd.arg h.s) I I I I (jQ jm hx (i:=3) I) ?_|refine HL.jR fn50 I I (fun w1 hw1=>jBW n.table to _ w1 (hok.ta.ext hw1.jE) hsn.ta) ?_|intro (bk:Nat))
 refine HR.cond I (fun h4=>?_) (fun h4=>?_)
 ·have h4:(kL n.table to).2=false:=by have h4:(!(kL n.table to).2)=true:=h4;simpa using h4
  rw[jDr (hF.stop e2 h2 h3 (by rw[hnt];exact h4)) (by decide)]
  repeat' (first|refine zh ?_|intro (bk:Nat))
  refine HR.ret Tryz.func17 I [_,_] (fun _ _=>⟨I,I,trivial⟩) ?_
  exact fun w' hw=>⟨.slice none 0 0,rfl,Sat.ZC (hw.pick [] I I) 3 1⟩
 have h4:(kL n.table to).2=true:=by have h4:(!(kL n.table to).2)=false:=h4;simpa using h4
 have hstep:=hF.step e2 h2 h3 (by rw[hnt];exact h4)
 rw[hnt]at hstep
 repeat' (first|refine zh ?_|intro (bk:Nat))
 exact ih (k-1,p++[now],(kL n.table to).1,vc) _ _ hstep (by show k-1<k;omega) ⟨I,I,I,I,trivial⟩ Ent.refl
theorem jEy (xs:List (NV×Nd)) (t src to:Int) (v:Value) (w:World) (h:OkL w v xs) (hg:∀x∈xs,SmN x.2) (hl:xs.length≤1000):
  Calls Tryz.prog 52 #[meV t v,.int .i64 src,.int .i64 to] w fun e w'=>e= .returned (.bool ((Me.follow (nds xs) src to).2==2))∧Below w.heap.size w w':=by
 have cx:(cellsOf Zg xs).length=xs.length*13:=jC jm _
 have no2:∀ {p:List Int} {e:Int},Me.follow (nds xs) src to=(p,e)→e≠2→((Me.follow (nds xs) src to).2==2)=false:=fun h1 h2=>by rw[h1];simpa using h2
 refine jD Tryz.func52 I (Nat.le_of_ble_eq_true I) ?_
 refine HR.sub (σ':=[(0,meV t v),(1,.int .i64 src),(2,.int .i64 to)]) ⟨I,I,I,trivial⟩ ?_
 refine HR.ctl I ?_
 refine HR.region ?_
 refine HL.box I I ?_
 intro b3
 repeat' (first|refine zh ?_|intro (bk:Nat))
 refine HR.ZC 3 1 ?_
 refine HR.loop (ι:=Nat×List Int×Int×Value) (fun x=>Me.Fol (nds xs) src to x.1 x.2.1 x.2.2.1) (fun x=>[(2,.int .i64 to),(3,ptr b3),(7,x.2.2.2),(8,.int .i64 x.2.2.1)]) (fun x=>[jG x.2.2.2 3 1 x.2.1.length (cellsOf iC x.2.1),meB b3 t v]) (fun x=>x.1) ((nds xs).length+2,[],src,.slice none 0 0) (Me.Fol.start _ _ _) ⟨I,I,I,I,trivial⟩ Ent.refl ?_
 rintro ⟨k,p,now,vp⟩ hF ih
 have hF:Me.Fol (nds xs) src to k p now:=hF
 have hpl:p.length≤1000:=by have:=hF.le;rw[JG]at this;omega
 obtain ⟨k',hk'⟩:=hF.pos
 repeat' (first|refine zh ?_|intro (bk:Nat))
 refine HR.cond I (fun h3=>?_) (fun h3=>?_)
 rotate_left
 ·have h3:now=to:=by have h3:(now != to)=false:=h3;simpa using h3
  have e:((Me.follow (nds xs) src to).2==2)=false:=by have:=hF.at_end h3;simpa using this
  rw[e]
  repeat' (first|refine zh ?_|intro (bk:Nat))
  refine HR.ret Tryz.func52 I [_] (fun _ _=>⟨I,trivial⟩) ?_
  exact fun w' hw=>⟨rfl,hw.jE⟩
 have h3:now≠to:=by have h3:(now != to)=true:=h3;simpa using h3
 repeat' (first|refine zh ?_|refine HL.jR jPT I I (fun w1 hw1=>ZG p now vp w1 ((Rd.own 0 rfl).at hw1) (by omega)) ?_|intro (bk:Nat))
 refine HR.cond I (fun h2=>?_) (fun h2=>?_)
 ·have h2:now∈p:=of_decide_eq_true h2
  have e:((Me.follow (nds xs) src to).2==2)=true:=by rw[hF.two h2];rfl
  rw[e]
  repeat' (first|refine zh ?_|intro (bk:Nat))
  refine HR.ret Tryz.func52 I [_] (fun _ _=>⟨I,trivial⟩) ?_
  exact fun w' hw=>⟨rfl,hw.jE⟩
 have h2:now ∉ p:=of_decide_eq_false h2
 repeat' (first|refine zh ?_|intro (bk:Nat))
 refine HL.jv Jw I I I I I (by decide) (by decide) ?_
 intro va
 refine HL.ZN 1 I Jw (Rd.own 0 I) I I I I (jF I) (by show (p.length+1)*8≤_;omega) (by show p.length+1≤_;omega) ?_
 intro vc
 refine HL.ent (H':=[jG vc 3 1 (p++[now]).length (cellsOf iC (p++[now])),meB b3 t v]) (Ent.trans (Ent.pick [1,2] I I) (Ent.JV (by simp) (by rw[jP];rfl))) ?_
 repeat' (first|refine zh ?_|intro (bk:Nat))
 rcases kC xs now with ⟨e1,e2⟩|⟨i,⟨V,n⟩,e1,e2,hx,hxa⟩
 ·rw [no2 (hF.none e2) (by decide)]
  refine HL.jR (r:= .int .i64 (-1)) jMD I I (fun w1 hw1=>by rw[← e1];exact Jj xs now v w1 (h.s.ext hw1.jE) (by omega)) ?_
  repeat' (first|refine zh ?_|intro (bk:Nat))
  refine HR.ret Tryz.func52 I [_] (fun _ _=>⟨I,trivial⟩) ?_
  exact fun w' hw=>⟨rfl,hw.jE⟩
 have hil:i<xs.length:=(List.getElem?_eq_some_iff.1 hx).1
 have hxm:=List.mem_of_getElem? hx
 have hok:OkN w V n:=h.r _ hxm
 have hsn:SmN n:=hg _ hxm
 have hnt:Me.nth (nds xs) i=n:=jAy hx
 refine HL.jR (r:= .int .i64 (i:Int)) jMD I I (fun w1 hw1=>by rw[← e1];exact Jj xs now v w1 (h.s.ext hw1.jE) (by omega)) ?_
 repeat' (first|refine zh ?_|refine HL.JA (Rd.arg h.s) Jm i I I I I hil ?_|refine HL.jo 3 (Rd.arg h.s) (by rw[cx];omega) I I I I I I I ?_|refine HL.ji (Rd.arg h.s) I I I I (jQ jm hx (i:=3) I) ?_|refine HL.jR fn50 I I (fun w1 hw1=>jBW n.table to _ w1 (hok.ta.ext hw1.jE) hsn.ta) ?_|intro (bk:Nat))
 refine HR.cond I (fun h4=>?_) (fun h4=>?_)
 ·have h4:(kL n.table to).2=false:=by have h4:(!(kL n.table to).2)=true:=h4;simpa using h4
  rw[no2 (hF.stop e2 h2 h3 (by rw[hnt];exact h4)) (by decide)]
  repeat' (first|refine zh ?_|intro (bk:Nat))
  refine HR.ret Tryz.func52 I [_] (fun _ _=>⟨I,trivial⟩) ?_
  exact fun w' hw=>⟨rfl,hw.jE⟩
 have h4:(kL n.table to).2=true:=by have h4:(!(kL n.table to).2)=false:=h4;simpa using h4
 have hstep:=hF.step e2 h2 h3 (by rw[hnt];exact h4)
 rw[hnt]at hstep
 repeat' (first|refine zh ?_|intro (bk:Nat))
 exact ih (k-1,p++[now],(kL n.table to).1,vc) _ _ hstep (by show k-1<k;omega) ⟨I,I,I,I,trivial⟩ Ent.refl
theorem jPZ {α:Type} {p:α→Bool} {l:List α} {k:Nat} {x:α} (hx:l[k]? =some x):(l.take (k+1)).any p=((l.take k).any p||p x):=by rw[jN hx];simp
theorem jMc {α:Type} {p:α→Bool} {l:List α} {k:Nat} {x:α} (hx:l[k]? =some x) (h:p x=true):l.any p=true:=List.any_eq_true.2 ⟨x,List.mem_of_getElem? hx,h⟩
theorem jDC (xs:List (NV×Nd)) (t:Int) (v:Value) (w:World) (h:OkL w v xs) (hg:∀x∈xs,SmN x.2) (hl:xs.length≤1000):
  Calls Tryz.prog 20 #[meV t v] w fun e w'=>e= .returned (.bool (Me.loops (nds xs)))∧Below w.heap.size w w':=by
 refine jD Tryz.func20 I (Nat.le_of_ble_eq_true I) ?_
 refine HR.sub (σ':=[(0,meV t v)]) ⟨I,trivial⟩ ?_
 refine HR.ctl I ?_
 refine HR.region ?_
 refine HL.box I I ?_
 intro b1
 repeat' (first|refine zh ?_|refine HL.JN (Rd.arg h.s) I I I ?_|intro (bk:Nat))
 obtain ⟨g,hgd⟩:∃g:Nd→Ro→Bool,g=fun n r=>(Me.follow (nds xs) n.addr r.dest).2==2:=⟨_,rfl⟩
 have hlo:Me.loops (nds xs)=(nds xs).any fun n=>n.table.any (g n):=by rw[hgd];rfl
 refine HR.loop (ι:=Nat) (fun k=>k≤xs.length∧((nds xs).take k).any (fun n=>n.table.any (g n))=false) (fun k=>[(1,ptr b1),(8,v),(9,.int .i64 (xs.length:Int)),(10,.int .i64 (k:Int))]) (fun _=>[meB b1 t v]) (fun k=>xs.length-k) 0 ⟨Nat.zero_le _,rfl⟩ ⟨I,I,I,I,trivial⟩ Ent.refl ?_
 rintro k ⟨hk,hno⟩ ih
 have hk:k≤xs.length:=hk
 repeat' (first|refine zh ?_|intro (bk:Nat))
 refine HR.cond I (fun h2=>?_) (fun h2=>?_)
 rotate_left
 ·have hke:k=xs.length:=by have:¬(k:Int)<(xs.length:Int):=of_decide_eq_false h2;omega
  rw[hke,← JG,List.take_length]at hno
  rw[hlo,hno]
  repeat' (first|refine zh ?_|intro (bk:Nat))
  refine HR.ret Tryz.func20 I [_] (fun _ _=>⟨I,trivial⟩) ?_
  exact fun w' hw=>⟨rfl,hw.jE⟩
 have hlt:k<xs.length:=by have:(k:Int)<(xs.length:Int):=of_decide_eq_true h2;omega
 obtain ⟨⟨V,n⟩,hx⟩:=jJ hlt
 have hok:OkN w V n:=h.r _ (List.mem_of_getElem? hx)
 have hsn:SmN n:=hg _ (List.mem_of_getElem? hx)
 have hta:n.table.length≤1000:=hsn.ta
 have hat:=jPZ (p:=fun n:Nd=>n.table.any (g n)) (jAC hx)
 rw[hno,Bool.false_or]at hat
 repeat' (first|refine zh ?_|refine HL.JA (Rd.arg h.s) Jm k I I I I hlt ?_|refine HL.JW (us:=ndC V n) (Rd.arg h.s) I I I I (by simp) I (jH jm hx) ?_|intro (bk:Nat))
 refine HR.loop (ι:=Nat) (fun j=>j≤n.table.length∧(n.table.take j).any (g n)=false) (fun j=>[(1,ptr b1),(4,ptr bk),(8,v),(9,.int .i64 (xs.length:Int)),(10,.int .i64 (k:Int)),(15,sv V.ta n.table.length),(16,.int .i64 (n.table.length:Int)),(17,.int .i64 (j:Int))]) (fun _=>[jT bk (ndC V n) 62,meB b1 t v]) (fun j=>n.table.length-j) 0 ⟨Nat.zero_le _,rfl⟩ ⟨I,I,I,I,I,I,I,I,trivial⟩ Ent.refl ?_
 rintro j ⟨hj,hno2⟩ ih2
 have hj:j≤n.table.length:=hj
 repeat' (first|refine zh ?_|intro (bk:Nat))
 refine HR.cond I (fun h3=>?_) (fun h3=>?_)
 rotate_left
 ·have hje:j=n.table.length:=by have:¬(j:Int)<(n.table.length:Int):=of_decide_eq_false h3;omega
  rw[hje,List.take_length]at hno2
  rw[hno2]at hat
  repeat' (first|refine zh ?_|intro (bk:Nat))
  exact ih (k+1) _ _ ⟨hlt,hat⟩ (by show xs.length-(k+1)<xs.length-k;omega) ⟨I,I,I,I,trivial⟩ (Ent.pick [1] I I)
 have hlt3:j<n.table.length:=by have:(j:Int)<(n.table.length:Int):=of_decide_eq_true h3;omega
 obtain ⟨r,hr⟩:=jJ hlt3
 have hat2:=jPZ (p:=g n) hr
 rw[hno2,Bool.false_or]at hat2
 have hgr:g n r=((Me.follow (nds xs) n.addr r.dest).2==2):=by rw[hgd]
 repeat' (first|refine zh ?_|refine HL.JA (Rd.arg hok.ta) Je j I I I I hlt3 ?_|refine HL.JW (us:=roC r) (Rd.arg hok.ta) I I I I (by simp) I (jH jq hr) ?_|refine HL.jR fn52 I I (fun w1 hw1=>jEy xs t n.addr r.dest v w1 (h.ext hw1.jE) hg hl) ?_|intro (bk:Nat))
 refine HR.cond I (fun h4=>?_) (fun h4=>?_)
 ·have h4:g n r=true:=by rw[hgr];exact h4
  rw[hlo,jMc (jAC hx) (jMc hr h4)]
  repeat' (first|refine zh ?_|intro (bk:Nat))
  refine HR.ret Tryz.func20 I [_] (fun _ _=>⟨I,trivial⟩) ?_
  exact fun w' hw=>⟨rfl,hw.jE⟩
 have h4:g n r=false:=by rw[hgr];exact h4
 rw[h4]at hat2
 repeat' (first|refine zh ?_|intro (bk:Nat))
 exact ih2 (j+1) _ _ ⟨hlt3,hat2⟩ (by show n.table.length-(j+1)<n.table.length-j;omega) ⟨I,I,I,I,I,I,I,I,trivial⟩ (Ent.pick [1,2] I I)
end Go.Proofs.YtgfdoognildoeaaGreat
namespace Go.Proofs.YtgfdoognildoeaaGreat
open Go.GX Go.RowKit
attribute [local irreducible] Calls Run jZ jf JK HR HL HD jT jG JY Rd jK jY
open Nd
theorem fn9:IsFn Tryz.prog 9:=⟨⟨_,_,Tryz.func9,rfl,by decide⟩⟩
theorem jLL {B:Base} {H:List Chunk} {w:World} {v:Value} {ys:List (NV×Nd)} {G:List Chunk} (i j:Nat) (hw:Sat B H w) (hi:zH H i=some (cNd v ys)) (hj:zH H j=some (jB G)) (hO:∀y∈ys,Own y.1 G y.2):OkL w v ys:=
 ⟨(Rd.own i hi).at hw,fun y hy=>hO y hy w (Sat.grp j hw hj)⟩
theorem jPp (a b:Nd) (h:¬a.addr<b.addr):Me.put (Me.put [] a) b=[b,a]:=by
 have h1:Me.put [] a=[a]:=rfl
 rw[h1,jPG (l:=[a]) (n:=b) (j:=0) (Nat.zero_le _) (fun i x hi=>absurd hi (Nat.not_lt_zero _)) (fun x hx=>by simp at hx;subst hx;exact h)]
 rfl
theorem new3:(new 3 8).addr=3:=(Me.Zi (a:=3) (by decide)).1
theorem new0:(new 0 0).addr=0:=(Me.Zi (a:=0) (by decide)).1
theorem at0:Me.nodeAt [3,0] [8] 0=new 3 8:=rfl
theorem at1:Me.nodeAt [3,0] [8] 1=new 0 0:=rfl
theorem jMU:Me.build [3,0] [8] 2=Me.put (Me.put [] (Me.nodeAt [3,0] [8] 0)) (Me.nodeAt [3,0] [8] 1):=by simp only[Me.build]
theorem jLg:Me.Kj [3,0] [8]=(⟨0,Me.build [3,0] [8] 2⟩,0):=jLh (by decide) (by decide)
theorem jD1:Me.Kj [3,0] [8]=(⟨0,[new 0 0,new 3 8]⟩,0):=by
 rw[jLg,jMU,at0,at1,jPp _ _ (by rw[new3,new0];decide)]
theorem jNL {l:List Nd} {a:Int} {i:Nat} (h:Me.idx l a=some i):Me.path l a a=([a],true):=jLG ((Me.Fol.start l a a).done h List.not_mem_nil I)
theorem jQB (a b:Nd) (x:Int) (ha:a.addr≠x) (hb:b.addr=x):Me.idx [a,b] x=some 1:=by
 unfold Me.idx
 rw[List.findIdx?_cons,List.findIdx?_cons]
 simp[ha,hb]
theorem jLj:Me.Kj [1,251] []=(Me.jCn,2):=by
 have e:Me.Js [1,251] 1=2:=by decide
 rw[jD2 (addrs:=[1,251]) (k:=1) (by decide) (by decide) (by decide) (by decide),e]
theorem jPd {ys:List (NV×Nd)} {a b:Nd} (h:nds ys=[a,b]):∃V W,ys=[(V,a),(W,b)]:=by
 obtain ⟨p,q,rfl⟩:∃p q,ys=[p,q]:=by
  have hl:ys.length=2:=by rw[← JG,h];rfl
  rcases ys with _|⟨p,_|⟨q,_|⟨r,l⟩⟩⟩
  ·simp at hl
  ·simp at hl
  ·exact ⟨p,q,rfl⟩
  ·simp at hl
 have h:[p.2,q.2]=[a,b]:=h
 simp only[List.cons.injEq,and_true]at h
 exact ⟨p.1,q.1,by rw[← h.1,← h.2]⟩
theorem Zc (w:World):Calls Tryz.prog 9 #[] w fun e w'=>e= .returned (.bool true)∧Below w.heap.size w w':=by
 refine jD Tryz.func9 I (Nat.le_of_ble_eq_true I) ?_
 refine HR.sub (σ':=[]) trivial ?_
 refine HR.ctl I ?_
 refine HR.region ?_
 repeat' (first|refine zh ?_|intro (bk:Nat))
 refine HL.jv Jw I I I I I (by decide) (by decide) ?_
 intro va
 refine HL.jv Jw I I I I I (by decide) (by decide) ?_
 intro vb
 refine HL.JC (r:=fun x:SV×List (NV×Nd)×List Chunk=> .tuple ⟨[meV 0 (sv x.1 x.2.1.length),.int .i64 0]⟩) (Q:=fun x=>jHm x [new 0 0,new 3 8]) (G:=fun x=>[cNd (sv x.1 x.2.1.length) x.2.1,jB x.2.2]) fn10 I I (fun w1 hw1=>by have:=jBa [3,0] [8] va vb w1 ((Rd.own 1 rfl).at hw1) ((Rd.own 0 rfl).at hw1) (by decide) (by decide);rw[jD1]at this;exact this) ?_
 rintro ⟨y,ys,G⟩ ⟨⟨hN,hO⟩,hG⟩
 have hN:nds ys=[new 0 0,new 3 8]:=hN
 have hO:∀z∈ys,Own z.1 G z.2:=hO
 have hG:∀z∈ys,GdN z.2:=hG
 have hlp:Me.loops (nds ys)=false:=by
  have:=(Me.Inv.new (C:=jN0) (addrs:=[3,0]) (polls:=[8]) (by rw[jD1])).1.jHP
  rw[jD1]at this
  rw[hN];exact this
 have hpa:Me.path (nds ys) 3 3=([3],true):=by
  rw[hN]
  exact jNL (jQB _ _ 3 (by rw[new0];decide) new3)
 obtain ⟨A,hA⟩:∃A,A=new 0 0:=⟨_,rfl⟩
 obtain ⟨Bn,hBn⟩:∃A,A=new 3 8:=⟨_,rfl⟩
 have hA0:A.addr=0:=by rw[hA];exact new0
 have hB0:Bn.addr=3:=by rw[hBn];exact new3
 have hB1:Bn.poll=8:=by rw[hBn];rfl
 rw[← hA,← hBn]at hN
 clear hA hBn
 obtain ⟨V,W,hys⟩:=jPd hN
 subst hys
 have cy:(cellsOf Zg [(V,A),(W,Bn)]).length=26:=rfl
 refine HL.ent (H':=[cNd (sv y 2) [(V,A),(W,Bn)],jB G]) (Ent.pick [0,1] I I) ?_
 repeat' (first|refine zh ?_|intro (bk:Nat))
 refine HL.jv Jw I I I I I (by decide) (by decide) ?_
 intro vc
 refine HL.JC (r:=fun x:SV×List (NV×Nd)×List Chunk=> .tuple ⟨[meV 0 (sv x.1 x.2.1.length),.int .i64 2]⟩) (Q:=fun x=>jHm x []) (G:=fun x=>[cNd (sv x.1 x.2.1.length) x.2.1,jB x.2.2]) fn10 I I (fun w1 hw1=>by have:=jBa [1,251] [] vc (.slice none 0 0) w1 ((Rd.own 0 rfl).at hw1) (Sl.nil w1) (by decide) (by decide);rw[jLj]at this;exact this) ?_
 rintro ⟨y2,ys2,G2⟩ _
 repeat' (first|refine zh ?_|intro (bk:Nat))
 refine HL.JC (r:=fun x:Value=> .tuple ⟨[x,.bool true]⟩) (Q:=fun _=>True) (G:=fun x=>[jG x 3 1 1 (cellsOf iC [3])]) fn17 I I (fun w1 hw1=>by have:=jLa [(V,A),(W,Bn)] 0 3 3 (sv y 2) w1 (jLL 5 6 hw1 I I hO) (fun z hz=>(hG z hz).sm) (Nat.le_of_ble_eq_true rfl);rw[hpa]at this;exact this.mono fun e w' ⟨x,e1,e2⟩=>⟨x,e1,trivial,e2⟩) ?_
 intro vp _
 repeat' (first|refine zh ?_|intro (bk:Nat))
 repeat' (first|refine zh ?_|refine HL.JA (Rd.own 6 I) Jm 0 I I I I (Nat.le_of_ble_eq_true I) ?_|refine HL.jo 0 (Rd.own 6 I) (by rw[cy];decide) I I I I I I I ?_|refine HL.ji (Rd.own 6 I) I I I I (jQ jm (l:=[(V,A),(W,Bn)]) (j:=0) I (i:=0) I) ?_|intro (bk:Nat))
 refine HL.jDc 43 true I (by rw[hA0];rfl) ?_
 repeat' (first|refine zh ?_|refine HL.JA (Rd.own 6 I) Jm 1 I I I I (Nat.le_of_ble_eq_true I) ?_|refine HL.jo 0 (Rd.own 6 I) (by rw[cy];decide) I I I I I I I ?_|refine HL.ji (Rd.own 6 I) I I I I (jQ jm (l:=[(V,A),(W,Bn)]) (j:=1) I (i:=0) I) ?_|intro (bk:Nat))
 refine HL.jDc 51 true I (by rw[hB0];rfl) ?_
 repeat' (first|refine zh ?_|refine HL.JA (Rd.own 6 I) Jm 1 I I I I (Nat.le_of_ble_eq_true I) ?_|refine HL.jo 1 (Rd.own 6 I) (by rw[cy];decide) I I I I I I I ?_|refine HL.ji (Rd.own 6 I) I I I I (jQ jm (l:=[(V,A),(W,Bn)]) (j:=1) I (i:=1) I) ?_|intro (bk:Nat))
 refine HL.jDc 59 true I (by rw[hB1];rfl) ?_
 repeat' (first|refine zh ?_|intro (bk:Nat))
 refine HL.jv Jw I I I I I (by decide) (by decide) ?_
 intro v7
 refine HL.jR (r:= .bool true) fn19 I I (fun w1 hw1=>by have:=jFw [3] [3] vp v7 w1 ((Rd.own 1 rfl).at hw1) ((Rd.own 0 rfl).at hw1) (by decide);simpa using this) ?_
 repeat' (first|refine zh ?_|intro (bk:Nat))
 refine HL.jR (r:= .bool false) fn20 I I (fun w1 hw1=>by have:=jDC [(V,A),(W,Bn)] 0 (sv y 2) w1 (jLL 7 8 hw1 I I hO) (fun z hz=>(hG z hz).sm) (Nat.le_of_ble_eq_true rfl);rw[hlp]at this;exact this) ?_
 repeat' (first|refine zh ?_|intro (bk:Nat))
 refine HL.JC (r:=fun x:SV×List (NV×Nd)×List Chunk=>meV 1 (sv x.1 x.2.1.length)) (Q:=fun _=>True) (G:=fun x=>[cNd (sv x.1 x.2.1.length) x.2.1,jB x.2.2]) fn15 I I (fun w1 hw1=>(jEx 0 (sv y 2) [(V,A),(W,Bn)] ⟨[],[],[]⟩ (.slice none 0 0) (.slice none 0 0) (.slice none 0 0) w1 (jLL 7 8 hw1 I I hO) hG (Nat.le_of_ble_eq_true I) (OkA.none w1)).mono fun e w' ⟨x,e1,e2,e3⟩=>⟨x,e1,trivial,e3⟩) ?_
 intro x3 _
 repeat' (first|refine zh ?_|intro (bk:Nat))
 refine HR.ret Tryz.func9 I [_] (fun _ _=>⟨I,trivial⟩) ?_
 exact fun w' hw=>⟨rfl,hw.jE⟩
end Go.Proofs.YtgfdoognildoeaaGreat
namespace Go.GX
open Go.RowKit Go.ChangeShapes Go.WideShapes
section
variable {H : Type} {enc : TypeId × Value → H} {P : Program} {w : World}
def Opens (enc:TypeId×Value→H) (P:Program) (w:World) (t:TypeId) {α:Type} (E:α→List Value) (good:α→Prop):Prop:=
 ∀(fuel:Nat) (cs:List Value) (x:DataW H×List MemPlace),DataW.trod enc P w 0 (fun _=>true) true fuel t cs=some x→∃a,cs=E a∧good a
theorem Opens.int {t:TypeId} {k:IntKind} (ht:P.underlying t=some (.int k)):Opens enc P w t (fun n:Int=>[Value.int k n]) (fun n=>(Lit.int k n).wf=true):=by
 intro fuel cs x h
 cases fuel with
 |zero=>cases h
 |succ fuel=>
  unfold DataW.trod at h
  rw[ht]at h
  split at h
  all_goals first
   |cases h;done
   |(rename_i h1;cases h1;done)
   |skip
  rename_i k0 k' n h1
  cases h1
  split at h
  ·rename_i hk;obtain ⟨rfl,hw⟩:=hk;exact ⟨n,rfl,hw⟩
  ·cases h
theorem Opens.str {t:TypeId} (ht:P.underlying t=some .string):Opens enc P w t (fun s:List UInt8=>[str s]) (fun s=>s.length≤9223372036854775807):=by
 intro fuel cs x h
 cases fuel with
 |zero=>cases h
 |succ fuel=>
  unfold DataW.trod at h
  rw[ht]at h
  split at h
  all_goals first
   |cases h;done
   |(rename_i h1;cases h1;done)
   |skip
  rename_i s h1
  split at h
  ·rename_i hs;exact ⟨s.data.toList,rfl,by unfold maxLen at hs;have:s.data.toList.length=s.size:=rfl;omega⟩
  ·cases h
theorem Opens.bool {t:TypeId} (ht:P.underlying t=some .bool):Opens enc P w t (fun b:Bool=>[Value.bool b]) (fun _=>True):=by
 intro fuel cs x h
 cases fuel with
 |zero=>cases h
 |succ fuel=>
  unfold DataW.trod at h
  rw[ht]at h
  split at h
  all_goals first
   |cases h;done
   |(rename_i h1;cases h1;done)
   |skip
  rename_i b h1
  exact ⟨b,rfl,trivial⟩
theorem jJ0 {base n:Nat} {a:Addr} {cs:List Value} (h:w.cells? base a n=some cs):cs.length=n∧∀(j:Nat) u,cs[j]? =some u→w.cell? (a.add j)=some u:=by
 unfold World.cells? at h
 split at h
 ·have key:∀(l:List Nat) (r:List Value),l.mapM (fun i=>w.cell? (a.add i))=some r→r.length=l.length∧∀(j:Nat) u,r[j]? =some u→∃i,l[j]? =some i∧w.cell? (a.add i)=some u:=by
   intro l
   induction l with
   |nil=>intro r h;simp at h;subst h;exact ⟨rfl,fun j u hu=>by simp at hu⟩
   |cons i l ih=>
    intro r h
    simp only[List.mapM_cons,Option.bind_eq_bind,Option.pure_def]at h
    cases hx:w.cell? (a.add i)with
    |none=>rw[hx]at h;cases h
    |some b=>
     rw[hx]at h
     simp only[Option.bind_some]at h
     cases hl:l.mapM (fun i=>w.cell? (a.add i))with
     |none=>rw[hl]at h;cases h
     |some r'=>
      rw[hl]at h
      simp only[Option.bind_some,Option.some.injEq]at h
      subst h
      obtain ⟨h1,h2⟩:=ih r' hl
      refine ⟨by simp[h1],fun j u hu=>?_⟩
      cases j with
      |zero=>simp at hu;subst hu;exact ⟨i,rfl,hx⟩
      |succ j=>simp at hu;simpa using h2 j u hu
  obtain ⟨h1,h2⟩:=key _ _ h
  refine ⟨by simpa using h1,fun j u hu=>?_⟩
  obtain ⟨i,hi,hc⟩:=h2 j u hu
  have hj:j<n:=by
   have:=(List.getElem?_eq_some_iff.1 hi).1;simpa using this
  simp[hj]at hi
  subst hi;exact hc
 ·cases h
theorem parts_eq {cs p:List Value} {o n m:Nat} (h:(cs.drop o).take n=p) (hp:p.length=n) (ho:o+n=m):cs.drop o=p++cs.drop m:=by
 rw[← h,← ho,← List.drop_drop,List.take_append_drop]
end
end Go.GX
