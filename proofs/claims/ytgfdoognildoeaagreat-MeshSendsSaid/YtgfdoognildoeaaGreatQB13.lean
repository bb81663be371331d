/- A part of the proof: contracts of the program's functions. Conditions: none. -/
import Derived.Carry
import Derived.Deep.MidRow
import Derived.Deep.Quiet
import Derived.Laws.IdiomRangeMap
import Derived.Laws.MakeOwn
import Derived.Laws.StructEq
import Derived.Laws.Tables
import Derived.Lib.AppendStr
import Derived.Lib.AppendZerosOnto
import Derived.Lib.OthersKept
import Derived.Lib.Overlaps
import Derived.Lib.OwnBridge
import Derived.Lib.SlicesCompact
import Derived.MapKept
import Derived.Orders
import Derived.OrdersHeld
import Derived.Scope
import Derived.Sort.Grow
import Derived.StillTail
import Derived.Test.YtgfdoognildoeaaGreatProg
import Derived.Test.YtgfdoognildoeaaGreatShelf
import Derived.WalkKit
import Derived.WalkLawsBesides
import Derived.WalkSpells
import Derived.Test.YtgfdoognildoeaaGreatQB1
import Derived.Test.YtgfdoognildoeaaGreatQB2
import Derived.Test.YtgfdoognildoeaaGreatQB3
import Derived.Test.YtgfdoognildoeaaGreatQB4
import Derived.Test.YtgfdoognildoeaaGreatQB5
import Derived.Test.YtgfdoognildoeaaGreatQB6
import Derived.Test.YtgfdoognildoeaaGreatQB7
import Derived.Test.YtgfdoognildoeaaGreatQB8
import Derived.Test.YtgfdoognildoeaaGreatQB9
import Derived.Test.YtgfdoognildoeaaGreatQB10
import Derived.Test.YtgfdoognildoeaaGreatQB11
import Derived.Test.YtgfdoognildoeaaGreatQB12
set_option linter.unusedVariables false
set_option linter.unusedSectionVars false
set_option linter.unusedSimpArgs false
set_option maxRecDepth 100000
set_option maxHeartbeats 4000000
namespace Go.Proofs.YtgfdoognildoeaaGreat
open Go.GX Go.RowKit
attribute [local irreducible] Calls Run jg jh JU HR HL HD jU jK Jc Rd jL jd
open Nd
theorem fn54:IsFn Tryz.prog 54:=⟨⟨_,_,Tryz.func54,rfl,by decide⟩⟩
theorem fn57:IsFn Tryz.prog 57:=⟨⟨_,_,Tryz.func57,rfl,by decide⟩⟩
abbrev meZ:List Value:=[.int .i64 0,.slice none 0 0]
abbrev meB (b:Nat) (t:Int) (v:Value):Chunk:=jU b (meC t v) 26
abbrev MkL (x:SV×List (NV×Nd)×List Chunk) (l:List Nd):Prop:=nds x.2.1=l∧∀y∈x.2.1,Own y.1 x.2.2 y.2
theorem jBK (t:Int) (v:Value) (xs:List (NV×Nd)) (w:World) (h:OkL w v xs) (hg:∀x∈xs,SmN x.2) (hl:xs.length≤1000):
  Calls Tryz.prog 54 #[meV t v] w fun e w'=>∃x:SV×List (NV×Nd)×List Chunk,e= .returned (meV t (sv x.1 x.2.1.length))∧MkL x (nds xs)∧Sat (base w) [cNd (sv x.1 x.2.1.length) x.2.1,jD x.2.2] w':=by
 obtain ⟨av,cv,rfl,_⟩:=h.s.2
 refine jB Tryz.func54 I (Nat.le_of_ble_eq_true I) ?_
 refine HR.sub (σ':=[(0,meV t (sv (av,cv) xs.length))]) ⟨I,trivial⟩ ?_
 refine HR.ctl I ?_
 refine HR.region ?_
 refine HL.box I I ?_
 intro b1
 refine HL.alloc I I ?_
 intro b2
 repeat' (first|refine zh ?_|intro (bk:Nat))
 refine HR.join (ι:=Nat×SV) (fun _=>True) (fun x=>[(1,ptr b1),(2,ptr b2),(3,ptr x.1)]) (fun x=>[meB x.1 t (sv x.2 0),cNd (sv x.2 0) [],meB b1 t (sv (av,cv) xs.length),jU b2 meZ 26]) ?_ (fun hj=>?_)
 rotate_left
 ·refine HR.kM [0,1] I I JZ ?_
  refine za 0 ?_
  refine za 1 ?_
  refine za 2 ?_
  refine za 3 ?_
  refine HA.rd 4 (by kernel_rfl) I I (jMs (Rd.arg h.s) I I) ?_
  refine HA.two 5 7 (by kernel_rfl) I I ?_ ?_
  ·refine HL.kX 0 xs.length JV I I I I I I (Nat.zero_le _) (show 232*xs.length≤_ by omega) (by omega) ?_
   intro v3
   refine HL.shape 0 I fun a3 c3 hv=>?_
   subst hv
   refine HL.jm [1,2] I I ?_
   refine za 6 ?_
   refine HA.one 7 (by kernel_rfl) I ?_
   refine HL.alloc I I ?_
   intro b3
   refine HL.jm [2,3] I I ?_
   refine HA.one 8 (by kernel_rfl) I ?_
   repeat' (first|refine zn ?_|intro (bk:Nat))
   refine HL.jm [2,3] I I ?_
   refine HA.done (by kernel_rfl) ?_
   exact hj (b3,(a3,c3)) _ _ trivial ⟨I,I,I,trivial⟩ (Ent.pick [0,1,3,2] I I)
  ·refine HL.alloc I I ?_
   intro b3
   refine HL.jm [1,2] I I ?_
   refine HA.one 5 (by kernel_rfl) I ?_
   refine HL.kX 0 xs.length JV I I I I I I (Nat.zero_le _) (show 232*xs.length≤_ by omega) (by omega) ?_
   intro v3
   refine HL.shape 0 I fun a3 c3 hv=>?_
   subst hv
   refine HL.jm [2,3] I I ?_
   refine za 6 ?_
   refine HA.one 8 (by kernel_rfl) I ?_
   repeat' (first|refine zn ?_|intro (bk:Nat))
   refine HL.jm [2,3] I I ?_
   refine HA.done (by kernel_rfl) ?_
   exact hj (b3,(a3,c3)) _ _ trivial ⟨I,I,I,trivial⟩ (Ent.pick [1,0,3,2] I I)
 rintro ⟨b3,y0⟩ _
 repeat' (first|refine zh ?_|refine HL.j4 (Rd.arg h.s) I I I ?_|intro (bk:Nat))
 refine HR.loop (ι:=Nat×SV×List (NV×Nd)×List Chunk) (fun x=>x.1≤xs.length∧nds x.2.2.1=(nds xs).take x.1∧∀y∈x.2.2.1,Own y.1 x.2.2.2 y.2) (fun x=>[(2,ptr b2),(3,ptr b3),(14,sv (av,cv) xs.length),(15,.int .i64 (xs.length:Int)),(16,.int .i64 (x.1:Int))]) (fun x=>[meB b3 t (sv x.2.1 x.2.2.1.length),jU b2 meZ 26,cNd (sv x.2.1 x.2.2.1.length) x.2.2.1,jD x.2.2.2]) (fun x=>xs.length-x.1) (0,y0,[],[]) ⟨Nat.zero_le _,rfl,fun y hy=>(List.not_mem_nil hy).elim⟩ ⟨I,I,I,I,I,trivial⟩ (Ent.trans Ent.jKt (Ent.pick [1,4,2,0] I I)) ?_
 rintro ⟨k,y,ys,G⟩ ⟨hk,hys,hown⟩ ih
 have hk:k≤xs.length:=hk
 have hys:nds ys=(nds xs).take k:=hys
 have hown:∀z∈ys,Own z.1 G z.2:=hown
 have hyl:ys.length=k:=by rw[← JQ,hys,List.length_take,JQ];omega
 repeat' (first|refine zh ?_|intro (bk:Nat))
 refine HR.cond I (fun h2=>?_) (fun h2=>?_)
 rotate_left
 ·have hke:k=xs.length:=by have:¬(k:Int)<(xs.length:Int):=of_decide_eq_false h2;omega
  repeat' (first|refine zh ?_|intro (bk:Nat))
  refine HR.ret Tryz.func54 I [_] (fun w hw=>⟨⟨_,rfl,jP hw 1 I I I I rfl⟩,trivial⟩) ?_
  refine fun w' hw=>⟨(y,ys,G),rfl,⟨?_,hown⟩,hw.pick [2,3] I rfl⟩
  show nds ys=nds xs
  rw[hys,hke,← JQ,List.take_length]
 have hlt:k<xs.length:=by have:(k:Int)<(xs.length:Int):=of_decide_eq_true h2;omega
 obtain ⟨⟨V,n⟩,hx⟩:=jH hlt
 have hok:OkN w V n:=h.r _ (List.mem_of_getElem? hx)
 have hsn:SmN n:=hg _ (List.mem_of_getElem? hx)
 repeat' (first|refine zh ?_|refine HL.jw (Rd.arg h.s) JV k I I I I hlt ?_|refine HL.JB (Rd.arg h.s) I I I I (by simp) I (jF jZ hx) ?_|intro (bk:Nat))
 refine HR.Jm [(0,true),(1,true),(2,true),(3,false),(4,false),(5,false),(6,true)] 7 [0,1] I I JZ (by kernel_rfl) ?_
 repeat' (first|refine zd ?_|fail)
 refine HD.one I ?_
 refine HL.JD (r:=fun x:NV×List Chunk=> .agg ⟨ndC x.1 n⟩) (Q:=fun x=>Own x.1 x.2 n) (G:=fun x=>[jD x.2]) fn78 I I (fun w1 hw1=>jDY V n w1 (hok.ext hw1.jE) hsn) ?_
 rintro ⟨V2,G2⟩ hO
 have hO:Own V2 G2 n:=hO
 refine HL.back [1,2] I I ?_
 refine HD.one I ?_
 refine HL.jk JV I I I I I (by decide) (by decide) ?_
 intro va
 refine HL.back [2,3] I I ?_
 refine HD.one I ?_
 refine HL.zD 5 I JV (Rd.own 0 I) I I I I (jJ I) (by show (ys.length+1)*232≤_;omega) (by show ys.length+1≤_;omega) ?_
 intro vc
 refine HL.back [2,3] I I ?_
 repeat' (first|refine zd ?_|fail)
 refine HD.last I ?_
 refine HL.shape 5 I fun ac cc hv=>?_
 subst hv
 repeat' (first|refine zn ?_|intro (bk:Nat))
 repeat' (first|refine zh ?_|intro (bk:Nat))
 refine ih (k+1,(ac,cc),ys++[(V2,n)],[jD G2,jD G]) _ _ ⟨hlt,?_,?_⟩ (by show xs.length-(k+1)<xs.length-k;omega) ⟨I,I,I,I,I,trivial⟩ ?_
 ·show nds (ys++[(V2,n)])=(nds xs).take (k+1)
  rw[jG (kU hx),← hys];simp[nds]
 ·intro z hz
  have hz:z∈ys++[(V2,n)]:=hz
  rcases List.mem_append.1 hz with hz|hz
  ·exact fun w2 hg2=>hown z hz w2 (jS hg2 (by simp))
  ·rw [List.mem_singleton.1 hz];exact fun w2 hg2=>hO w2 (jS hg2 (by simp))
 ·show Ent _ _ [meB b3 t (sv (ac,cc) (ys++[(V2,n)]).length),jU b2 meZ 26,cNd (sv (ac,cc) (ys++[(V2,n)]).length) (ys++[(V2,n)]),jD [jD G2,jD G]]
  rw[jNL,show (ys++[(V2,n)]).length=ys.length+1 by simp]
  exact Ent.trans (Ent.pick (H':=[jD G2,jD G]++[meB b3 t (sv (ac,cc) (ys.length+1)),jU b2 meZ 26,jK (sv (ac,cc) (ys.length+1)) 62 13 (ys.length+1) (cellsOf zR ys++zR (V2,n))]) [1,6,3,4,5] I I) (Ent.trans Ent.group (Ent.pick [1,2,3,0] I I))
theorem jCC (t:Int) (v:Value) (xs:List (NV×Nd)) (i:Nat) (V:NV) (n:Nd) (w:World) (h:Sl w v (cellsOf zR xs) xs.length) (hi:i<xs.length) (hl:xs.length≤1000):
  Calls Tryz.prog 57 #[meV t v,.int .i64 (i:Int),.agg ⟨ndC V n⟩] w fun e w'=>∃x:SV,e= .returned (meV t (sv x xs.length))∧True∧Sat (base w) [jK (sv x xs.length) 62 13 xs.length (cellsOf zR (xs.set i (V,n)))] w':=by
 have cx:(cellsOf zR xs).length=xs.length*13:=jC jZ _
 obtain ⟨x,hx⟩:=jH hi
 obtain ⟨av,cv,rfl,_⟩:=h.2
 refine jB Tryz.func57 I (Nat.le_of_ble_eq_true I) ?_
 refine HR.sub (σ':=[(0,meV t (sv (av,cv) xs.length)),(1,.int .i64 (i:Int)),(2,.agg ⟨ndC V n⟩)]) ⟨I,I,I,trivial⟩ ?_
 refine HR.ctl I ?_
 refine HR.region ?_
 refine HL.box I I ?_
 intro b1
 refine HL.box I I ?_
 intro b5
 refine HL.alloc I I ?_
 intro b6
 repeat' (first|refine zh ?_|intro (bk:Nat))
 refine HR.join (ι:=Nat×SV) (fun _=>True) (fun x=>[(1,.int .i64 (i:Int)),(5,ptr b5),(6,ptr b6),(7,ptr x.1)]) (fun x=>[jK (sv x.2 xs.length) 62 13 xs.length (cellsOf zR xs),meB x.1 t (sv x.2 xs.length),jU b5 (ndC V n) 62,jU b6 meZ 26]) ?_ (fun hj=>?_)
 rotate_left
 ·refine HR.kM [0,1,2] I I JZ ?_
  refine za 0 ?_
  refine za 1 ?_
  refine za 3 ?_
  refine za 4 ?_
  refine HA.two 2 7 (by kernel_rfl) I I ?_ ?_
  ·refine HL.Jy JV I ?_
   intro v1
   refine HL.jm [1,2,3] I I ?_
   refine HA.two 5 7 (by kernel_rfl) I I ?_ ?_
   ·refine HL.zD 0 I JV (Rd.arg h) I I I cx (jT jBs _) (by omega) (by omega) ?_
    intro v2
    refine HL.ent (Ent.JM (Nat.zero_add _) (List.nil_append _)) ?_
    refine HL.shape 0 I fun a3 c3 hv=>?_
    subst hv
    refine HL.jm [1,2,3] I I ?_
    refine za 6 ?_
    refine HA.one 7 (by kernel_rfl) I ?_
    refine HL.alloc I I ?_
    intro b7
    refine HL.jm [2,3,4] I I ?_
    refine HA.one 8 (by kernel_rfl) I ?_
    repeat' (first|refine zn ?_|intro (bk:Nat))
    refine HL.jm [2,3,4] I I ?_
    refine HA.done (by kernel_rfl) ?_
    exact hj (b7,(a3,c3)) _ _ trivial ⟨I,I,I,I,trivial⟩ (Ent.pick [1,0,3,2] I I)
   ·refine HL.alloc I I ?_
    intro b7
    refine HL.jm [2,3,4] I I ?_
    refine HA.one 5 (by kernel_rfl) I ?_
    refine HL.zD 1 I JV (Rd.arg h) I I I cx (jT jBs _) (by omega) (by omega) ?_
    intro v2
    refine HL.ent (Ent.trans (Ent.pick [1,0,2,3,4] I I) (Ent.JM (Nat.zero_add _) (List.nil_append _))) ?_
    refine HL.shape 0 I fun a3 c3 hv=>?_
    subst hv
    refine HL.jm [2,3,4] I I ?_
    refine za 6 ?_
    refine HA.one 8 (by kernel_rfl) I ?_
    repeat' (first|refine zn ?_|intro (bk:Nat))
    refine HL.jm [2,3,4] I I ?_
    refine HA.done (by kernel_rfl) ?_
    exact hj (b7,(a3,c3)) _ _ trivial ⟨I,I,I,I,trivial⟩ (Ent.pick [0,1,3,2] I I)
  ·refine HL.alloc I I ?_
   intro b7
   refine HL.jm [1,2,3] I I ?_
   refine HA.one 2 (by kernel_rfl) I ?_
   refine HL.Jy JV I ?_
   intro v1
   refine HL.jm [2,3,4] I I ?_
   refine HA.one 5 (by kernel_rfl) I ?_
   refine HL.zD 0 I JV (Rd.arg h) I I I cx (jT jBs _) (by omega) (by omega) ?_
   intro v2
   refine HL.ent (Ent.JM (Nat.zero_add _) (List.nil_append _)) ?_
   refine HL.shape 0 I fun a3 c3 hv=>?_
   subst hv
   refine HL.jm [2,3,4] I I ?_
   refine za 6 ?_
   refine HA.one 8 (by kernel_rfl) I ?_
   repeat' (first|refine zn ?_|intro (bk:Nat))
   refine HL.jm [2,3,4] I I ?_
   refine HA.done (by kernel_rfl) ?_
   exact hj (b7,(a3,c3)) _ _ trivial ⟨I,I,I,I,trivial⟩ (Ent.pick [0,1,3,2] I I)
 rintro ⟨b7,y⟩ _
 repeat' (first|refine zh ?_|refine HL.jw (Rd.own 0 I) JV i I I I I hi ?_|refine HL.zH (us:=ndC V n) (j:=i*13) 0 I I I I I I I (by rw[cx];show i*13+13≤_;omega) (by simp) ?_|intro (bk:Nat))
 refine HR.ret Tryz.func57 I [_] (fun w hw=>⟨⟨_,rfl,jP hw 3 I I I I rfl⟩,trivial⟩) ?_
 refine fun w' hw=>⟨y,rfl,trivial,Ent.JM I ?_ w' (hw.pick [0] I rfl)⟩
 exact Jb (i:=0) jZ hx I (show 0+13≤13 by decide)
end Go.Proofs.YtgfdoognildoeaaGreat
namespace Go.Proofs.YtgfdoognildoeaaGreat
open Go.GX Go.RowKit
attribute [local irreducible] Calls Run jg jh JU HR HL HD jU jK Jc Rd jL jd
theorem jS0:Elem Tryz.prog 32 206 2 16:=⟨rfl,⟨_,_,rfl,rfl,rfl,rfl,rfl⟩,by decide⟩
theorem jPU:KeyK Tryz.prog 3 (fun z:Int=>Value.int .i64 z):=jQs I
theorem fn258:IsFn Tryz.prog 258:=⟨⟨_,_,Tryz.func258,rfl,by decide⟩⟩
theorem jSc:IsFn Tryz.prog 202:=⟨⟨_,_,Tryz.func202,rfl,by decide⟩⟩
theorem jPe:IsFn Tryz.prog 203:=⟨⟨_,_,Tryz.func203,rfl,by decide⟩⟩
theorem fn147:IsFn Tryz.prog 147:=⟨⟨_,_,Tryz.func147,rfl,by decide⟩⟩
theorem jPG (n:Int) (w:World):Calls Tryz.prog 258 #[.int .i64 n] w fun e w'=>e= .returned (.bool (Tp.okN n))∧Below w.heap.size w w':=by
 refine jB Tryz.func258 I (Nat.le_of_ble_eq_true I) ?_
 refine HR.sub (σ':=[(0,.int .i64 n)]) ⟨I,trivial⟩ ?_
 repeat' (first|(refine HL.J4 ?_;first|refine HL.ev I I ?_|refine HL.evc I I (by first|omega|(simp;done)|(simp;omega)) ?_|(refine HL.isLoad ?_;first|refine HL.L 0 I I I I ?_|refine HL.L 1 I I I I ?_|refine HL.L 2 I I I I ?_|refine HL.L 3 I I I I ?_)|(refine HL.jQ ?_;first|refine HL.S 0 I I I I I ?_|refine HL.S 1 I I I I I ?_|refine HL.S 2 I I I I I ?_|refine HL.S 3 I I I I I ?_)|refine HL.build I I ?_|refine HL.field I I ?_|(refine HL.box I I ?_;intro bk)|(refine HL.alloc I I ?_;intro bk)|refine HL.skip rfl rfl ?_|refine HL.j5 rfl ?_|apply HL.zZ rfl rfl rfl rfl rfl rfl rfl rfl|apply HL.orB rfl rfl rfl rfl rfl rfl rfl rfl)|refine HL.nil ?_|refine HR.ctl rfl ?_|refine HR.region ?_|refine HR.JA rfl ?_|refine HR.jy rfl ?_|exact HL.jc rfl rfl Ent.refl|(refine fun (hb:(_:Bool)=_)=>?_;try simp at hb))
 refine HR.ret Tryz.func258 I [_] (fun _ _=>⟨I,trivial⟩) ?_
 exact fun w' hw=>⟨rfl,hw.jE⟩
theorem jEt (e:Ed) (w:World):Calls Tryz.prog 202 #[.agg ⟨edC e⟩] w fun e' w'=>e'= .returned (.bool (Tp.okE e))∧Below w.heap.size w w':=by
 refine jB Tryz.func202 I (Nat.le_of_ble_eq_true I) ?_
 refine HR.sub (σ':=[(0,.agg ⟨edC e⟩)]) ⟨I,trivial⟩ ?_
 repeat' (first|(refine HL.J4 ?_;first|refine HL.ev I I ?_|refine HL.evc I I (by first|omega|(simp;done)|(simp;omega)) ?_|refine HL.jN fn258 I I (fun w _=>jPG _ w) ?_|(refine HL.isLoad ?_;first|refine HL.L 0 I I I I ?_|refine HL.L 1 I I I I ?_|refine HL.L 2 I I I I ?_|refine HL.L 3 I I I I ?_)|(refine HL.jQ ?_;first|refine HL.S 0 I I I I I ?_|refine HL.S 1 I I I I I ?_|refine HL.S 2 I I I I I ?_|refine HL.S 3 I I I I I ?_)|refine HL.build I I ?_|refine HL.field I I ?_|(refine HL.box I I ?_;intro bk)|(refine HL.alloc I I ?_;intro bk)|refine HL.skip rfl rfl ?_|refine HL.j5 rfl ?_|apply HL.zZ rfl rfl rfl rfl rfl rfl rfl rfl|apply HL.orB rfl rfl rfl rfl rfl rfl rfl rfl)|refine HL.nil ?_|refine HR.ctl rfl ?_|refine HR.region ?_|refine HR.JA rfl ?_|refine HR.jy rfl ?_|exact HL.jc rfl rfl Ent.refl|(refine fun (hb:(_:Bool)=_)=>?_;try simp at hb))
 refine HR.ret Tryz.func202 I [_] (fun _ _=>⟨I,trivial⟩) ?_
 exact fun w' hw=>⟨rfl,hw.jE⟩
theorem jBv (e:Ed) (w:World):Calls Tryz.prog 203 #[.agg ⟨edC e⟩] w fun e' w'=>e'= .returned (.agg ⟨edC (Tp.link e)⟩)∧Below w.heap.size w w':=by
 refine jB Tryz.func203 I (Nat.le_of_ble_eq_true I) ?_
 refine HR.sub (σ':=[(0,.agg ⟨edC e⟩)]) ⟨I,trivial⟩ ?_
 repeat' (first|(refine HL.J4 ?_;first|refine HL.ev I I ?_|refine HL.evc I I (by first|omega|(simp;done)|(simp;omega)) ?_|(refine HL.isLoad ?_;first|refine HL.L 0 I I I I ?_|refine HL.L 1 I I I I ?_|refine HL.L 2 I I I I ?_|refine HL.L 3 I I I I ?_)|(refine HL.jQ ?_;first|refine HL.S 0 I I I I I ?_|refine HL.S 1 I I I I I ?_|refine HL.S 2 I I I I I ?_|refine HL.S 3 I I I I I ?_)|refine HL.build I I ?_|refine HL.field I I ?_|(refine HL.box I I ?_;intro bk)|(refine HL.alloc I I ?_;intro bk)|refine HL.skip rfl rfl ?_|refine HL.j5 rfl ?_|apply HL.zZ rfl rfl rfl rfl rfl rfl rfl rfl|apply HL.orB rfl rfl rfl rfl rfl rfl rfl rfl)|refine HL.nil ?_|refine HR.ctl rfl ?_|refine HR.region ?_|refine HR.JA rfl ?_|refine HR.jy rfl ?_|exact HL.jc rfl rfl Ent.refl|(refine fun (hb:(_:Bool)=_)=>?_;try simp at hb))
 refine HR.ret Tryz.func203 I [_] (fun w hw=>⟨⟨_,rfl,jP hw 0 I I I I rfl⟩,trivial⟩) ?_
 exact fun w' hw=>⟨rfl,hw.jE⟩
end Go.Proofs.YtgfdoognildoeaaGreat
namespace Go.Proofs.YtgfdoognildoeaaGreat
open Go.GX Go.RowKit
attribute [local irreducible] Calls Run jg jh JU HR HL HD jU jK Jc Rd jL jd
theorem keyE:KeyK Tryz.prog 206 (fun e:Ed=>Value.agg ⟨edC e⟩):=by
 refine jKK I (fun a b w=>?_) (fun e k w=>?_) (fun k w=>?_) (fun a b h=>?_)
 ·rw [Kj (xs:=edC a) (ys:=edC b) (by kernel_rfl) I w]
  congr 1
  obtain ⟨a1,a2⟩:=a
  obtain ⟨b1,b2⟩:=b
  rw[Bool.eq_iff_iff]
  simp
 ·exact jCh (fl:=_) I I e 9998 w
 ·exact jGU (by intro v hv;simp[edC]at hv;rcases hv with rfl|rfl<;>simp[Instr.sameBits]) w
 ·obtain ⟨a1,a2⟩:=a
  obtain ⟨b1,b2⟩:=b
  simpa[edC]using h
theorem jNK (l:List Ed) (vl:Value) (w:World) (hl:Sl w vl (cellsOf edC l) l.length) (hll:l.length≤1000000):
  Calls Tryz.prog 147 #[vl] w fun e' w'=>e'= .returned (.int .i64 (Tp.check l))∧Below w.heap.size w w':=by
 refine jB Tryz.func147 I (Nat.le_of_ble_eq_true I) ?_
 refine HR.sub (σ':=[(0,vl)]) ⟨I,trivial⟩ ?_
 repeat' (first|(refine HL.J4 ?_;first|refine HL.ev I I ?_|refine HL.evc I I (by first|omega|(simp;done)|(simp;omega)) ?_|refine HL.j4 (Rd.arg hl) I I I ?_|(refine HL.isLoad ?_;first|refine HL.L 0 I I I I ?_|refine HL.L 1 I I I I ?_|refine HL.L 2 I I I I ?_|refine HL.L 3 I I I I ?_)|(refine HL.jQ ?_;first|refine HL.S 0 I I I I I ?_|refine HL.S 1 I I I I I ?_|refine HL.S 2 I I I I I ?_|refine HL.S 3 I I I I I ?_)|refine HL.build I I ?_|refine HL.field I I ?_|(refine HL.box I I ?_;intro bk)|(refine HL.alloc I I ?_;intro bk)|refine HL.skip rfl rfl ?_|refine HL.j5 rfl ?_|apply HL.zZ rfl rfl rfl rfl rfl rfl rfl rfl|apply HL.orB rfl rfl rfl rfl rfl rfl rfl rfl)|refine HL.nil ?_|refine HR.ctl rfl ?_|refine HR.region ?_|refine HR.JA rfl ?_|refine HR.jy rfl ?_|exact HL.jc rfl rfl Ent.refl|(refine fun (hb:(_:Bool)=_)=>?_;try simp at hb))
 refine HR.cond I (fun h1=>?_) (fun h1=>?_)
 ·repeat' (first|(refine HL.J4 ?_;first|refine HL.ev I I ?_|refine HL.evc I I (by first|omega|(simp;done)|(simp;omega)) ?_|(refine HL.isLoad ?_;first|refine HL.L 0 I I I I ?_|refine HL.L 1 I I I I ?_|refine HL.L 2 I I I I ?_|refine HL.L 3 I I I I ?_)|(refine HL.jQ ?_;first|refine HL.S 0 I I I I I ?_|refine HL.S 1 I I I I I ?_|refine HL.S 2 I I I I I ?_|refine HL.S 3 I I I I I ?_)|refine HL.build I I ?_|refine HL.field I I ?_|(refine HL.box I I ?_;intro bk)|(refine HL.alloc I I ?_;intro bk)|refine HL.skip rfl rfl ?_|refine HL.j5 rfl ?_|apply HL.zZ rfl rfl rfl rfl rfl rfl rfl rfl|apply HL.orB rfl rfl rfl rfl rfl rfl rfl rfl)|refine HL.nil ?_|refine HR.ctl rfl ?_|refine HR.region ?_|refine HR.JA rfl ?_|refine HR.jy rfl ?_|exact HL.jc rfl rfl Ent.refl|(refine fun (hb:(_:Bool)=_)=>?_;try simp at hb))
  refine HR.ret Tryz.func147 I [_] (fun _ _=>⟨I,trivial⟩) ?_
  have:l.length>256:=by have:=of_decide_eq_true h1;omega
  exact fun w' hw=>⟨by simp[Tp.check,this,Zv],hw.jE⟩
 have hl6:¬l.length>256:=by have:=of_decide_eq_false h1;omega
 have hck:Tp.check l=Tp.chk (l.take 0) (l.drop 0):=by simp[Tp.check,hl6]
 repeat' (first|(refine HL.J4 ?_;first|refine HL.ev I I ?_|refine HL.evc I I (by first|omega|(simp;done)|(simp;omega)) ?_|refine HL.jMU (fun e:Ed=>Value.agg ⟨edC e⟩) I ?_|(refine HL.isLoad ?_;first|refine HL.L 0 I I I I ?_|refine HL.L 1 I I I I ?_|refine HL.L 2 I I I I ?_|refine HL.L 3 I I I I ?_)|(refine HL.jQ ?_;first|refine HL.S 0 I I I I I ?_|refine HL.S 1 I I I I I ?_|refine HL.S 2 I I I I I ?_|refine HL.S 3 I I I I I ?_)|refine HL.build I I ?_|refine HL.field I I ?_|(refine HL.box I I ?_;intro bk)|(refine HL.alloc I I ?_;intro bk)|refine HL.skip rfl rfl ?_|refine HL.j5 rfl ?_|apply HL.zZ rfl rfl rfl rfl rfl rfl rfl rfl|apply HL.orB rfl rfl rfl rfl rfl rfl rfl rfl)|refine HL.nil ?_|refine HR.ctl rfl ?_|refine HR.region ?_|refine HR.JA rfl ?_|refine HR.jy rfl ?_|exact HL.jc rfl rfl Ent.refl|(refine fun (hb:(_:Bool)=_)=>?_;try simp at hb))
 intro b
 repeat' (first|(refine HL.J4 ?_;first|refine HL.ev I I ?_|refine HL.evc I I (by first|omega|(simp;done)|(simp;omega)) ?_|refine HL.j4 (Rd.arg hl) I I I ?_|(refine HL.isLoad ?_;first|refine HL.L 0 I I I I ?_|refine HL.L 1 I I I I ?_|refine HL.L 2 I I I I ?_|refine HL.L 3 I I I I ?_)|(refine HL.jQ ?_;first|refine HL.S 0 I I I I I ?_|refine HL.S 1 I I I I I ?_|refine HL.S 2 I I I I I ?_|refine HL.S 3 I I I I I ?_)|refine HL.build I I ?_|refine HL.field I I ?_|(refine HL.box I I ?_;intro bk)|(refine HL.alloc I I ?_;intro bk)|refine HL.skip rfl rfl ?_|refine HL.j5 rfl ?_|apply HL.zZ rfl rfl rfl rfl rfl rfl rfl rfl|apply HL.orB rfl rfl rfl rfl rfl rfl rfl rfl)|refine HL.nil ?_|refine HR.ctl rfl ?_|refine HR.region ?_|refine HR.JA rfl ?_|refine HR.jy rfl ?_|exact HL.jc rfl rfl Ent.refl|(refine fun (hb:(_:Bool)=_)=>?_;try simp at hb))
 refine HR.Kc (α:=Nat) (β:=List (Ed×Value)) (fun k m=>k≤l.length∧Tp.check l=Tp.chk (l.take k) (l.drop k)∧∀z,(getM z m).getD (.bool false)= .bool (decide (z∈(l.take k).map Tp.link))) (fun k m=>[(3,.map (some b)),(10,vl),(11,.int .i64 (l.length:Int)),(12,.int .i64 (k:Int))]) (fun k m=>[Jc (fun e:Ed=>Value.agg ⟨edC e⟩) b m]) (fun k m=>l.length-k) 0 [] ⟨Nat.zero_le _,hck,fun z=>by simp[getM]⟩ ⟨I,I,I,I,trivial⟩ Ent.refl ?_
 rintro k m ⟨hk,hc,hg⟩ ih
 repeat' (first|(refine HL.J4 ?_;first|refine HL.ev I I ?_|refine HL.evc I I (by first|omega|(simp;done)|(simp;omega)) ?_|(refine HL.isLoad ?_;first|refine HL.L 0 I I I I ?_|refine HL.L 1 I I I I ?_|refine HL.L 2 I I I I ?_|refine HL.L 3 I I I I ?_)|(refine HL.jQ ?_;first|refine HL.S 0 I I I I I ?_|refine HL.S 1 I I I I I ?_|refine HL.S 2 I I I I I ?_|refine HL.S 3 I I I I I ?_)|refine HL.build I I ?_|refine HL.field I I ?_|(refine HL.box I I ?_;intro bk)|(refine HL.alloc I I ?_;intro bk)|refine HL.skip rfl rfl ?_|refine HL.j5 rfl ?_|apply HL.zZ rfl rfl rfl rfl rfl rfl rfl rfl|apply HL.orB rfl rfl rfl rfl rfl rfl rfl rfl)|refine HL.nil ?_|refine HR.ctl rfl ?_|refine HR.region ?_|refine HR.JA rfl ?_|refine HR.jy rfl ?_|exact HL.jc rfl rfl Ent.refl|(refine fun (hb:(_:Bool)=_)=>?_;try simp at hb))
 refine HR.cond I (fun h2=>?_) (fun h2=>?_)
 ·have hlt:k<l.length:=by have:=of_decide_eq_true h2;omega
  obtain ⟨e,he⟩:=jH hlt
  repeat' (first|(refine HL.J4 ?_;first|refine HL.ev I I ?_|refine HL.evc I I (by first|omega|(simp;done)|(simp;omega)) ?_|refine HL.jw (Rd.arg hl) jS0 k I I I I hlt ?_|refine HL.JB (Rd.arg hl) I I I I (by simp[edC]) I (jF jHS he) ?_|refine HL.jN jSc I I (fun w _=>jEt e w) ?_|(refine HL.isLoad ?_;first|refine HL.L 0 I I I I ?_|refine HL.L 1 I I I I ?_|refine HL.L 2 I I I I ?_|refine HL.L 3 I I I I ?_)|(refine HL.jQ ?_;first|refine HL.S 0 I I I I I ?_|refine HL.S 1 I I I I I ?_|refine HL.S 2 I I I I I ?_|refine HL.S 3 I I I I I ?_)|refine HL.build I I ?_|refine HL.field I I ?_|(refine HL.box I I ?_;intro bk)|(refine HL.alloc I I ?_;intro bk)|refine HL.skip rfl rfl ?_|refine HL.j5 rfl ?_|apply HL.zZ rfl rfl rfl rfl rfl rfl rfl rfl|apply HL.orB rfl rfl rfl rfl rfl rfl rfl rfl)|refine HL.nil ?_|refine HR.ctl rfl ?_|refine HR.region ?_|refine HR.JA rfl ?_|refine HR.jy rfl ?_|exact HL.jc rfl rfl Ent.refl|(refine fun (hb:(_:Bool)=_)=>?_;try simp at hb))
  refine HR.cond I (fun h3=>?_) (fun h3=>?_)
  ·repeat' (first|(refine HL.J4 ?_;first|refine HL.ev I I ?_|refine HL.evc I I (by first|omega|(simp;done)|(simp;omega)) ?_|(refine HL.isLoad ?_;first|refine HL.L 0 I I I I ?_|refine HL.L 1 I I I I ?_|refine HL.L 2 I I I I ?_|refine HL.L 3 I I I I ?_)|(refine HL.jQ ?_;first|refine HL.S 0 I I I I I ?_|refine HL.S 1 I I I I I ?_|refine HL.S 2 I I I I I ?_|refine HL.S 3 I I I I I ?_)|refine HL.build I I ?_|refine HL.field I I ?_|(refine HL.box I I ?_;intro bk)|(refine HL.alloc I I ?_;intro bk)|refine HL.skip rfl rfl ?_|refine HL.j5 rfl ?_|apply HL.zZ rfl rfl rfl rfl rfl rfl rfl rfl|apply HL.orB rfl rfl rfl rfl rfl rfl rfl rfl)|refine HL.nil ?_|refine HR.ctl rfl ?_|refine HR.region ?_|refine HR.JA rfl ?_|refine HR.jy rfl ?_|exact HL.jc rfl rfl Ent.refl|(refine fun (hb:(_:Bool)=_)=>?_;try simp at hb))
   refine HR.ret Tryz.func147 I [_] (fun _ _=>⟨I,trivial⟩) ?_
   exact fun w' hw=>⟨by rw[hc,Tp.jRX he (by simpa using h3)];rfl,hw.jE⟩
  have hok:Tp.okE e=true:=by simpa using h3
  repeat' (first|(refine HL.J4 ?_;first|refine HL.ev I I ?_|refine HL.evc I I (by first|omega|(simp;done)|(simp;omega)) ?_|refine HL.jN jPe I I (fun w _=>jBv e w) ?_|refine HL.jHE 1 I keyE I I I I I (hg _) ?_|(refine HL.isLoad ?_;first|refine HL.L 0 I I I I ?_|refine HL.L 1 I I I I ?_|refine HL.L 2 I I I I ?_|refine HL.L 3 I I I I ?_)|(refine HL.jQ ?_;first|refine HL.S 0 I I I I I ?_|refine HL.S 1 I I I I I ?_|refine HL.S 2 I I I I I ?_|refine HL.S 3 I I I I I ?_)|refine HL.build I I ?_|refine HL.field I I ?_|(refine HL.box I I ?_;intro bk)|(refine HL.alloc I I ?_;intro bk)|refine HL.skip rfl rfl ?_|refine HL.j5 rfl ?_|apply HL.zZ rfl rfl rfl rfl rfl rfl rfl rfl|apply HL.orB rfl rfl rfl rfl rfl rfl rfl rfl)|refine HL.nil ?_|refine HR.ctl rfl ?_|refine HR.region ?_|refine HR.JA rfl ?_|refine HR.jy rfl ?_|exact HL.jc rfl rfl Ent.refl|(refine fun (hb:(_:Bool)=_)=>?_;try simp at hb))
  refine HR.cond I (fun h4=>?_) (fun h4=>?_)
  ·repeat' (first|(refine HL.J4 ?_;first|refine HL.ev I I ?_|refine HL.evc I I (by first|omega|(simp;done)|(simp;omega)) ?_|(refine HL.isLoad ?_;first|refine HL.L 0 I I I I ?_|refine HL.L 1 I I I I ?_|refine HL.L 2 I I I I ?_|refine HL.L 3 I I I I ?_)|(refine HL.jQ ?_;first|refine HL.S 0 I I I I I ?_|refine HL.S 1 I I I I I ?_|refine HL.S 2 I I I I I ?_|refine HL.S 3 I I I I I ?_)|refine HL.build I I ?_|refine HL.field I I ?_|(refine HL.box I I ?_;intro bk)|(refine HL.alloc I I ?_;intro bk)|refine HL.skip rfl rfl ?_|refine HL.j5 rfl ?_|apply HL.zZ rfl rfl rfl rfl rfl rfl rfl rfl|apply HL.orB rfl rfl rfl rfl rfl rfl rfl rfl)|refine HL.nil ?_|refine HR.ctl rfl ?_|refine HR.region ?_|refine HR.JA rfl ?_|refine HR.jy rfl ?_|exact HL.jc rfl rfl Ent.refl|(refine fun (hb:(_:Bool)=_)=>?_;try simp at hb))
   refine HR.ret Tryz.func147 I [_] (fun _ _=>⟨I,trivial⟩) ?_
   exact fun w' hw=>⟨by rw[hc,Tp.jRW he hok (of_decide_eq_true h4)];rfl,hw.jE⟩
  repeat' (first|(refine HL.J4 ?_;first|refine HL.ev I I ?_|refine HL.evc I I (by first|omega|(simp;done)|(simp;omega)) ?_|refine HL.jN jPe I I (fun w _=>jBv e w) ?_|refine HL.jRf 1 I keyE I I I I I ?_|(refine HL.isLoad ?_;first|refine HL.L 0 I I I I ?_|refine HL.L 1 I I I I ?_|refine HL.L 2 I I I I ?_|refine HL.L 3 I I I I ?_)|(refine HL.jQ ?_;first|refine HL.S 0 I I I I I ?_|refine HL.S 1 I I I I I ?_|refine HL.S 2 I I I I I ?_|refine HL.S 3 I I I I I ?_)|refine HL.build I I ?_|refine HL.field I I ?_|(refine HL.box I I ?_;intro bk)|(refine HL.alloc I I ?_;intro bk)|refine HL.skip rfl rfl ?_|refine HL.j5 rfl ?_|apply HL.zZ rfl rfl rfl rfl rfl rfl rfl rfl|apply HL.orB rfl rfl rfl rfl rfl rfl rfl rfl)|refine HL.nil ?_|refine HR.ctl rfl ?_|refine HR.region ?_|refine HR.JA rfl ?_|refine HR.jy rfl ?_|exact HL.jc rfl rfl Ent.refl|(refine fun (hb:(_:Bool)=_)=>?_;try simp at hb))
  refine ih (k+1) _ _ _ ⟨hlt,?_,fun z=>?_⟩ (by omega) ⟨I,I,I,I,trivial⟩ (Ent.pick [1] I I)
  ·rw [hc,Tp.jS3 he hok (of_decide_eq_false h4)]
  ·rw [zk,jG he]
   by_cases hz:z=Tp.link e
   ·simp [hz]
   ·rw [if_neg hz,hg]
    simp[hz]
 ·have hke:k=l.length:=by have:=of_decide_eq_false h2;omega
  subst hke
  repeat' (first|(refine HL.J4 ?_;first|refine HL.ev I I ?_|refine HL.evc I I (by first|omega|(simp;done)|(simp;omega)) ?_|(refine HL.isLoad ?_;first|refine HL.L 0 I I I I ?_|refine HL.L 1 I I I I ?_|refine HL.L 2 I I I I ?_|refine HL.L 3 I I I I ?_)|(refine HL.jQ ?_;first|refine HL.S 0 I I I I I ?_|refine HL.S 1 I I I I I ?_|refine HL.S 2 I I I I I ?_|refine HL.S 3 I I I I I ?_)|refine HL.build I I ?_|refine HL.field I I ?_|(refine HL.box I I ?_;intro bk)|(refine HL.alloc I I ?_;intro bk)|refine HL.skip rfl rfl ?_|refine HL.j5 rfl ?_|apply HL.zZ rfl rfl rfl rfl rfl rfl rfl rfl|apply HL.orB rfl rfl rfl rfl rfl rfl rfl rfl)|refine HL.nil ?_|refine HR.ctl rfl ?_|refine HR.region ?_|refine HR.JA rfl ?_|refine HR.jy rfl ?_|exact HL.jc rfl rfl Ent.refl|(refine fun (hb:(_:Bool)=_)=>?_;try simp at hb))
  refine HR.ret Tryz.func147 I [_] (fun _ _=>⟨I,trivial⟩) ?_
  exact fun w' hw=>⟨by rw[hc];simp[Tp.chk,Zv],hw.jE⟩
end Go.Proofs.YtgfdoognildoeaaGreat
namespace Go.GX
def jGZ (l:List Int):List Int:=l.mergeSort fun x y=>decide (x≤y)
theorem jDD (l:List Int):(jGZ l).Perm l:=List.mergeSort_perm _ _
theorem jEx (l:List Int):(jGZ l).Pairwise (·≤·):=by
 have:=List.pairwise_mergeSort (le:=fun x y:Int=>decide (x≤y)) (by intro a b c h1 h2;simp at *;omega) (by intro a b;simp;omega) l
 exact this.imp fun h=>by simpa using h
theorem jLE (l:List Int):(jGZ l).length=l.length:=(jDD l).length_eq
theorem jEy:jGZ []=[]:=by simp[jGZ]
namespace Tp
theorem Adj.sorted {l:List Ed} {adj:Int→List Int} (h:Adj l adj) (n:Int):jGZ (adj n)=jAY l n:=
 jGY (jDD _) (jEx _) (h.nodup n) (jG8 l n) fun x=>by rw[h.mem,jPN]
end Tp
end Go.GX
namespace Go.Proofs.YtgfdoognildoeaaGreat
open Go.GX Go.RowKit
attribute [local irreducible] Calls Run jg jh JU HR HL HD jU jK Jc Rd jL jd
theorem fn161:IsFn Tryz.prog 161:=⟨⟨_,_,Tryz.func161,rfl,by decide⟩⟩
abbrev encI:Int→Value:=fun z=>Value.int .i64 z
abbrev jSy:Ed→Value:=fun e=>Value.agg ⟨edC e⟩
theorem jMz (l:List Ed) (vl:Value) (w:World) (hl:Sl w vl (cellsOf edC l) l.length) (hll:l.length≤1000):
  Calls Tryz.prog 161 #[vl] w fun e w'=>∃x:Nat×List (Int×Value),e= .returned (.map (some x.1))∧(∀ n,getM n x.2=none→Tp.jAY l n=[])∧Sat (base w) [jL 3 x.2 (Tp.jAY l),Jc encI x.1 x.2] w':=by
 refine jB Tryz.func161 I (Nat.le_of_ble_eq_true I) ?_
 refine HR.sub (σ':=[(0,vl)]) ⟨I,trivial⟩ ?_
 repeat' (first|(refine HL.J4 ?_;first|refine HL.ev I I ?_|refine HL.evc I I (by first|omega|(simp;done)|(simp;omega)) ?_|refine HL.jMU encI I ?_|(refine HL.isLoad ?_;first|refine HL.L 0 I I I I ?_|refine HL.L 1 I I I I ?_|refine HL.L 2 I I I I ?_|refine HL.L 3 I I I I ?_)|(refine HL.jQ ?_;first|refine HL.S 0 I I I I I ?_|refine HL.S 1 I I I I I ?_|refine HL.S 2 I I I I I ?_|refine HL.S 3 I I I I I ?_)|refine HL.build I I ?_|refine HL.field I I ?_|(refine HL.box I I ?_;intro bk)|(refine HL.alloc I I ?_;intro bk)|refine HL.skip rfl rfl ?_|refine HL.j5 rfl ?_|apply HL.zZ rfl rfl rfl rfl rfl rfl rfl rfl|apply HL.orB rfl rfl rfl rfl rfl rfl rfl rfl)|refine HL.nil ?_|refine HR.ctl rfl ?_|refine HR.region ?_|refine HR.JA rfl ?_|refine HR.jy rfl ?_|exact HL.jc rfl rfl Ent.refl|(refine fun (hb:(_:Bool)=_)=>?_;try simp at hb))
 intro b
 repeat' (first|(refine HL.J4 ?_;first|refine HL.ev I I ?_|refine HL.evc I I (by first|omega|(simp;done)|(simp;omega)) ?_|refine HL.jMU jSy I ?_|(refine HL.isLoad ?_;first|refine HL.L 0 I I I I ?_|refine HL.L 1 I I I I ?_|refine HL.L 2 I I I I ?_|refine HL.L 3 I I I I ?_)|(refine HL.jQ ?_;first|refine HL.S 0 I I I I I ?_|refine HL.S 1 I I I I I ?_|refine HL.S 2 I I I I I ?_|refine HL.S 3 I I I I I ?_)|refine HL.build I I ?_|refine HL.field I I ?_|(refine HL.box I I ?_;intro bk)|(refine HL.alloc I I ?_;intro bk)|refine HL.skip rfl rfl ?_|refine HL.j5 rfl ?_|apply HL.zZ rfl rfl rfl rfl rfl rfl rfl rfl|apply HL.orB rfl rfl rfl rfl rfl rfl rfl rfl)|refine HL.nil ?_|refine HR.ctl rfl ?_|refine HR.region ?_|refine HR.JA rfl ?_|refine HR.jy rfl ?_|exact HL.jc rfl rfl Ent.refl|(refine fun (hb:(_:Bool)=_)=>?_;try simp at hb))
 intro bs
 repeat' (first|(refine HL.J4 ?_;first|refine HL.ev I I ?_|refine HL.evc I I (by first|omega|(simp;done)|(simp;omega)) ?_|refine HL.j4 (Rd.arg hl) I I I ?_|(refine HL.isLoad ?_;first|refine HL.L 0 I I I I ?_|refine HL.L 1 I I I I ?_|refine HL.L 2 I I I I ?_|refine HL.L 3 I I I I ?_)|(refine HL.jQ ?_;first|refine HL.S 0 I I I I I ?_|refine HL.S 1 I I I I I ?_|refine HL.S 2 I I I I I ?_|refine HL.S 3 I I I I I ?_)|refine HL.build I I ?_|refine HL.field I I ?_|(refine HL.box I I ?_;intro bk)|(refine HL.alloc I I ?_;intro bk)|refine HL.skip rfl rfl ?_|refine HL.j5 rfl ?_|apply HL.zZ rfl rfl rfl rfl rfl rfl rfl rfl|apply HL.orB rfl rfl rfl rfl rfl rfl rfl rfl)|refine HL.nil ?_|refine HR.ctl rfl ?_|refine HR.region ?_|refine HR.JA rfl ?_|refine HR.jy rfl ?_|exact HL.jc rfl rfl Ent.refl|(refine fun (hb:(_:Bool)=_)=>?_;try simp at hb))
 refine HR.loop4 (α:=Nat) (β:=List (Int×Value)) (γ:=Int→List Int) (δ:=List (Ed×Value))
  (fun k m adj sm=>k≤l.length∧zw m∧Tp.Adj (l.take k) adj∧(∀ n,getM n m=none→adj n=[])∧∀z,(getM z sm).getD (.bool false)= .bool (decide (∃ e∈l.take k,Tp.okE e=true∧Tp.link e=z)))
  (fun k m adj sm=>[(3,.map (some b)),(4,.map (some bs)),(11,vl),(12,.int .i64 (l.length:Int)),(13,.int .i64 (k:Int))])
  (fun k m adj sm=>[jL 3 m adj,Jc encI b m,Jc jSy bs sm]) (fun k m adj sm=>l.length-k) 0 [] (fun _=>[]) [] ⟨Nat.zero_le _,List.nodup_nil,Tp.Adj.nil,fun _ _=>rfl,fun z=>by simp[getM]⟩ ⟨I,I,I,I,I,trivial⟩ ?_ ?_
 ·exact Ent.trans (Ent.pick [1,0] I I) Ent.jSz
 rintro k m adj sm ⟨hk,hnd,hadj,hnil,hsm⟩ ih
 repeat' (first|(refine HL.J4 ?_;first|refine HL.ev I I ?_|refine HL.evc I I (by first|omega|(simp;done)|(simp;omega)) ?_|(refine HL.isLoad ?_;first|refine HL.L 0 I I I I ?_|refine HL.L 1 I I I I ?_|refine HL.L 2 I I I I ?_|refine HL.L 3 I I I I ?_)|(refine HL.jQ ?_;first|refine HL.S 0 I I I I I ?_|refine HL.S 1 I I I I I ?_|refine HL.S 2 I I I I I ?_|refine HL.S 3 I I I I I ?_)|refine HL.build I I ?_|refine HL.field I I ?_|(refine HL.box I I ?_;intro bk)|(refine HL.alloc I I ?_;intro bk)|refine HL.skip rfl rfl ?_|refine HL.j5 rfl ?_|apply HL.zZ rfl rfl rfl rfl rfl rfl rfl rfl|apply HL.orB rfl rfl rfl rfl rfl rfl rfl rfl)|refine HL.nil ?_|refine HR.ctl rfl ?_|refine HR.region ?_|refine HR.JA rfl ?_|refine HR.jy rfl ?_|exact HL.jc rfl rfl Ent.refl|(refine fun (hb:(_:Bool)=_)=>?_;try simp at hb))
 refine HR.cond I (fun h2=>?_) (fun h2=>?_)
 ·have hlt:k<l.length:=by have:=of_decide_eq_true h2;omega
  obtain ⟨e,he⟩:=jH hlt
  have hsmN:∀z,(getM z (kJ (Tp.link e) (.bool true) sm)).getD (.bool false)= .bool (decide (z=Tp.link e∨∃e∈l.take k,Tp.okE e=true∧Tp.link e=z)):=fun z=>by
   rw[zk]
   by_cases hz:z=Tp.link e
   ·simp [hz]
   ·rw [if_neg hz,hsm];simp[hz]
  repeat' (first|(refine HL.J4 ?_;first|refine HL.ev I I ?_|refine HL.evc I I (by first|omega|(simp;done)|(simp;omega)) ?_|refine HL.jw (Rd.arg hl) jS0 k I I I I hlt ?_|refine HL.JB (Rd.arg hl) I I I I (by simp[edC]) I (jF jHS he) ?_|refine HL.jN jSc I I (fun w _=>jEt e w) ?_|refine HL.jN jPe I I (fun w _=>jBv e w) ?_|refine HL.jHE 3 I keyE I I I I I (hsm _) ?_|(refine HL.isLoad ?_;first|refine HL.L 0 I I I I ?_|refine HL.L 1 I I I I ?_|refine HL.L 2 I I I I ?_|refine HL.L 3 I I I I ?_)|(refine HL.jQ ?_;first|refine HL.S 0 I I I I I ?_|refine HL.S 1 I I I I I ?_|refine HL.S 2 I I I I I ?_|refine HL.S 3 I I I I I ?_)|refine HL.build I I ?_|refine HL.field I I ?_|(refine HL.box I I ?_;intro bk)|(refine HL.alloc I I ?_;intro bk)|refine HL.skip rfl rfl ?_|refine HL.j5 rfl ?_|apply HL.zZ rfl rfl rfl rfl rfl rfl rfl rfl|apply HL.orB rfl rfl rfl rfl rfl rfl rfl rfl)|refine HL.nil ?_|refine HR.ctl rfl ?_|refine HR.region ?_|refine HR.JA rfl ?_|refine HR.jy rfl ?_|exact HL.jc rfl rfl Ent.refl|(refine fun (hb:(_:Bool)=_)=>?_;try simp at hb))
  refine HR.cond I (fun h3=>?_) (fun h3=>?_)
  ·obtain ⟨hok,hnew⟩:=Bool.and_eq_true_iff.1 h3
   have hnew:∀e'∈l.take k,Tp.okE e'=true→Tp.link e'≠Tp.link e:=by
    intro e' h4 h5 h6
    simp only[Bool.not_eq_true',decide_eq_false_iff_not]at hnew
    exact hnew ⟨e',h4,h5,h6⟩
   have hab:e.a≠e.b:=by simp[Tp.okE]at hok;exact hok.2
   have hadd:=hadj.add hok hnew
   have hl1:=hadj.len e.a
   have hl2:=hadj.len e.b
   repeat' (first|(refine HL.J4 ?_;first|refine HL.ev I I ?_|refine HL.evc I I (by first|omega|(simp;done)|(simp;omega)) ?_|refine HL.jN jPe I I (fun w _=>jBv e w) ?_|refine HL.jRf 3 I keyE I I I I I ?_|(refine HL.isLoad ?_;first|refine HL.L 0 I I I I ?_|refine HL.L 1 I I I I ?_|refine HL.L 2 I I I I ?_|refine HL.L 3 I I I I ?_)|(refine HL.jQ ?_;first|refine HL.S 0 I I I I I ?_|refine HL.S 1 I I I I I ?_|refine HL.S 2 I I I I I ?_|refine HL.S 3 I I I I I ?_)|refine HL.build I I ?_|refine HL.field I I ?_|(refine HL.box I I ?_;intro bk)|(refine HL.alloc I I ?_;intro bk)|refine HL.skip rfl rfl ?_|refine HL.j5 rfl ?_|apply HL.zZ rfl rfl rfl rfl rfl rfl rfl rfl|apply HL.orB rfl rfl rfl rfl rfl rfl rfl rfl)|refine HL.nil ?_|refine HR.ctl rfl ?_|refine HR.region ?_|refine HR.JA rfl ?_|refine HR.jy rfl ?_|exact HL.jc rfl rfl Ent.refl|(refine fun (hb:(_:Bool)=_)=>?_;try simp at hb))
   refine HR.join (ι:=Value) (fun v=>True) (fun v=>[(3,.map (some b)),(4,.map (some bs)),(6,.pointer (some ⟨bk,0,none⟩)),(11,vl),(12,.int .i64 (l.length:Int)),(13,.int .i64 (k:Int))])
    (fun v=>[jL 3 (kJ e.a v m) (Tp.upd adj e.a (adj e.a++[e.b])),jU bk [.int .i64 e.a,.int .i64 e.b] 206,Jc encI b (kJ e.a v m),Jc jSy bs (kJ (Tp.link e) (.bool true) sm)]) (fun v _=>?_) (fun hj=>?_)
   ·have hba:e.b≠e.a:=fun h=>hab h.symm
    have hadj1:Tp.upd adj e.a (adj e.a++[e.b]) e.b=adj e.b:=by simp[Tp.upd,hba]
    have hnil1:getM e.b (kJ e.a v m)=none→Tp.upd adj e.a (adj e.a++[e.b]) e.b=[]:=by
     rw[zk,if_neg hba,hadj1];exact hnil _
    refine HR.ent (H':=[jK ((getM e.b (kJ e.a v m)).getD (.slice none 0 0)) 3 1 (adj e.b).length (cellsOf iC (adj e.b)),jL 3 (jKu e.b (kJ e.a v m)) (Tp.upd adj e.a (adj e.a++[e.b])),jU bk [.int .i64 e.a,.int .i64 e.b] 206,Jc encI b (kJ e.a v m),Jc jSy bs (kJ (Tp.link e) (.bool true) sm)]) (by rw[← hadj1];exact Ent.jNd (zB hnd) hnil1 I) ?_
    repeat' (first|(refine HL.J4 ?_;first|refine HL.ev I I ?_|refine HL.evc I I (by first|omega|(simp;done)|(simp;omega)) ?_|(refine HL.isLoad ?_;first|refine HL.L 0 I I I I ?_|refine HL.L 1 I I I I ?_|refine HL.L 2 I I I I ?_|refine HL.L 3 I I I I ?_)|(refine HL.jQ ?_;first|refine HL.S 0 I I I I I ?_|refine HL.S 1 I I I I I ?_|refine HL.S 2 I I I I I ?_|refine HL.S 3 I I I I I ?_)|refine HL.build I I ?_|refine HL.field I I ?_|(refine HL.box I I ?_;intro bk)|(refine HL.alloc I I ?_;intro bk)|refine HL.skip rfl rfl ?_|refine HL.j5 rfl ?_|apply HL.zZ rfl rfl rfl rfl rfl rfl rfl rfl|apply HL.orB rfl rfl rfl rfl rfl rfl rfl rfl)|refine HL.nil ?_|refine HR.ctl rfl ?_|refine HR.region ?_|refine HR.JA rfl ?_|refine HR.jy rfl ?_|exact HL.jc rfl rfl Ent.refl|(refine fun (hb:(_:Bool)=_)=>?_;try simp at hb))
    refine HR.kM [2] I I JZ ?_
    first|refine HA.ev 0 (by kernel_rfl) I I I ?_|refine HA.evc 0 (by kernel_rfl) I I I (by first|omega|(simp;done)|(simp;omega)) ?_|refine HA.JK 0 0 (by kernel_rfl) I I I I I I I ?_|refine HA.JK 0 1 (by kernel_rfl) I I I I I I I ?_|refine HA.JK 0 2 (by kernel_rfl) I I I I I I I ?_|refine HA.JK 0 3 (by kernel_rfl) I I I I I I I ?_|refine HA.JJ 0 0 (by kernel_rfl) I I I I I I I I ?_|refine HA.JJ 0 1 (by kernel_rfl) I I I I I I I I ?_|refine HA.JJ 0 2 (by kernel_rfl) I I I I I I I I ?_|refine HA.JJ 0 3 (by kernel_rfl) I I I I I I I I ?_|refine HA.build 0 (by kernel_rfl) I I I ?_
    first|refine HA.ev 1 (by kernel_rfl) I I I ?_|refine HA.evc 1 (by kernel_rfl) I I I (by first|omega|(simp;done)|(simp;omega)) ?_|refine HA.JK 1 0 (by kernel_rfl) I I I I I I I ?_|refine HA.JK 1 1 (by kernel_rfl) I I I I I I I ?_|refine HA.JK 1 2 (by kernel_rfl) I I I I I I I ?_|refine HA.JK 1 3 (by kernel_rfl) I I I I I I I ?_|refine HA.JJ 1 0 (by kernel_rfl) I I I I I I I I ?_|refine HA.JJ 1 1 (by kernel_rfl) I I I I I I I I ?_|refine HA.JJ 1 2 (by kernel_rfl) I I I I I I I I ?_|refine HA.JJ 1 3 (by kernel_rfl) I I I I I I I I ?_|refine HA.build 1 (by kernel_rfl) I I I ?_
    first|refine HA.ev 2 (by kernel_rfl) I I I ?_|refine HA.evc 2 (by kernel_rfl) I I I (by first|omega|(simp;done)|(simp;omega)) ?_|refine HA.JK 2 0 (by kernel_rfl) I I I I I I I ?_|refine HA.JK 2 1 (by kernel_rfl) I I I I I I I ?_|refine HA.JK 2 2 (by kernel_rfl) I I I I I I I ?_|refine HA.JK 2 3 (by kernel_rfl) I I I I I I I ?_|refine HA.JJ 2 0 (by kernel_rfl) I I I I I I I I ?_|refine HA.JJ 2 1 (by kernel_rfl) I I I I I I I I ?_|refine HA.JJ 2 2 (by kernel_rfl) I I I I I I I I ?_|refine HA.JJ 2 3 (by kernel_rfl) I I I I I I I I ?_|refine HA.build 2 (by kernel_rfl) I I I ?_
    first|refine HA.ev 3 (by kernel_rfl) I I I ?_|refine HA.evc 3 (by kernel_rfl) I I I (by first|omega|(simp;done)|(simp;omega)) ?_|refine HA.JK 3 0 (by kernel_rfl) I I I I I I I ?_|refine HA.JK 3 1 (by kernel_rfl) I I I I I I I ?_|refine HA.JK 3 2 (by kernel_rfl) I I I I I I I ?_|refine HA.JK 3 3 (by kernel_rfl) I I I I I I I ?_|refine HA.JJ 3 0 (by kernel_rfl) I I I I I I I I ?_|refine HA.JJ 3 1 (by kernel_rfl) I I I I I I I I ?_|refine HA.JJ 3 2 (by kernel_rfl) I I I I I I I I ?_|refine HA.JJ 3 3 (by kernel_rfl) I I I I I I I I ?_|refine HA.build 3 (by kernel_rfl) I I I ?_
    first|refine HA.ev 4 (by kernel_rfl) I I I ?_|refine HA.evc 4 (by kernel_rfl) I I I (by first|omega|(simp;done)|(simp;omega)) ?_|refine HA.JK 4 0 (by kernel_rfl) I I I I I I I ?_|refine HA.JK 4 1 (by kernel_rfl) I I I I I I I ?_|refine HA.JK 4 2 (by kernel_rfl) I I I I I I I ?_|refine HA.JK 4 3 (by kernel_rfl) I I I I I I I ?_|refine HA.JJ 4 0 (by kernel_rfl) I I I I I I I I ?_|refine HA.JJ 4 1 (by kernel_rfl) I I I I I I I I ?_|refine HA.JJ 4 2 (by kernel_rfl) I I I I I I I I ?_|refine HA.JJ 4 3 (by kernel_rfl) I I I I I I I I ?_|refine HA.build 4 (by kernel_rfl) I I I ?_
    first|refine HA.ev 5 (by kernel_rfl) I I I ?_|refine HA.evc 5 (by kernel_rfl) I I I (by first|omega|(simp;done)|(simp;omega)) ?_|refine HA.JK 5 0 (by kernel_rfl) I I I I I I I ?_|refine HA.JK 5 1 (by kernel_rfl) I I I I I I I ?_|refine HA.JK 5 2 (by kernel_rfl) I I I I I I I ?_|refine HA.JK 5 3 (by kernel_rfl) I I I I I I I ?_|refine HA.JJ 5 0 (by kernel_rfl) I I I I I I I I ?_|refine HA.JJ 5 1 (by kernel_rfl) I I I I I I I I ?_|refine HA.JJ 5 2 (by kernel_rfl) I I I I I I I I ?_|refine HA.JJ 5 3 (by kernel_rfl) I I I I I I I I ?_|refine HA.build 5 (by kernel_rfl) I I I ?_
    first|refine HA.ev 7 (by kernel_rfl) I I I ?_|refine HA.evc 7 (by kernel_rfl) I I I (by first|omega|(simp;done)|(simp;omega)) ?_|refine HA.JK 7 0 (by kernel_rfl) I I I I I I I ?_|refine HA.JK 7 1 (by kernel_rfl) I I I I I I I ?_|refine HA.JK 7 2 (by kernel_rfl) I I I I I I I ?_|refine HA.JK 7 3 (by kernel_rfl) I I I I I I I ?_|refine HA.JJ 7 0 (by kernel_rfl) I I I I I I I I ?_|refine HA.JJ 7 1 (by kernel_rfl) I I I I I I I I ?_|refine HA.JJ 7 2 (by kernel_rfl) I I I I I I I I ?_|refine HA.JJ 7 3 (by kernel_rfl) I I I I I I I I ?_|refine HA.build 7 (by kernel_rfl) I I I ?_
    first|refine HA.ev 8 (by kernel_rfl) I I I ?_|refine HA.evc 8 (by kernel_rfl) I I I (by first|omega|(simp;done)|(simp;omega)) ?_|refine HA.JK 8 0 (by kernel_rfl) I I I I I I I ?_|refine HA.JK 8 1 (by kernel_rfl) I I I I I I I ?_|refine HA.JK 8 2 (by kernel_rfl) I I I I I I I ?_|refine HA.JK 8 3 (by kernel_rfl) I I I I I I I ?_|refine HA.JJ 8 0 (by kernel_rfl) I I I I I I I I ?_|refine HA.JJ 8 1 (by kernel_rfl) I I I I I I I I ?_|refine HA.JJ 8 2 (by kernel_rfl) I I I I I I I I ?_|refine HA.JJ 8 3 (by kernel_rfl) I I I I I I I I ?_|refine HA.build 8 (by kernel_rfl) I I I ?_
    refine HA.two 6 9 (by kernel_rfl) I I ?_ ?_
    ·refine HL.jHE 3 I jPU I I I I I I ?_
     refine HL.jm [2] I I ?_
     refine HA.one 9 (by kernel_rfl) I ?_
     refine HL.jk Jg I I I I I (by decide) (by decide) ?_
     intro v1
     refine HL.jm [3] I I ?_
     refine HA.one 10 (by kernel_rfl) I ?_
     refine HL.zD 1 I Jg (Rd.own 0 I) I I I I (jJ I) (by omega) (by omega) ?_
     intro v2
     refine HL.jm [3] I I ?_
     refine HA.one 11 (by kernel_rfl) I ?_
     refine HL.jRf 4 I jPU I I I I I ?_
     refine HL.jm [3] I I ?_
     refine HA.done (by kernel_rfl) ?_
     repeat' (first|(refine HL.J4 ?_;first|refine HL.ev I I ?_|refine HL.evc I I (by first|omega|(simp;done)|(simp;omega)) ?_|(refine HL.isLoad ?_;first|refine HL.L 0 I I I I ?_|refine HL.L 1 I I I I ?_|refine HL.L 2 I I I I ?_|refine HL.L 3 I I I I ?_)|(refine HL.jQ ?_;first|refine HL.S 0 I I I I I ?_|refine HL.S 1 I I I I I ?_|refine HL.S 2 I I I I I ?_|refine HL.S 3 I I I I I ?_)|refine HL.build I I ?_|refine HL.field I I ?_|(refine HL.box I I ?_;intro bk)|(refine HL.alloc I I ?_;intro bk)|refine HL.skip rfl rfl ?_|refine HL.j5 rfl ?_|apply HL.zZ rfl rfl rfl rfl rfl rfl rfl rfl|apply HL.orB rfl rfl rfl rfl rfl rfl rfl rfl)|refine HL.nil ?_|refine HR.ctl rfl ?_|refine HR.region ?_|refine HR.JA rfl ?_|refine HR.jy rfl ?_|exact HL.jc rfl rfl Ent.refl|(refine fun (hb:(_:Bool)=_)=>?_;try simp at hb))
     refine ih (k+1) (kJ e.b v2 (kJ e.a v m)) (Tp.upd (Tp.upd adj e.a (adj e.a++[e.b])) e.b (adj e.b++[e.a])) (kJ (Tp.link e) (.bool true) sm) _ _ ⟨hlt,zB (zB hnd),by rw[jG he];exact hadd,?_,?_⟩ (by omega) ⟨I,I,I,I,I,trivial⟩ ?_
     ·intro n hn
      rw[zk,zk]at hn
      by_cases h1:n=e.b
      ·rw [if_pos h1]at hn;cases hn
      ·rw [if_neg h1]at hn
       by_cases h2:n=e.a
       ·rw [if_pos h2]at hn;cases hn
       ·rw [if_neg h2]at hn;simp[Tp.upd,h1,h2,hnil n hn]
     ·intro z;rw[hsmN,jG he];congr 2;simp only[List.mem_append,List.mem_singleton,eq_iff_iff];constructor
      ·rintro (h|⟨e',h4,h5⟩)
       ·exact ⟨e,.inr rfl,hok,h.symm⟩
       ·exact ⟨e',.inl h4,h5⟩
      ·rintro ⟨e',h4|rfl,h5,h6⟩
       ·exact .inr ⟨e',h4,h5,h6⟩
       ·exact .inl h6.symm
     ·refine Ent.trans (Ent.pick [1,2,4,5] I I) (Ent.trans (Ent.JM ?_ ?_) (Ent.jM1 (adj':=Tp.upd (Tp.upd adj e.a (adj e.a++[e.b])) e.b (adj e.b++[e.a])) (zB hnd) ?_))
      ·simp [Tp.upd,hba]
      ·simp [Tp.upd,jM,J6]
      ·intro n hn;simp[Tp.upd,hn]
    ·refine HL.jk Jg I I I I I (by decide) (by decide) ?_
     intro v1
     refine HL.jm [3] I I ?_
     refine HA.one 6 (by kernel_rfl) I ?_
     refine HL.jHE 4 I jPU I I I I I I ?_
     refine HL.jm [3] I I ?_
     refine HA.one 10 (by kernel_rfl) I ?_
     refine HL.zD 1 I Jg (Rd.own 0 I) I I I I (jJ I) (by omega) (by omega) ?_
     intro v2
     refine HL.jm [3] I I ?_
     refine HA.one 11 (by kernel_rfl) I ?_
     refine HL.jRf 4 I jPU I I I I I ?_
     refine HL.jm [3] I I ?_
     refine HA.done (by kernel_rfl) ?_
     repeat' (first|(refine HL.J4 ?_;first|refine HL.ev I I ?_|refine HL.evc I I (by first|omega|(simp;done)|(simp;omega)) ?_|(refine HL.isLoad ?_;first|refine HL.L 0 I I I I ?_|refine HL.L 1 I I I I ?_|refine HL.L 2 I I I I ?_|refine HL.L 3 I I I I ?_)|(refine HL.jQ ?_;first|refine HL.S 0 I I I I I ?_|refine HL.S 1 I I I I I ?_|refine HL.S 2 I I I I I ?_|refine HL.S 3 I I I I I ?_)|refine HL.build I I ?_|refine HL.field I I ?_|(refine HL.box I I ?_;intro bk)|(refine HL.alloc I I ?_;intro bk)|refine HL.skip rfl rfl ?_|refine HL.j5 rfl ?_|apply HL.zZ rfl rfl rfl rfl rfl rfl rfl rfl|apply HL.orB rfl rfl rfl rfl rfl rfl rfl rfl)|refine HL.nil ?_|refine HR.ctl rfl ?_|refine HR.region ?_|refine HR.JA rfl ?_|refine HR.jy rfl ?_|exact HL.jc rfl rfl Ent.refl|(refine fun (hb:(_:Bool)=_)=>?_;try simp at hb))
     refine ih (k+1) (kJ e.b v2 (kJ e.a v m)) (Tp.upd (Tp.upd adj e.a (adj e.a++[e.b])) e.b (adj e.b++[e.a])) (kJ (Tp.link e) (.bool true) sm) _ _ ⟨hlt,zB (zB hnd),by rw[jG he];exact hadd,?_,?_⟩ (by omega) ⟨I,I,I,I,I,trivial⟩ ?_
     ·intro n hn
      rw[zk,zk]at hn
      by_cases h1:n=e.b
      ·rw [if_pos h1]at hn;cases hn
      ·rw [if_neg h1]at hn
       by_cases h2:n=e.a
       ·rw [if_pos h2]at hn;cases hn
       ·rw [if_neg h2]at hn;simp[Tp.upd,h1,h2,hnil n hn]
     ·intro z;rw[hsmN,jG he];congr 2;simp only[List.mem_append,List.mem_singleton,eq_iff_iff];constructor
      ·rintro (h|⟨e',h4,h5⟩)
       ·exact ⟨e,.inr rfl,hok,h.symm⟩
       ·exact ⟨e',.inl h4,h5⟩
      ·rintro ⟨e',h4|rfl,h5,h6⟩
       ·exact .inr ⟨e',h4,h5,h6⟩
       ·exact .inl h6.symm
     ·refine Ent.trans (Ent.pick [1,2,4,5] I I) (Ent.trans (Ent.JM ?_ ?_) (Ent.jM1 (adj':=Tp.upd (Tp.upd adj e.a (adj e.a++[e.b])) e.b (adj e.b++[e.a])) (zB hnd) ?_))
      ·simp [Tp.upd,hba]
      ·simp [Tp.upd,jM,J6]
      ·intro n hn;simp[Tp.upd,hn]
   ·refine HR.ent (H':=[jK ((getM e.a m).getD (.slice none 0 0)) 3 1 (adj e.a).length (cellsOf iC (adj e.a)),jL 3 (jKu e.a m) adj,jU bk [.int .i64 e.a,.int .i64 e.b] 206,Jc encI b m,Jc jSy bs (kJ (Tp.link e) (.bool true) sm)]) (Ent.trans (Ent.pick [1,0,2,3] I I) (Ent.jNd hnd (hnil _) I)) ?_
    refine HR.kM [2] I I JZ ?_
    first|refine HA.ev 0 (by kernel_rfl) I I I ?_|refine HA.evc 0 (by kernel_rfl) I I I (by first|omega|(simp;done)|(simp;omega)) ?_|refine HA.JK 0 0 (by kernel_rfl) I I I I I I I ?_|refine HA.JK 0 1 (by kernel_rfl) I I I I I I I ?_|refine HA.JK 0 2 (by kernel_rfl) I I I I I I I ?_|refine HA.JK 0 3 (by kernel_rfl) I I I I I I I ?_|refine HA.JJ 0 0 (by kernel_rfl) I I I I I I I I ?_|refine HA.JJ 0 1 (by kernel_rfl) I I I I I I I I ?_|refine HA.JJ 0 2 (by kernel_rfl) I I I I I I I I ?_|refine HA.JJ 0 3 (by kernel_rfl) I I I I I I I I ?_|refine HA.build 0 (by kernel_rfl) I I I ?_
    first|refine HA.ev 1 (by kernel_rfl) I I I ?_|refine HA.evc 1 (by kernel_rfl) I I I (by first|omega|(simp;done)|(simp;omega)) ?_|refine HA.JK 1 0 (by kernel_rfl) I I I I I I I ?_|refine HA.JK 1 1 (by kernel_rfl) I I I I I I I ?_|refine HA.JK 1 2 (by kernel_rfl) I I I I I I I ?_|refine HA.JK 1 3 (by kernel_rfl) I I I I I I I ?_|refine HA.JJ 1 0 (by kernel_rfl) I I I I I I I I ?_|refine HA.JJ 1 1 (by kernel_rfl) I I I I I I I I ?_|refine HA.JJ 1 2 (by kernel_rfl) I I I I I I I I ?_|refine HA.JJ 1 3 (by kernel_rfl) I I I I I I I I ?_|refine HA.build 1 (by kernel_rfl) I I I ?_
    first|refine HA.ev 2 (by kernel_rfl) I I I ?_|refine HA.evc 2 (by kernel_rfl) I I I (by first|omega|(simp;done)|(simp;omega)) ?_|refine HA.JK 2 0 (by kernel_rfl) I I I I I I I ?_|refine HA.JK 2 1 (by kernel_rfl) I I I I I I I ?_|refine HA.JK 2 2 (by kernel_rfl) I I I I I I I ?_|refine HA.JK 2 3 (by kernel_rfl) I I I I I I I ?_|refine HA.JJ 2 0 (by kernel_rfl) I I I I I I I I ?_|refine HA.JJ 2 1 (by kernel_rfl) I I I I I I I I ?_|refine HA.JJ 2 2 (by kernel_rfl) I I I I I I I I ?_|refine HA.JJ 2 3 (by kernel_rfl) I I I I I I I I ?_|refine HA.build 2 (by kernel_rfl) I I I ?_
    first|refine HA.ev 3 (by kernel_rfl) I I I ?_|refine HA.evc 3 (by kernel_rfl) I I I (by first|omega|(simp;done)|(simp;omega)) ?_|refine HA.JK 3 0 (by kernel_rfl) I I I I I I I ?_|refine HA.JK 3 1 (by kernel_rfl) I I I I I I I ?_|refine HA.JK 3 2 (by kernel_rfl) I I I I I I I ?_|refine HA.JK 3 3 (by kernel_rfl) I I I I I I I ?_|refine HA.JJ 3 0 (by kernel_rfl) I I I I I I I I ?_|refine HA.JJ 3 1 (by kernel_rfl) I I I I I I I I ?_|refine HA.JJ 3 2 (by kernel_rfl) I I I I I I I I ?_|refine HA.JJ 3 3 (by kernel_rfl) I I I I I I I I ?_|refine HA.build 3 (by kernel_rfl) I I I ?_
    first|refine HA.ev 4 (by kernel_rfl) I I I ?_|refine HA.evc 4 (by kernel_rfl) I I I (by first|omega|(simp;done)|(simp;omega)) ?_|refine HA.JK 4 0 (by kernel_rfl) I I I I I I I ?_|refine HA.JK 4 1 (by kernel_rfl) I I I I I I I ?_|refine HA.JK 4 2 (by kernel_rfl) I I I I I I I ?_|refine HA.JK 4 3 (by kernel_rfl) I I I I I I I ?_|refine HA.JJ 4 0 (by kernel_rfl) I I I I I I I I ?_|refine HA.JJ 4 1 (by kernel_rfl) I I I I I I I I ?_|refine HA.JJ 4 2 (by kernel_rfl) I I I I I I I I ?_|refine HA.JJ 4 3 (by kernel_rfl) I I I I I I I I ?_|refine HA.build 4 (by kernel_rfl) I I I ?_
    first|refine HA.ev 5 (by kernel_rfl) I I I ?_|refine HA.evc 5 (by kernel_rfl) I I I (by first|omega|(simp;done)|(simp;omega)) ?_|refine HA.JK 5 0 (by kernel_rfl) I I I I I I I ?_|refine HA.JK 5 1 (by kernel_rfl) I I I I I I I ?_|refine HA.JK 5 2 (by kernel_rfl) I I I I I I I ?_|refine HA.JK 5 3 (by kernel_rfl) I I I I I I I ?_|refine HA.JJ 5 0 (by kernel_rfl) I I I I I I I I ?_|refine HA.JJ 5 1 (by kernel_rfl) I I I I I I I I ?_|refine HA.JJ 5 2 (by kernel_rfl) I I I I I I I I ?_|refine HA.JJ 5 3 (by kernel_rfl) I I I I I I I I ?_|refine HA.build 5 (by kernel_rfl) I I I ?_
    first|refine HA.ev 7 (by kernel_rfl) I I I ?_|refine HA.evc 7 (by kernel_rfl) I I I (by first|omega|(simp;done)|(simp;omega)) ?_|refine HA.JK 7 0 (by kernel_rfl) I I I I I I I ?_|refine HA.JK 7 1 (by kernel_rfl) I I I I I I I ?_|refine HA.JK 7 2 (by kernel_rfl) I I I I I I I ?_|refine HA.JK 7 3 (by kernel_rfl) I I I I I I I ?_|refine HA.JJ 7 0 (by kernel_rfl) I I I I I I I I ?_|refine HA.JJ 7 1 (by kernel_rfl) I I I I I I I I ?_|refine HA.JJ 7 2 (by kernel_rfl) I I I I I I I I ?_|refine HA.JJ 7 3 (by kernel_rfl) I I I I I I I I ?_|refine HA.build 7 (by kernel_rfl) I I I ?_
    first|refine HA.ev 8 (by kernel_rfl) I I I ?_|refine HA.evc 8 (by kernel_rfl) I I I (by first|omega|(simp;done)|(simp;omega)) ?_|refine HA.JK 8 0 (by kernel_rfl) I I I I I I I ?_|refine HA.JK 8 1 (by kernel_rfl) I I I I I I I ?_|refine HA.JK 8 2 (by kernel_rfl) I I I I I I I ?_|refine HA.JK 8 3 (by kernel_rfl) I I I I I I I ?_|refine HA.JJ 8 0 (by kernel_rfl) I I I I I I I I ?_|refine HA.JJ 8 1 (by kernel_rfl) I I I I I I I I ?_|refine HA.JJ 8 2 (by kernel_rfl) I I I I I I I I ?_|refine HA.JJ 8 3 (by kernel_rfl) I I I I I I I I ?_|refine HA.build 8 (by kernel_rfl) I I I ?_
    refine HA.two 6 9 (by kernel_rfl) I I ?_ ?_
    ·refine HL.jHE 3 I jPU I I I I I I ?_
     refine HL.jm [2] I I ?_
     refine HA.one 9 (by kernel_rfl) I ?_
     refine HL.jk Jg I I I I I (by decide) (by decide) ?_
     intro v1
     refine HL.jm [3] I I ?_
     refine HA.one 10 (by kernel_rfl) I ?_
     refine HL.zD 1 I Jg (Rd.own 0 I) I I I I (jJ I) (by omega) (by omega) ?_
     intro v2
     refine HL.jm [3] I I ?_
     refine HA.one 11 (by kernel_rfl) I ?_
     refine HL.jRf 4 I jPU I I I I I ?_
     refine HL.jm [3] I I ?_
     refine HA.done (by kernel_rfl) ?_
     refine hj v2 _ _ trivial ⟨I,I,I,I,I,I,trivial⟩ (Ent.trans (Ent.pick [1,2,3,4,5] I I) (Ent.trans (Ent.JM ?_ ?_) (Ent.jM1 (adj':=Tp.upd adj e.a (adj e.a++[e.b])) hnd ?_)))
     ·simp [Tp.upd]
     ·simp [Tp.upd,jM,J6]
     ·intro n hn;simp[Tp.upd,hn]
    ·refine HL.jk Jg I I I I I (by decide) (by decide) ?_
     intro v1
     refine HL.jm [3] I I ?_
     refine HA.one 6 (by kernel_rfl) I ?_
     refine HL.jHE 4 I jPU I I I I I I ?_
     refine HL.jm [3] I I ?_
     refine HA.one 10 (by kernel_rfl) I ?_
     refine HL.zD 1 I Jg (Rd.own 0 I) I I I I (jJ I) (by omega) (by omega) ?_
     intro v2
     refine HL.jm [3] I I ?_
     refine HA.one 11 (by kernel_rfl) I ?_
     refine HL.jRf 4 I jPU I I I I I ?_
     refine HL.jm [3] I I ?_
     refine HA.done (by kernel_rfl) ?_
     refine hj v2 _ _ trivial ⟨I,I,I,I,I,I,trivial⟩ (Ent.trans (Ent.pick [1,2,3,4,5] I I) (Ent.trans (Ent.JM ?_ ?_) (Ent.jM1 (adj':=Tp.upd adj e.a (adj e.a++[e.b])) hnd ?_)))
     ·simp [Tp.upd]
     ·simp [Tp.upd,jM,J6]
     ·intro n hn;simp[Tp.upd,hn]
  ·repeat' (first|(refine HL.J4 ?_;first|refine HL.ev I I ?_|refine HL.evc I I (by first|omega|(simp;done)|(simp;omega)) ?_|(refine HL.isLoad ?_;first|refine HL.L 0 I I I I ?_|refine HL.L 1 I I I I ?_|refine HL.L 2 I I I I ?_|refine HL.L 3 I I I I ?_)|(refine HL.jQ ?_;first|refine HL.S 0 I I I I I ?_|refine HL.S 1 I I I I I ?_|refine HL.S 2 I I I I I ?_|refine HL.S 3 I I I I I ?_)|refine HL.build I I ?_|refine HL.field I I ?_|(refine HL.box I I ?_;intro bk)|(refine HL.alloc I I ?_;intro bk)|refine HL.skip rfl rfl ?_|refine HL.j5 rfl ?_|apply HL.zZ rfl rfl rfl rfl rfl rfl rfl rfl|apply HL.orB rfl rfl rfl rfl rfl rfl rfl rfl)|refine HL.nil ?_|refine HR.ctl rfl ?_|refine HR.region ?_|refine HR.JA rfl ?_|refine HR.jy rfl ?_|exact HL.jc rfl rfl Ent.refl|(refine fun (hb:(_:Bool)=_)=>?_;try simp at hb))
   have hst:Tp.okE e=false∨∃e'∈l.take k,Tp.okE e'=true∧Tp.link e'=Tp.link e:=by
    rcases Bool.and_eq_false_iff.1 h3 with h|h
    ·exact .inl h
    ·right;simpa using h
   refine ih (k+1) m adj sm _ _ ⟨hlt,hnd,by rw[jG he];exact hadj.skip hst,hnil,?_⟩ (by omega) ⟨I,I,I,I,I,trivial⟩ (Ent.pick [1,2,3] I I)
   intro z
   rw[hsm,jG he]
   congr 2
   simp only[List.mem_append,List.mem_singleton,eq_iff_iff]
   constructor
   ·rintro ⟨e',h4,h5⟩;exact ⟨e',.inl h4,h5⟩
   ·rintro ⟨e',h4|rfl,h5,h6⟩
    ·exact ⟨e',h4,h5,h6⟩
    ·rcases hst with h|⟨e2,g1,g2,g3⟩
     ·rw [h]at h5;cases h5
     ·exact ⟨e2,g1,g2,by rw[g3,h6]⟩
 ·have hke:k=l.length:=by have:=of_decide_eq_false h2;omega
  subst hke
  rw[List.take_length]at hadj
  repeat' (first|(refine HL.J4 ?_;first|refine HL.ev I I ?_|refine HL.evc I I (by first|omega|(simp;done)|(simp;omega)) ?_|refine HL.jRr 1 I I I I ?_|(refine HL.isLoad ?_;first|refine HL.L 0 I I I I ?_|refine HL.L 1 I I I I ?_|refine HL.L 2 I I I I ?_|refine HL.L 3 I I I I ?_)|(refine HL.jQ ?_;first|refine HL.S 0 I I I I I ?_|refine HL.S 1 I I I I I ?_|refine HL.S 2 I I I I I ?_|refine HL.S 3 I I I I I ?_)|refine HL.build I I ?_|refine HL.field I I ?_|(refine HL.box I I ?_;intro bk)|(refine HL.alloc I I ?_;intro bk)|refine HL.skip rfl rfl ?_|refine HL.j5 rfl ?_|apply HL.zZ rfl rfl rfl rfl rfl rfl rfl rfl|apply HL.orB rfl rfl rfl rfl rfl rfl rfl rfl)|refine HL.nil ?_|refine HR.ctl rfl ?_|refine HR.region ?_|refine HR.JA rfl ?_|refine HR.jy rfl ?_|exact HL.jc rfl rfl Ent.refl|(refine fun (hb:(_:Bool)=_)=>?_;try simp at hb))
  intro r
  repeat' (first|(refine HL.J4 ?_;first|refine HL.ev I I ?_|refine HL.evc I I (by first|omega|(simp;done)|(simp;omega)) ?_|(refine HL.isLoad ?_;first|refine HL.L 0 I I I I ?_|refine HL.L 1 I I I I ?_|refine HL.L 2 I I I I ?_|refine HL.L 3 I I I I ?_)|(refine HL.jQ ?_;first|refine HL.S 0 I I I I I ?_|refine HL.S 1 I I I I I ?_|refine HL.S 2 I I I I I ?_|refine HL.S 3 I I I I I ?_)|refine HL.build I I ?_|refine HL.field I I ?_|(refine HL.box I I ?_;intro bk)|(refine HL.alloc I I ?_;intro bk)|refine HL.skip rfl rfl ?_|refine HL.j5 rfl ?_|apply HL.zZ rfl rfl rfl rfl rfl rfl rfl rfl|apply HL.orB rfl rfl rfl rfl rfl rfl rfl rfl)|refine HL.nil ?_|refine HR.ctl rfl ?_|refine HR.region ?_|refine HR.JA rfl ?_|refine HR.jy rfl ?_|exact HL.jc rfl rfl Ent.refl|(refine fun (hb:(_:Bool)=_)=>?_;try simp at hb))
  have hsame:∀n,(if n∈([]:List Int)then Tp.jAY l n else adj n)=adj n:=fun n=>by simp
  refine HR.loop (ι:=List Int) (fun seen=>seen.Nodup∧seen.Subset (m.map (·.1))) (fun seen=>[(3,.map (some b)),(53,.pointer (some ⟨r,0,none⟩))]) (fun seen=>[jL 3 m (fun n=>if n∈seen then Tp.jAY l n else adj n),jd encI r b m seen]) (fun seen=>m.length-seen.length) [] ⟨List.nodup_nil,by intro x hx;cases hx⟩ ⟨I,I,trivial⟩ (Ent.trans (Ent.pick [0,1] I I) (Ent.asS fun n=>(hsame n).symm)) ?_
  rintro seen ⟨hsn,hss⟩ ih2
  repeat' (first|(refine HL.J4 ?_;first|refine HL.ev I I ?_|refine HL.evc I I (by first|omega|(simp;done)|(simp;omega)) ?_|(refine HL.isLoad ?_;first|refine HL.L 0 I I I I ?_|refine HL.L 1 I I I I ?_|refine HL.L 2 I I I I ?_|refine HL.L 3 I I I I ?_)|(refine HL.jQ ?_;first|refine HL.S 0 I I I I I ?_|refine HL.S 1 I I I I I ?_|refine HL.S 2 I I I I I ?_|refine HL.S 3 I I I I I ?_)|refine HL.build I I ?_|refine HL.field I I ?_|(refine HL.box I I ?_;intro bk)|(refine HL.alloc I I ?_;intro bk)|refine HL.skip rfl rfl ?_|refine HL.j5 rfl ?_|apply HL.zZ rfl rfl rfl rfl rfl rfl rfl rfl|apply HL.orB rfl rfl rfl rfl rfl rfl rfl rfl)|refine HL.nil ?_|refine HR.ctl rfl ?_|refine HR.region ?_|refine HR.JA rfl ?_|refine HR.jy rfl ?_|exact HL.jc rfl rfl Ent.refl|(refine fun (hb:(_:Bool)=_)=>?_;try simp at hb))
  refine HL.nextM 1 I (fun a b h=>by simpa using h) I I (fun hend=>?_) (fun a u hau hns=>?_)
  ·repeat' (first|(refine HL.J4 ?_;first|refine HL.ev I I ?_|refine HL.evc I I (by first|omega|(simp;done)|(simp;omega)) ?_|(refine HL.isLoad ?_;first|refine HL.L 0 I I I I ?_|refine HL.L 1 I I I I ?_|refine HL.L 2 I I I I ?_|refine HL.L 3 I I I I ?_)|(refine HL.jQ ?_;first|refine HL.S 0 I I I I I ?_|refine HL.S 1 I I I I I ?_|refine HL.S 2 I I I I I ?_|refine HL.S 3 I I I I I ?_)|refine HL.build I I ?_|refine HL.field I I ?_|(refine HL.box I I ?_;intro bk)|(refine HL.alloc I I ?_;intro bk)|refine HL.skip rfl rfl ?_|refine HL.j5 rfl ?_|apply HL.zZ rfl rfl rfl rfl rfl rfl rfl rfl|apply HL.orB rfl rfl rfl rfl rfl rfl rfl rfl)|refine HL.nil ?_|refine HR.ctl rfl ?_|refine HR.region ?_|refine HR.JA rfl ?_|refine HR.jy rfl ?_|exact HL.jc rfl rfl Ent.refl|(refine fun (hb:(_:Bool)=_)=>?_;try simp at hb))
   refine HR.jQt 1 I ?_
   have hfin:∀n,(if n∈seen then Tp.jAY l n else adj n)=Tp.jAY l n:=by
    intro n
    by_cases hn:n∈seen
    ·rw [if_pos hn]
    ·rw [if_neg hn]
     have h0:adj n=[]:=by
      refine hnil n (getM_none.2 fun hm=>?_)
      obtain ⟨p,hp,rfl⟩:=List.mem_map.1 hm
      exact hn (hend p hp)
     rw[h0,← hadj.sorted n,h0,jEy]
   refine HR.ent (Ent.asS hfin) ?_
   refine HR.ret Tryz.func161 I [_] (fun _ _=>⟨I,trivial⟩) ?_
   refine fun w' hw=>⟨(b,m),rfl,fun n hn=>?_,hw⟩
   rw[← hadj.sorted n,hnil n hn,jEy]
  ·have hg:=zN hnd hau
   have hla:=hadj.len a
   repeat' (first|(refine HL.J4 ?_;first|refine HL.ev I I ?_|refine HL.evc I I (by first|omega|(simp;done)|(simp;omega)) ?_|refine HL.jSx 1 I (fun a b h=>by simpa using h) hau I I ?_|(refine HL.isLoad ?_;first|refine HL.L 0 I I I I ?_|refine HL.L 1 I I I I ?_|refine HL.L 2 I I I I ?_|refine HL.L 3 I I I I ?_)|(refine HL.jQ ?_;first|refine HL.S 0 I I I I I ?_|refine HL.S 1 I I I I I ?_|refine HL.S 2 I I I I I ?_|refine HL.S 3 I I I I I ?_)|refine HL.build I I ?_|refine HL.field I I ?_|(refine HL.box I I ?_;intro bk)|(refine HL.alloc I I ?_;intro bk)|refine HL.skip rfl rfl ?_|refine HL.j5 rfl ?_|apply HL.zZ rfl rfl rfl rfl rfl rfl rfl rfl|apply HL.orB rfl rfl rfl rfl rfl rfl rfl rfl)|refine HL.nil ?_|refine HR.ctl rfl ?_|refine HR.region ?_|refine HR.JA rfl ?_|refine HR.jy rfl ?_|exact HL.jc rfl rfl Ent.refl|(refine fun (hb:(_:Bool)=_)=>?_;try simp at hb))
   refine HL.ent (Ent.jNd (v:=u) hnd (fun h=>by rw[hg]at h;cases h) (by simp[hg])) ?_
   rw[if_neg hns]
   refine HL.Jo (r:=fun _:Unit=> .tuple #[]) (Q:=fun _=>True) (G:=fun _=>[jK u 3 1 (adj a).length (cellsOf iC (jGZ (adj a)))]) jRB I I I (fun w hw=>jB5 u _ _ w (by have:=hw.nth (i:=0) rfl;unfold jK at this;exact this) (by omega)) ?_
   intro _ _
   repeat' (first|(refine HL.J4 ?_;first|refine HL.ev I I ?_|refine HL.evc I I (by first|omega|(simp;done)|(simp;omega)) ?_|(refine HL.isLoad ?_;first|refine HL.L 0 I I I I ?_|refine HL.L 1 I I I I ?_|refine HL.L 2 I I I I ?_|refine HL.L 3 I I I I ?_)|(refine HL.jQ ?_;first|refine HL.S 0 I I I I I ?_|refine HL.S 1 I I I I I ?_|refine HL.S 2 I I I I I ?_|refine HL.S 3 I I I I I ?_)|refine HL.build I I ?_|refine HL.field I I ?_|(refine HL.box I I ?_;intro bk)|(refine HL.alloc I I ?_;intro bk)|refine HL.skip rfl rfl ?_|refine HL.j5 rfl ?_|apply HL.zZ rfl rfl rfl rfl rfl rfl rfl rfl|apply HL.orB rfl rfl rfl rfl rfl rfl rfl rfl)|refine HL.nil ?_|refine HR.ctl rfl ?_|refine HR.region ?_|refine HR.JA rfl ?_|refine HR.jy rfl ?_|exact HL.jc rfl rfl Ent.refl|(refine fun (hb:(_:Bool)=_)=>?_;try simp at hb))
   have hlen:(Tp.jAY l a).length=(adj a).length:=by rw[← hadj.sorted a,jLE]
   have hin:(a::seen).Nodup∧(a::seen).Subset (m.map (·.1)):=⟨List.nodup_cons.2 ⟨hns,hsn⟩,fun x hx=>by rcases List.mem_cons.1 hx with rfl|hx;exact List.mem_map.2 ⟨_,hau,rfl⟩;exact hss hx⟩
   have hlt:(a::seen).length≤m.length:=by
    have:=List.Nodup.length_le_of_subset hin.1 hin.2
    simpa using this
   refine ih2 (a::seen) _ _ hin (by simp at hlt ⊢;omega) ⟨I,I,trivial⟩ (Ent.trans (Ent.JM (n':=(if a∈a::seen then Tp.jAY l a else adj a).length) (xs':=cellsOf iC (if a∈a::seen then Tp.jAY l a else adj a)) ?_ ?_) ?_)
   ·simp [hlen]
   ·simp [hadj.sorted a]
   ·have:=Ent.jM1 (B:=base w) (H:=[jd encI r b m (a::seen)]) (e:=3) (v:=u) (a:=a) (adj:=fun n=>if n∈seen then Tp.jAY l n else adj n) (adj':=fun n=>if n∈a::seen then Tp.jAY l n else adj n) hnd (fun n hn=>by simp[hn])
    rw[jE0 hg]at this
    exact this
end Go.Proofs.YtgfdoognildoeaaGreat
namespace Go.Proofs.YtgfdoognildoeaaGreat
open Go.GX Go.RowKit
attribute [local irreducible] Calls Run jg jh JU HR HL HD jU jK Jc Rd jL jd
theorem fn83:IsFn Tryz.prog 83:=⟨⟨_,_,Tryz.func83,rfl,by decide⟩⟩
theorem jPK (l:List Ed) (n:Int) (vl:Value) (w:World) (hl:Sl w vl (cellsOf edC l) l.length) (hll:l.length≤1000):
  Calls Tryz.prog 83 #[vl,.int .i64 n] w fun e w'=>∃v,e= .returned v∧Sat (base w) [jK v 3 1 (Tp.jAY l n).length (cellsOf iC (Tp.jAY l n))] w':=by
 refine jB Tryz.func83 I (Nat.le_of_ble_eq_true I) ?_
 refine HR.sub (σ':=[(0,vl),(1,.int .i64 n)]) ⟨I,I,trivial⟩ ?_
 repeat' (first|(refine HL.J4 ?_;first|refine HL.ev I I ?_|refine HL.evc I I (by first|omega|(simp;done)|(simp;omega)) ?_|(refine HL.isLoad ?_;first|refine HL.L 0 I I I I ?_|refine HL.L 1 I I I I ?_|refine HL.L 2 I I I I ?_|refine HL.L 3 I I I I ?_)|(refine HL.jQ ?_;first|refine HL.S 0 I I I I I ?_|refine HL.S 1 I I I I I ?_|refine HL.S 2 I I I I I ?_|refine HL.S 3 I I I I I ?_)|refine HL.build I I ?_|refine HL.field I I ?_|(refine HL.box I I ?_;intro bk)|(refine HL.alloc I I ?_;intro bk)|refine HL.skip rfl rfl ?_|refine HL.j5 rfl ?_|apply HL.zZ rfl rfl rfl rfl rfl rfl rfl rfl|apply HL.orB rfl rfl rfl rfl rfl rfl rfl rfl)|refine HL.nil ?_|refine HR.ctl rfl ?_|refine HR.region ?_|refine HR.JA rfl ?_|refine HR.jy rfl ?_|exact HL.jc rfl rfl Ent.refl|(refine fun (hb:(_:Bool)=_)=>?_;try simp at hb))
 refine HL.JD fn161 I I (fun w hw=>jMz l vl w ((Rd.arg hl).at hw) hll) ?_
 rintro ⟨b,m⟩ h0
 refine HL.know (Q:=zw m) (fun w hw=>hw.jR9 (i:=1) I) fun hnd=>?_
 repeat' (first|(refine HL.J4 ?_;first|refine HL.ev I I ?_|refine HL.evc I I (by first|omega|(simp;done)|(simp;omega)) ?_|refine HL.jHE 1 I jPU I I I I I I ?_|(refine HL.isLoad ?_;first|refine HL.L 0 I I I I ?_|refine HL.L 1 I I I I ?_|refine HL.L 2 I I I I ?_|refine HL.L 3 I I I I ?_)|(refine HL.jQ ?_;first|refine HL.S 0 I I I I I ?_|refine HL.S 1 I I I I I ?_|refine HL.S 2 I I I I I ?_|refine HL.S 3 I I I I I ?_)|refine HL.build I I ?_|refine HL.field I I ?_|(refine HL.box I I ?_;intro bk)|(refine HL.alloc I I ?_;intro bk)|refine HL.skip rfl rfl ?_|refine HL.j5 rfl ?_|apply HL.zZ rfl rfl rfl rfl rfl rfl rfl rfl|apply HL.orB rfl rfl rfl rfl rfl rfl rfl rfl)|refine HL.nil ?_|refine HR.ctl rfl ?_|refine HR.region ?_|refine HR.JA rfl ?_|refine HR.jy rfl ?_|exact HL.jc rfl rfl Ent.refl|(refine fun (hb:(_:Bool)=_)=>?_;try simp at hb))
 refine HR.ret Tryz.func83 I [_] (fun _ _=>⟨I,trivial⟩) ?_
 exact fun w' hw=>⟨_,rfl,(Ent.jNd hnd (h0 n) I w' hw).pick [0] I rfl⟩
end Go.Proofs.YtgfdoognildoeaaGreat
namespace Go.Proofs.YtgfdoognildoeaaGreat
open Go.GX Go.RowKit
attribute [local irreducible] Calls Run jg jh JU HR HL HD jU jK Jc Rd jL jd
open Ra
theorem fn77:IsFn Tryz.prog 77:=⟨⟨_,_,Tryz.func77,rfl,by decide⟩⟩
theorem fn82:IsFn Tryz.prog 82:=⟨⟨_,_,Tryz.func82,rfl,by decide⟩⟩
theorem fn81:IsFn Tryz.prog 81:=⟨⟨_,_,Tryz.func81,rfl,by decide⟩⟩
theorem jRS:Elem Tryz.prog 184 22 1 24:=⟨rfl,⟨_,_,rfl,rfl,rfl,rfl,rfl⟩,by decide⟩
abbrev jKv (ve vo vn:Value):Value:= .agg ⟨[ve,vo,vn]⟩
structure OkA (w:World) (a:Air) (ve vo vn:Value):Prop where
 e:Sl w ve (cellsOf edC a.e) a.e.length
 o:Sl w vo (cellsOf iC a.o) a.o.length
 n:Sl w vn (cellsOf iC a.n) a.n.length
 le:a.e.length≤300
 lo:a.o.length≤60
 ln:a.n.length≤60
theorem OkA.at {w0 w:World} {a:Air} {ve vo vn:Value} (h:OkA w0 a ve vo vn) {H:List Chunk} (hw:Sat (base w0) H w):OkA w a ve vo vn:=⟨(Rd.arg h.e).at hw,(Rd.arg h.o).at hw,(Rd.arg h.n).at hw,h.le,h.lo,h.ln⟩
theorem jKL (ls:List (Value×List Int)) (vl:Value) (w:World) (hl:Sl w vl (cellsOf (fun p:Value×List Int=>[p.1]) ls) ls.length) (hs:∀p∈ls,Sl w p.1 (cellsOf iC p.2) p.2.length) (hlen:ls.length≤2) (hb:∀p∈ls,p.2.length≤1000):
  Calls Tryz.prog 82 #[vl] w fun e w'=>∃v,e= .returned v∧Sat (base w) [jK v 3 1 (ls.map (·.2)).flatten.length (cellsOf iC (ls.map (·.2)).flatten)] w':=by
 refine jB Tryz.func82 I (Nat.le_of_ble_eq_true I) ?_
 refine HR.sub (σ':=[(0,vl)]) ⟨I,trivial⟩ ?_
 repeat' (first|(refine HL.J4 ?_;first|refine HL.ev I I ?_|refine HL.evc I I (by first|omega|(simp;done)|(simp;omega)) ?_|refine HL.j4 (Rd.arg hl) I I I ?_|(refine HL.isLoad ?_;first|refine HL.L 0 I I I I ?_|refine HL.L 1 I I I I ?_|refine HL.L 2 I I I I ?_|refine HL.L 3 I I I I ?_)|(refine HL.jQ ?_;first|refine HL.S 0 I I I I I ?_|refine HL.S 1 I I I I I ?_|refine HL.S 2 I I I I I ?_|refine HL.S 3 I I I I I ?_)|refine HL.build I I ?_|refine HL.field I I ?_|(refine HL.box I I ?_;intro bk)|(refine HL.alloc I I ?_;intro bk)|refine HL.skip rfl rfl ?_|refine HL.j5 rfl ?_|apply HL.zZ rfl rfl rfl rfl rfl rfl rfl rfl|apply HL.orB rfl rfl rfl rfl rfl rfl rfl rfl)|refine HL.nil ?_|refine HR.ctl rfl ?_|refine HR.region ?_|refine HR.JA rfl ?_|refine HR.jy rfl ?_|exact HL.jc rfl rfl Ent.refl|(refine fun (hb:(_:Bool)=_)=>?_;try simp at hb))
 refine HR.zY 3 1 ?_
 refine HR.Kc (α:=Nat) (β:=Value) (fun k v=>k≤ls.length∧((ls.take k).map (·.2)).flatten.length≤1000*k) (fun k v=>[(3,v),(6,vl),(7,.int .i64 (ls.length:Int)),(8,.int .i64 (k:Int))]) (fun k v=>[jK v 3 1 ((ls.take k).map (·.2)).flatten.length (cellsOf iC ((ls.take k).map (·.2)).flatten)]) (fun k v=>ls.length-k) 0 (.slice none 0 0) ⟨Nat.zero_le _,by simp⟩ ⟨I,I,I,I,trivial⟩ Ent.refl ?_
 rintro k v ⟨hk,hkl⟩ ih
 repeat' (first|(refine HL.J4 ?_;first|refine HL.ev I I ?_|refine HL.evc I I (by first|omega|(simp;done)|(simp;omega)) ?_|(refine HL.isLoad ?_;first|refine HL.L 0 I I I I ?_|refine HL.L 1 I I I I ?_|refine HL.L 2 I I I I ?_|refine HL.L 3 I I I I ?_)|(refine HL.jQ ?_;first|refine HL.S 0 I I I I I ?_|refine HL.S 1 I I I I I ?_|refine HL.S 2 I I I I I ?_|refine HL.S 3 I I I I I ?_)|refine HL.build I I ?_|refine HL.field I I ?_|(refine HL.box I I ?_;intro bk)|(refine HL.alloc I I ?_;intro bk)|refine HL.skip rfl rfl ?_|refine HL.j5 rfl ?_|apply HL.zZ rfl rfl rfl rfl rfl rfl rfl rfl|apply HL.orB rfl rfl rfl rfl rfl rfl rfl rfl)|refine HL.nil ?_|refine HR.ctl rfl ?_|refine HR.region ?_|refine HR.JA rfl ?_|refine HR.jy rfl ?_|exact HL.jc rfl rfl Ent.refl|(refine fun (hb:(_:Bool)=_)=>?_;try simp at hb))
 refine HR.cond I (fun h2=>?_) (fun h2=>?_)
 ·have hlt:k<ls.length:=by have:=of_decide_eq_true h2;omega
  obtain ⟨p,hp⟩:=jH hlt
  have hpl:=hb p (List.mem_of_getElem? hp)
  have hps:=hs p (List.mem_of_getElem? hp)
  repeat' (first|(refine HL.J4 ?_;first|refine HL.ev I I ?_|refine HL.evc I I (by first|omega|(simp;done)|(simp;omega)) ?_|refine HL.jw (Rd.arg hl) jRS k I I I I hlt ?_|refine HL.jY (Rd.arg hl) I I I I (jV (f:=fun p:Value×List Int=>p.1) hp) ?_|refine HL.zD 0 I Jg (Rd.arg hps) I I I (jC KH _) (jT (fun _=>rfl) _) (by omega) (by omega) ?_|(refine HL.isLoad ?_;first|refine HL.L 0 I I I I ?_|refine HL.L 1 I I I I ?_|refine HL.L 2 I I I I ?_|refine HL.L 3 I I I I ?_)|(refine HL.jQ ?_;first|refine HL.S 0 I I I I I ?_|refine HL.S 1 I I I I I ?_|refine HL.S 2 I I I I I ?_|refine HL.S 3 I I I I I ?_)|refine HL.build I I ?_|refine HL.field I I ?_|(refine HL.box I I ?_;intro bk)|(refine HL.alloc I I ?_;intro bk)|refine HL.skip rfl rfl ?_|refine HL.j5 rfl ?_|apply HL.zZ rfl rfl rfl rfl rfl rfl rfl rfl|apply HL.orB rfl rfl rfl rfl rfl rfl rfl rfl)|refine HL.nil ?_|refine HR.ctl rfl ?_|refine HR.region ?_|refine HR.JA rfl ?_|refine HR.jy rfl ?_|exact HL.jc rfl rfl Ent.refl|(refine fun (hb:(_:Bool)=_)=>?_;try simp at hb))
  intro v2
  repeat' (first|(refine HL.J4 ?_;first|refine HL.ev I I ?_|refine HL.evc I I (by first|omega|(simp;done)|(simp;omega)) ?_|(refine HL.isLoad ?_;first|refine HL.L 0 I I I I ?_|refine HL.L 1 I I I I ?_|refine HL.L 2 I I I I ?_|refine HL.L 3 I I I I ?_)|(refine HL.jQ ?_;first|refine HL.S 0 I I I I I ?_|refine HL.S 1 I I I I I ?_|refine HL.S 2 I I I I I ?_|refine HL.S 3 I I I I I ?_)|refine HL.build I I ?_|refine HL.field I I ?_|(refine HL.box I I ?_;intro bk)|(refine HL.alloc I I ?_;intro bk)|refine HL.skip rfl rfl ?_|refine HL.j5 rfl ?_|apply HL.zZ rfl rfl rfl rfl rfl rfl rfl rfl|apply HL.orB rfl rfl rfl rfl rfl rfl rfl rfl)|refine HL.nil ?_|refine HR.ctl rfl ?_|refine HR.region ?_|refine HR.JA rfl ?_|refine HR.jy rfl ?_|exact HL.jc rfl rfl Ent.refl|(refine fun (hb:(_:Bool)=_)=>?_;try simp at hb))
  have et:((ls.take (k+1)).map (·.2)).flatten=((ls.take k).map (·.2)).flatten++p.2:=by rw[jG hp];simp
  refine ih (k+1) v2 _ _ ⟨hlt,by rw[et,List.length_append];omega⟩ (by omega) ⟨I,I,I,I,trivial⟩ (Ent.JM ?_ ?_)
  ·rw [et,List.length_append]
  ·rw [et,jM]
 ·have hke:k=ls.length:=by have:=of_decide_eq_false h2;omega
  subst hke
  repeat' (first|(refine HL.J4 ?_;first|refine HL.ev I I ?_|refine HL.evc I I (by first|omega|(simp;done)|(simp;omega)) ?_|(refine HL.isLoad ?_;first|refine HL.L 0 I I I I ?_|refine HL.L 1 I I I I ?_|refine HL.L 2 I I I I ?_|refine HL.L 3 I I I I ?_)|(refine HL.jQ ?_;first|refine HL.S 0 I I I I I ?_|refine HL.S 1 I I I I I ?_|refine HL.S 2 I I I I I ?_|refine HL.S 3 I I I I I ?_)|refine HL.build I I ?_|refine HL.field I I ?_|(refine HL.box I I ?_;intro bk)|(refine HL.alloc I I ?_;intro bk)|refine HL.skip rfl rfl ?_|refine HL.j5 rfl ?_|apply HL.zZ rfl rfl rfl rfl rfl rfl rfl rfl|apply HL.orB rfl rfl rfl rfl rfl rfl rfl rfl)|refine HL.nil ?_|refine HR.ctl rfl ?_|refine HR.region ?_|refine HR.JA rfl ?_|refine HR.jy rfl ?_|exact HL.jc rfl rfl Ent.refl|(refine fun (hb:(_:Bool)=_)=>?_;try simp at hb))
  refine HR.ret Tryz.func82 I [_] (fun _ _=>⟨I,trivial⟩) ?_
  rw[List.take_length]
  exact fun w' hw=>⟨v,rfl,hw⟩
theorem jMi {l m:List Int} {v1 v2 vl:Value} {w:World} (hl:Sl w vl [v1,v2] 2) (h1:Sl w v1 (cellsOf iC l) l.length) (h2:Sl w v2 (cellsOf iC m) m.length) (b1:l.length≤60) (b2:m.length≤60):
  Calls Tryz.prog 82 #[vl] w fun e w'=>∃v,e= .returned v∧Sat (base w) [jK v 3 1 (l++m).length (cellsOf iC (l++m))] w':=by
 have:=jKL [(v1,l),(v2,m)] vl w hl (fun p hp=>by simp only[List.mem_cons,List.not_mem_nil,or_false]at hp;rcases hp with rfl|rfl;exact h1;exact h2) (Nat.le_refl _) (fun p hp=>by simp at hp;rcases hp with rfl|rfl<;>simp<;>omega)
 simpa using this
theorem jAW (a:Air) (ve vo vn:Value) (w:World) (hv:OkA w a ve vo vn):
  Calls Tryz.prog 77 #[jKv ve vo vn] w fun e w'=>e= .returned (.int .i64 (Ra.check a))∧Below w.heap.size w w':=by
 have le:=hv.le
 have lo:=hv.lo
 have ln:=hv.ln
 obtain ⟨o1,o2,rfl,_⟩:=hv.o.2
 obtain ⟨n1,n2,rfl,_⟩:=hv.n.2
 refine jB Tryz.func77 I (Nat.le_of_ble_eq_true I) ?_
 refine HR.sub (σ':=[(0,jKv ve (.slice o1 a.o.length o2) (.slice n1 a.n.length n2))]) ⟨I,trivial⟩ ?_
 repeat' (first|(refine HL.J4 ?_;first|refine HL.ev I I ?_|refine HL.evc I I (by first|omega|(simp;done)|(simp;omega)) ?_|refine HL.jN fn147 I I (fun w hw=>jNK a.e ve w ((Rd.arg hv.e).at hw) (by omega)) ?_|(refine HL.isLoad ?_;first|refine HL.L 0 I I I I ?_|refine HL.L 1 I I I I ?_|refine HL.L 2 I I I I ?_|refine HL.L 3 I I I I ?_)|(refine HL.jQ ?_;first|refine HL.S 0 I I I I I ?_|refine HL.S 1 I I I I I ?_|refine HL.S 2 I I I I I ?_|refine HL.S 3 I I I I I ?_)|refine HL.build I I ?_|refine HL.field I I ?_|(refine HL.box I I ?_;intro bk)|(refine HL.alloc I I ?_;intro bk)|refine HL.skip rfl rfl ?_|refine HL.j5 rfl ?_|apply HL.zZ rfl rfl rfl rfl rfl rfl rfl rfl|apply HL.orB rfl rfl rfl rfl rfl rfl rfl rfl)|refine HL.nil ?_|refine HR.ctl rfl ?_|refine HR.region ?_|refine HR.JA rfl ?_|refine HR.jy rfl ?_|exact HL.jc rfl rfl Ent.refl|(refine fun (hb:(_:Bool)=_)=>?_;try simp at hb))
 refine HR.cond I (fun h=>?_) (fun h=>?_)
 ·repeat' (first|(refine HL.J4 ?_;first|refine HL.ev I I ?_|refine HL.evc I I (by first|omega|(simp;done)|(simp;omega)) ?_|(refine HL.isLoad ?_;first|refine HL.L 0 I I I I ?_|refine HL.L 1 I I I I ?_|refine HL.L 2 I I I I ?_|refine HL.L 3 I I I I ?_)|(refine HL.jQ ?_;first|refine HL.S 0 I I I I I ?_|refine HL.S 1 I I I I I ?_|refine HL.S 2 I I I I I ?_|refine HL.S 3 I I I I I ?_)|refine HL.build I I ?_|refine HL.field I I ?_|(refine HL.box I I ?_;intro bk)|(refine HL.alloc I I ?_;intro bk)|refine HL.skip rfl rfl ?_|refine HL.j5 rfl ?_|apply HL.zZ rfl rfl rfl rfl rfl rfl rfl rfl|apply HL.orB rfl rfl rfl rfl rfl rfl rfl rfl)|refine HL.nil ?_|refine HR.ctl rfl ?_|refine HR.region ?_|refine HR.JA rfl ?_|refine HR.jy rfl ?_|exact HL.jc rfl rfl Ent.refl|(refine fun (hb:(_:Bool)=_)=>?_;try simp at hb))
  refine HR.ret Tryz.func77 I [_] (fun _ _=>⟨I,trivial⟩) ?_
  exact fun w' hw=>⟨by rw[jRY (by simpa using h)];rfl,hw.jE⟩
 have h0:Tp.check a.e=0:=by simpa using h
 repeat' (first|(refine HL.J4 ?_;first|refine HL.ev I I ?_|refine HL.evc I I (by first|omega|(simp;done)|(simp;omega)) ?_|(refine HL.isLoad ?_;first|refine HL.L 0 I I I I ?_|refine HL.L 1 I I I I ?_|refine HL.L 2 I I I I ?_|refine HL.L 3 I I I I ?_)|(refine HL.jQ ?_;first|refine HL.S 0 I I I I I ?_|refine HL.S 1 I I I I I ?_|refine HL.S 2 I I I I I ?_|refine HL.S 3 I I I I I ?_)|refine HL.build I I ?_|refine HL.field I I ?_|(refine HL.box I I ?_;intro bk)|(refine HL.alloc I I ?_;intro bk)|refine HL.skip rfl rfl ?_|refine HL.j5 rfl ?_|apply HL.zZ rfl rfl rfl rfl rfl rfl rfl rfl|apply HL.orB rfl rfl rfl rfl rfl rfl rfl rfl)|refine HL.nil ?_|refine HR.ctl rfl ?_|refine HR.region ?_|refine HR.JA rfl ?_|refine HR.jy rfl ?_|exact HL.jc rfl rfl Ent.refl|(refine fun (hb:(_:Bool)=_)=>?_;try simp at hb))
 refine HL.jk jRS I I I I I (by decide) (by decide) ?_
 intro v1
 refine HL.JN fn82 I I (fun w hw=>jMi ((Rd.own 0 rfl).at hw) ((Rd.arg hv.o).at hw) ((Rd.arg hv.n).at hw) hv.lo hv.ln) ?_
 intro v2
 have hal:(a.o++a.n).length≤120:=by rw[List.length_append];omega
 repeat' (first|(refine HL.J4 ?_;first|refine HL.ev I I ?_|refine HL.evc I I (by first|omega|(simp;done)|(simp;omega)) ?_|refine HL.j4 (Rd.own 0 I) I I I ?_|(refine HL.isLoad ?_;first|refine HL.L 0 I I I I ?_|refine HL.L 1 I I I I ?_|refine HL.L 2 I I I I ?_|refine HL.L 3 I I I I ?_)|(refine HL.jQ ?_;first|refine HL.S 0 I I I I I ?_|refine HL.S 1 I I I I I ?_|refine HL.S 2 I I I I I ?_|refine HL.S 3 I I I I I ?_)|refine HL.build I I ?_|refine HL.field I I ?_|(refine HL.box I I ?_;intro bk)|(refine HL.alloc I I ?_;intro bk)|refine HL.skip rfl rfl ?_|refine HL.j5 rfl ?_|apply HL.zZ rfl rfl rfl rfl rfl rfl rfl rfl|apply HL.orB rfl rfl rfl rfl rfl rfl rfl rfl)|refine HL.nil ?_|refine HR.ctl rfl ?_|refine HR.region ?_|refine HR.JA rfl ?_|refine HR.jy rfl ?_|exact HL.jc rfl rfl Ent.refl|(refine fun (hb:(_:Bool)=_)=>?_;try simp at hb))
 refine HR.loop (ι:=Nat) (fun k=>k≤(a.o++a.n).length∧((a.o++a.n).take k).all Tp.okN=true) (fun k=>[(1,.pointer (some ⟨bk,0,none⟩)),(17,v2),(18,.int .i64 ((a.o++a.n).length:Int)),(19,.int .i64 (k:Int))]) (fun _=>[jK v2 3 1 (a.o++a.n).length (cellsOf iC (a.o++a.n)),jU bk [ve,.slice o1 a.o.length o2,.slice n1 a.n.length n2] 34]) (fun k=>(a.o++a.n).length-k) 0 ⟨Nat.zero_le _,by simp⟩ ⟨I,I,I,I,trivial⟩ (Ent.pick [0,2] I I) ?_
 rintro k ⟨hk,hg⟩ ih
 repeat' (first|(refine HL.J4 ?_;first|refine HL.ev I I ?_|refine HL.evc I I (by first|omega|(simp;done)|(simp;omega)) ?_|(refine HL.isLoad ?_;first|refine HL.L 0 I I I I ?_|refine HL.L 1 I I I I ?_|refine HL.L 2 I I I I ?_|refine HL.L 3 I I I I ?_)|(refine HL.jQ ?_;first|refine HL.S 0 I I I I I ?_|refine HL.S 1 I I I I I ?_|refine HL.S 2 I I I I I ?_|refine HL.S 3 I I I I I ?_)|refine HL.build I I ?_|refine HL.field I I ?_|(refine HL.box I I ?_;intro bk)|(refine HL.alloc I I ?_;intro bk)|refine HL.skip rfl rfl ?_|refine HL.j5 rfl ?_|apply HL.zZ rfl rfl rfl rfl rfl rfl rfl rfl|apply HL.orB rfl rfl rfl rfl rfl rfl rfl rfl)|refine HL.nil ?_|refine HR.ctl rfl ?_|refine HR.region ?_|refine HR.JA rfl ?_|refine HR.jy rfl ?_|exact HL.jc rfl rfl Ent.refl|(refine fun (hb:(_:Bool)=_)=>?_;try simp at hb))
 refine HR.cond I (fun h2=>?_) (fun h2=>?_)
 ·have hlt:k<(a.o++a.n).length:=by have:=of_decide_eq_true h2;omega
  obtain ⟨x,hx⟩:=jH hlt
  repeat' (first|(refine HL.J4 ?_;first|refine HL.ev I I ?_|refine HL.evc I I (by first|omega|(simp;done)|(simp;omega)) ?_|refine HL.jw (Rd.own 0 I) Jg k I I I I hlt ?_|refine HL.jY (Rd.own 0 I) I I I I (jV hx) ?_|(refine HL.isLoad ?_;first|refine HL.L 0 I I I I ?_|refine HL.L 1 I I I I ?_|refine HL.L 2 I I I I ?_|refine HL.L 3 I I I I ?_)|(refine HL.jQ ?_;first|refine HL.S 0 I I I I I ?_|refine HL.S 1 I I I I I ?_|refine HL.S 2 I I I I I ?_|refine HL.S 3 I I I I I ?_)|refine HL.build I I ?_|refine HL.field I I ?_|(refine HL.box I I ?_;intro bk)|(refine HL.alloc I I ?_;intro bk)|refine HL.skip rfl rfl ?_|refine HL.j5 rfl ?_|apply HL.zZ rfl rfl rfl rfl rfl rfl rfl rfl|apply HL.orB rfl rfl rfl rfl rfl rfl rfl rfl)|refine HL.nil ?_|refine HR.ctl rfl ?_|refine HR.region ?_|refine HR.JA rfl ?_|refine HR.jy rfl ?_|exact HL.jc rfl rfl Ent.refl|(refine fun (hb:(_:Bool)=_)=>?_;try simp at hb))
  have hx2:(decide (x<0)||decide (x>250))=!Tp.okN x:=by
   rw[Bool.eq_iff_iff];simp only[Tp.okN,Bool.or_eq_true,decide_eq_true_eq,Bool.not_eq_true',Bool.and_eq_false_iff,decide_eq_false_iff_not];omega
  refine HR.cond I (fun h3=>?_) (fun h3=>?_)
  ·rw [hx2]at h3
   repeat' (first|(refine HL.J4 ?_;first|refine HL.ev I I ?_|refine HL.evc I I (by first|omega|(simp;done)|(simp;omega)) ?_|(refine HL.isLoad ?_;first|refine HL.L 0 I I I I ?_|refine HL.L 1 I I I I ?_|refine HL.L 2 I I I I ?_|refine HL.L 3 I I I I ?_)|(refine HL.jQ ?_;first|refine HL.S 0 I I I I I ?_|refine HL.S 1 I I I I I ?_|refine HL.S 2 I I I I I ?_|refine HL.S 3 I I I I I ?_)|refine HL.build I I ?_|refine HL.field I I ?_|(refine HL.box I I ?_;intro bk)|(refine HL.alloc I I ?_;intro bk)|refine HL.skip rfl rfl ?_|refine HL.j5 rfl ?_|apply HL.zZ rfl rfl rfl rfl rfl rfl rfl rfl|apply HL.orB rfl rfl rfl rfl rfl rfl rfl rfl)|refine HL.nil ?_|refine HR.ctl rfl ?_|refine HR.region ?_|refine HR.JA rfl ?_|refine HR.jy rfl ?_|exact HL.jc rfl rfl Ent.refl|(refine fun (hb:(_:Bool)=_)=>?_;try simp at hb))
   refine HR.ret Tryz.func77 I [_] (fun _ _=>⟨I,trivial⟩) ?_
   exact fun w' hw=>⟨by rw[jRa h0 (jS5 hx (by simpa using h3))];rfl,hw.jE⟩
  ·rw [hx2]at h3
   repeat' (first|(refine HL.J4 ?_;first|refine HL.ev I I ?_|refine HL.evc I I (by first|omega|(simp;done)|(simp;omega)) ?_|(refine HL.isLoad ?_;first|refine HL.L 0 I I I I ?_|refine HL.L 1 I I I I ?_|refine HL.L 2 I I I I ?_|refine HL.L 3 I I I I ?_)|(refine HL.jQ ?_;first|refine HL.S 0 I I I I I ?_|refine HL.S 1 I I I I I ?_|refine HL.S 2 I I I I I ?_|refine HL.S 3 I I I I I ?_)|refine HL.build I I ?_|refine HL.field I I ?_|(refine HL.box I I ?_;intro bk)|(refine HL.alloc I I ?_;intro bk)|refine HL.skip rfl rfl ?_|refine HL.j5 rfl ?_|apply HL.zZ rfl rfl rfl rfl rfl rfl rfl rfl|apply HL.orB rfl rfl rfl rfl rfl rfl rfl rfl)|refine HL.nil ?_|refine HR.ctl rfl ?_|refine HR.region ?_|refine HR.JA rfl ?_|refine HR.jy rfl ?_|exact HL.jc rfl rfl Ent.refl|(refine fun (hb:(_:Bool)=_)=>?_;try simp at hb))
   exact ih (k+1) _ _ ⟨hlt,by rw[jPx hx,hg];simpa using h3⟩ (by omega) ⟨I,I,I,I,trivial⟩ Ent.refl
 have hke:k=(a.o++a.n).length:=by have:=of_decide_eq_false h2;omega
 subst hke
 rw[List.take_length]at hg
 repeat' (first|(refine HL.J4 ?_;first|refine HL.ev I I ?_|refine HL.evc I I (by first|omega|(simp;done)|(simp;omega)) ?_|refine HL.j4 (Rd.arg hv.o) I I I ?_|refine HL.j4 (Rd.arg hv.n) I I I ?_|(refine HL.isLoad ?_;first|refine HL.L 0 I I I I ?_|refine HL.L 1 I I I I ?_|refine HL.L 2 I I I I ?_|refine HL.L 3 I I I I ?_)|(refine HL.jQ ?_;first|refine HL.S 0 I I I I I ?_|refine HL.S 1 I I I I I ?_|refine HL.S 2 I I I I I ?_|refine HL.S 3 I I I I I ?_)|refine HL.build I I ?_|refine HL.field I I ?_|(refine HL.box I I ?_;intro bk)|(refine HL.alloc I I ?_;intro bk)|refine HL.skip rfl rfl ?_|refine HL.j5 rfl ?_|apply HL.zZ rfl rfl rfl rfl rfl rfl rfl rfl|apply HL.orB rfl rfl rfl rfl rfl rfl rfl rfl)|refine HL.nil ?_|refine HR.ctl rfl ?_|refine HR.region ?_|refine HR.JA rfl ?_|refine HR.jy rfl ?_|exact HL.jc rfl rfl Ent.refl|(refine fun (hb:(_:Bool)=_)=>?_;try simp at hb))
 refine HR.cond I (fun h3=>?_) (fun h3=>?_)
 ·have h3:(decide ((a.o.length:Int)>24)||decide ((a.n.length:Int)>24))=true:=h3
  simp only[Bool.or_eq_true,decide_eq_true_eq]at h3
  repeat' (first|(refine HL.J4 ?_;first|refine HL.ev I I ?_|refine HL.evc I I (by first|omega|(simp;done)|(simp;omega)) ?_|(refine HL.isLoad ?_;first|refine HL.L 0 I I I I ?_|refine HL.L 1 I I I I ?_|refine HL.L 2 I I I I ?_|refine HL.L 3 I I I I ?_)|(refine HL.jQ ?_;first|refine HL.S 0 I I I I I ?_|refine HL.S 1 I I I I I ?_|refine HL.S 2 I I I I I ?_|refine HL.S 3 I I I I I ?_)|refine HL.build I I ?_|refine HL.field I I ?_|(refine HL.box I I ?_;intro bk)|(refine HL.alloc I I ?_;intro bk)|refine HL.skip rfl rfl ?_|refine HL.j5 rfl ?_|apply HL.zZ rfl rfl rfl rfl rfl rfl rfl rfl|apply HL.orB rfl rfl rfl rfl rfl rfl rfl rfl)|refine HL.nil ?_|refine HR.ctl rfl ?_|refine HR.region ?_|refine HR.JA rfl ?_|refine HR.jy rfl ?_|exact HL.jc rfl rfl Ent.refl|(refine fun (hb:(_:Bool)=_)=>?_;try simp at hb))
  refine HR.ret Tryz.func77 I [_] (fun _ _=>⟨I,trivial⟩) ?_
  exact fun w' hw=>⟨by rw[jRZ h0 hg (by omega)];rfl,hw.jE⟩
 ·have h3:(decide ((a.o.length:Int)>24)||decide ((a.n.length:Int)>24))=false:=h3
  simp only[Bool.or_eq_false_iff,decide_eq_false_iff_not]at h3
  repeat' (first|(refine HL.J4 ?_;first|refine HL.ev I I ?_|refine HL.evc I I (by first|omega|(simp;done)|(simp;omega)) ?_|(refine HL.isLoad ?_;first|refine HL.L 0 I I I I ?_|refine HL.L 1 I I I I ?_|refine HL.L 2 I I I I ?_|refine HL.L 3 I I I I ?_)|(refine HL.jQ ?_;first|refine HL.S 0 I I I I I ?_|refine HL.S 1 I I I I I ?_|refine HL.S 2 I I I I I ?_|refine HL.S 3 I I I I I ?_)|refine HL.build I I ?_|refine HL.field I I ?_|(refine HL.box I I ?_;intro bk)|(refine HL.alloc I I ?_;intro bk)|refine HL.skip rfl rfl ?_|refine HL.j5 rfl ?_|apply HL.zZ rfl rfl rfl rfl rfl rfl rfl rfl|apply HL.orB rfl rfl rfl rfl rfl rfl rfl rfl)|refine HL.nil ?_|refine HR.ctl rfl ?_|refine HR.region ?_|refine HR.JA rfl ?_|refine HR.jy rfl ?_|exact HL.jc rfl rfl Ent.refl|(refine fun (hb:(_:Bool)=_)=>?_;try simp at hb))
  refine HR.ret Tryz.func77 I [_] (fun _ _=>⟨I,trivial⟩) ?_
  exact fun w' hw=>⟨by rw[jRb h0 hg (by omega)];rfl,hw.jE⟩
end Go.Proofs.YtgfdoognildoeaaGreat
