/- A part of the proof: contracts of the program's functions. Conditions: none. -/
import Derived.Carry
import Derived.Deep.MidRow
import Derived.Deep.Quiet
import Derived.Laws.IdiomRangeMap
import Derived.Laws.MakeOwn
import Derived.Laws.StructEq
import Derived.Laws.Tables
import Derived.Lib.AppendStr
import Derived.Lib.AppendZerosOnto
import Derived.Lib.OthersKept
import Derived.Lib.Overlaps
import Derived.Lib.OwnBridge
import Derived.Lib.SlicesCompact
import Derived.MapKept
import Derived.Orders
import Derived.OrdersHeld
import Derived.Scope
import Derived.SizedLaws
import Derived.SliceStrings
import Derived.Sort.Grow
import Derived.StillTail
import Derived.Test.YtgfdoognildoeaaGreatProg
import Derived.Test.YtgfdoognildoeaaGreatShelf
import Derived.WalkKit
import Derived.WalkLawsBesides
import Derived.WalkSpells
import Derived.Test.YtgfdoognildoeaaGreatQB1
import Derived.Test.YtgfdoognildoeaaGreatQB2
import Derived.Test.YtgfdoognildoeaaGreatQB3
import Derived.Test.YtgfdoognildoeaaGreatQB4
import Derived.Test.YtgfdoognildoeaaGreatQB5
import Derived.Test.YtgfdoognildoeaaGreatQB6
import Derived.Test.YtgfdoognildoeaaGreatQB7
import Derived.Test.YtgfdoognildoeaaGreatQB8
import Derived.Test.YtgfdoognildoeaaGreatQB9
import Derived.Test.YtgfdoognildoeaaGreatQB10
import Derived.Test.YtgfdoognildoeaaGreatQB11
import Derived.Test.YtgfdoognildoeaaGreatQB12
import Derived.Test.YtgfdoognildoeaaGreatQB13
import Derived.Test.YtgfdoognildoeaaGreatQB14
import Derived.Test.YtgfdoognildoeaaGreatQB15
set_option linter.unusedVariables false
set_option linter.unusedSectionVars false
set_option linter.unusedSimpArgs false
set_option maxRecDepth 100000
set_option maxHeartbeats 4000000
namespace Go.Proofs.YtgfdoognildoeaaGreat
open Go.GX Go.RowKit
attribute [local irreducible] Calls Run jg jh JU HR HL HD jU jK Jc Rd jL jd
open Nd
abbrev opC (o:Me.Op) (ve vo vn:Value):List Value:=[.int .i64 o.kind,.int .i64 o.n,.int .i64 o.m,.bool o.ur,str o.te,ve,vo,vn]
theorem GdN.jR5 {n:Nd} (h:FitG n) (hp:∀p∈n.parts,jBj p) (hw:Me.WfO n):GdN n:=⟨h.sm hp,hw⟩
theorem jMV (m:Me.Mesh) (s d:Int) (ur:Bool) (te:By):(Me.jBG m s d ur te).1.nodes.length≤m.nodes.length:=by
 unfold Me.jBG;split
 ·exact Nat.zero_le _
 ·split
  ·exact Nat.zero_le _
  ·simp
theorem jFe (m:Me.Mesh) (a:Int):(Me.jAN m a).1.nodes.length≤m.nodes.length∧(Me.jAN m a).2.length≤256:=by
 unfold Me.jAN;split
 ·exact ⟨Nat.le_refl _,Nat.zero_le _⟩
 ·exact ⟨by simp,List.length_take_le _ _⟩
theorem jFf (m:Me.Mesh) (a:Int):(Me.ZV m a).nodes.length≤m.nodes.length:=by
 unfold Me.ZV;split
 ·exact Nat.le_refl _
 ·simp
theorem meshSends_any (xs:List (NV×Nd)) (t:Int) (v:Value) (o:Me.Op) (ve vo vn:Value) (w:World) (h:OkL w v xs) (hp:∀x∈xs,(∀ p∈x.2.parts,jBj p)∧Me.WfO x.2):
  Calls Tryz.prog 6 #[meV t v,.agg ⟨opC o ve vo vn⟩] w fun e w'=>e= .returned (.bool true)∧Below w.heap.size w w':=by
 refine jB Tryz.func6 I (Nat.le_of_ble_eq_true I) ?_
 refine HR.sub (σ':=[(0,meV t v),(1,.agg ⟨opC o ve vo vn⟩)]) ⟨I,I,trivial⟩ ?_
 refine HR.ctl I ?_
 refine HR.region ?_
 refine HL.box I I ?_
 intro b2
 refine HL.box I I ?_
 intro b3
 repeat' (first|refine zh ?_|intro (bk:Nat))
 refine HL.JD (r:=fun b:Bool=> .bool b) (Q:=fun b=>b=false→FitL xs) (G:=fun _=>[]) fn13 I I (fun w1 hw1=>jMy xs t v w1 (h.ext hw1.jE)) ?_
 intro b hb
 cases b with
 |true=>
  repeat' (first|refine zh ?_|refine HL.jN fn9 I I (fun w1 _=>jCT w1) ?_|apply zb ?_ ?_|exact zc|(refine zi fun hb=>?_;try simp at hb)|intro (bk:Nat))
  refine HR.ret Tryz.func6 I [_] (fun _ _=>⟨I,trivial⟩) ?_
  exact fun w' hw=>⟨rfl,hw.jE⟩
 |false=>
 have hf:=hb I
 clear hb
 have hl:xs.length≤1000:=Nat.le_trans hf.len (by decide)
 have hg:∀x∈xs,GdN x.2:=fun x hx=> .jR5 (hf.fit x hx) (hp x hx).1 (hp x hx).2
 have hs:∀x∈xs,SmN x.2:=fun x hx=>(hg x hx).sm
 repeat' (first|refine zh ?_|apply zb ?_ ?_|exact zc|(refine zi fun hb=>?_;try simp at hb)|intro (bk:Nat))
 refine HR.cond I (fun h1=>?_) (fun h1=>?_)
 ·repeat' (first|refine zh ?_|refine HL.jN fn9 I I (fun w1 _=>jCT w1) ?_|intro (bk:Nat))
  refine HR.ret Tryz.func6 I [_] (fun _ _=>⟨I,trivial⟩) ?_
  exact fun w' hw=>⟨rfl,hw.jE⟩
 have h1:o.te.length≤2000:=by have:¬(o.te.length:Int)>2000:=of_decide_eq_false h1;omega
 obtain ⟨M,hM⟩:∃M,M=Me.jBG ⟨t,nds xs⟩ o.n o.m o.ur o.te:=⟨_,rfl⟩
 obtain ⟨K,hK⟩:∃K,K=Me.jAN ⟨t,nds xs⟩ o.n:=⟨_,rfl⟩
 obtain ⟨R,hR⟩:∃R,R=Me.ZV ⟨t,nds xs⟩ o.n:=⟨_,rfl⟩
 repeat' (first|refine zh ?_|intro (bk:Nat))
 refine HL.JD (r:=fun x:SV×List (NV×Nd)×List Chunk=> .tuple ⟨[meV M.1.tick (sv x.1 x.2.1.length),.int .i64 M.2]⟩) (Q:=fun x=>jNX x M.1.nodes) (G:=fun x=>[cNd (sv x.1 x.2.1.length) x.2.1,jD x.2.2]) fn24 I I (fun w1 hw1=>by rw[hM];exact jML xs t o.n o.m o.ur o.te v w1 (h.ext hw1.jE) hg hl (by omega)) ?_
 rintro ⟨y1,ys1,G1⟩ ⟨⟨hN1,hO1⟩,hG1⟩
 have hN1:nds ys1=M.1.nodes:=hN1
 have hO1:∀z∈ys1,Own z.1 G1 z.2:=hO1
 have hG1:∀z∈ys1,GdN z.2:=hG1
 repeat' (first|refine zh ?_|intro (bk:Nat))
 refine HL.JD (r:=fun x:SV×List (NV×Nd)×List Chunk=> .tuple ⟨[meV M.1.tick (sv x.1 x.2.1.length),.int .i64 M.2]⟩) (Q:=fun x=>RfL v xs x M.1.nodes) (G:=fun x=>[jD x.2.2]) fn25 I I (fun w1 hw1=>by rw[hM];exact jGj xs t o.n o.m o.ur o.te v w1 (h.ext hw1.jE) hs hl (by omega)) ?_
 rintro ⟨y2,ys2,G2⟩ ⟨hN2,hI2⟩
 have hN2:nds ys2=M.1.nodes:=hN2
 have hI2:ImpL v (sv y2 ys2.length) xs ys2 G2:=hI2
 repeat' (first|refine zh ?_|intro (bk:Nat))
 refine HL.JD (r:=fun x:(SV×List (NV×Nd)×List Chunk)×Value=> .tuple ⟨[meV t (sv x.1.1 x.1.2.1.length),x.2]⟩) (Q:=fun x=>jNX x.1 K.1.nodes) (G:=fun x=>[cNd (sv x.1.1 x.1.2.1.length) x.1.2.1,jD x.1.2.2,cDe x.2 K.2]) fn26 I I (fun w1 hw1=>by rw[hK];exact jMJ xs t o.n v w1 (h.ext hw1.jE) hg hl) ?_
 rintro ⟨⟨y3,ys3,G3⟩,vd⟩ ⟨⟨hN3,hO3⟩,hG3⟩
 have hN3:nds ys3=K.1.nodes:=hN3
 have hO3:∀z∈ys3,Own z.1 G3 z.2:=hO3
 have hG3:∀z∈ys3,GdN z.2:=hG3
 repeat' (first|refine zh ?_|intro (bk:Nat))
 refine HL.ent (Ent.pick [9,10,0,4,6,1,2,3,5,7,8] I I) ?_
 repeat' (first|refine zh ?_|intro (bk:Nat))
 refine HL.JD (r:=fun x:(SV×List (NV×Nd)×List Chunk)×SV=> .tuple ⟨[meV t (sv x.1.1 x.1.2.1.length),sv x.2 K.2.length]⟩) (Q:=fun x=>RfL v xs x.1 K.1.nodes∧∀w2,(jD x.1.2.2).p w2→Sl w2 (sv x.2 K.2.length) (cellsOf deC K.2) K.2.length) (G:=fun x=>[jD x.1.2.2]) fn27 I I (fun w1 hw1=>by rw[hK];exact jGh xs t o.n v w1 (h.ext hw1.jE) hs hl) ?_
 rintro ⟨⟨y4,ys4,G4⟩,ve4⟩ ⟨⟨hN4,hI4⟩,hS4⟩
 have hN4:nds ys4=K.1.nodes:=hN4
 have hI4:ImpL v (sv y4 ys4.length) xs ys4 G4:=hI4
 have hS4:∀w2,(jD G4).p w2→Sl w2 (sv ve4 K.2.length) (cellsOf deC K.2) K.2.length:=hS4
 have hKl:K.2.length≤1000000:=by rw[hK];exact Nat.le_trans (jFe _ _).2 (by decide)
 have hl1:ys1.length≤1000:=by rw[← JQ,hN1,hM];refine Nat.le_trans (jMV _ _ _ _ _) ?_;rw[JQ];exact hl
 have hl3:ys3.length≤1000:=by rw[← JQ,hN3,hK];refine Nat.le_trans (jFe _ _).1 ?_;rw[JQ];exact hl
 repeat' (first|refine zh ?_|intro (bk:Nat))
 refine HR.j3 [(0,true),(1,true),(2,true),(3,true),(4,true),(5,true),(6,false),(7,true),(8,true),(9,true),(10,true),(11,false),(12,true),(13,true),(14,true),(15,true),(16,false),(17,true),(18,true),(19,true),(20,true),(21,true),(23,true),(24,true),(25,true),(22,false),(26,false),(27,false),(28,true),(29,true),(30,false),(31,true),(32,true)] [0,1,2,3,4,5,6,7,8,9,10,11,12] I I JZ (by kernel_rfl) ?_
 refine HD.ev I I I ?_
 refine HD.ev I I I ?_
 refine HD.ev I I I ?_
 refine HD.jCu 64 true I (by simp) ?_
 repeat' (first|refine zd ?_|fail)
 refine HD.one I ?_
 refine HL.jN (r:= .bool true) fn12 I I (fun w1 hw1=>jA8 M.1.tick (sv y1 ys1.length) (sv y2 ys2.length) ys1 ys2 w1 (jDW 11 12 hw1 I I hO1) (hI2 w1 (h.ext hw1.jE) (Sat.grp 10 hw1 I)) (hN1.trans hN2.symm) (fun z hz=>(hG1 z hz).sm) hl1) ?_
 refine HL.back [0,1,2,3,4,5,6,7,8,9,10,11,12] I I ?_
 repeat' (first|refine zd ?_|fail)
 refine HD.jCu 69 true I (by simp) ?_
 repeat' (first|refine zd ?_|fail)
 refine HD.one I ?_
 refine HL.jN (r:= .bool true) fn12 I I (fun w1 hw1=>jA8 t (sv y3 ys3.length) (sv y4 ys4.length) ys3 ys4 w1 (jDW 7 8 hw1 I I hO3) (hI4 w1 (h.ext hw1.jE) (Sat.grp 1 hw1 I)) (hN3.trans hN4.symm) (fun z hz=>(hG3 z hz).sm) hl3) ?_
 refine HL.back [0,1,2,3,4,5,6,7,8,9,10,11,12] I I ?_
 repeat' (first|refine zd ?_|fail)
 refine HD.one I ?_
 refine HL.jN (r:= .bool true) fn28 I I (fun w1 hw1=>by have:=jBS K.2 K.2 vd (sv ve4 K.2.length) w1 ((Rd.own 9 rfl).at hw1) (hS4 w1 (Sat.grp 1 hw1 I)) hKl;simpa using this) ?_
 refine HL.back [0,1,2,3,4,5,6,7,8,9,10,11,12] I I ?_
 repeat' (first|refine zd ?_|fail)
 refine HD.one I ?_
 refine HL.JD (r:=fun x:SV×List (NV×Nd)×List Chunk=>meV t (sv x.1 x.2.1.length)) (Q:=fun x=>jNX x R.nodes) (G:=fun x=>[cNd (sv x.1 x.2.1.length) x.2.1,jD x.2.2]) fn29 I I (fun w1 hw1=>by rw[hR];exact jFb xs t o.n v w1 (h.ext hw1.jE) hg hl) ?_
 rintro ⟨y5,ys5,G5⟩ ⟨⟨hN5,hO5⟩,hG5⟩
 have hN5:nds ys5=R.nodes:=hN5
 have hO5:∀z∈ys5,Own z.1 G5 z.2:=hO5
 have hG5:∀z∈ys5,GdN z.2:=hG5
 have hl5:ys5.length≤1000:=by rw[← JQ,hN5,hR];refine Nat.le_trans (jFf _ _) ?_;rw[JQ];exact hl
 refine HL.back [2,3,4,5,6,7,8,9,10,11,12,13,14] I I ?_
 repeat' (first|refine zd ?_|fail)
 refine HD.one I ?_
 refine HL.JD (r:=fun x:SV×List (NV×Nd)×List Chunk=>meV t (sv x.1 x.2.1.length)) (Q:=fun x=>RfL v xs x R.nodes) (G:=fun x=>[jD x.2.2]) fn30 I I (fun w1 hw1=>by rw[hR];exact jCy xs t o.n v w1 (h.ext hw1.jE) hg hl) ?_
 rintro ⟨y6,ys6,G6⟩ ⟨hN6,hI6⟩
 have hN6:nds ys6=R.nodes:=hN6
 have hI6:ImpL v (sv y6 ys6.length) xs ys6 G6:=hI6
 refine HL.back [3,4,5,6,7,8,9,10,11,12,13,14,15] I I ?_
 refine HD.one I ?_
 refine HL.jN (r:= .bool true) fn12 I I (fun w1 hw1=>jA8 t (sv y5 ys5.length) (sv y6 ys6.length) ys5 ys6 w1 (jDW 1 2 hw1 I I hO5) (hI6 w1 (h.ext hw1.jE) (Sat.grp 0 hw1 I)) (hN5.trans hN6.symm) (fun z hz=>(hG5 z hz).sm) hl5) ?_
 refine HL.back [3,4,5,6,7,8,9,10,11,12,13,14,15] I I ?_
 repeat' (first|refine zd ?_|fail)
 refine HD.one I ?_
 refine HL.jN (r:= .bool true) fn9 I I (fun w1 _=>jCT w1) ?_
 refine HL.back [3,4,5,6,7,8,9,10,11,12,13,14,15] I I ?_
 repeat' (first|refine zd ?_|fail)
 refine HD.nil ?_
 repeat' (first|refine zh ?_|intro (bk:Nat))
 refine HR.ret Tryz.func6 I [_] (fun _ _=>⟨I,trivial⟩) ?_
 exact fun w' hw=>⟨rfl,hw.jE⟩
end Go.Proofs.YtgfdoognildoeaaGreat
namespace Go.Proofs.YtgfdoognildoeaaGreat
open Go.GX Go.RowKit
attribute [local irreducible] Calls Run jg jh JU HR HL HD jU jK Jc Rd jL jd
open Nd
open Go.ChangeShapes Go.WideShapes
variable {H : Type} {enc : TypeId × Value → H} {W : World}
theorem jRw:jr enc Tryz.prog W 206 edC (fun _=>True):=by
 intro fuel cs x h hz
 obtain ⟨hl,hf⟩:=jr.fields (fs:=_) I h hz
 have cT:Tryz.prog.cellsOf 206=2:=by kernel_rfl
 have cf0:Tryz.prog.cellsOf 3=1:=by kernel_rfl
 rw[cT]at hl
 obtain ⟨fu0,y0,h0,i0⟩:=hf _ (List.mem_cons_self ..)
 obtain ⟨fu1,y1,h1,i1⟩:=hf _ (List.mem_cons_of_mem _ (List.mem_cons_self ..))
 obtain ⟨a0,g0,b0⟩:=(Opens.int (k:= .i64) rfl).z fu0 _ _ h0 i0
 obtain ⟨a1,g1,b1⟩:=(Opens.int (k:= .i64) rfl).z fu1 _ _ h1 i1
 have e0:=parts_eq g0 (m:=1) (by simp[cf0]) (by simp[cf0])
 have e1:=parts_eq g1 (m:=2) (by simp[cf0]) (by simp[cf0])
 refine ⟨⟨a0,a1⟩,?_,trivial⟩
 simp only[List.drop_zero]at e0
 rw[e0,e1,List.drop_eq_nil_of_le (by omega)];rfl
theorem opZ32:jr enc Tryz.prog W 32 (fun p:Value×List Ed=>[p.1]) (fun p=>Sl W p.1 (cellsOf edC p.2) p.2.length∧p.2.length*Tryz.prog.bytesOf 206≤reachBytes∧∀a∈p.2,True):=
 jr.slice (sz:=2) I (by kernel_rfl) (by decide) jHS jRw
abbrev AirA:=(Value×Value×Value)×Me.Air
abbrev aiE (a:AirA):List Value:=[a.1.1,a.1.2.1,a.1.2.2]
structure AiOk (W:World) (a:AirA):Prop where
 e:Sl W a.1.1 (cellsOf edC a.2.e) a.2.e.length
 o:Sl W a.1.2.1 (cellsOf iC a.2.o) a.2.o.length
 n:Sl W a.1.2.2 (cellsOf iC a.2.n) a.2.n.length
theorem opZ34:jr enc Tryz.prog W 34 aiE (AiOk W):=by
 intro fuel cs x h hz
 obtain ⟨hl,hf⟩:=jr.fields (fs:=_) I h hz
 have cT:Tryz.prog.cellsOf 34=3:=by kernel_rfl
 have cf0:Tryz.prog.cellsOf 32=1:=by kernel_rfl
 have cf1:Tryz.prog.cellsOf 22=1:=by kernel_rfl
 rw[cT]at hl
 obtain ⟨fu0,y0,h0,i0⟩:=hf _ (List.mem_cons_self ..)
 obtain ⟨fu1,y1,h1,i1⟩:=hf _ (List.mem_cons_of_mem _ (List.mem_cons_self ..))
 obtain ⟨fu2,y2,h2,i2⟩:=hf _ (List.mem_cons_of_mem _ (List.mem_cons_of_mem _ (List.mem_cons_self ..)))
 obtain ⟨⟨v0,l0⟩,g0,s0,n0,q0⟩:=opZ32 fu0 _ _ h0 i0
 obtain ⟨⟨v1,l1⟩,g1,s1,n1,q1⟩:=jQj fu1 _ _ h1 i1
 obtain ⟨⟨v2,l2⟩,g2,s2,n2,q2⟩:=jQj fu2 _ _ h2 i2
 obtain ⟨z0,hz0⟩:=J3 s0
 have hz0:v0=sv z0 l0.length:=hz0
 subst hz0
 obtain ⟨z1,hz1⟩:=J3 s1
 have hz1:v1=sv z1 l1.length:=hz1
 subst hz1
 obtain ⟨z2,hz2⟩:=J3 s2
 have hz2:v2=sv z2 l2.length:=hz2
 subst hz2
 have e0:=parts_eq g0 (m:=1) (by simp[cf0]) (by simp[cf0])
 have e1:=parts_eq g1 (m:=2) (by simp[cf1]) (by simp[cf1])
 have e2:=parts_eq g2 (m:=3) (by simp[cf1]) (by simp[cf1])
 refine ⟨((sv z0 l0.length,sv z1 l1.length,sv z2 l2.length),⟨l0,l1,l2⟩),?_,⟨s0,s1,s2⟩⟩
 simp only[List.drop_zero]at e0
 rw[e0,e1,e2,List.drop_eq_nil_of_le (by omega)];rfl
abbrev OpA:=(Value×Value×Value)×Me.Op
abbrev opE (a:OpA):List Value:=opC a.2 a.1.1 a.1.2.1 a.1.2.2
structure OpOk (W:World) (a:OpA):Prop where
 air:AiOk W (a.1,a.2.air)
 te:a.2.te.length≤9223372036854775807
theorem opZ44:jr enc Tryz.prog W 44 opE (OpOk W):=by
 intro fuel cs x h hz
 obtain ⟨hl,hf⟩:=jr.fields (fs:=_) I h hz
 have cT:Tryz.prog.cellsOf 44=8:=by kernel_rfl
 have cf0:Tryz.prog.cellsOf 3=1:=by kernel_rfl
 have cf1:Tryz.prog.cellsOf 4=1:=by kernel_rfl
 have cf2:Tryz.prog.cellsOf 9=1:=by kernel_rfl
 have cf3:Tryz.prog.cellsOf 34=3:=by kernel_rfl
 rw[cT]at hl
 obtain ⟨fu0,y0,h0,i0⟩:=hf _ (List.mem_cons_self ..)
 obtain ⟨fu1,y1,h1,i1⟩:=hf _ (List.mem_cons_of_mem _ (List.mem_cons_self ..))
 obtain ⟨fu2,y2,h2,i2⟩:=hf _ (List.mem_cons_of_mem _ (List.mem_cons_of_mem _ (List.mem_cons_self ..)))
 obtain ⟨fu3,y3,h3,i3⟩:=hf _ (List.mem_cons_of_mem _ (List.mem_cons_of_mem _ (List.mem_cons_of_mem _ (List.mem_cons_self ..))))
 obtain ⟨fu4,y4,h4,i4⟩:=hf _ (List.mem_cons_of_mem _ (List.mem_cons_of_mem _ (List.mem_cons_of_mem _ (List.mem_cons_of_mem _ (List.mem_cons_self ..)))))
 obtain ⟨fu5,y5,h5,i5⟩:=hf _ (List.mem_cons_of_mem _ (List.mem_cons_of_mem _ (List.mem_cons_of_mem _ (List.mem_cons_of_mem _ (List.mem_cons_of_mem _ (List.mem_cons_self ..))))))
 obtain ⟨a0,g0,b0⟩:=(Opens.int (k:= .i64) rfl).z fu0 _ _ h0 i0
 obtain ⟨a1,g1,b1⟩:=(Opens.int (k:= .i64) rfl).z fu1 _ _ h1 i1
 obtain ⟨a2,g2,b2⟩:=(Opens.int (k:= .i64) rfl).z fu2 _ _ h2 i2
 obtain ⟨a3,g3,b3⟩:=(Opens.bool rfl).z fu3 _ _ h3 i3
 obtain ⟨a4,g4,b4⟩:=(Opens.str rfl).z fu4 _ _ h4 i4
 obtain ⟨⟨⟨u5,w5,x5⟩,m5⟩,g5,b5⟩:=opZ34 fu5 _ _ h5 i5
 have e0:=parts_eq g0 (m:=1) (by simp[cf0]) (by simp[cf0])
 have e1:=parts_eq g1 (m:=2) (by simp[cf0]) (by simp[cf0])
 have e2:=parts_eq g2 (m:=3) (by simp[cf0]) (by simp[cf0])
 have e3:=parts_eq g3 (m:=4) (by simp[cf1]) (by simp[cf1])
 have e4:=parts_eq g4 (m:=5) (by simp[cf2]) (by simp[cf2])
 have e5:=parts_eq g5 (m:=8) (by simp[cf3]) (by simp[cf3])
 refine ⟨((u5,w5,x5),⟨a0,a1,a2,a3,a4,m5⟩),?_,⟨b5,b4⟩⟩
 simp only[List.drop_zero]at e0
 rw[e0,e1,e2,e3,e4,e5,List.drop_eq_nil_of_le (by omega)];rfl
end Go.Proofs.YtgfdoognildoeaaGreat
namespace Go.Proofs.YtgfdoognildoeaaGreat
open Go.GX Go.RowKit
attribute [local irreducible] Calls Run jg jh JU HR HL HD jU jK Jc Rd jL jd
open Nd
theorem meshSends.meshSends_any (a:MeA) (o:OpA) (w:World) (g:MeOkZ w a) (_:OpOk w o):
  Calls Tryz.prog 6 #[.agg ⟨meE a⟩,.agg ⟨opE o⟩] w fun e w'=>e= .returned (.bool true)∧Below w.heap.size w w':=Proofs.YtgfdoognildoeaaGreat.meshSends_any a.2.2 a.1 a.2.1 o.2 o.1.1 o.1.2.1 o.1.2.2 w g.ok (fun x hx=>⟨(g.nd x hx).sm,(g.nd x hx).wf⟩)
end Go.Proofs.YtgfdoognildoeaaGreat
