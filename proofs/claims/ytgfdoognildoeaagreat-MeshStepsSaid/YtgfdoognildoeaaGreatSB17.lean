/- Part of a proof. Conditions: none. -/
import Derived.Test.YtgfdoognildoeaaGreatSB16
set_option linter.unusedVariables false
set_option linter.unusedSectionVars false
set_option linter.unusedSimpArgs false
set_option maxRecDepth 100000
set_option maxHeartbeats 4000000
namespace Go.Proofs.YtgfdoognildoeaaGreat
open Go.GX Go.RowKit
attribute [local irreducible] Calls Run JH JL zU HR HL HD jS jM ZN Rd jg Jf
open Nd
open Go.ChangeShapes Go.WideShapes
variable {H : Type} {enc : TypeId × Value -> H} {W : World}
theorem Jj {w:World} {v:Value} {cs:List Value} {n:Nat} (h:Sl w v cs n):∃x:SV,v=sv x n:=by
 obtain ⟨_,a,c,e,_⟩:=h;exact ⟨(a,c),e⟩
theorem wfI {n:Int} (h:(Lit.int .i64 n).wf=true):Go.GX.fits .i64 n:=by
 have h:(decide (-9223372036854775808<=n)&&decide (n<=9223372036854775807))=true:=h;simp only[Bool.and_eq_true,decide_eq_true_eq]at h;exact h
theorem jRE:JA enc Tryz.prog W 22 (fun p:Value×List Int=>[p.1]) (fun p=>Sl W p.1 (cellsOf iC p.2) p.2.length/\p.2.length*Tryz.prog.bytesOf 3<=reachBytes/\∀a∈p.2,(Lit.int .i64 a).wf=true):=
 JA.slice (sz:=1) I (by kernel_rfl) (by decide) KP (Opens.int rfl).z
theorem opZ81:JA enc Tryz.prog W 81 (fun p:Value×List Bool=>[p.1]) (fun p=>Sl W p.1 (cellsOf bC p.2) p.2.length/\p.2.length*Tryz.prog.bytesOf 4<=reachBytes/\∀a∈p.2,True):=
 JA.slice (sz:=1) I (by kernel_rfl) (by decide) jBF (Opens.bool rfl).z
theorem jSS:JA enc Tryz.prog W 152 (fun p:Value×List By=>[p.1]) (fun p=>Sl W p.1 (cellsOf sC p.2) p.2.length/\p.2.length*Tryz.prog.bytesOf 9<=reachBytes/\∀a∈p.2,a.length<=9223372036854775807):=
 JA.slice (sz:=1) I (by kernel_rfl) (by decide) jCg (Q8 rfl).z
theorem jSL:JA enc Tryz.prog W 75 frC (fun f=>f.da.length<=9223372036854775807):=by
 intro fuel cs x h hz;obtain ⟨hl,hf⟩:=qp (fs:=_) I h hz;have cT:Tryz.prog.cellsOf 75=9:=by kernel_rfl
 have cf0:Tryz.prog.cellsOf 3=1:=by kernel_rfl
 have cf1:Tryz.prog.cellsOf 4=1:=by kernel_rfl
 have cf2:Tryz.prog.cellsOf 9=1:=by kernel_rfl
 rw[cT]at hl;obtain ⟨fu0,y0,h0,i0⟩:=hf _ (List.mem_cons_self ..);obtain ⟨fu1,y1,h1,i1⟩:=hf _ (List.mem_cons_of_mem _ (List.mem_cons_self ..));obtain ⟨fu2,y2,h2,i2⟩:=hf _ (List.mem_cons_of_mem _ (List.mem_cons_of_mem _ (List.mem_cons_self ..)));obtain ⟨fu3,y3,h3,i3⟩:=hf _ (List.mem_cons_of_mem _ (List.mem_cons_of_mem _ (List.mem_cons_of_mem _ (List.mem_cons_self ..))));obtain ⟨fu4,y4,h4,i4⟩:=hf _ (List.mem_cons_of_mem _ (List.mem_cons_of_mem _ (List.mem_cons_of_mem _ (List.mem_cons_of_mem _ (List.mem_cons_self ..)))));obtain ⟨fu5,y5,h5,i5⟩:=hf _ (List.mem_cons_of_mem _ (List.mem_cons_of_mem _ (List.mem_cons_of_mem _ (List.mem_cons_of_mem _ (List.mem_cons_of_mem _ (List.mem_cons_self ..))))));obtain ⟨fu6,y6,h6,i6⟩:=hf _ (List.mem_cons_of_mem _ (List.mem_cons_of_mem _ (List.mem_cons_of_mem _ (List.mem_cons_of_mem _ (List.mem_cons_of_mem _ (List.mem_cons_of_mem _ (List.mem_cons_self ..)))))));obtain ⟨fu7,y7,h7,i7⟩:=hf _ (List.mem_cons_of_mem _ (List.mem_cons_of_mem _ (List.mem_cons_of_mem _ (List.mem_cons_of_mem _ (List.mem_cons_of_mem _ (List.mem_cons_of_mem _ (List.mem_cons_of_mem _ (List.mem_cons_self ..))))))));obtain ⟨fu8,y8,h8,i8⟩:=hf _ (List.mem_cons_of_mem _ (List.mem_cons_of_mem _ (List.mem_cons_of_mem _ (List.mem_cons_of_mem _ (List.mem_cons_of_mem _ (List.mem_cons_of_mem _ (List.mem_cons_of_mem _ (List.mem_cons_of_mem _ (List.mem_cons_self ..)))))))));obtain ⟨a0,g0,b0⟩:=(Opens.int (k:= .i64) rfl).z fu0 _ _ h0 i0;obtain ⟨a1,g1,b1⟩:=(Opens.int (k:= .i64) rfl).z fu1 _ _ h1 i1;obtain ⟨a2,g2,b2⟩:=(Opens.int (k:= .i64) rfl).z fu2 _ _ h2 i2;obtain ⟨a3,g3,b3⟩:=(Opens.int (k:= .i64) rfl).z fu3 _ _ h3 i3;obtain ⟨a4,g4,b4⟩:=(Opens.int (k:= .i64) rfl).z fu4 _ _ h4 i4;obtain ⟨a5,g5,b5⟩:=(Opens.int (k:= .i64) rfl).z fu5 _ _ h5 i5;obtain ⟨a6,g6,b6⟩:=(Opens.int (k:= .i64) rfl).z fu6 _ _ h6 i6;obtain ⟨a7,g7,b7⟩:=(Opens.bool rfl).z fu7 _ _ h7 i7;obtain ⟨a8,g8,b8⟩:=(Q8 rfl).z fu8 _ _ h8 i8;have e0:=parts_eq g0 (m:=1) (by simp[cf0]) (by simp[cf0]);have e1:=parts_eq g1 (m:=2) (by simp[cf0]) (by simp[cf0]);have e2:=parts_eq g2 (m:=3) (by simp[cf0]) (by simp[cf0]);have e3:=parts_eq g3 (m:=4) (by simp[cf0]) (by simp[cf0]);have e4:=parts_eq g4 (m:=5) (by simp[cf0]) (by simp[cf0]);have e5:=parts_eq g5 (m:=6) (by simp[cf0]) (by simp[cf0]);have e6:=parts_eq g6 (m:=7) (by simp[cf0]) (by simp[cf0]);have e7:=parts_eq g7 (m:=8) (by simp[cf1]) (by simp[cf1]);have e8:=parts_eq g8 (m:=9) (by simp[cf2]) (by simp[cf2]);refine ⟨⟨a0,a1,a2,a3,a4,a5,a6,a7,a8⟩,?_,b8⟩;simp only[List.drop_zero]at e0;rw[e0,e1,e2,e3,e4,e5,e6,e7,e8,List.drop_eq_nil_of_le (by omega)];rfl
theorem opZ94:JA enc Tryz.prog W 94 roC (fun _=>True):=by
 intro fuel cs x h hz;obtain ⟨hl,hf⟩:=qp (fs:=_) I h hz;have cT:Tryz.prog.cellsOf 94=4:=by kernel_rfl
 have cf0:Tryz.prog.cellsOf 3=1:=by kernel_rfl
 rw[cT]at hl;obtain ⟨fu0,y0,h0,i0⟩:=hf _ (List.mem_cons_self ..);obtain ⟨fu1,y1,h1,i1⟩:=hf _ (List.mem_cons_of_mem _ (List.mem_cons_self ..));obtain ⟨fu2,y2,h2,i2⟩:=hf _ (List.mem_cons_of_mem _ (List.mem_cons_of_mem _ (List.mem_cons_self ..)));obtain ⟨fu3,y3,h3,i3⟩:=hf _ (List.mem_cons_of_mem _ (List.mem_cons_of_mem _ (List.mem_cons_of_mem _ (List.mem_cons_self ..))));obtain ⟨a0,g0,b0⟩:=(Opens.int (k:= .i64) rfl).z fu0 _ _ h0 i0;obtain ⟨a1,g1,b1⟩:=(Opens.int (k:= .i64) rfl).z fu1 _ _ h1 i1;obtain ⟨a2,g2,b2⟩:=(Opens.int (k:= .i64) rfl).z fu2 _ _ h2 i2;obtain ⟨a3,g3,b3⟩:=(Opens.int (k:= .i64) rfl).z fu3 _ _ h3 i3;have e0:=parts_eq g0 (m:=1) (by simp[cf0]) (by simp[cf0]);have e1:=parts_eq g1 (m:=2) (by simp[cf0]) (by simp[cf0]);have e2:=parts_eq g2 (m:=3) (by simp[cf0]) (by simp[cf0]);have e3:=parts_eq g3 (m:=4) (by simp[cf0]) (by simp[cf0]);refine ⟨⟨a0,a1,a2,a3⟩,?_,trivial⟩;simp only[List.drop_zero]at e0;rw[e0,e1,e2,e3,List.drop_eq_nil_of_le (by omega)];rfl
theorem jSR:JA enc Tryz.prog W 162 liC (fun _=>True):=by
 intro fuel cs x h hz;obtain ⟨hl,hf⟩:=qp (fs:=_) I h hz;have cT:Tryz.prog.cellsOf 162=3:=by kernel_rfl
 have cf0:Tryz.prog.cellsOf 3=1:=by kernel_rfl
 rw[cT]at hl;obtain ⟨fu0,y0,h0,i0⟩:=hf _ (List.mem_cons_self ..);obtain ⟨fu1,y1,h1,i1⟩:=hf _ (List.mem_cons_of_mem _ (List.mem_cons_self ..));obtain ⟨fu2,y2,h2,i2⟩:=hf _ (List.mem_cons_of_mem _ (List.mem_cons_of_mem _ (List.mem_cons_self ..)));obtain ⟨a0,g0,b0⟩:=(Opens.int (k:= .i64) rfl).z fu0 _ _ h0 i0;obtain ⟨a1,g1,b1⟩:=(Opens.int (k:= .i64) rfl).z fu1 _ _ h1 i1;obtain ⟨a2,g2,b2⟩:=(Opens.int (k:= .i64) rfl).z fu2 _ _ h2 i2;have e0:=parts_eq g0 (m:=1) (by simp[cf0]) (by simp[cf0]);have e1:=parts_eq g1 (m:=2) (by simp[cf0]) (by simp[cf0]);have e2:=parts_eq g2 (m:=3) (by simp[cf0]) (by simp[cf0]);refine ⟨⟨a0,a1,a2⟩,?_,trivial⟩;simp only[List.drop_zero]at e0;rw[e0,e1,e2,List.drop_eq_nil_of_le (by omega)];rfl
theorem jSP:JA enc Tryz.prog W 171 prC (fun _=>True):=by
 intro fuel cs x h hz;obtain ⟨hl,hf⟩:=qp (fs:=_) I h hz;have cT:Tryz.prog.cellsOf 171=2:=by kernel_rfl
 have cf0:Tryz.prog.cellsOf 3=1:=by kernel_rfl
 rw[cT]at hl;obtain ⟨fu0,y0,h0,i0⟩:=hf _ (List.mem_cons_self ..);obtain ⟨fu1,y1,h1,i1⟩:=hf _ (List.mem_cons_of_mem _ (List.mem_cons_self ..));obtain ⟨a0,g0,b0⟩:=(Opens.int (k:= .i64) rfl).z fu0 _ _ h0 i0;obtain ⟨a1,g1,b1⟩:=(Opens.int (k:= .i64) rfl).z fu1 _ _ h1 i1;have e0:=parts_eq g0 (m:=1) (by simp[cf0]) (by simp[cf0]);have e1:=parts_eq g1 (m:=2) (by simp[cf0]) (by simp[cf0]);refine ⟨⟨a0,a1⟩,?_,trivial⟩;simp only[List.drop_zero]at e0;rw[e0,e1,List.drop_eq_nil_of_le (by omega)];rfl
theorem opZ65:JA enc Tryz.prog W 65 deC (fun _=>True):=by
 intro fuel cs x h hz;obtain ⟨hl,hf⟩:=qp (fs:=_) I h hz;have cT:Tryz.prog.cellsOf 65=2:=by kernel_rfl
 have cf0:Tryz.prog.cellsOf 3=1:=by kernel_rfl
 have cf1:Tryz.prog.cellsOf 9=1:=by kernel_rfl
 rw[cT]at hl;obtain ⟨fu0,y0,h0,i0⟩:=hf _ (List.mem_cons_self ..);obtain ⟨fu1,y1,h1,i1⟩:=hf _ (List.mem_cons_of_mem _ (List.mem_cons_self ..));obtain ⟨a0,g0,b0⟩:=(Opens.int (k:= .i64) rfl).z fu0 _ _ h0 i0;obtain ⟨a1,g1,b1⟩:=(Q8 rfl).z fu1 _ _ h1 i1;have e0:=parts_eq g0 (m:=1) (by simp[cf0]) (by simp[cf0]);have e1:=parts_eq g1 (m:=2) (by simp[cf1]) (by simp[cf1]);refine ⟨⟨a0,a1⟩,?_,trivial⟩;simp only[List.drop_zero]at e0;rw[e0,e1,List.drop_eq_nil_of_le (by omega)];rfl
theorem jST:JA enc Tryz.prog W 131 snC (fun s=>Me.WfS s):=by
 intro fuel cs x h hz;obtain ⟨hl,hf⟩:=qp (fs:=_) I h hz;have cT:Tryz.prog.cellsOf 131=11:=by kernel_rfl
 have cf0:Tryz.prog.cellsOf 75=9:=by kernel_rfl
 have cf1:Tryz.prog.cellsOf 3=1:=by kernel_rfl
 rw[cT]at hl;obtain ⟨fu0,y0,h0,i0⟩:=hf _ (List.mem_cons_self ..);obtain ⟨fu1,y1,h1,i1⟩:=hf _ (List.mem_cons_of_mem _ (List.mem_cons_self ..));obtain ⟨fu2,y2,h2,i2⟩:=hf _ (List.mem_cons_of_mem _ (List.mem_cons_of_mem _ (List.mem_cons_self ..)));obtain ⟨a0,g0,b0⟩:=jSL fu0 _ _ h0 i0;obtain ⟨a1,g1,b1⟩:=(Opens.int (k:= .i64) rfl).z fu1 _ _ h1 i1;obtain ⟨a2,g2,b2⟩:=(Opens.int (k:= .i64) rfl).z fu2 _ _ h2 i2;have e0:=parts_eq g0 (m:=9) (by simp[cf0]) (by simp[cf0]);have e1:=parts_eq g1 (m:=10) (by simp[cf1]) (by simp[cf1]);have e2:=parts_eq g2 (m:=11) (by simp[cf1]) (by simp[cf1]);refine ⟨⟨a0,a1,a2⟩,?_,⟨wfI b1,wfI b2,b0⟩⟩;simp only[List.drop_zero]at e0;rw[e0,e1,e2,List.drop_eq_nil_of_le (by omega)];rfl
theorem jSQ:JA enc Tryz.prog W 166 maC (fun s=>s.f.da.length<=9223372036854775807):=by
 intro fuel cs x h hz;obtain ⟨hl,hf⟩:=qp (fs:=_) I h hz;have cT:Tryz.prog.cellsOf 166=10:=by kernel_rfl
 have cf0:Tryz.prog.cellsOf 75=9:=by kernel_rfl
 have cf1:Tryz.prog.cellsOf 3=1:=by kernel_rfl
 rw[cT]at hl;obtain ⟨fu0,y0,h0,i0⟩:=hf _ (List.mem_cons_self ..);obtain ⟨fu1,y1,h1,i1⟩:=hf _ (List.mem_cons_of_mem _ (List.mem_cons_self ..));obtain ⟨a0,g0,b0⟩:=jSL fu0 _ _ h0 i0;obtain ⟨a1,g1,b1⟩:=(Opens.int (k:= .i64) rfl).z fu1 _ _ h1 i1;have e0:=parts_eq g0 (m:=9) (by simp[cf0]) (by simp[cf0]);have e1:=parts_eq g1 (m:=10) (by simp[cf1]) (by simp[cf1]);refine ⟨⟨a0,a1⟩,?_,b0⟩;simp only[List.drop_zero]at e0;rw[e0,e1,List.drop_eq_nil_of_le (by omega)];rfl
theorem jSN:JA enc Tryz.prog W 173 ptC (fun p=>RdPt W p/\jAS p.pt):=by
 intro fuel cs x h hz;obtain ⟨hl,hf⟩:=qp (fs:=_) I h hz;have cT:Tryz.prog.cellsOf 173=6:=by kernel_rfl
 have cf0:Tryz.prog.cellsOf 3=1:=by kernel_rfl
 have cf1:Tryz.prog.cellsOf 81=1:=by kernel_rfl
 have cf2:Tryz.prog.cellsOf 152=1:=by kernel_rfl
 rw[cT]at hl;obtain ⟨fu0,y0,h0,i0⟩:=hf _ (List.mem_cons_self ..);obtain ⟨fu1,y1,h1,i1⟩:=hf _ (List.mem_cons_of_mem _ (List.mem_cons_self ..));obtain ⟨fu2,y2,h2,i2⟩:=hf _ (List.mem_cons_of_mem _ (List.mem_cons_of_mem _ (List.mem_cons_self ..)));obtain ⟨fu3,y3,h3,i3⟩:=hf _ (List.mem_cons_of_mem _ (List.mem_cons_of_mem _ (List.mem_cons_of_mem _ (List.mem_cons_self ..))));obtain ⟨fu4,y4,h4,i4⟩:=hf _ (List.mem_cons_of_mem _ (List.mem_cons_of_mem _ (List.mem_cons_of_mem _ (List.mem_cons_of_mem _ (List.mem_cons_self ..)))));obtain ⟨fu5,y5,h5,i5⟩:=hf _ (List.mem_cons_of_mem _ (List.mem_cons_of_mem _ (List.mem_cons_of_mem _ (List.mem_cons_of_mem _ (List.mem_cons_of_mem _ (List.mem_cons_self ..))))));obtain ⟨a0,g0,b0⟩:=(Opens.int (k:= .i64) rfl).z fu0 _ _ h0 i0;obtain ⟨a1,g1,b1⟩:=(Opens.int (k:= .i64) rfl).z fu1 _ _ h1 i1;obtain ⟨a2,g2,b2⟩:=(Opens.int (k:= .i64) rfl).z fu2 _ _ h2 i2;obtain ⟨a3,g3,b3⟩:=(Opens.int (k:= .i64) rfl).z fu3 _ _ h3 i3;obtain ⟨⟨v4,l4⟩,g4,s4,n4,q4⟩:=opZ81 fu4 _ _ h4 i4;obtain ⟨⟨v5,l5⟩,g5,s5,n5,q5⟩:=jSS fu5 _ _ h5 i5;obtain ⟨z4,hz4⟩:=Jj s4;have hz4:v4=sv z4 l4.length:=hz4;subst hz4;obtain ⟨z5,hz5⟩:=Jj s5;have hz5:v5=sv z5 l5.length:=hz5;subst hz5;have e0:=parts_eq g0 (m:=1) (by simp[cf0]) (by simp[cf0]);have e1:=parts_eq g1 (m:=2) (by simp[cf0]) (by simp[cf0]);have e2:=parts_eq g2 (m:=3) (by simp[cf0]) (by simp[cf0]);have e3:=parts_eq g3 (m:=4) (by simp[cf0]) (by simp[cf0]);have e4:=parts_eq g4 (m:=5) (by simp[cf1]) (by simp[cf1]);have e5:=parts_eq g5 (m:=6) (by simp[cf2]) (by simp[cf2]);have hb1:Tryz.prog.bytesOf 4=1:=by kernel_rfl
 have hb2:Tryz.prog.bytesOf 9=16:=by kernel_rfl
 rw[hb1]at n4;rw[hb2]at n5;have hr:reachBytes=140737488351232:=rfl;rw[hr]at n4 n5;have n4:l4.length*1<=140737488351232:=n4;have n5:l5.length*16<=140737488351232:=n5;refine ⟨⟨sv z4 l4.length,sv z5 l5.length,⟨a0,a1,a2,a3,l4,l5⟩⟩,?_,⟨⟨s4,s5⟩,by show l4.length<=_;omega,by show l5.length<=_;omega,q5⟩⟩;simp only[List.drop_zero]at e0;rw[e0,e1,e2,e3,e4,e5,List.drop_eq_nil_of_le (by omega)];rfl
theorem opZ55:JA enc Tryz.prog W 55 (fun p:Value×List Ro=>[p.1]) (fun p=>Sl W p.1 (cellsOf roC p.2) p.2.length/\p.2.length*Tryz.prog.bytesOf 94<=reachBytes/\∀a∈p.2,True):=
 JA.slice (sz:=4) I (by kernel_rfl) (by decide) jP opZ94
theorem opZ56:JA enc Tryz.prog W 56 (fun p:Value×List Li=>[p.1]) (fun p=>Sl W p.1 (cellsOf liC p.2) p.2.length/\p.2.length*Tryz.prog.bytesOf 162<=reachBytes/\∀a∈p.2,True):=
 JA.slice (sz:=3) I (by kernel_rfl) (by decide) jd jSR
theorem opZ57:JA enc Tryz.prog W 57 (fun p:Value×List Sn=>[p.1]) (fun p=>Sl W p.1 (cellsOf snC p.2) p.2.length/\p.2.length*Tryz.prog.bytesOf 131<=reachBytes/\∀a∈p.2,Me.WfS a):=
 JA.slice (sz:=11) I (by kernel_rfl) (by decide) jU jST
theorem opZ58:JA enc Tryz.prog W 58 (fun p:Value×List Ma=>[p.1]) (fun p=>Sl W p.1 (cellsOf maC p.2) p.2.length/\p.2.length*Tryz.prog.bytesOf 166<=reachBytes/\∀a∈p.2,a.f.da.length<=9223372036854775807):=
 JA.slice (sz:=10) I (by kernel_rfl) (by decide) j4 jSQ
theorem opZ59:JA enc Tryz.prog W 59 (fun p:Value×List Pr=>[p.1]) (fun p=>Sl W p.1 (cellsOf prC p.2) p.2.length/\p.2.length*Tryz.prog.bytesOf 171<=reachBytes/\∀a∈p.2,True):=
 JA.slice (sz:=2) I (by kernel_rfl) (by decide) J9 jSP
theorem opZ46:JA enc Tryz.prog W 46 (fun p:Value×List De=>[p.1]) (fun p=>Sl W p.1 (cellsOf deC p.2) p.2.length/\p.2.length*Tryz.prog.bytesOf 65<=reachBytes/\∀a∈p.2,True):=
 JA.slice (sz:=2) I (by kernel_rfl) (by decide) jAh opZ65
theorem opZ60:JA enc Tryz.prog W 60 (fun p:Value×List PtV=>[p.1]) (fun p=>Sl W p.1 (cellsOf ptC p.2) p.2.length/\p.2.length*Tryz.prog.bytesOf 173<=reachBytes/\∀a∈p.2,(RdPt W a/\jAS a.pt)):=
 JA.slice (sz:=6) I (by kernel_rfl) (by decide) jY jSN
structure NdOkZ (W:World) (a:NV×Nd):Prop where
 ok:OkN W a.1 a.2
 sm:∀p∈a.2.parts,jAS p
 wf:Me.WfO a.2
theorem opZ62:JA enc Tryz.prog W 62 ZF (NdOkZ W):=by
 intro fuel cs x h hz;obtain ⟨hl,hf⟩:=qp (fs:=_) I h hz;have cT:Tryz.prog.cellsOf 62=13:=by kernel_rfl
 have cf0:Tryz.prog.cellsOf 3=1:=by kernel_rfl
 have cf1:Tryz.prog.cellsOf 55=1:=by kernel_rfl
 have cf2:Tryz.prog.cellsOf 56=1:=by kernel_rfl
 have cf3:Tryz.prog.cellsOf 57=1:=by kernel_rfl
 have cf4:Tryz.prog.cellsOf 22=1:=by kernel_rfl
 have cf5:Tryz.prog.cellsOf 58=1:=by kernel_rfl
 have cf6:Tryz.prog.cellsOf 59=1:=by kernel_rfl
 have cf7:Tryz.prog.cellsOf 60=1:=by kernel_rfl
 have cf8:Tryz.prog.cellsOf 46=1:=by kernel_rfl
 rw[cT]at hl;obtain ⟨fu0,y0,h0,i0⟩:=hf _ (List.mem_cons_self ..);obtain ⟨fu1,y1,h1,i1⟩:=hf _ (List.mem_cons_of_mem _ (List.mem_cons_self ..));obtain ⟨fu2,y2,h2,i2⟩:=hf _ (List.mem_cons_of_mem _ (List.mem_cons_of_mem _ (List.mem_cons_self ..)));obtain ⟨fu3,y3,h3,i3⟩:=hf _ (List.mem_cons_of_mem _ (List.mem_cons_of_mem _ (List.mem_cons_of_mem _ (List.mem_cons_self ..))));obtain ⟨fu4,y4,h4,i4⟩:=hf _ (List.mem_cons_of_mem _ (List.mem_cons_of_mem _ (List.mem_cons_of_mem _ (List.mem_cons_of_mem _ (List.mem_cons_self ..)))));obtain ⟨fu5,y5,h5,i5⟩:=hf _ (List.mem_cons_of_mem _ (List.mem_cons_of_mem _ (List.mem_cons_of_mem _ (List.mem_cons_of_mem _ (List.mem_cons_of_mem _ (List.mem_cons_self ..))))));obtain ⟨fu6,y6,h6,i6⟩:=hf _ (List.mem_cons_of_mem _ (List.mem_cons_of_mem _ (List.mem_cons_of_mem _ (List.mem_cons_of_mem _ (List.mem_cons_of_mem _ (List.mem_cons_of_mem _ (List.mem_cons_self ..)))))));obtain ⟨fu7,y7,h7,i7⟩:=hf _ (List.mem_cons_of_mem _ (List.mem_cons_of_mem _ (List.mem_cons_of_mem _ (List.mem_cons_of_mem _ (List.mem_cons_of_mem _ (List.mem_cons_of_mem _ (List.mem_cons_of_mem _ (List.mem_cons_self ..))))))));obtain ⟨fu8,y8,h8,i8⟩:=hf _ (List.mem_cons_of_mem _ (List.mem_cons_of_mem _ (List.mem_cons_of_mem _ (List.mem_cons_of_mem _ (List.mem_cons_of_mem _ (List.mem_cons_of_mem _ (List.mem_cons_of_mem _ (List.mem_cons_of_mem _ (List.mem_cons_self ..)))))))));obtain ⟨fu9,y9,h9,i9⟩:=hf _ (List.mem_cons_of_mem _ (List.mem_cons_of_mem _ (List.mem_cons_of_mem _ (List.mem_cons_of_mem _ (List.mem_cons_of_mem _ (List.mem_cons_of_mem _ (List.mem_cons_of_mem _ (List.mem_cons_of_mem _ (List.mem_cons_of_mem _ (List.mem_cons_self ..))))))))));obtain ⟨fu10,y10,h10,i10⟩:=hf _ (List.mem_cons_of_mem _ (List.mem_cons_of_mem _ (List.mem_cons_of_mem _ (List.mem_cons_of_mem _ (List.mem_cons_of_mem _ (List.mem_cons_of_mem _ (List.mem_cons_of_mem _ (List.mem_cons_of_mem _ (List.mem_cons_of_mem _ (List.mem_cons_of_mem _ (List.mem_cons_self ..)))))))))));obtain ⟨fu11,y11,h11,i11⟩:=hf _ (List.mem_cons_of_mem _ (List.mem_cons_of_mem _ (List.mem_cons_of_mem _ (List.mem_cons_of_mem _ (List.mem_cons_of_mem _ (List.mem_cons_of_mem _ (List.mem_cons_of_mem _ (List.mem_cons_of_mem _ (List.mem_cons_of_mem _ (List.mem_cons_of_mem _ (List.mem_cons_of_mem _ (List.mem_cons_self ..))))))))))));obtain ⟨fu12,y12,h12,i12⟩:=hf _ (List.mem_cons_of_mem _ (List.mem_cons_of_mem _ (List.mem_cons_of_mem _ (List.mem_cons_of_mem _ (List.mem_cons_of_mem _ (List.mem_cons_of_mem _ (List.mem_cons_of_mem _ (List.mem_cons_of_mem _ (List.mem_cons_of_mem _ (List.mem_cons_of_mem _ (List.mem_cons_of_mem _ (List.mem_cons_of_mem _ (List.mem_cons_self ..)))))))))))));obtain ⟨a0,g0,b0⟩:=(Opens.int (k:= .i64) rfl).z fu0 _ _ h0 i0;obtain ⟨a1,g1,b1⟩:=(Opens.int (k:= .i64) rfl).z fu1 _ _ h1 i1;obtain ⟨a2,g2,b2⟩:=(Opens.int (k:= .i64) rfl).z fu2 _ _ h2 i2;obtain ⟨⟨v3,l3⟩,g3,s3,n3,q3⟩:=opZ55 fu3 _ _ h3 i3;obtain ⟨⟨v4,l4⟩,g4,s4,n4,q4⟩:=opZ56 fu4 _ _ h4 i4;obtain ⟨⟨v5,l5⟩,g5,s5,n5,q5⟩:=opZ57 fu5 _ _ h5 i5;obtain ⟨⟨v6,l6⟩,g6,s6,n6,q6⟩:=jRE fu6 _ _ h6 i6
 obtain ⟨⟨v7,l7⟩,g7,s7,n7,q7⟩:=opZ58 fu7 _ _ h7 i7;obtain ⟨⟨v8,l8⟩,g8,s8,n8,q8⟩:=opZ59 fu8 _ _ h8 i8;obtain ⟨⟨v9,l9⟩,g9,s9,n9,q9⟩:=opZ60 fu9 _ _ h9 i9;obtain ⟨⟨v10,l10⟩,g10,s10,n10,q10⟩:=opZ46 fu10 _ _ h10 i10;obtain ⟨a11,g11,b11⟩:=(Opens.int (k:= .i64) rfl).z fu11 _ _ h11 i11;obtain ⟨a12,g12,b12⟩:=(Opens.int (k:= .i64) rfl).z fu12 _ _ h12 i12;obtain ⟨z3,hz3⟩:=Jj s3;have hz3:v3=sv z3 l3.length:=hz3;subst hz3;obtain ⟨z4,hz4⟩:=Jj s4;have hz4:v4=sv z4 l4.length:=hz4;subst hz4;obtain ⟨z5,hz5⟩:=Jj s5;have hz5:v5=sv z5 l5.length:=hz5;subst hz5;obtain ⟨z6,hz6⟩:=Jj s6;have hz6:v6=sv z6 l6.length:=hz6;subst hz6;obtain ⟨z7,hz7⟩:=Jj s7;have hz7:v7=sv z7 l7.length:=hz7;subst hz7;obtain ⟨z8,hz8⟩:=Jj s8;have hz8:v8=sv z8 l8.length:=hz8;subst hz8;obtain ⟨z9,hz9⟩:=Jj s9;have hz9:v9=sv z9 l9.length:=hz9;subst hz9;obtain ⟨z10,hz10⟩:=Jj s10;have hz10:v10=sv z10 l10.length:=hz10;subst hz10;have e0:=parts_eq g0 (m:=1) (by simp[cf0]) (by simp[cf0]);have e1:=parts_eq g1 (m:=2) (by simp[cf0]) (by simp[cf0]);have e2:=parts_eq g2 (m:=3) (by simp[cf0]) (by simp[cf0]);have e3:=parts_eq g3 (m:=4) (by simp[cf1]) (by simp[cf1]);have e4:=parts_eq g4 (m:=5) (by simp[cf2]) (by simp[cf2]);have e5:=parts_eq g5 (m:=6) (by simp[cf3]) (by simp[cf3]);have e6:=parts_eq g6 (m:=7) (by simp[cf4]) (by simp[cf4]);have e7:=parts_eq g7 (m:=8) (by simp[cf5]) (by simp[cf5]);have e8:=parts_eq g8 (m:=9) (by simp[cf6]) (by simp[cf6]);have e9:=parts_eq g9 (m:=10) (by simp[cf7]) (by simp[cf7]);have e10:=parts_eq g10 (m:=11) (by simp[cf8]) (by simp[cf8]);have e11:=parts_eq g11 (m:=12) (by simp[cf0]) (by simp[cf0]);have e12:=parts_eq g12 (m:=13) (by simp[cf0]) (by simp[cf0]);refine ⟨(⟨z3,z4,z5,z6,z7,z8,z9,z10,l9⟩,⟨a0,a1,a2,l3,l4,l5,l6,l7,l8,l9.map (·.pt),l10,a11,a12⟩),?_,⟨⟨s3,s4,s5,s6,s7,s8,⟨s9,fun p hp=>(q9 p hp).1⟩,s10,rfl⟩,fun p hp=>by obtain ⟨p0,hp0,rfl⟩:=List.mem_map.1 hp;exact (q9 p0 hp0).2,⟨q5,q7⟩⟩⟩;simp only[List.drop_zero]at e0;rw[e0,e1,e2,e3,e4,e5,e6,e7,e8,e9,e10,e11,e12,List.drop_eq_nil_of_le (by omega)];rfl
theorem opZ24:JA enc Tryz.prog W 24 (fun p:Value×List (NV×Nd)=>[p.1]) (fun p=>Sl W p.1 (cellsOf ZF p.2) p.2.length/\p.2.length*Tryz.prog.bytesOf 62<=reachBytes/\∀a∈p.2,NdOkZ W a):=
 JA.slice (sz:=13) I (by kernel_rfl) (by decide) jh opZ62
abbrev MeA:=Int×Value×List (NV×Nd)
abbrev meE (a:MeA):List Value:=meC a.1 a.2.1
structure MeOkZ (W:World) (a:MeA):Prop where
 ok:OkL W a.2.1 a.2.2
 nd:∀x∈a.2.2,NdOkZ W x
theorem opZ26:JA enc Tryz.prog W 26 meE (MeOkZ W):=by
 intro fuel cs x h hz;obtain ⟨hl,hf⟩:=qp (fs:=_) I h hz;have cT:Tryz.prog.cellsOf 26=2:=by kernel_rfl
 have cf0:Tryz.prog.cellsOf 3=1:=by kernel_rfl
 have cf1:Tryz.prog.cellsOf 24=1:=by kernel_rfl
 rw[cT]at hl;obtain ⟨fu0,y0,h0,i0⟩:=hf _ (List.mem_cons_self ..);obtain ⟨fu1,y1,h1,i1⟩:=hf _ (List.mem_cons_of_mem _ (List.mem_cons_self ..));obtain ⟨a0,g0,b0⟩:=(Opens.int (k:= .i64) rfl).z fu0 _ _ h0 i0;obtain ⟨⟨v1,l1⟩,g1,s1,n1,q1⟩:=opZ24 fu1 _ _ h1 i1;obtain ⟨z1,hz1⟩:=Jj s1;have hz1:v1=sv z1 l1.length:=hz1;subst hz1;have e0:=parts_eq g0 (m:=1) (by simp[cf0]) (by simp[cf0]);have e1:=parts_eq g1 (m:=2) (by simp[cf1]) (by simp[cf1]);refine ⟨(a0,sv z1 l1.length,l1),?_,⟨⟨s1,fun x hx=>(q1 x hx).ok⟩,q1⟩⟩;simp only[List.drop_zero]at e0;rw[e0,e1,List.drop_eq_nil_of_le (by omega)];rfl
end Go.Proofs.YtgfdoognildoeaaGreat
namespace Go.Proofs.YtgfdoognildoeaaGreat
open Go.GX Go.RowKit
attribute [local irreducible] Calls Run JH JL zU HR HL HD jS jM ZN Rd jg Jf
open Nd
abbrev ImpL (v v':Value) (xs ys:List (NV×Nd)) (G:List Chunk):Prop:=∀w2,OkL w2 v xs->(jC G).p w2->OkL w2 v' ys
abbrev RfL (v:Value) (xs:List (NV×Nd)) (x:SV×List (NV×Nd)×List Chunk) (l:List Nd):Prop:=nds x.2.1=l/\ImpL v (sv x.1 x.2.1.length) xs x.2.1 x.2.2
theorem GdN.jSU {n:Nd} (h:FitG n) (hp:∀p∈n.parts,jAS p) (hw:Me.WfO n):GdN n:=⟨h.sm hp,hw⟩
open Go.ChangeShapes Go.WideShapes
variable {H : Type} {enc : TypeId × Value -> H} {W : World}
theorem jSM:JA enc Tryz.prog W 206 edC (fun _=>True):=by
 intro fuel cs x h hz;obtain ⟨hl,hf⟩:=qp (fs:=_) I h hz;have cT:Tryz.prog.cellsOf 206=2:=by kernel_rfl
 have cf0:Tryz.prog.cellsOf 3=1:=by kernel_rfl
 rw[cT]at hl;obtain ⟨fu0,y0,h0,i0⟩:=hf _ (List.mem_cons_self ..);obtain ⟨fu1,y1,h1,i1⟩:=hf _ (List.mem_cons_of_mem _ (List.mem_cons_self ..));obtain ⟨a0,g0,b0⟩:=(Opens.int (k:= .i64) rfl).z fu0 _ _ h0 i0;obtain ⟨a1,g1,b1⟩:=(Opens.int (k:= .i64) rfl).z fu1 _ _ h1 i1;have e0:=parts_eq g0 (m:=1) (by simp[cf0]) (by simp[cf0]);have e1:=parts_eq g1 (m:=2) (by simp[cf0]) (by simp[cf0]);refine ⟨⟨a0,a1⟩,?_,trivial⟩;simp only[List.drop_zero]at e0;rw[e0,e1,List.drop_eq_nil_of_le (by omega)];rfl
theorem opZ32:JA enc Tryz.prog W 32 (fun p:Value×List Ed=>[p.1]) (fun p=>Sl W p.1 (cellsOf edC p.2) p.2.length/\p.2.length*Tryz.prog.bytesOf 206<=reachBytes/\∀a∈p.2,True):=
 JA.slice (sz:=2) I (by kernel_rfl) (by decide) jAg jSM
abbrev AirA:=(Value×Value×Value)×Me.Air
abbrev aiE (a:AirA):List Value:=[a.1.1,a.1.2.1,a.1.2.2]
structure AiOk (W:World) (a:AirA):Prop where
 e:Sl W a.1.1 (cellsOf edC a.2.e) a.2.e.length
 o:Sl W a.1.2.1 (cellsOf iC a.2.o) a.2.o.length
 n:Sl W a.1.2.2 (cellsOf iC a.2.n) a.2.n.length
theorem opZ34:JA enc Tryz.prog W 34 aiE (AiOk W):=by
 intro fuel cs x h hz;obtain ⟨hl,hf⟩:=qp (fs:=_) I h hz;have cT:Tryz.prog.cellsOf 34=3:=by kernel_rfl
 have cf0:Tryz.prog.cellsOf 32=1:=by kernel_rfl
 have cf1:Tryz.prog.cellsOf 22=1:=by kernel_rfl
 rw[cT]at hl;obtain ⟨fu0,y0,h0,i0⟩:=hf _ (List.mem_cons_self ..);obtain ⟨fu1,y1,h1,i1⟩:=hf _ (List.mem_cons_of_mem _ (List.mem_cons_self ..));obtain ⟨fu2,y2,h2,i2⟩:=hf _ (List.mem_cons_of_mem _ (List.mem_cons_of_mem _ (List.mem_cons_self ..)));obtain ⟨⟨v0,l0⟩,g0,s0,n0,q0⟩:=opZ32 fu0 _ _ h0 i0;obtain ⟨⟨v1,l1⟩,g1,s1,n1,q1⟩:=jRE fu1 _ _ h1 i1;obtain ⟨⟨v2,l2⟩,g2,s2,n2,q2⟩:=jRE fu2 _ _ h2 i2;obtain ⟨z0,hz0⟩:=Jj s0;have hz0:v0=sv z0 l0.length:=hz0;subst hz0;obtain ⟨z1,hz1⟩:=Jj s1;have hz1:v1=sv z1 l1.length:=hz1;subst hz1;obtain ⟨z2,hz2⟩:=Jj s2;have hz2:v2=sv z2 l2.length:=hz2;subst hz2;have e0:=parts_eq g0 (m:=1) (by simp[cf0]) (by simp[cf0]);have e1:=parts_eq g1 (m:=2) (by simp[cf1]) (by simp[cf1]);have e2:=parts_eq g2 (m:=3) (by simp[cf1]) (by simp[cf1]);refine ⟨((sv z0 l0.length,sv z1 l1.length,sv z2 l2.length),⟨l0,l1,l2⟩),?_,⟨s0,s1,s2⟩⟩;simp only[List.drop_zero]at e0;rw[e0,e1,e2,List.drop_eq_nil_of_le (by omega)];rfl
end Go.Proofs.YtgfdoognildoeaaGreat
namespace Go.Proofs.YtgfdoognildoeaaGreat
open Go.GX Go.RowKit
attribute [local irreducible] Calls Run JH JL zU HR HL HD jS jM ZN Rd jg Jf
open Nd
theorem fn45:IsFn Tryz.prog 45:=zF Tryz.func45 I
theorem jRK {a:Me.Air} {x:Int} (h:Ra.check a=0) (hx:x∈a.o):Me.live a x=false:=by unfold Me.live;simp[h,hx]
theorem jP1 {a:Me.Air} {x:Int} (h:Ra.check a≠0):Me.live a x=true:=by unfold Me.live;simp[h]
theorem jP0 {a:Me.Air} {x:Int} (hx:x ∉ a.o):Me.live a x=true:=by unfold Me.live;simp[hx]
theorem jMN (a:Me.Air) (ve vo vn:Value) (x:Int) (w:World) (hA:OkA w a ve vo vn):
  Calls Tryz.prog 45 #[jAt ve vo vn,.int .i64 x] w fun e w'=>e= .returned (.bool (Me.live a x))/\Below w.heap.size w w':=by
 have hlo:=hA.lo;refine zE Tryz.func45 I [(0,jAt ve vo vn),(1,.int .i64 x)] ?_;refine HR.ctl I (HR.region ?_);refine HL.box I I ?_;intro b2;refine zh ?_;refine HR.loop (ι:=Nat) (fun k=>(k=0\/Ra.check a=0)/\k<=a.o.length/\∀(j:Nat) (z:Int),j<k->a.o[j]? =some z->z≠x) (fun k=>[(1,.int .i64 x),(2,ptr b2),(5,.int .i64 (k:Int))]) (fun _=>[jS b2 [ve,vo,vn] 34]) (fun k=>a.o.length-k) 0 ⟨.inl rfl,Nat.zero_le _,fun j z hj=>absurd hj (Nat.not_lt_zero _)⟩ ⟨I,I,I,trivial⟩ Ent.refl ?_
 rintro k ⟨hc,hk,hno⟩ ih
 have hk:k<=a.o.length:=hk;have hno:∀(j:Nat) (z:Int),j<k->a.o[j]? =some z->z≠x:=hno
 repeat' (first|refine zh ?_|refine qD (qA hA.o) I I I ?_|refine qB fn94 I I (fun w1 hw1=>KY a ve vo vn w1 (hA.at hw1)) ?_|apply zb ?_ ?_|exact zc|(refine zi fun hb=>?_;try simp at hb)|fail)
 refine HR.cond I (fun h2=>?_) (fun h2=>?_)
 ·have h2:(decide ((k:Int)<(a.o.length:Int))&&(Ra.check a==0))=true:=h2;simp only[Bool.and_eq_true,decide_eq_true_eq,beq_iff_eq]at h2;have hlt:k<a.o.length:=by omega
  obtain ⟨z,hz⟩:=jG hlt;refine zh ?_;refine qE (qA hA.o) j5 k I I I I hlt ?_;refine qF (qA hA.o) I I I I (jN hz) (zh ?_);refine HR.cond I (fun h3=>?_) (fun h3=>?_)
  ·have h3:z=x:=eq_of_beq h3;rw[jRK h2.2 (by rw[<- h3];exact List.mem_of_getElem? hz)];refine zh ?_;exact zR Tryz.func45
  have h3:z≠x:=by have h3:(z==x)=false:=h3;simpa using h3
  refine zh ?_;refine ih (k+1) _ _ ⟨.inr h2.2,hlt,fun j y hj hy=>?_⟩ (by show a.o.length-(k+1)<a.o.length-k;omega) ⟨I,I,I,trivial⟩ Ent.refl
  by_cases e:j=k
  ·rw [e,hz]at hy;cases hy;exact h3
  ·exact hno j y (by omega) hy
 have h2:(decide ((k:Int)<(a.o.length:Int))&&(Ra.check a==0))=false:=h2;have hlv:Me.live a x=true:=by
  by_cases h0:Ra.check a=0
  ·refine jP0 fun hm=>?_
   rw[h0]at h2
   simp at h2
   obtain ⟨j,hj⟩:=List.getElem?_of_mem hm;exact hno j x (by have:=(List.getElem?_eq_some_iff.1 hj).1;omega) hj I
  ·exact jP1 h0
 rw[hlv];refine zh ?_;exact zR Tryz.func45
theorem fn48:IsFn Tryz.prog 48:=zF Tryz.func48 I
abbrev jCh (y:SV) (n:Nat) (S:List (NV×Nd)):Chunk:=jM (sv y n) 62 13 n (cellsOf ZF S)
theorem jQk {B:Base} {H:List Chunk} {w:World} {y:SV} {n:Nat} {S:List (NV×Nd)} (k:Nat) (hw:Sat B H w) (hk:J5 H k=some (jCh y n S)) (hS:S.length=n):Sl w (sv y n) (cellsOf ZF S) S.length:=by
 rw[hS];exact (Rd.own k hk).at hw
theorem jKj (xs ys:List (NV×Nd)) (n0:Nat) (t:Int) (y:SV) (G:List Chunk) (a:Me.Air) (ve vo vn:Value) (now:Int) (i:Nat) (f:Fr) (B0:Base) (w:World) (hw0:Sat B0 [jCh y n0 ys,jC G] w)
  (hok:∀H w2,Sat ⟨w,zN [jCh y n0 ys,jC G]⟩ H w2->OkX w2 xs/\OkA w2 a ve vo vn) (hI:jDi xs ys G) (hg:∀z∈ys,GdN z.2) (hn:ys.length=n0) (hl:n0<=1000) (hf:f.da.length<=9223372036854775807) (hi:i<n0):
  Calls Tryz.prog 48 #[meV t (sv y n0),jAt ve vo vn,.int .i64 now,.int .i64 (i:Int),.agg ⟨frC f⟩] w fun e w'=>∃x:List (NV×Nd)×List Chunk,e= .returned (meV t (sv y n0))/\(nds x.1=Me.told a now (nds ys) i f/\jDi xs x.1 x.2/\∀z∈x.1,GdN z.2)/\Sat ⟨w,zN [jCh y n0 ys,jC G]⟩ [jCh y n0 x.1,jC x.2] w':=by
 obtain ⟨rs,hrs⟩:∃rs,rs=Ra.recv (Ra.san a) f:=⟨_,rfl⟩;obtain ⟨ak,hak⟩:∃ak,ak=Ra.jCC (Ra.san a) f:=⟨_,rfl⟩;have hsp:Me.told a now (nds ys) i f=((Me.hears f now (nds ys) rs).1).set i (result (Me.nth (Me.hears f now (nds ys) rs).1 i) f (ak&&((Me.hears f now (nds ys) rs).2||(f.dst==255)))):=by rw[hrs,hak];rfl
 rw[hsp];have hrl:rs.length<=251:=by rw[hrs];exact Ra.jJh _ _
 refine jc [jCh y n0 ys,jC G] (hw0) Tryz.func48 I (Nat.le_of_ble_eq_true I) (HR.sub (σ':=[(0,meV t (sv y n0)),(1,jAt ve vo vn),(2,.int .i64 now),(3,.int .i64 (i:Int)),(4,.agg ⟨frC f⟩)]) ⟨I,I,I,I,I,trivial⟩ ?_);refine HR.ctl I (HR.region ?_);refine HL.box I I ?_;intro b5;refine HL.box I I ?_;intro b6;refine HL.box I I ?_;intro b9;refine HL.alloc I I ?_;intro b10;refine zh ?_;refine qL (r:=fun v:Value=> .tuple ⟨[v,.bool ak]⟩) (Q:=fun _=>True) (G:=fun v=>[jM v 3 1 rs.length (cellsOf iC rs)]) fn110 I I (fun w1 hw1=>by rw[hrs,hak];exact (jDe a f ve vo vn w1 (hok _ w1 hw1).2).mono fun e w' ⟨v,e1,e2⟩=>⟨v,e1,trivial,e2⟩) ?_;intro vr _;refine zh ?_;refine HR.loop (ι:=Nat×List (NV×Nd)×Bool×List Chunk) (fun x=>x.1<=rs.length/\(rs.take x.1).foldl (Me.Kn f now) (nds ys,false)=(nds x.2.1,x.2.2.1)/\x.2.1.length=n0/\jDi xs x.2.1 x.2.2.2/\∀z∈x.2.1,GdN z.2) (fun x=>[(2,.int .i64 now),(3,.int .i64 (i:Int)),(5,ptr b5),(9,ptr b9),(10,ptr b10),(11,vr),(12,.bool ak),(13,.bool x.2.2.1),(14,.int .i64 (x.1:Int))]) (fun x=>[jM vr 3 1 rs.length (cellsOf iC rs),jCh y n0 x.2.1,jC x.2.2.2,meB b5 t (sv y n0),jS b9 (frC f) 75,jS b10 meZ 26]) (fun x=>rs.length-x.1) (0,ys,false,G) ⟨Nat.zero_le _,rfl,hn,hI,hg⟩ ⟨I,I,I,I,I,I,I,I,I,trivial⟩ (Ent.pick [0,5,6,4,2,1] I I) ?_
 rintro ⟨k,S,r,Gk⟩ ⟨hk,hfo,hSl,hIk,hgk⟩ ih
 have hk:k<=rs.length:=hk;have hfo:(rs.take k).foldl (Me.Kn f now) (nds ys,false)=(nds S,r):=hfo;have hSl:S.length=n0:=hSl;have hIk:jDi xs S Gk:=hIk;have hgk:∀z∈S,GdN z.2:=hgk;have cS:(cellsOf ZF S).length=n0*13:=by rw[jA jh,hSl]
 refine zh ?_;refine qD (Rd.own 0 I) I I I (zh ?_);refine HR.cond I (fun h2=>?_) (fun h2=>?_)
 rotate_left
 ·have hke:k=rs.length:=by have:¬(k:Int)<(rs.length:Int):=of_decide_eq_false h2;omega
  rw[hke,List.take_length]at hfo;have e1:Me.hears f now (nds ys) rs=(nds S,r):=hfo;rw[e1];clear ih;obtain ⟨⟨V,n⟩,hx⟩:=jG (show i<S.length by omega);rw[jC2 hx];have hGn:GdN n:=hgk _ (List.mem_of_getElem? hx);obtain ⟨nw,hnw⟩:∃nw,nw=result n f (ak&&(r||(f.dst==255))):=⟨_,rfl⟩;rw[show result (V,n).2 f (ak&&((nds S,r).2||(f.dst==255)))=nw from hnw.symm];have hGw:GdN nw:=by rw[hnw];exact hGn.result f _
  have hfs:∀s∈n.out,Go.GX.fits .i64 s.tr:=fun s hs=>(hGn.wf.out s hs).tr
  refine zh ?_;clear hak hfo e1;cases ak<;>cases r
  all_goals
   refine qU [(0,true),(1,true),(2,true),(3,true),(4,true),(5,true),(6,true),(7,true),(8,true),(9,true),(10,true),(11,true),(12,true),(13,true),(14,true),(15,true),(16,true),(17,true),(18,false),(19,true)] 20 [1,3,4] I I j3 (by kernel_rfl) ?_
   repeat' (first|refine zd ?_|refine qc (Rd.own 0 I) JQ i I I I I I hi ?_|refine QI (us:=ndC V n) (Rd.own 0 I) I I I I I (by simp) I (jD jh hx) ?_|fail)
   refine HD.one I (qL (r:=fun x:NV×List Chunk=> .agg ⟨ndC x.1 nw⟩) (Q:=fun x=>Imp V n x.1 x.2 nw) (G:=fun x=>[jC x.2]) fn113 I I (fun w1 hw1=>by rw[hnw];exact jHe V n f _ w1 (hIk w1 (hok _ w1 hw1).1 (QF 2 hw1 I) _ (List.mem_of_getElem? hx)) hGn.sm hfs) ?_)
   rintro ⟨V2,G2⟩ hI2
   have hI2:Imp V n V2 G2 nw:=hI2;refine HL.back [2,4,5] I I ?_
   repeat' (first|refine qc (Rd.own 0 I) JQ i I I I I I hi ?_|fail)
   refine qo I (ql (us:=ndC V2 nw) (j:=i*13) 2 I I I I I I I (by rw[cS];show i*13+13<=_;omega) (by simp) ?_);refine qM (H':=[jC [jC G2,jC Gk],jCh y n0 (S.set i (V2,nw)),meB b5 t (sv y n0),jS b10 meZ 26]) (Ent.trans (Ent.pick (H':=[jC G2,jC Gk]++[_,meB b5 t (sv y n0),jS b10 meZ 26]) [0,3,2,4,6] I I) (Ent.trans Ent.group (Ent.trans (Ent.pick [1,0,2,3] I I) (Ent.trans (qC (xs':=cellsOf ZF (S.set i (V2,nw))) I (j6 (us:=ndC V2 nw) (i:=0) jh hx I (show 0+13<=13 by decide))) (Ent.pick [1,0,2,3] I I))))) ?_
   repeat' (first|refine zh ?_|fail)
   refine HR.ret Tryz.func48 I [_] (fun w hw=>⟨⟨_,rfl,jQ hw 3 I I I I rfl⟩,trivial⟩) ?_;refine fun w' hw=>⟨(S.set i (V2,nw),[jC G2,jC Gk]),rfl,⟨jFA S i (V2,nw),hIk.set fun w2 hx2 hg2=>hI2 w2 (hx2 _ (List.mem_of_getElem? hx)) hg2,fun z hz=>?_⟩,hw.pick [1,0] I rfl⟩
   rcases List.mem_or_eq_of_mem_set (show z∈S.set i (V2,nw)from hz)with hz|rfl
   ·exact hgk z hz
   ·exact hGw
 have hlt:k<rs.length:=by have:(k:Int)<(rs.length:Int):=of_decide_eq_true h2;omega
 obtain ⟨q,hq⟩:=jG hlt;have hst:=jEU (Me.Kn f now) (nds ys,false) hq;rw[hfo]at hst
 repeat' (first|refine zh ?_|fail)
 refine qO [(0,true),(1,true),(2,true),(3,true),(4,true),(5,false),(6,true)] [0,1,2,3,4,5] I I j3 (by kernel_rfl) ?_
 repeat' (first|refine zd ?_|fail)
 refine qc (Rd.own 0 I) j5 k I I I I I hlt (QD (Rd.own 0 I) I I I I I (jN hq) ?_);refine HD.one I ?_;have hIx:∀ {H:List Chunk} (w1:World) (m:Nat),Sat ⟨w,zN [jCh y n0 ys,jC G]⟩ H w1->J5 H m=some (jC Gk)->OkX w1 S:=fun w1 m hw1 hm=>hIk w1 (hok _ w1 hw1).1 (QF m hw1 hm)
 rcases jBe S q with ⟨e1,e2⟩|⟨j,⟨V,n⟩,e1,e2,hx,hxa⟩
 ·rw [jES e2]at hst;refine qB (r:= .int .i64 (-1)) fn55 I I (fun w1 hw1=>by rw[<- e1];exact jF5 S t q (sv y n0) w1 (jQk 1 hw1 I hSl) (by omega)) ?_;refine HL.back [0,1,2,3,4,5] I I ?_
  repeat' (first|refine zd ?_|fail)
  refine HD.nil ?_
  repeat' (first|refine zh ?_|fail)
  exact ih (k+1,S,r,Gk) _ _ ⟨hlt,hst,hSl,hIk,hgk⟩ (by show rs.length-(k+1)<rs.length-k;omega) ⟨I,I,I,I,I,I,I,I,I,trivial⟩ Ent.refl
 have hjl:j<n0:=by have:=(List.getElem?_eq_some_iff.1 hx).1;omega
 have hGn:GdN n:=hgk _ (List.mem_of_getElem? hx);rw[jER e2,jC2 hx]at hst;have hst:(rs.take (k+1)).foldl (Me.Kn f now) (nds ys,false)=if awake n now then ((nds S).set j (hear n now f),r||(q==f.dst))else (nds S,r):=hst
 refine qB (r:= .int .i64 (j:Int)) fn55 I I (fun w1 hw1=>by rw[<- e1];exact jF5 S t q (sv y n0) w1 (jQk 1 hw1 I hSl) (by omega)) ?_;refine HL.back [0,1,2,3,4,5] I I ?_
 repeat' (first|refine zd ?_|fail)
 refine HD.nil ?_
 repeat' (first|refine zh ?_|refine qE (Rd.own 1 I) JQ j I I I I hjl ?_|refine qN (us:=ndC V n) (Rd.own 1 I) I I I I (by simp) I (jD jh hx) ?_|refine qB fn111 I I (fun w1 hw1=>jKp V n now w1 (hIx w1 2 hw1 I _ (List.mem_of_getElem? hx)) hGn.sm) ?_|fail)
 refine HR.cond I (fun h3=>?_) (fun h3=>?_)
 ·have h3:awake n now=false:=by have h3:(!awake n now)=true:=h3;simpa using h3
  rw[h3,if_neg (by decide)]at hst
  repeat' (first|refine zh ?_|fail)
  exact ih (k+1,S,r,Gk) _ _ ⟨hlt,hst,hSl,hIk,hgk⟩ (by show rs.length-(k+1)<rs.length-k;omega) ⟨I,I,I,I,I,I,I,I,I,trivial⟩ Ent.refl
 have h3:awake n now=true:=by have h3:(!awake n now)=false:=h3;simpa using h3
 rw[h3,if_pos rfl]at hst
 repeat' (first|refine zh ?_|fail)
 refine qU [(0,true),(1,true),(2,true),(3,true),(4,true),(5,true),(6,true),(7,true),(8,true),(9,true),(10,false),(11,true)] 12 [1,3,4] I I j3 (by kernel_rfl) ?_
 repeat' (first|refine zd ?_|refine qc (Rd.own 0 I) JQ j I I I I I hjl ?_|refine QI (us:=ndC V n) (Rd.own 0 I) I I I I I (by simp) I (jD jh hx) ?_|fail)
 refine HD.one I (qL (r:=fun x:NV×List Chunk=> .agg ⟨ndC x.1 (hear n now f)⟩) (Q:=fun x=>Imp V n x.1 x.2 (hear n now f)) (G:=fun x=>[jC x.2]) fn112 I I (fun w1 hw1=>jMR V n now f w1 (hIx w1 2 hw1 I _ (List.mem_of_getElem? hx)) hGn.sm hf) ?_)
 rintro ⟨V2,G2⟩ hI2
 have hI2:Imp V n V2 G2 (hear n now f):=hI2;refine HL.back [2,4,5] I I ?_
 repeat' (first|refine qc (Rd.own 0 I) JQ j I I I I I hjl ?_|fail)
 refine qo I (ql (us:=ndC V2 (hear n now f)) (j:=j*13) 2 I I I I I I I (by rw[cS];show j*13+13<=_;omega) (by simp) ?_);obtain ⟨S',hS'⟩:∃S',S'=S.set j (V2,hear n now f):=⟨_,rfl⟩;refine qM (H':=[jM vr 3 1 rs.length (cellsOf iC rs),jCh y n0 S',jC G2,jC Gk,meB b5 t (sv y n0),jS b9 (frC f) 75,jS b10 meZ 26]) (Ent.trans (Ent.pick [2,0,1,3,4,5,6] I I) (Ent.trans (qC (xs':=cellsOf ZF S') I (by rw[hS'];exact j6 (i:=0) jh hx I (show 0+13<=13 by decide))) (Ent.pick [2,0,1,3,4,5,6] I I))) ?_
 repeat' (first|refine zh ?_|fail)
 refine qK j3 (by kernel_rfl) ?_
 repeat' (first|refine zq ?_|refine qW (Rd.own 0 I) j5 k I I I I hlt ?_|refine qj (Rd.own 0 I) I I I I (jN hq) ?_|apply zb ?_ ?_|exact zc|(refine zi fun hb=>?_;try simp at hb)|fail)
 repeat' (first|refine zh ?_|fail)
 refine ih (k+1,S',r||(q==f.dst),[jC G2,jC Gk]) _ _ ⟨hlt,?_,?_,?_,?_⟩ (by show rs.length-(k+1)<rs.length-k;omega) ⟨I,I,I,I,I,I,I,I,I,trivial⟩ (Ent.trans (Ent.pick (H':=[jC G2,jC Gk]++[jM vr 3 1 rs.length (cellsOf iC rs),jCh y n0 S',meB b5 t (sv y n0),jS b9 (frC f) 75,jS b10 meZ 26]) [2,3,0,1,4,5,6] I I) (Ent.trans Ent.group (Ent.pick [1,2,0,3,4,5] I I)))
 ·show (rs.take (k+1)).foldl (Me.Kn f now) (nds ys,false)=(nds S',r||(q==f.dst));rw[hst,hS',jFA]
 ·show S'.length=n0;rw[hS',List.length_set,hSl]
 ·show jDi xs S' [jC G2,jC Gk];rw[hS'];exact hIk.set fun w2 hx2 hg2=>hI2 w2 (hx2 _ (List.mem_of_getElem? hx)) hg2
 ·intro z hz;have hz:z∈S':=hz;rw[hS']at hz;rcases List.mem_or_eq_of_mem_set hz with hz|rfl
  ·exact hgk z hz
  ·exact hGn.hear hf now
theorem fn16:IsFn Tryz.prog 16:=zF Tryz.func16 I
theorem jEV (n:Nat):(List.replicate n (ji (.bool false))).flatten=cellsOf bC (List.replicate n false):=by
 show _=((List.replicate n false).map bC).flatten;rw[List.map_replicate];rfl
theorem jRs (n:Nat):(List.replicate n (ji (.agg ⟨frC fr0⟩))).flatten=cellsOf frC (List.replicate n fr0):=by
 show _=((List.replicate n fr0).map frC).flatten;rw[List.map_replicate];rfl
section
variable {α : Type} {A B : List α} {k : Nat} {x : α}
theorem jH2 (h:k<=A.length):(A.take k++B.drop k)[k]? =B[k]? :=by
 have hk:(A.take k).length=k:=by rw[List.length_take];omega
 rw[List.getElem?_append_right (by omega),hk,Nat.sub_self,List.getElem?_drop,Nat.add_zero]
theorem jBY (hA:A[k]? =some x) (hB:k<B.length):(A.take k++B.drop k).set k x=A.take (k+1)++B.drop (k+1):=by
 have hk:(A.take k).length=k:=by
  have:=(List.getElem?_eq_some_iff.1 hA).1;rw[List.length_take];omega
 rw[jE hA,List.drop_eq_getElem_cons hB,List.set_append_right _ _ (by omega),hk,Nat.sub_self,List.set_cons_zero,List.append_assoc];rfl
theorem jCQ (hA:A[k]? =some x) (hB:B[k]? =some x):A.take k++B.drop k=A.take (k+1)++B.drop (k+1):=by
 have hb:=(List.getElem?_eq_some_iff.1 hB);have ha:=(List.getElem?_eq_some_iff.1 hA).1;rw[<- jBY hA hb.1,jCF (by rw[jH2 (by omega)];exact hB)]
theorem jC6 {n:Nat} (ha:A.length=n) (hb:B.length=n):A.take n++B.drop n=A:=by
 rw[List.take_of_length_le (by omega),List.drop_eq_nil_of_le (by omega),List.append_nil]
end
structure LenIs {α:Type} (l:List α) (n:Nat):Prop where
 e:l.length=n
theorem jGq (f:Fr) (now:Int):∀(tos:List Int) (s:List Nd×Bool),(tos.foldl (Me.Kn f now) s).1.length=s.1.length
 |[],s=>rfl
 |x::tos,s=>by
  rw[List.foldl_cons,jGq f now tos];unfold Me.Kn
  split
  ·rfl
  ·split
   ·exact List.length_set
   ·rfl
theorem jJT (a:Me.Air) (now:Int) (l:List Nd) (i:Nat) (f:Fr):(Me.told a now l i f).length=l.length:=by
 unfold Me.told;rw[List.length_set];exact jGq f now _ (l,false)
theorem jPA {w w1 w2:World} {G H H':List Chunk} (h1:Sat (base w) (G++H) w1) (h2:Sat ⟨w1,zN G⟩ H' w2):Below w.heap.size w w2:=by
 refine ⟨h2.os.trans h1.os,h2.tape.trans h1.tape,h2.output.trans h1.output,Nat.le_trans h1.size h2.size,fun k hk=>?_⟩;rw[h2.block k (Nat.lt_of_lt_of_le hk h1.size) ?_]
 ·exact h1.block k hk fun h=>h
 ·rintro ⟨c,hc,hk'⟩
  rcases (h1.all.mem c (List.mem_append_left _ hc)).2 k hk' with h|h
  ·have h:w.heap.size<=k:=h;omega
  ·exact h
theorem GdN.ph1 {a:Me.Air} {nw:Int} {n:Nd} (h:GdN n):GdN (Me.phase1 a nw n):=by
 unfold Me.phase1
 split
 ·exact h.tick nw
 ·exact h
theorem jL8 {a:Me.Air} {nw:Int} {n:Nd} (h:GdN n):(Me.jFc nw (Me.live a n.addr) (Me.phase1 a nw n)).2.1.da.length<=9223372036854775807:=by
 unfold Me.jFc
 split
 ·exact (h.ph1.talk nw).2
 ·exact Nat.zero_le _
theorem jHd (xs:List (NV×Nd)) (t:Int) (v:Value) (a:Me.Air) (ve vo vn:Value) (w:World) (h:OkL w v xs) (hg:∀x∈xs,GdN x.2) (hl:xs.length<=1000) (hA:OkA w a ve vo vn):
  Calls Tryz.prog 16 #[meV t v,jAt ve vo vn] w fun e w'=>∃x:SV×List (NV×Nd)×List Chunk,e= .returned (meV (Me.jFV t) (sv x.1 x.2.1.length))/\RfL v xs x (Me.jLD ⟨t,nds xs⟩ a).nodes/\Sat (base w) [jC x.2.2] w':=by
 obtain ⟨nw,hnw⟩:∃z,z=Me.jFV t:=⟨_,rfl⟩;have cx:(cellsOf ZF xs).length=xs.length*13:=jA jh _;refine zE Tryz.func16 I [(0,meV t v),(1,jAt ve vo vn)] ?_;refine HR.ctl I (HR.region ?_);refine HL.box I I ?_;intro b2;refine HL.box I I ?_;intro b3;refine HL.alloc I I ?_;intro b4;refine zh ?_;obtain ⟨t1,ht1⟩:∃t1,t1=if t<0 then 0 else t:=⟨_,rfl⟩
 obtain ⟨t2,ht2⟩:∃t2,t2=if t1>1099511627775 then 1099511627775 else t1:=⟨_,rfl⟩
 have hn2:nw=t2+1:=by
  rw[hnw,ht2,ht1];unfold Me.jFV;have:jw=1099511627776:=rfl
  split<;>split at* <;>omega
 refine HR.join (ι:=Unit) (fun _=>True) (fun _=>[(2,ptr b2),(3,ptr b3),(4,ptr b4),(5,.int .i64 t1)]) (fun _=>[jS b4 meZ 26,jS b3 [ve,vo,vn] 34,meB b2 t v]) ?_ (fun hj=>?_)
 rotate_left
 ·refine HR.cond I (fun h1=>?_) (fun h1=>?_)
  ·have h1:t<0:=of_decide_eq_true h1;rw[if_pos h1]at ht1;refine HR.region ?_
   repeat' (first|refine zn ?_|fail)
   exact hj () _ _ trivial ⟨rfl,rfl,rfl,by rw[ht1];rfl,trivial⟩ Ent.refl
  ·have h1:¬t<0:=of_decide_eq_false h1;rw[if_neg h1]at ht1;refine HR.skip ?_;exact hj () _ _ trivial ⟨rfl,rfl,rfl,by rw[ht1];rfl,trivial⟩ Ent.refl
 rintro _ _
 repeat' (first|refine zh ?_|fail)
 refine HR.join (ι:=Unit) (fun _=>True) (fun _=>[(2,ptr b2),(3,ptr b3),(4,ptr b4),(5,.int .i64 t2)]) (fun _=>[jS b4 meZ 26,jS b3 [ve,vo,vn] 34,meB b2 t v]) ?_ (fun hj=>?_)
 rotate_left
 ·refine HR.cond I (fun h1=>?_) (fun h1=>?_)
  ·have h1:t1>1099511627775:=of_decide_eq_true h1;rw[if_pos h1]at ht2;refine HR.region ?_
   repeat' (first|refine zn ?_|fail)
   exact hj () _ _ trivial ⟨rfl,rfl,rfl,by rw[ht2];rfl,trivial⟩ Ent.refl
  ·have h1:¬t1>1099511627775:=of_decide_eq_false h1;rw[if_neg h1]at ht2;refine HR.skip ?_;exact hj () _ _ trivial ⟨rfl,rfl,rfl,by rw[ht2];rfl,trivial⟩ Ent.refl
 rintro _ _
 have ht2b:0<=t2/\t2<=1099511627775:=by
  rw[ht2,ht1];split<;>split at* <;>omega
 repeat' (first|refine zh ?_|fail)
 refine QB 24 (v':= .int .i64 nw) I (by rw[hn2]) (QB 5 (v':= .int .i64 nw) I (by rw[hn2]) ?_);clear ht2b hn2 ht2 ht1;refine qh JQ I ?_;intro v1
 repeat' (first|refine zh ?_|fail)
 refine qJ 0 I JQ (qA h.s) I I I cx (jR jJ0 _) (by omega) (by omega) ?_;intro v2;refine qM (qC (Nat.zero_add _) (List.nil_append _)) ?_;refine HL.shape 0 I fun a3 c3 hv=>?_
 subst hv
 repeat' (first|refine zh ?_|intro (bk:Nat))
 generalize bk=b6;refine qg xs.length xs.length J4 I I I I I I (Nat.le_refl _) (show 1*xs.length<=_ by omega) (by omega) ?_;intro v7;refine HL.shape 0 I fun a7 c7 hv=>?_
 subst hv
 repeat' (first|refine zh ?_|fail)
 obtain ⟨n0,hn0⟩:∃n0,n0=xs.length:=⟨_,rfl⟩;obtain ⟨A1,hA1⟩:∃A1,A1=(nds xs).map (Me.phase1 a nw):=⟨_,rfl⟩;obtain ⟨AL,hAL⟩:∃AL,AL=(nds xs).map (fun n=>Me.live a n.addr):=⟨_,rfl⟩;have hl':n0<=1000:=by omega
 have hxl:LenIs xs n0:=⟨hn0.symm⟩;have hcx:LenIs (cellsOf ZF xs) (n0*13):=⟨by rw[cx,hn0]⟩;have hnl:LenIs (nds xs) n0:=⟨by rw[JW,hn0]⟩;have hA1l:LenIs A1 n0:=⟨by rw[hA1,List.length_map,hnl.e]⟩;have hALl:LenIs AL n0:=⟨by rw[hAL,List.length_map,hnl.e]⟩;refine HR.loop (ι:=Nat×List (NV×Nd)×List Bool×List Chunk) (fun x=>x.1<=n0/\nds x.2.1=A1.take x.1++(nds xs).drop x.1/\x.2.2.1=AL.take x.1++(List.replicate n0 false).drop x.1/\jDi xs x.2.1 x.2.2.2/\∀z∈x.2.1,GdN z.2) (fun x=>[(2,ptr b2),(3,ptr b3),(4,ptr b4),(5,.int .i64 nw),(6,ptr b6),(7,sv (a7,c7) n0),(8,.int .i64 (x.1:Int))]) (fun x=>[meB b6 nw (sv (a3,c3) n0),jCh (a3,c3) n0 x.2.1,jM (sv (a7,c7) n0) 4 1 n0 (cellsOf bC x.2.2.1),jC x.2.2.2,jS b4 meZ 26,jS b3 [ve,vo,vn] 34,meB b2 t v]) (fun x=>n0-x.1) (0,xs,List.replicate n0 false,[]) ⟨Nat.zero_le _,rfl,rfl,jDi.refl _ _,hg⟩ ⟨rfl,rfl,rfl,rfl,rfl,by rw[hn0];rfl,rfl,trivial⟩ ?_ ?_
 ·subst hn0;exact Ent.trans (qC I (jEV _)) (Ent.trans QJ (Ent.pick [2,3,1,0,4,5,6] I I))
 clear cx hn0
 rintro ⟨k,S,L,G⟩ ⟨hk,hS,hL,hI,hG⟩ ih
 have hk:k<=n0:=hk;have hS:nds S=A1.take k++(nds xs).drop k:=hS;have hL:L=AL.take k++(List.replicate n0 false).drop k:=hL;have hI:jDi xs S G:=hI;have hG:∀z∈S,GdN z.2:=hG;have hSl:LenIs S n0:=⟨by rw[<- JW,hS,List.length_append,List.length_take,List.length_drop,hA1l.e,hnl.e];omega⟩;have hLl:LenIs L n0:=⟨by rw[hL,List.length_append,List.length_take,List.length_drop,List.length_replicate,hALl.e];omega⟩;have cS:LenIs (cellsOf ZF S) (n0*13):=⟨by rw[jA jh,hSl.e]⟩;have cL:LenIs (cellsOf bC L) (n0*1):=⟨by rw[jA jBF,hLl.e]⟩
 repeat' (first|refine zh ?_|fail)
 refine HR.cond I (fun h2=>?_) (fun h2=>?_)
 rotate_left
 ·have hke:k=n0:=by have:¬(k:Int)<(n0:Int):=of_decide_eq_false h2;omega
  rw[hke,jC6 hA1l.e hnl.e]at hS;rw[hke,jC6 hALl.e List.length_replicate]at hL;clear ih h2 hke cL hcx;obtain ⟨sp,hsp⟩:∃sp,sp=Me.spoken ⟨t,nds xs⟩ a:=⟨_,rfl⟩;obtain ⟨AN,hAN⟩:∃AN,AN=sp.map (·.1):=⟨_,rfl⟩;obtain ⟨AF,hAF⟩:∃AF,AF=sp.map (·.2.1):=⟨_,rfl⟩;obtain ⟨AT,hAT⟩:∃AT,AT=sp.map (·.2.2):=⟨_,rfl⟩;have hspl:LenIs sp n0:=⟨by rw[hsp];unfold Me.spoken;rw[List.length_map];exact hnl.e⟩;have hANl:LenIs AN n0:=⟨by rw[hAN,List.length_map,hspl.e]⟩;have hAFl:LenIs AF n0:=⟨by rw[hAF,List.length_map,hspl.e]⟩;have hATl:LenIs AT n0:=⟨by rw[hAT,List.length_map,hspl.e]⟩;have hspk:∀ {k:Nat} {V0:NV} {n:Nd},xs[k]? =some (V0,n)->sp[k]? =some (Me.jFc nw (Me.live a n.addr) (Me.phase1 a nw n)):=fun hx=>by
   rw[hsp,hnw];unfold Me.spoken;rw[List.getElem?_map,Je hx];rfl
  repeat' (first|refine zh ?_|fail)
  refine qg n0 n0 jEY I I I I I I (Nat.le_refl _) (show 80*n0<=_ by omega) (by omega) ?_;intro v9;refine HL.shape 0 I fun a9 c9 hv=>?_
  subst hv
  repeat' (first|refine zh ?_|fail)
  refine qg n0 n0 J4 I I I I I I (Nat.le_refl _) (show 1*n0<=_ by omega) (by omega) ?_;intro v10;refine HL.shape 0 I fun a10 c10 hv=>?_
  subst hv
  repeat' (first|refine zh ?_|fail)
  refine HR.loop (ι:=Nat×List (NV×Nd)×List Fr×List Bool×List Chunk) (fun x=>x.1<=n0/\nds x.2.1=AN.take x.1++A1.drop x.1/\x.2.2.1=AF.take x.1++(List.replicate n0 fr0).drop x.1/\x.2.2.2.1=AT.take x.1++(List.replicate n0 false).drop x.1/\jDi xs x.2.1 x.2.2.2.2/\∀z∈x.2.1,GdN z.2) (fun x=>[(3,ptr b3),(4,ptr b4),(5,.int .i64 nw),(6,ptr b6),(7,sv (a7,c7) n0),(9,sv (a9,c9) n0),(10,sv (a10,c10) n0),(11,.int .i64 (x.1:Int))]) (fun x=>[jM (sv (a9,c9) n0) 75 9 n0 (cellsOf frC x.2.2.1),jM (sv (a10,c10) n0) 4 1 n0 (cellsOf bC x.2.2.2.1),meB b6 nw (sv (a3,c3) n0),jCh (a3,c3) n0 x.2.1,jM (sv (a7,c7) n0) 4 1 n0 (cellsOf bC L),jC x.2.2.2.2,jS b4 meZ 26,jS b3 [ve,vo,vn] 34]) (fun x=>n0-x.1) (0,S,List.replicate n0 fr0,List.replicate n0 false,G) ⟨Nat.zero_le _,hS,rfl,rfl,hI,hG⟩ ⟨I,I,I,I,I,I,I,I,trivial⟩ ?_ ?_
  ·exact Ent.trans (qC I (jEV _)) (Ent.trans (Ent.pick [1,0,2,3,4,5,6,7] I I) (qC I (jRs _)))
  clear hS hI hG hSl cS
  rintro ⟨k,S,F,T,G⟩ ⟨hk,hS,hF,hT,hI,hG⟩ ih
  have hk:k<=n0:=hk;have hS:nds S=AN.take k++A1.drop k:=hS;have hF:F=AF.take k++(List.replicate n0 fr0).drop k:=hF;have hT:T=AT.take k++(List.replicate n0 false).drop k:=hT;have hI:jDi xs S G:=hI;have hG:∀z∈S,GdN z.2:=hG;have hSl:LenIs S n0:=⟨by rw[<- JW,hS,List.length_append,List.length_take,List.length_drop,hANl.e,hA1l.e];omega⟩;have hFl:LenIs F n0:=⟨by rw[hF,List.length_append,List.length_take,List.length_drop,List.length_replicate,hAFl.e];omega⟩;have hTl:LenIs T n0:=⟨by rw[hT,List.length_append,List.length_take,List.length_drop,List.length_replicate,hATl.e];omega⟩;have cS:LenIs (cellsOf ZF S) (n0*13):=⟨by rw[jA jh,hSl.e]⟩;have cF:LenIs (cellsOf frC F) (n0*9):=⟨by rw[jA jFP,hFl.e]⟩;have cT:LenIs (cellsOf bC T) (n0*1):=⟨by rw[jA jBF,hTl.e]⟩
  repeat' (first|refine zh ?_|fail)
  refine HR.cond I (fun h2=>?_) (fun h2=>?_)
  rotate_left
  ·have hke:k=n0:=by have:¬(k:Int)<(n0:Int):=of_decide_eq_false h2;omega
   rw[hke,jC6 hANl.e hA1l.e]at hS;rw[hke,jC6 hAFl.e List.length_replicate]at hF;rw[hke,jC6 hATl.e List.length_replicate]at hT;clear ih h2 hke cS;obtain ⟨fs,hfs⟩:∃fs,fs=sp.map (·.2):=⟨_,rfl⟩;have hfk:∀ {k:Nat} {f:Fr} {tk:Bool},F[k]? =some f->T[k]? =some tk->fs[k]? =some (f,tk):=fun {k f tk} h1 h2=>by
    rw[hF,hAF,List.getElem?_map]at h1;rw[hT,hAT,List.getElem?_map]at h2;rw[hfs,List.getElem?_map];cases hz:sp[k]? with
    |none=>rw[hz]at h1;cases h1
    |some z=>rw[hz]at h1 h2;cases z with|mk z1 z2=>cases h1;cases h2;rfl
   have hfd:∀ {k:Nat} {f:Fr},F[k]? =some f->f.da.length<=9223372036854775807:=fun {k f} h1=>by
    have hkl:k<xs.length:=by have h3:=(List.getElem?_eq_some_iff.1 h1).1;rw[hFl.e]at h3;rw[hxl.e];exact h3
    obtain ⟨⟨V0,n⟩,hx⟩:=jG hkl;rw[hF,hAF,List.getElem?_map,hspk hx]at h1;cases h1;exact jL8 (hg _ (List.mem_of_getElem? hx))
   have hfin:Me.tells a nw fs n0 AN=(Me.jLD ⟨t,nds xs⟩ a).nodes:=by
    rw[hfs,hAN,hsp,<- hnl.e,hnw];rfl
   repeat' (first|refine zh ?_|fail)
   refine HR.loop (ι:=Nat×List (NV×Nd)×List Chunk) (fun x=>x.1<=n0/\nds x.2.1=Me.tells a nw fs x.1 AN/\LenIs x.2.1 n0/\jDi xs x.2.1 x.2.2/\∀z∈x.2.1,GdN z.2) (fun x=>[(3,ptr b3),(4,ptr b4),(5,.int .i64 nw),(6,ptr b6),(9,sv (a9,c9) n0),(10,sv (a10,c10) n0),(15,.int .i64 (x.1:Int))]) (fun x=>[jCh (a3,c3) n0 x.2.1,jC x.2.2,jM (sv (a9,c9) n0) 75 9 n0 (cellsOf frC F),jM (sv (a10,c10) n0) 4 1 n0 (cellsOf bC T),meB b6 nw (sv (a3,c3) n0),jS b3 [ve,vo,vn] 34,jS b4 meZ 26]) (fun x=>n0-x.1) (0,S,G) ⟨Nat.zero_le _,hS,hSl,hI,hG⟩ ⟨I,I,I,I,I,I,I,trivial⟩ (Ent.pick [3,5,0,1,2,7,6] I I) ?_;clear hS hI hG hSl
   rintro ⟨k,S,G⟩ ⟨hk,hS,hSl,hI,hG⟩ ih
   have hk:k<=n0:=hk;have hS:nds S=Me.tells a nw fs k AN:=hS;have hSl:LenIs S n0:=hSl;have hI:jDi xs S G:=hI;have hG:∀z∈S,GdN z.2:=hG
   repeat' (first|refine zh ?_|fail)
   refine HR.cond I (fun h2=>?_) (fun h2=>?_)
   rotate_left
   ·have hke:k=n0:=by have:¬(k:Int)<(n0:Int):=of_decide_eq_false h2;omega
    rw[hke,hfin]at hS;clear ih
    repeat' (first|refine zh ?_|fail)
    refine HR.ret Tryz.func16 I [_] (fun w hw=>⟨⟨_,rfl,jQ hw 6 I I I I rfl⟩,trivial⟩) ?_;refine fun w' hw=>⟨((a3,c3),S,[jCh (a3,c3) n0 S,jC G]),by rw[<- hnw];show _=Ending.returned (meV nw (sv (a3,c3) S.length));rw[hSl.e];rfl,⟨hS,fun w2 h2 hg2=>⟨?_,fun z hz=>hI w2 h2.r (jK hg2 (by simp)) z hz⟩⟩,Ent.trans (Ent.pick (H':=[jCh (a3,c3) n0 S,jC G]++[]) [0,1] I I) Ent.group w' hw⟩
    show Sl w2 (sv (a3,c3) S.length) _ S.length;rw[hSl.e];exact jV (jK hg2 (c:=jCh (a3,c3) n0 S) (by simp))
   have hlt:k<n0:=by have:(k:Int)<(n0:Int):=of_decide_eq_true h2;omega
   obtain ⟨tk,htk⟩:=jG (show k<T.length by rw[hTl.e];exact hlt);obtain ⟨f,hf⟩:=jG (show k<F.length by rw[hFl.e];exact hlt);have hst:=jDm (a:=a) (now:=nw) (l:=AN) (hfk hf htk);rw[<- hS]at hst
   repeat' (first|refine zh ?_|refine qE (Rd.own 3 I) J4 k I I I I hlt ?_|refine qF (Rd.own 3 I) I I I I (jN htk) ?_|fail)
   refine HR.cond I (fun h3=>?_) (fun h3=>?_)
   rotate_left
   ·have h3:tk=false:=h3;rw[h3,if_neg (by decide)]at hst
    repeat' (first|refine zh ?_|fail)
    exact ih (k+1,S,G) _ _ ⟨hlt,hst.symm,hSl,hI,hG⟩ (by show n0-(k+1)<n0-k;omega) ⟨I,I,I,I,I,I,I,trivial⟩ Ent.refl
   have h3:tk=true:=h3;rw[h3,if_pos rfl]at hst;refine qU [(0,true),(1,true),(2,true),(3,true),(4,true),(5,true),(6,true),(7,true),(8,false)] 9 [2,4,5] I I j3 (by kernel_rfl) ?_
   repeat' (first|refine zd ?_|refine qc (Rd.own 0 I) jEY k I I I I I hlt ?_|refine QI (us:=frC f) (Rd.own 0 I) I I I I I (by simp) I (jD jFP hf) ?_|fail)
   refine HD.one I (qM (H':=[jCh (a3,c3) n0 S,jC G]++[jM (sv (a9,c9) n0) 75 9 n0 (cellsOf frC F),jM (sv (a10,c10) n0) 4 1 n0 (cellsOf bC T),meB b6 nw (sv (a3,c3) n0),jS b3 [ve,vo,vn] 34,jS b4 meZ 26]) (Ent.pick [0,1,2,3,4,5,6] I I) ?_);refine qQ (r:=fun _=>meV nw (sv (a3,c3) n0)) (Q:=fun x:List (NV×Nd)×List Chunk=>nds x.1=Me.told a nw (nds S) k f/\jDi xs x.1 x.2/\∀z∈x.1,GdN z.2) (G:=fun x=>[jCh (a3,c3) n0 x.1,jC x.2]) fn48 I I I (fun w1 hw1=>jKj xs S n0 nw (a3,c3) G a ve vo vn nw k f _ w1 (hw1.pick [0,1] I I) (fun H w2 h2=>have hb:=jPA (G:=[jCh (a3,c3) n0 S,jC G]) hw1 h2;⟨(h.ext hb).r,⟨hA.e.ext hb,hA.o.ext hb,hA.n.ext hb,hA.le,hA.lo,hA.ln⟩⟩) hI hG hSl.e hl' (hfd hf) hlt) ?_
   rintro ⟨S',G'⟩ ⟨hS',hI',hG'⟩
   have hS':nds S'=Me.told a nw (nds S) k f:=hS';have hI':jDi xs S' G':=hI';have hG':∀z∈S',GdN z.2:=hG';have hSl':LenIs S' n0:=⟨by rw[<- JW,hS',jJT,JW,hSl.e]⟩;refine HL.back [2,4,5] I I (qo I ?_)
   repeat' (first|refine zh ?_|fail)
   exact ih (k+1,S',G') _ _ ⟨hlt,hS'.trans hst.symm,hSl',hI',hG'⟩ (by show n0-(k+1)<n0-k;omega) ⟨I,I,I,I,I,I,I,trivial⟩ Ent.refl
  have hlt:k<n0:=by have:(k:Int)<(n0:Int):=of_decide_eq_true h2;omega
  obtain ⟨⟨V0,n⟩,hx⟩:=jG (show k<xs.length by rw[hxl.e];exact hlt);obtain ⟨⟨V1,p⟩,hs⟩:=jG (show k<S.length by rw[hSl.e];exact hlt);have hp:p=Me.phase1 a nw n:=by
   have e:(nds S)[k]? =A1[k]? :=by rw[hS];exact jH2 (by rw[hANl.e];exact hk)
   rw[Je hs,hA1,List.getElem?_map,Je hx]at e;exact Option.some.inj e
  have hspx:=hspk hx;have hLk:L[k]? =some (Me.live a n.addr):=by rw[hL,hAL,List.getElem?_map,Je hx];rfl
  have hGp:GdN p:=hG _ (List.mem_of_getElem? hs);rw[<- hp]at hspx;obtain ⟨lv,hlv⟩:∃lv,lv=Me.live a n.addr:=⟨_,rfl⟩;rw[<- hlv]at hspx hLk
  repeat' (first|refine zh ?_|refine qE (Rd.own 4 I) J4 k I I I I hlt ?_|refine qF (Rd.own 4 I) I I I I (jN hLk) ?_|fail)
  refine HR.cond I (fun h3=>?_) (fun h3=>?_)
  rotate_left
  ·have h3:lv=false:=h3;have e:sp[k]? =some (p,fr0,false):=by rw[hspx,h3];rfl
   repeat' (first|refine zh ?_|fail)
   refine ih (k+1,S,F,T,G) _ _ ⟨hlt,?_,?_,?_,hI,hG⟩ (by show n0-(k+1)<n0-k;omega) ⟨I,I,I,I,I,I,I,I,trivial⟩ Ent.refl
   ·show nds S=AN.take (k+1)++A1.drop (k+1);rw[hS];exact jCQ (x:=p) (by rw[hAN,List.getElem?_map,e];rfl) (by rw[hA1,List.getElem?_map,Je hx,hp];rfl)
   ·show F=AF.take (k+1)++(List.replicate n0 fr0).drop (k+1);rw[hF];exact jCQ (x:=fr0) (by rw[hAF,List.getElem?_map,e];rfl) (by rw[List.getElem?_replicate,if_pos hlt])
   ·show T=AT.take (k+1)++(List.replicate n0 false).drop (k+1);rw[hT];exact jCQ (x:=false) (by rw[hAT,List.getElem?_map,e];rfl) (by rw[List.getElem?_replicate,if_pos hlt])
  have h3:lv=true:=h3;obtain ⟨K,hK⟩:∃K,K=talk p nw:=⟨_,rfl⟩;have e:sp[k]? =some K:=by rw[hspx,h3,hK];rfl
  have hfs:∀s∈p.out,Go.GX.fits .i64 s.tr:=fun s hs=>(hGp.wf.out s hs).tr
  have hGK:GdN K.1:=by rw[hK];exact (hGp.talk nw).1
  repeat' (first|refine zh ?_|refine qE (Rd.own 3 I) JQ k I I I I hlt ?_|refine qN (us:=ndC V1 p) (Rd.own 3 I) I I I I (by simp) I (jD jh hs) ?_|fail)
  refine qL (r:=fun x:NV×List Chunk=> .tuple ⟨[.agg ⟨ndC x.1 K.1⟩,.agg ⟨frC K.2.1⟩,.bool K.2.2]⟩) (Q:=fun x=>Imp V1 p x.1 x.2 K.1) (G:=fun x=>[jC x.2]) fn47 I I (fun w1 hw1=>by rw[hK];exact jMG V1 p nw w1 (hI w1 (h.ext hw1.jF).r (QF 5 hw1 I) _ (List.mem_of_getElem? hs)) hGp.sm hfs) ?_
  rintro ⟨V2,G2⟩ hI2
  have hI2:Imp V1 p V2 G2 K.1:=hI2
  repeat' (first|refine zh ?_|refine qE (Rd.own 6 I) JQ k I I I I hlt ?_|refine ql (us:=ndC V2 K.1) (j:=k*13) 6 I I I I I I I (by rw[cS.e];show k*13+13<=_;omega) (by simp) ?_|refine qE (Rd.own 3 I) jEY k I I I I hlt ?_|refine ql (us:=frC K.2.1) (j:=k*9) 3 I I I I I I I (by rw[cF.e];show k*9+9<=_;omega) (by simp) ?_|refine qE (Rd.own 4 I) J4 k I I I I hlt ?_|refine qw (j:=k*1) 4 I I I I I I I (by rw[cT.e];omega) ?_|intro (bk:Nat))
  obtain ⟨S',hS'⟩:∃S',S'=S.set k (V2,K.1):=⟨_,rfl⟩;obtain ⟨F',hF'⟩:∃F',F'=F.set k K.2.1:=⟨_,rfl⟩;obtain ⟨T',hT'⟩:∃T',T'=T.set k K.2.2:=⟨_,rfl⟩;obtain ⟨f0,hf⟩:=jG (show k<F.length by rw[hFl.e];exact hlt);refine ih (k+1,S',F',T',[jC G2,jC G]) _ _ ⟨hlt,?_,?_,?_,?_,?_⟩ (by show n0-(k+1)<n0-k;omega) ⟨I,I,I,I,I,I,I,I,trivial⟩ ?_
  ·show nds S'=AN.take (k+1)++A1.drop (k+1);rw[hS',jFA,hS];exact jBY (by rw[hAN,List.getElem?_map,e];rfl) (by rw[hA1l.e];exact hlt)
  ·show F'=AF.take (k+1)++(List.replicate n0 fr0).drop (k+1);rw[hF',hF];exact jBY (by rw[hAF,List.getElem?_map,e];rfl) (by rw[List.length_replicate];exact hlt)
  ·show T'=AT.take (k+1)++(List.replicate n0 false).drop (k+1);rw[hT',hT];exact jBY (by rw[hAT,List.getElem?_map,e];rfl) (by rw[List.length_replicate];exact hlt)
  ·show jDi xs S' [jC G2,jC G];rw[hS'];exact hI.set fun w2 hx2 hg2=>hI2 w2 (hx2 _ (List.mem_of_getElem? hs)) hg2
  ·intro z hz;have hz:z∈S':=hz;rw[hS']at hz;rcases List.mem_or_eq_of_mem_set hz with hz|rfl
   ·exact hG z hz
   ·exact hGK
  ·show Ent _ _ [jM (sv (a9,c9) n0) 75 9 n0 (cellsOf frC F'),jM (sv (a10,c10) n0) 4 1 n0 (cellsOf bC T'),meB b6 nw (sv (a3,c3) n0),jCh (a3,c3) n0 S',jM (sv (a7,c7) n0) 4 1 n0 (cellsOf bC L),jC [jC G2,jC G],jS b4 meZ 26,jS b3 [ve,vo,vn] 34];refine Ent.trans (Ent.pick (H':=[jC G2,jC G]++[_,_,meB b6 nw (sv (a3,c3) n0),_,jM (sv (a7,c7) n0) 4 1 n0 (cellsOf bC L),jS b4 meZ 26,jS b3 [ve,vo,vn] 34]) [2,8,3,4,5,6,7,9,10] I I) (Ent.trans Ent.group (Ent.trans (Ent.pick [1,2,3,4,5,0,6,7] I I) ?_));refine Ent.trans (qC (xs':=cellsOf frC F') I (by rw[hF'];exact j6 (us:=frC K.2.1) (i:=0) jFP hf I (show 0+9<=9 by decide))) (Ent.trans (Ent.pick [1,0,2,3,4,5,6,7] I I) ?_);refine Ent.trans (qC (xs':=cellsOf bC T') I (by rw[hT'];exact ZW (f:= .bool) T k K.2.2)) (Ent.trans (Ent.pick [3,1,0,2,4,5,6,7] I I) ?_);exact Ent.trans (qC (xs':=cellsOf ZF S') I (by rw[hS'];exact j6 (us:=ndC V2 K.1) (i:=0) jh hs I (show 0+13<=13 by decide))) (Ent.pick [1,2,3,0,4,5,6,7] I I)
 have hlt:k<n0:=by have:(k:Int)<(n0:Int):=of_decide_eq_true h2;omega
 obtain ⟨⟨V0,n⟩,hx⟩:=jG (show k<xs.length by rw[hxl.e];exact hlt);obtain ⟨⟨V1,p⟩,hs⟩:=jG (show k<S.length by rw[hSl.e];exact hlt);have hp:p=n:=by
  have e:(nds S)[k]? =(nds xs)[k]? :=by rw[hS];exact jH2 (by rw[hA1l.e];exact hk)
  rw[Je hs,Je hx]at e;exact Option.some.inj e
 subst hp;have hGp:GdN p:=hG _ (List.mem_of_getElem? hs);obtain ⟨lv,hlv⟩:∃lv,lv=Me.live a p.addr:=⟨_,rfl⟩;obtain ⟨L',hL'⟩:∃L',L'=L.set k lv:=⟨_,rfl⟩;have hLk:L'[k]? =some lv:=by rw[hL',List.getElem?_set_self (by rw[hLl.e];exact hlt)]
 have hLs:L'=AL.take (k+1)++(List.replicate n0 false).drop (k+1):=by
  rw[hL',hL];exact jBY (by rw[hAL,List.getElem?_map,Je hx,hlv];rfl) (by rw[List.length_replicate];exact hlt)
 repeat' (first|refine zh ?_|fail)
 refine qU [(0,true),(1,true),(2,true),(3,true),(4,true),(5,true),(6,true),(7,true),(8,true),(9,false),(10,true)] 11 [2,5,6] I I j3 (by kernel_rfl) ?_
 repeat' (first|refine zd ?_|refine qc (qA h.s) JQ k I I I I I (by rw[hxl.e];exact hlt) ?_|refine QA 0 (qA h.s) (by rw[hcx.e];omega) I I I I I I I I ?_|refine QD (qA h.s) I I I I I (jJ jh hx (i:=0) I) ?_|fail)
 refine HD.one I (qB (r:= .bool lv) fn45 I I (fun w1 hw1=>by rw[hlv];exact jMN a ve vo vn p.addr w1 (hA.at hw1)) ?_);refine HL.back [2,5,6] I I ?_
 repeat' (first|refine qc (Rd.own 0 I) J4 k I I I I I hlt ?_|fail)
 refine qo I (qw (j:=k*1) 2 I I I I I I I (by rw[cL.e];omega) ?_);refine qM (H':=[meB b6 nw (sv (a3,c3) n0),jCh (a3,c3) n0 S,jM (sv (a7,c7) n0) 4 1 n0 (cellsOf bC L'),jC G,jS b4 meZ 26,jS b3 [ve,vo,vn] 34,meB b2 t v]) (Ent.trans (Ent.pick [2,0,1,3,4,5,6] I I) (Ent.trans (qC (xs':=cellsOf bC L') I (by rw[hL'];exact ZW (f:= .bool) L k lv)) (Ent.pick [1,2,0,3,4,5,6] I I))) ?_
 repeat' (first|refine zh ?_|refine qE (Rd.own 2 I) J4 k I I I I hlt ?_|refine qF (Rd.own 2 I) I I I I (jN hLk) ?_|fail)
 refine HR.cond I (fun h3=>?_) (fun h3=>?_)
 rotate_left
 ·have h3:lv=false:=h3
  repeat' (first|refine zh ?_|fail)
  refine ih (k+1,S,L',G) _ _ ⟨hlt,?_,hLs,hI,hG⟩ (by show n0-(k+1)<n0-k;omega) ⟨I,I,I,I,I,I,I,trivial⟩ Ent.refl;show nds S=A1.take (k+1)++(nds xs).drop (k+1);rw[hS];exact jCQ (x:=p) (by rw[hA1,List.getElem?_map,Je hx];show some (Me.phase1 a nw p)=_;unfold Me.phase1;rw[<- hlv,h3];rfl) (Je hx)
 have h3:lv=true:=h3;obtain ⟨K,hK⟩:∃K,K=Zb p nw:=⟨_,rfl⟩;have hGK:GdN K:=by rw[hK];exact hGp.tick nw
 have hfs:∀s∈p.out,Go.GX.fits .i64 s.wt:=fun s hs=>(hGp.wf.out s hs).wt
 refine qU [(0,true),(1,true),(2,true),(3,true),(4,true),(5,true),(6,true),(7,true),(8,true),(9,false),(10,true)] 11 [0,1] I I j3 (by kernel_rfl) ?_
 repeat' (first|refine zd ?_|refine qc (Rd.own 1 I) JQ k I I I I I hlt ?_|refine QI (us:=ndC V1 p) (Rd.own 1 I) I I I I I (by simp) I (jD jh hs) ?_|fail)
 refine HD.one I (qL (r:=fun x:NV×List Chunk=> .agg ⟨ndC x.1 K⟩) (Q:=fun x=>Imp V1 p x.1 x.2 K) (G:=fun x=>[jC x.2]) fn46 I I (fun w1 hw1=>by rw[hK];exact jHc V1 p nw w1 (hI w1 (h.ext hw1.jF).r (QF 3 hw1 I) _ (List.mem_of_getElem? hs)) hGp.sm hfs) ?_)
 rintro ⟨V2,G2⟩ hI2
 have hI2:Imp V1 p V2 G2 K:=hI2;refine HL.back [1,2] I I ?_
 repeat' (first|refine qc (Rd.own 1 I) JQ k I I I I I hlt ?_|fail)
 refine qo I (ql (us:=ndC V2 K) (j:=k*13) 2 I I I I I I I (by rw[cS.e];show k*13+13<=_;omega) (by simp) ?_);obtain ⟨S',hS'⟩:∃S',S'=S.set k (V2,K):=⟨_,rfl⟩;refine qM (H':=[meB b6 nw (sv (a3,c3) n0),jCh (a3,c3) n0 S',jM (sv (a7,c7) n0) 4 1 n0 (cellsOf bC L'),jC [jC G2,jC G],jS b4 meZ 26,jS b3 [ve,vo,vn] 34,meB b2 t v]) (Ent.trans (Ent.pick (H':=[jC G2,jC G]++[_,meB b6 nw (sv (a3,c3) n0),jM (sv (a7,c7) n0) 4 1 n0 (cellsOf bC L'),jS b4 meZ 26,jS b3 [ve,vo,vn] 34,meB b2 t v]) [0,4,2,1,3,5,6,7] I I) (Ent.trans Ent.group (Ent.trans (Ent.pick [1,0,2,3,4,5,6] I I) (Ent.trans (qC (xs':=cellsOf ZF S') I (by rw[hS'];exact j6 (us:=ndC V2 K) (i:=0) jh hs I (show 0+13<=13 by decide))) (Ent.pick [2,0,3,1,4,5,6] I I))))) ?_
 repeat' (first|refine zh ?_|fail)
 refine ih (k+1,S',L',[jC G2,jC G]) _ _ ⟨hlt,?_,hLs,?_,?_⟩ (by show n0-(k+1)<n0-k;omega) ⟨I,I,I,I,I,I,I,trivial⟩ Ent.refl
 ·show nds S'=A1.take (k+1)++(nds xs).drop (k+1);rw[hS',jFA,hS];exact jBY (by rw[hA1,List.getElem?_map,Je hx,hK];show some (Me.phase1 a nw p)=_;unfold Me.phase1;rw[<- hlv,h3];rfl) (by rw[hnl.e];exact hlt)
 ·show jDi xs S' [jC G2,jC G];rw[hS'];exact hI.set fun w2 hx2 hg2=>hI2 w2 (hx2 _ (List.mem_of_getElem? hs)) hg2
 ·intro z hz;have hz:z∈S':=hz;rw[hS']at hz;rcases List.mem_or_eq_of_mem_set hz with hz|rfl
  ·exact hG z hz
  ·exact hGK
theorem fn14:IsFn Tryz.prog 14:=zF Tryz.func14 I
def jPL (a:Me.Air):Bool:=(decide ((a.e.length:Int)>60)||decide ((a.o.length:Int)>60))||decide ((a.n.length:Int)>60)
theorem jPJ {a:Me.Air} (h:jPL a=false):a.e.length<=60/\a.o.length<=60/\a.n.length<=60:=by
 unfold jPL at h;simp only[Bool.or_eq_false_iff,decide_eq_false_iff_not]at h;omega
theorem jPK (a:AirA) (w:World) (h:AiOk w a):
  Calls Tryz.prog 14 #[.agg ⟨aiE a⟩] w fun e w'=>e= .returned (.bool (jPL a.2))/\Below w.heap.size w w':=by
 refine zE Tryz.func14 I [(0,.agg ⟨aiE a⟩)] ?_;refine HR.ctl I (HR.region ?_);refine HL.box I I ?_;intro b1
 repeat' (first|refine zh ?_|refine qD (qA h.e) I I I ?_|refine qD (qA h.o) I I I ?_|refine qD (qA h.n) I I I ?_|apply zb ?_ ?_|exact zc|(refine zi fun hb=>?_;try simp at hb)|fail)
 exact zR Tryz.func14
theorem jFb (a:Me.Air) (now:Int) (fs:List (Fr×Bool)):∀(k:Nat) (l:List Nd),(Me.tells a now fs k l).length=l.length
 |0,l=>rfl
 |k+1,l=>by
  show (Me.jPP a now (Me.tells a now fs k l) k fs[k]?).length=_;rw[<- jFb a now fs k l];generalize Me.tells a now fs k l=L;generalize fs[k]? =o;unfold Me.jPP
  split
  ·exact jJT a now L k _
  ·rfl
theorem jND (m:Me.Mesh) (a:Me.Air):(Me.jLD m a).nodes.length=m.nodes.length:=by
 show (Me.tells a (Me.jFV m.tick) ((Me.spoken m a).map (·.2)) m.nodes.length ((Me.spoken m a).map (·.1))).length=_;rw[jFb,List.length_map];unfold Me.spoken;rw[List.length_map]
theorem meshSteps_any (xs:List (NV×Nd)) (t:Int) (v:Value) (a:Me.Air) (ve vo vn:Value) (w:World) (h:OkL w v xs) (hp:∀x∈xs,(∀ p∈x.2.parts,jAS p)/\Me.WfO x.2) (ha:AiOk w ((ve,vo,vn),a)):
  Calls Tryz.prog 4 #[meV t v,jAt ve vo vn] w fun e w'=>e= .returned (.bool true)/\Below w.heap.size w w':=by
 refine zE Tryz.func4 I [(0,meV t v),(1,jAt ve vo vn)] ?_;refine HR.ctl I (HR.region ?_);refine HL.box I I ?_;intro b2;refine HL.box I I ?_;intro b3;refine zh ?_;refine qO [(0,true),(1,false),(2,true),(3,true),(4,false),(5,true),(6,true),(7,true),(8,true),(10,true),(11,true),(9,false),(12,false),(13,false),(14,true),(15,false),(16,true),(17,true),(18,true)] [0,1] I I j3 (by kernel_rfl) (zd ?_);refine HD.one I (qL (r:=fun b:Bool=> .bool b) (Q:=fun b=>b=false->FitL xs) (G:=fun _=>[]) fn13 I I (fun w1 hw1=>jNi xs t v w1 (h.ext hw1.jF)) ?_);intro b hb;refine HL.back [0,1] I I ?_;cases b with
 |true=>
  refine zd ?_;refine HD.nil (HR.ret Tryz.func4 I [_] (fun _ _=>⟨I,trivial⟩) ?_)
  exact fun w' hw=>⟨rfl,hw.jF⟩
 |false=>
 have hf:=hb I;clear hb;have hl:xs.length<=1000:=Nat.le_trans hf.len (by decide);have hg:∀x∈xs,GdN x.2:=fun x hx=> .jSU (hf.fit x hx) (hp x hx).1 (hp x hx).2
 obtain ⟨wb,hwb⟩:∃wb,wb=jPL a:=⟨_,rfl⟩;refine zd ?_;refine HD.one I (qB (r:= .bool wb) fn14 I I (fun w1 hw1=>by rw[hwb];exact jPK ((ve,vo,vn),a) w1 ⟨(qA ha.e).at hw1,(qA ha.o).at hw1,(qA ha.n).at hw1⟩) ?_);refine HL.back [0,1] I I ?_;cases wb with
 |true=>
  refine zd ?_;refine HD.nil (HR.ret Tryz.func4 I [_] (fun _ _=>⟨I,trivial⟩) ?_)
  exact fun w' hw=>⟨rfl,hw.jF⟩
 |false=>
 have hwf:=jPJ hwb.symm;have hair:OkA w a ve vo vn:=⟨ha.e,ha.o,ha.n,Nat.le_trans hwf.1 (by decide),hwf.2.1,hwf.2.2⟩;obtain ⟨R,hR⟩:∃R,R=(Me.jLD ⟨t,nds xs⟩ a).nodes:=⟨_,rfl⟩;refine zd ?_;refine HD.one I (qL (r:=fun x:SV×List (NV×Nd)×List Chunk=>meV (Me.jFV t) (sv x.1 x.2.1.length)) (Q:=fun x=>jSC x R) (G:=fun x=>[cNd (sv x.1 x.2.1.length) x.2.1,jC x.2.2]) fn15 I I (fun w1 hw1=>by rw[hR];exact jGV t v xs a ve vo vn w1 (h.ext hw1.jF) hg hl (hair.at hw1)) ?_)
 rintro ⟨y1,ys1,G1⟩ ⟨⟨hN1,hO1⟩,hG1⟩
 have hN1:nds ys1=R:=hN1;have hO1:∀z∈ys1,Own z.1 G1 z.2:=hO1;have hG1:∀z∈ys1,GdN z.2:=hG1;have hl1:ys1.length<=1000:=by rw[<- JW,hN1,hR,jND];show (nds xs).length<=1000;rw[JW];exact hl
 refine HL.back [2,3] I I (HD.one I ?_);refine qL (r:=fun x:SV×List (NV×Nd)×List Chunk=>meV (Me.jFV t) (sv x.1 x.2.1.length)) (Q:=fun x=>RfL v xs x R) (G:=fun x=>[jC x.2.2]) fn16 I I (fun w1 hw1=>by rw[hR];exact jHd xs t v a ve vo vn w1 (h.ext hw1.jF) hg hl (hair.at hw1)) ?_
 rintro ⟨y2,ys2,G2⟩ ⟨hN2,hI2⟩
 have hN2:nds ys2=R:=hN2;have hI2:ImpL v (sv y2 ys2.length) xs ys2 G2:=hI2;refine HL.back [3,4] I I (HD.one I ?_);refine qB (r:= .bool true) fn12 I I (fun w1 hw1=>jKZ (Me.jFV t) (sv y1 ys1.length) (sv y2 ys2.length) ys1 ys2 w1 (jJy 1 2 hw1 I I hO1) (hI2 w1 (h.ext hw1.jF) (QF 0 hw1 I)) (hN1.trans hN2.symm) (fun z hz=>(hG1 z hz).sm) hl1) (HL.back [3,4] I I (zd ?_));refine HD.one I (qB (r:= .bool true) fn9 I I (fun w1 _=>jNL w1) ?_);refine HL.back [3,4] I I (zd ?_);refine HD.nil (HR.ret Tryz.func4 I [_] (fun _ _=>⟨I,trivial⟩) ?_)
 exact fun w' hw=>⟨rfl,hw.jF⟩
theorem meshSteps.meshSteps_any (a:MeA) (x:AirA) (w:World) (g:MeOkZ w a) (ga:AiOk w x):
  Calls Tryz.prog 4 #[.agg ⟨meE a⟩,.agg ⟨aiE x⟩] w fun e w'=>e= .returned (.bool true)/\Below w.heap.size w w':=Proofs.YtgfdoognildoeaaGreat.meshSteps_any a.2.2 a.1 a.2.1 x.2 x.1.1 x.1.2.1 x.1.2.2 w g.ok (fun x hx=>⟨(g.nd x hx).sm,(g.nd x hx).wf⟩) ga
end Go.Proofs.YtgfdoognildoeaaGreat
