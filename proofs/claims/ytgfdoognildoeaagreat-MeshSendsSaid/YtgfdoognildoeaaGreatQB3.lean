/- A part of the proof: contracts of the program's functions. Conditions: none. -/
import Derived.Carry
import Derived.Deep.MidRow
import Derived.Deep.Quiet
import Derived.Laws.IdiomRangeMap
import Derived.Laws.MakeOwn
import Derived.Laws.StructEq
import Derived.Laws.Tables
import Derived.Lib.AppendStr
import Derived.Lib.AppendZerosOnto
import Derived.Lib.OthersKept
import Derived.Lib.Overlaps
import Derived.Lib.OwnBridge
import Derived.MapKept
import Derived.Orders
import Derived.OrdersHeld
import Derived.Sort.Grow
import Derived.StillTail
import Derived.WalkKit
import Derived.WalkLawsBesides
import Derived.WalkSpells
import Derived.Test.YtgfdoognildoeaaGreatQB1
import Derived.Test.YtgfdoognildoeaaGreatQB2
set_option linter.unusedVariables false
set_option linter.unusedSectionVars false
set_option linter.unusedSimpArgs false
set_option maxRecDepth 100000
set_option maxHeartbeats 4000000
namespace Go.GX
open Go.RowKit
section
variable {α : Type} {E : α → List Value} {sz : Nat}
def cellsOf (E:α→List Value) (l:List α):List Value:=(l.map E).flatten
theorem jM (l l':List α):cellsOf E (l++l')=cellsOf E l++cellsOf E l':=by simp[cellsOf]
theorem J6 (a:α):cellsOf E [a]=E a:=by simp[cellsOf]
theorem jC (hE:∀a,(E a).length=sz):∀(l:List α),(cellsOf E l).length=l.length*sz
 |[]=>by simp[cellsOf]
 |a::l=>by
  have:=jC hE l
  unfold cellsOf at this ⊢
  rw[List.map_cons,List.flatten_cons,List.length_append,this,hE,List.length_cons,Nat.add_mul];omega
theorem JH (hE:∀a,(E a).length=sz):∀(j:Nat) (l:List α),(cellsOf E l).drop (j*sz)=cellsOf E (l.drop j)
 |0,l=>by simp
 |j+1,[]=>by simp[cellsOf]
 |j+1,a::l=>by
  have:=JH hE j l
  unfold cellsOf at this ⊢
  rw[List.map_cons,List.flatten_cons,List.drop_append,hE,List.drop_eq_nil_of_le (by rw[hE,Nat.add_mul];omega),List.nil_append,show (j+1)*sz-sz=j*sz by rw[Nat.add_mul];omega,this]
  rfl
theorem JW (hE:∀a,(E a).length=sz):∀(j:Nat) (l:List α),(cellsOf E l).take (j*sz)=cellsOf E (l.take j)
 |0,l=>by simp[cellsOf]
 |j+1,[]=>by simp[cellsOf]
 |j+1,a::l=>by
  have:=JW hE j l
  unfold cellsOf at this ⊢
  rw[List.map_cons,List.flatten_cons,List.take_append,hE,List.take_of_length_le (by rw[hE,Nat.add_mul];omega),show (j+1)*sz-sz=j*sz by rw[Nat.add_mul];omega,this]
  rfl
theorem jF (hE:∀a,(E a).length=sz) {l:List α} {j:Nat} {a:α} (ha:l[j]? =some a):∀(i:Nat) u,(E a)[i]? =some u→(cellsOf E l)[j*sz+i]? =some u:=by
 intro i u hu
 obtain ⟨hj,he⟩:=List.getElem?_eq_some_iff.1 ha
 rw[← List.getElem?_drop,JH hE,List.drop_eq_getElem_cons hj,he]
 show ((a::l.drop (j+1)).map E).flatten[i]? =_
 rw[List.map_cons,List.flatten_cons,List.getElem?_append_left (List.getElem?_eq_some_iff.1 hu).1]
 exact hu
theorem jV {f:α→Value} {l:List α} {j:Nat} {a:α} (ha:l[j]? =some a):(cellsOf (fun x=>[f x]) l)[j*1]? =some (f a):=by
 have:=jF (E:=fun x=>[f x]) (sz:=1) (fun _=>rfl) ha 0 (f a) I
 simpa using this
theorem Jt (f:α→Value) (l:List α):cellsOf (fun x=>[f x]) l=l.map f:=by
 induction l with
 |nil=>rfl
 |cons a l ih=>unfold cellsOf at ih ⊢;simp[ih]
theorem jH {l:List α} {j:Nat} (h:j<l.length):∃a,l[j]? =some a:=⟨l[j],List.getElem?_eq_getElem h⟩
theorem jG {l:List α} {j:Nat} {a:α} (ha:l[j]? =some a):l.take (j+1)=l.take j++[a]:=by
 obtain ⟨hj,he⟩:=List.getElem?_eq_some_iff.1 ha
 rw[← he,List.take_succ_eq_append_getElem hj]
theorem ko {l:List α} {j:Nat} {a:α} (ha:l[j]? =some a):l.drop j=a::l.drop (j+1):=by
 obtain ⟨hj,he⟩:=List.getElem?_eq_some_iff.1 ha
 rw[← he];exact List.drop_eq_getElem_cons hj
theorem jRG {p:α→Bool} {l:List α} {j:Nat} {a:α} (ha:l[j]? =some a) (hno:∀x∈l.take j,p x=false) (hp:p a=true):l.find? p=some a:=by
 obtain ⟨hj,he⟩:=List.getElem?_eq_some_iff.1 ha
 have e:l=l.take j++a::l.drop (j+1):=by rw[← ko ha,List.take_append_drop]
 rw[e,List.find?_append,List.find?_eq_none.2 (fun x hx=>by simp[hno x hx])]
 simp[hp]
theorem jT {E:α→List Value} (h1:∀a,J9 (E a)=true) (l:List α):∀u∈cellsOf E l,u.oneCell'=true:=by
 intro u hu
 unfold cellsOf at hu
 obtain ⟨c,hc,hu⟩:=List.mem_flatten.1 hu
 obtain ⟨a,_,rfl⟩:=List.mem_map.1 hc
 exact jJ (h1 a) u hu
end
abbrev iC (n:Int):List Value:=[.int .i64 n]
theorem KH (n:Int):(iC n).length=1:=rfl
section
variable {P : Program} {N : Nat} {σ : Store} {B : Base} {H : List Chunk} {ops l : List Oper} {K : Act → World → Prop} {d : Nat} {ty : TypeId} {pos : String} {af : Array Edge} {gd : Option (Nat × Bool)}
theorem HR.skip {f:FuncId} {k:List Item} {R:Ending→World→Prop} (h:HR P f N k σ B H R):HR P f N (.code .skip::k) σ B H R:=fun w hw=>Run.skip (h w hw)
theorem HL.jCx {t:Nat} {v v':Value} (e:v=v') (h:HL P N ops l ((t,v')::σ) B H K):HL P N ops l ((t,v)::σ) B H K:=by subst e;exact h
theorem HL.JN {g:FuncId} {args:List Operand} {a1:List Value} {tys:Array TypeId} {e sz n:Nat} {xs:List Value} (hg:IsFn P g)
  (hs:stat N ops ⟨some d,.call ⟨.value (.func g),args.toArray,tys⟩,ty,pos,af,gd⟩ σ=true) (ha:vals σ args=some a1)
  (hc:∀w,Sat B H w→Calls P g a1.toArray w fun e' w'=>∃v,e'= .returned v∧Sat (base w) [jK v e sz n xs] w')
  (h:∀v,HL P N ops l ((d,v)::σ) B (jK v e sz n xs::H) K):HL P N ops (⟨some d,.call ⟨.value (.func g),args.toArray,tys⟩,ty,pos,af,gd⟩::l) σ B H K:=
 HL.JD (r:=fun v=>v) (Q:=fun _=>True) (G:=fun v=>[jK v e sz n xs]) hg hs ha (fun w hw=>(hc w hw).mono fun e' w' ⟨v,h1,h2⟩=>⟨v,h1,trivial,h2⟩) (fun v _=>h v)
theorem HL.zH {v u:Value} {t e sz n j:Nat} {x y:Operand} {xs us:List Value} (i:Nat) (hi:zX H i=some (jK v e sz n xs)) (hs:stat N ops ⟨none,.store t x y,ty,pos,af,gd⟩ σ=true)
  (hx:lookO σ x=some (j6 v j)) (hy:lookO σ y=some u) (hus:jq u=us) (hm:(P.info? t).map (·.size)=some us.length) (hone:J9 us=true) (hfit:j+us.length≤xs.length) (hne:us≠[])
  (h:HL P N ops l σ B (jA3 H i (jK v e sz n (xs.take j++us++xs.drop (j+us.length)))) K):HL P N ops (⟨none,.store t x y,ty,pos,af,gd⟩::l) σ B H K:=by
 refine HL.opU hs (fun w hw=>?_) h
 have hv:Vw w v e sz n xs:=hw.nth hi
 have hpos:0<us.length:=List.length_pos_iff.2 hne
 obtain ⟨hl,hv⟩:=hv
 rcases hv with ⟨rfl,rfl⟩|⟨g,off,cap,cur,rfl,hg,hnc,hcm,hcs,htake⟩
 ·have:xs.length=0:=by rw[hl];omega
  omega
 ·have hx':lookO σ x=some (.pointer (some ⟨g,off+j,none⟩)):=hx
  have hsz:n*sz≤cap*sz:=Nat.mul_le_mul_right _ hnc
  have hfit2:off+j+us.length≤cur.size:=by omega
  have e1:(sizeOf t).run P w= .ok us.length w:=by
   cases h:P.info? t with
   |none=>rw[h]at hm;cases hm
   |some ti=>rw[h]at hm;simp at hm;simp[sizeOf,typeInfo,h,hm]
  have hst:=run_storeCells_at P g (off+j) e us 0 cur w hg (by simpa using hfit2) (jJ hone)
  simp only[Nat.add_zero]at hst
  have hc:u.cells=us.toArray:=by rw[J7,hus]
  have hr:(storeVar t ⟨g,off+j,none⟩ u).run P w= .ok () (w.setRow g (cur.toList.take (off+j)++us++cur.toList.drop (off+j+us.length)).toArray):=by
   unfold storeVar
   rw[Sem.run_bind,e1]
   simp only[Result.andThen_ok,hc]
   simp[hst]
  refine ⟨w.setRow g (cur.toList.take (off+j)++us++cur.toList.drop (off+j+us.length)).toArray,?_,hw.upd hi I I I (by simp) (fun k hk hne=>setRow_other w g k _ (fun e=>hne (by rw[e];rfl))) ⟨?_,.inr ⟨g,off,cap,_,rfl,setRow_heap w g cur _ e _ hg,hnc,hcm,?_,?_⟩⟩ (fun k hk=> .inl hk)⟩
  ·simp [execOp,jA hx',jA hy,Instr.storeAt,Instr.sureAddr,hr]
  ·simp;omega
  ·simp;omega
  ·have hcl:cur.toList.length=cur.size:=Array.length_toList
   rw[← htake]
   have e2:cur.toList.take (off+j)=cur.toList.take off++(cur.toList.drop off).take j:=by rw[List.take_add]
   rw[e2]
   simp only[List.append_assoc]
   rw[List.drop_append_of_le_length (by simp;omega),List.drop_eq_nil_of_le (by simp;omega),List.nil_append]
   rw[List.take_take,Nat.min_eq_left (by omega)]
   have hl3:((cur.toList.drop off).take j).length=j:=by simp;omega
   rw[List.take_append,List.take_of_length_le (by omega),hl3]
   congr 1
   rw[List.take_append,List.take_of_length_le (by omega)]
   congr 1
   rw[List.drop_take,List.drop_drop,show n*sz-(j+us.length)=n*sz-j-us.length by omega]
   congr 2
   omega
theorem HL.KD {v u:Value} {t e sz n j:Nat} {x y:Operand} {xs:List Value} (i:Nat) (hi:zX H i=some (jK v e sz n xs)) (hs:stat N ops ⟨none,.store t x y,ty,pos,af,gd⟩ σ=true)
  (hx:lookO σ x=some (j6 v j)) (hy:lookO σ y=some u) (hus:jq u=[u]) (hm:(P.info? t).map (·.size)=some 1) (hone:J9 [u]=true) (hj:j<xs.length)
  (h:HL P N ops l σ B (jA3 H i (jK v e sz n (xs.set j u))) K):HL P N ops (⟨none,.store t x y,ty,pos,af,gd⟩::l) σ B H K:=by
 refine HL.zH i hi hs hx hy hus hm hone (by simp;omega) (by simp) ?_
 have:xs.take j++[u]++xs.drop (j+[u].length)=xs.set j u:=by
  rw[List.set_eq_take_append_cons_drop,if_pos hj];simp
 rw[this];exact h
end
theorem jDt {α:Type} {f:α→Value} (l:List α) (j:Nat) (a:α):(cellsOf (fun x=>[f x]) l).set (j*1) (f a)=cellsOf (fun x=>[f x]) (l.set j a):=by
 rw[Jt,Jt,Nat.mul_one,List.map_set]
end Go.GX
namespace Go.GX
open Go.RowKit
section
variable {P : Program} {f : FuncId} {N : Nat} {k : List Item} {σ : Store} {B : Base} {H H' F : List Chunk} {R : Ending → World → Prop} {ops l : List Oper} {o : Oper} {K : Act → World → Prop}
 {d:Nat} {op:Op} {ty:TypeId} {pos:String} {af:Array Edge} {gd:Option (Nat×Bool)} {v u:Value} {n:Nat} {L:Array Bool}
def AK (P:Program) (B:Base) (F:List Chunk) (ops:List Oper) (n:Nat) (L:Array Bool) (K:Act→World→Prop):Act→World→Prop:=fun a w=>Sat B F w∧wpAnyH P .any ops.toArray (QN K) (fun w=>Sat B F w) n L a w
def HA (P:Program) (N:Nat) (ops:List Oper) (n:Nat) (L:Array Bool) (σ:Store) (B:Base) (H F:List Chunk) (K:Act→World→Prop):Prop:=∀w,Sat B H w→Sat B F w→∀a,Agr N σ a→wpAnyH P .any ops.toArray (QN K) (fun w=>Sat B F w) n L a w
theorem HR.kM (is:List Nat) (hF:jAM H is=some F) (hd:Js is=true) {id:Nat} (hm:P.follows .mixedOrders=true) (h:HA P N ops ops.toArray.size (Array.replicate ops.toArray.size false) σ B H F (Ko P f k R)):HR P f N (.code (.region id ops.toArray true)::k) σ B H R:=by
 intro w hw a ha
 have hb:Below w.heap.size w { w with drawn:=w.drawn+1 }:=⟨rfl,rfl,rfl,Nat.le_refl _,fun _ _=>rfl⟩
 exact Ko.of_wp (wp_region_held (S:=fun w=>Sat B F w) hm (h _ (hw.grow hb) ((hw.grow hb).pick is hF hd) a ha))
theorem HA.rd (i:Nat) (hf:((Region.noSelect ops.toArray&&Region.free .any ops.toArray L i)&&(Region.ready .any ops.toArray L).contains i)=true) (ho:ops[i]? =some ⟨some d,op,ty,pos,af,gd⟩) (hs:stat N ops ⟨some d,op,ty,pos,af,gd⟩ σ=true)
  (hr:∀w,Sat B F w→(execOp (evO σ) ⟨some d,op,ty,pos,af,gd⟩).run P w= .ok (.value v) w) (h:HA P N ops n (L.setIfInBounds i true) ((d,v)::σ) B H F K):HA P N ops (n+1) L σ B H F K:=by
 intro w hw hF a ha
 obtain ⟨h1,h2,h3,h4⟩:=Zd hs
 simp only[Bool.and_eq_true]at hf
 refine wpAnyH_take (oi:=⟨some d,op,ty,pos,af,gd⟩) (v:=v) (by simpa using ho) hf.1.1 hf.1.2 hf.2 (fun c a w h=>absurd h.1 (by nofun)) (.inl ⟨jv ha h4,fun w hw=>?_⟩) hF (h w hw hF _ (ha.put (some d) v h3))
 rw[jCc ha _ h1 h2]
 exact hr w hw
theorem HA.ev (i:Nat) (hf:((Region.noSelect ops.toArray&&Region.free .any ops.toArray L i)&&(Region.ready .any ops.toArray L).contains i)=true) (ho:ops[i]? =some ⟨some d,op,ty,pos,af,gd⟩) (hs:stat N ops ⟨some d,op,ty,pos,af,gd⟩ σ=true) (he:jNB P σ op=some v)
  (h:HA P N ops n (L.setIfInBounds i true) ((d,v)::σ) B H F K):HA P N ops (n+1) L σ B H F K:=HA.rd i hf ho hs (fun w _=>jAv he) h
theorem HA.evc {c:Prop} (i:Nat) (hf:((Region.noSelect ops.toArray&&Region.free .any ops.toArray L i)&&(Region.ready .any ops.toArray L).contains i)=true) (ho:ops[i]? =some ⟨some d,op,ty,pos,af,gd⟩) (hs:stat N ops ⟨some d,op,ty,pos,af,gd⟩ σ=true) (he:evC P σ op=some (v,c)) (hc:c)
  (h:HA P N ops n (L.setIfInBounds i true) ((d,v)::σ) B H F K):HA P N ops (n+1) L σ B H F K:=HA.rd i hf ho hs (fun w _=>jCd he hc) h
theorem HA.JK {t:TypeId} {td:TypeDesc} {x:Operand} {b j:Nat} {T:TypeId} {cs:List Value} (i c:Nat) (hf:((Region.noSelect ops.toArray&&Region.free .any ops.toArray L i)&&(Region.ready .any ops.toArray L).contains i)=true) (ho:ops[i]? =some ⟨some d,.load t x,ty,pos,af,gd⟩) (hx:lookO σ x=some (.pointer (some ⟨b,j,none⟩))) (hi:zX F c=some (jU b cs T)) (hs:stat N ops ⟨some d,.load t x,ty,pos,af,gd⟩ σ=true)
  (hT:P.underlying t=some td) (hp:zf td=true) (hu:jH7 cs j=some u)
  (h:HA P N ops n (L.setIfInBounds i true) ((d,u)::σ) B H F K):HA P N ops (n+1) L σ B H F K:=HA.rd i hf ho hs (jJF c hi hT hp hx hu) h
theorem HA.JJ {t:TypeId} {td:TypeDesc} {x:Operand} {b o m:Nat} {T:TypeId} {cs us:List Value} (i c:Nat) (hf:((Region.noSelect ops.toArray&&Region.free .any ops.toArray L i)&&(Region.ready .any ops.toArray L).contains i)=true) (ho:ops[i]? =some ⟨some d,.load t x,ty,pos,af,gd⟩) (hx:lookO σ x=some (.pointer (some ⟨b,o,none⟩))) (hi:zX F c=some (jU b cs T)) (hs:stat N ops ⟨some d,.load t x,ty,pos,af,gd⟩ σ=true)
  (hT:P.underlying t=some td) (hr:td.isRow=true) (hm:(P.info? t).map (·.size)=some m) (hu:jKp cs o m=some us)
  (h:HA P N ops n (L.setIfInBounds i true) ((d,.agg ⟨us⟩)::σ) B H F K):HA P N ops (n+1) L σ B H F K:=HA.rd i hf ho hs (jEa c hi hT hr hm hx hu) h
theorem HA.build {t:TypeId} {ps:List (Nat×Operand)} {us:List Value} (i:Nat) (hf:((Region.noSelect ops.toArray&&Region.free .any ops.toArray L i)&&(Region.ready .any ops.toArray L).contains i)=true) (ho:ops[i]? =some ⟨some d,.build t ps.toArray,ty,pos,af,gd⟩) (hs:stat N ops ⟨some d,.build t ps.toArray,ty,pos,af,gd⟩ σ=true) (hb:jBd P σ t ps=some us)
  (h:HA P N ops n (L.setIfInBounds i true) ((d,.agg ⟨us⟩)::σ) B H F K):HA P N ops (n+1) L σ B H F K:=HA.rd i hf ho hs (fun w _=>jBy hb w) h
theorem HA.opI (i:Nat) (ho:ops[i]? =some o) (h:HL P N ops [o] σ B H (AK P B F ops n (L.setIfInBounds i true) K)):∀w,Sat B H w→∀a,Agr N σ a→wpOp P ops.toArray (QN K) i (fun a' w'=>Sat B F w'∧wpAnyH P .any ops.toArray (QN K) (fun w=>Sat B F w) n (L.setIfInBounds i true) a' w') a w:=by
 intro w hw a ha
 have h:=h w hw a ha
 simp only[wpOp,show ops.toArray[i]? =some o by simpa using ho]
 unfold wpList at h
 split
 ·rename_i hw'
  rw[if_pos hw']at h
  rcases h with h|h
  ·left
   have h2:o.wp P a w (fun a' w'=>(QN (AK P B F ops n (L.setIfInBounds i true) K)) .normal a' w') (QN (AK P B F ops n (L.setIfInBounds i true) K)):=h
   exact Oper.wp_mono (fun a' w' h'=>h'.2) (jQQ h2)
  ·exact (K9 (K:=AK P B F ops n (L.setIfInBounds i true) K) h.2).elim
 ·rename_i hw'
  rw[if_neg hw']at h
  exact h.2
theorem HA.one (i:Nat) (hr:decide (Region.ready .any ops.toArray L=[i])=true) (ho:ops[i]? =some o) (h:HL P N ops [o] σ B H (AK P B F ops n (L.setIfInBounds i true) K)):HA P N ops (n+1) L σ B H F K:=by
 intro w hw hF a ha
 refine wpAnyH_all (of_decide_eq_true hr) (by simp) fun j hj=>?_
 have:j=i:=by simpa using hj
 subst this
 exact HA.opI j ho h w hw a ha
theorem HA.two {o2:Oper} (i j:Nat) (hr:decide (Region.ready .any ops.toArray L=[i,j])=true) (ho:ops[i]? =some o) (ho2:ops[j]? =some o2) (h:HL P N ops [o] σ B H (AK P B F ops n (L.setIfInBounds i true) K)) (h2:HL P N ops [o2] σ B H (AK P B F ops n (L.setIfInBounds j true) K)):HA P N ops (n+1) L σ B H F K:=by
 intro w hw hF a ha
 refine wpAnyH_all (of_decide_eq_true hr) (by simp) fun q hq=>?_
 simp only[List.mem_cons,List.not_mem_nil,or_false]at hq
 rcases hq with rfl|rfl
 ·exact HA.opI q ho h w hw a ha
 ·exact HA.opI q ho2 h2 w hw a ha
theorem HL.jm (is:List Nat) (hF:jAM H is=some F) (hd:Js is=true) (h:HA P N ops n L σ B H F K):HL P N ops [] σ B H (AK P B F ops n L K):=fun w hw a ha=>wpList_nil ⟨rfl,hw.pick is hF hd,h w hw (hw.pick is hF hd) a ha⟩
theorem HA.done (hr:(Region.ready .any ops.toArray L).isEmpty=true) (h:HR P f N k σ B H R):HA P N ops n L σ B H F (Ko P f k R):=fun w hw _ a ha=>wpAnyH_done (by simpa using hr) ⟨rfl,h w hw a ha⟩ n
end
end Go.GX
namespace Go.GX
open Go.RowKit
section
variable {α : Type} [Inhabited α]
theorem Vw.holds {enc:α→Value} {w:World} {e n g off cap:Nat} {zs:List α} (h:Vw w (.slice (some ⟨g,off,none⟩) n cap) e 1 n (zs.map enc)):g<w.heap.size∧zs.length=n∧Sort.Holds enc w g off zs.toArray:=by
 have hl:zs.length=n:=by simpa using h.1
 rcases h.2 with ⟨e0,_⟩|⟨g',off',cap',cur,e0,hg,hn,hm,hs,ht⟩
 ·cases e0
 ·injection e0 with e1 _ e3
  injection e1 with e1
  injection e1 with e1 e2
  subst e1;subst e2;subst e3
  refine ⟨(Array.getElem?_eq_some_iff.1 hg).1,hl,fun j hj=>?_⟩
  have hj':j<n:=by simpa[hl]using hj
  refine ⟨?_,by simp[World.frozen?,hg]⟩
  have e1:((cur.toList.drop off).take (n*1))[j]? =(zs.map enc)[j]? :=by rw[ht]
  rw[List.getElem?_take,if_pos (by omega),List.getElem?_drop,Array.getElem?_toList,List.getElem?_map,List.getElem?_eq_getElem (by omega)]at e1
  simp only[World.cell?,hg]
  simp only[Option.isSome_none,Bool.false_eq_true,if_false]
  rw[e1]
  simp[getElem!_pos,show j<zs.length by omega]
theorem Vw.putRow {enc:α→Value} {w:World} {e n g off cap q:Nat} {os:Array Obj} {zs ys:List α} (h:Vw w (.slice (some ⟨g,off,none⟩) n cap) e 1 n (zs.map enc)) (hy:ys.length=n):
  Vw (Sort.grow (Sort.putRow enc (Sort.ahead w q) g off ys.toArray) os) (.slice (some ⟨g,off,none⟩) n cap) e 1 n (ys.map enc)∧w.grownBy (Sort.grow (Sort.putRow enc (Sort.ahead w q) g off ys.toArray) os) (some g):=by
 rcases h.2 with ⟨e0,_⟩|⟨g',off',cap',cur,e0,hg,hn,hm,hs,ht⟩
 ·cases e0
 ·injection e0 with e1 _ e3
  injection e1 with e1
  injection e1 with e1 e2
  subst e1;subst e2;subst e3
  have hlt:=(Array.getElem?_eq_some_iff.1 hg).1
  have hblk:∀k,k<w.heap.size→(Sort.grow (Sort.putRow enc (Sort.ahead w q) g off ys.toArray) os).heap[k]? =(Sort.putRow enc (Sort.ahead w q) g off ys.toArray).heap[k]? :=by
   intro k hk
   have:k<(Sort.putRow enc (Sort.ahead w q) g off ys.toArray).heap.size:=by simpa[Sort.putRow,Sort.mapBlock,Sort.ahead]using hk
   simp[Sort.grow,Array.getElem?_append_left this]
  refine ⟨⟨by simp;omega,.inr ⟨g,off,cap,Sort.putCells enc off ys.toArray cur,rfl,?_,hn,hm,by simpa[Sort.putCells]using hs,?_⟩⟩,?_⟩
  ·rw [hblk g hlt]
   simp[Sort.putRow,Sort.mapBlock,Sort.ahead,Array.getElem?_modify,hg,Sort.onCells]
  ·apply List.ext_getElem?
   intro j
   rw[List.getElem?_take,List.getElem?_map,List.getElem?_drop,Array.getElem?_toList]
   by_cases hj:j<n
   ·have hjc:off+j<cur.size:=by omega
    simp only[Nat.mul_one,if_pos hj,Sort.putCells,Array.getElem?_mapIdx,Array.getElem?_eq_getElem hjc,Option.map_some]
    rw[if_pos (by simp;omega),List.getElem?_eq_getElem (by omega)]
    simp[getElem!_pos,show j<ys.length by omega,show off+j-off=j by omega]
   ·simp [hj,List.getElem?_eq_none (show ys.length≤j by omega)]
  ·refine ⟨rfl,rfl,rfl,?_,fun k hk hne=>?_⟩
   ·simp [Sort.grow,Sort.putRow,Sort.mapBlock,Sort.ahead]
   ·rw [hblk k hk]
    have:g≠k:=fun e=>hne (by rw[e])
    simp[Sort.putRow,Sort.mapBlock,Sort.ahead,Array.getElem?_modify,this]
end
theorem Sat.jLL {w:World} {v:Value} {e sz n:Nat} {xs:List Value} (hv:Vw w v e sz n xs):Sat ⟨w,Zi [jK v e sz n xs]⟩ [jK v e sz n xs] w:=
 Sat.jL8 (r:=none) (grownBy_refl _ _) (fun k hk=>by cases hk) hv (fun k hk=> .inl hk)
theorem Sat.jP8 {α:Type} [Inhabited α] {enc:α→Value} {w:World} {e n g off cap q:Nat} {os:Array Obj} {zs ys:List α} (h:Vw w (.slice (some ⟨g,off,none⟩) n cap) e 1 n (cellsOf (fun x=>[enc x]) zs)) (hy:ys.length=n):
  Sat ⟨w,Zi [jK (.slice (some ⟨g,off,none⟩) n cap) e 1 n (cellsOf (fun x=>[enc x]) zs)]⟩ [jK (.slice (some ⟨g,off,none⟩) n cap) e 1 n (cellsOf (fun x=>[enc x]) ys)] (Sort.grow (Sort.putRow enc (Sort.ahead w q) g off ys.toArray) os):=by
 obtain ⟨k1,k2⟩:=Vw.putRow (q:=q) (os:=os) (enc:=enc) (zs:=zs) (ys:=ys) (by rw[← Jt];exact h) hy
 refine Sat.jL8 (r:=some g) k2 (fun k hk=>by cases hk;rfl) ?_ (fun k hk=> .inl hk)
 show Vw _ _ _ _ _ _
 rw[Jt]
 exact k1
def jL (e:TypeId) (m:List (Int×Value)) (adj:Int→List Int):Chunk where
 foot:=fun k=>∃p∈m,p.2.ownBlock=some k
 p:=fun w=>(∀ p∈m,Vw w p.2 e 1 (adj p.1).length (cellsOf iC (adj p.1)))∧∀p∈m,∀q∈m,p.1≠q.1→∀k,p.2.ownBlock=some k→q.2.ownBlock≠some k
 loc:=fun w w' h hp=>⟨fun p hp'=>(jK p.2 e 1 (adj p.1).length (cellsOf iC (adj p.1))).loc w w' (fun k hk=>h k ⟨p,hp',hk⟩) (hp.1 p hp'),hp.2⟩
 lt:=fun w hp k ⟨p,hp',hk⟩=>(jK p.2 e 1 (adj p.1).length (cellsOf iC (adj p.1))).lt w (hp.1 p hp') k hk
theorem K4 {K:Type} [DecidableEq K] {k:K} {v:Value}:∀ {m:List (K×Value)},getM k m=some v→(k,v)∈m
 |[],h=>by cases h
 |(a,u)::m,h=>by
  unfold getM at h
  split at h
  ·rename_i e;cases h;subst e;exact List.mem_cons_self ..
  ·exact List.mem_cons_of_mem _ (K4 h)
theorem getM_none {K:Type} [DecidableEq K] {k:K}:∀ {m:List (K×Value)},getM k m=none↔k ∉ m.map (·.1)
 |[]=>by simp[getM]
 |(a,u)::m=>by
  unfold getM
  split
  ·rename_i e;subst e;simp
  ·rename_i e;rw[getM_none];simp[e]
theorem zN {K:Type} [DecidableEq K] {k:K} {v:Value}:∀ {m:List (K×Value)},zw m→(k,v)∈m→getM k m=some v
 |[],_,h=>by cases h
 |(a,u)::m,hn,h=>by
  have hn':a ∉ m.map (·.1)∧(m.map (·.1)).Nodup:=by simpa[zw]using hn
  unfold getM
  rcases List.mem_cons.1 h with h2|h2
  ·cases h2;rw[if_pos rfl]
  ·have hne:¬k=a:=fun e=>hn'.1 (List.mem_map.2 ⟨(k,v),h2,e⟩)
   rw[if_neg hne]
   exact zN hn'.2 h2
theorem jJB {K:Type} [DecidableEq K] {k:K} {m:List (K×Value)} (hn:zw m) {p:K×Value}:p∈jKu k m↔p∈m∧p.1≠k:=by
 have h1:=jFt (k:=p.1) (k':=k) hn
 constructor
 ·intro hp
  have hp':=kr.subset hp
  refine ⟨hp',fun e=>?_⟩
  rw[if_pos e,getM_none]at h1
  exact h1 (List.mem_map.2 ⟨p,hp,rfl⟩)
 ·rintro ⟨hp,hne⟩
  rw[if_neg hne,zN hn (show (p.1,p.2)∈m from hp)]at h1
  exact K4 h1
theorem jMT {K:Type} [DecidableEq K] {k:K} {v:Value} {m:List (K×Value)} (hn:zw m) {p:K×Value}:p∈kJ k v m↔p=(k,v)∨(p∈m∧p.1≠k):=by
 have h1:=zk p.1 k v m
 have hns:=zB (k:=k) (v:=v) hn
 constructor
 ·intro hp
  rw[zN hns (show (p.1,p.2)∈kJ k v m from hp)]at h1
  by_cases e:p.1=k
  ·rw [if_pos e]at h1;left;cases h1;obtain ⟨a,b⟩:=p;simp_all
  ·rw [if_neg e]at h1;exact .inr ⟨K4 h1.symm,e⟩
 ·rintro (rfl|⟨hp,hne⟩)
  ·rw [if_pos rfl]at h1;exact K4 h1
  ·rw [if_neg hne,zN hn (show (p.1,p.2)∈m from hp)]at h1
   exact K4 h1
theorem jE0 {K:Type} [DecidableEq K] {k:K} {v:Value}:∀ {m:List (K×Value)},getM k m=some v→kJ k v m=m
 |[],h=>by cases h
 |(a,u)::m,h=>by
  unfold getM at h
  unfold kJ
  split at h
  ·rename_i e;cases h;rw[if_pos e]
  ·rename_i e;rw[if_neg e,jE0 h]
section
variable {B : Base} {H : List Chunk} {e : TypeId} {m : List (Int × Value)} {adj adj' : Int → List Int} {a : Int} {v : Value}
theorem Ent.jSz:Ent B H (jL e [] adj::H):=fun w hw=>hw.push (Below.refl _ _) ⟨(fun p hp=>by cases hp),(fun p hp=>by cases hp)⟩ (fun k hk=>by obtain ⟨p,hp,_⟩:=hk;cases hp)
theorem Ent.asS (h:∀n,adj n=adj' n):Ent B (jL e m adj::H) (jL e m adj'::H):=by rw[funext h];exact Ent.refl
theorem Ent.jNd (hn:zw m) (h0:getM a m=none→adj a=[]) (hv:(getM a m).getD (.slice none 0 0)=v):Ent B (jL e m adj::H) (jK v e 1 (adj a).length (cellsOf iC (adj a))::jL e (jKu a m) adj::H):=by
 intro w hw
 have hp:=hw.all.1
 have hX:=hw.all.2.1
 have hapart:=hw.all.2.2.1
 have hrest:=hw.all.2.2.2
 have own:(jK v e 1 (adj a).length (cellsOf iC (adj a))).p w∧∀k,v.ownBlock=some k→∃p∈m,p.2.ownBlock=some k∧p.1=a:=by
  cases hg:getM a m with
  |none=>
   rw[hg]at hv
   subst hv
   rw[h0 hg]
   exact ⟨⟨rfl,.inl ⟨rfl,rfl⟩⟩,fun k hk=>by cases hk⟩
  |some u=>
   rw[hg]at hv
   have hv':u=v:=hv
   subst hv'
   have hm:=K4 hg
   exact ⟨hp.1 _ hm,fun k hk=>⟨_,hm,hk,rfl⟩⟩
 refine ⟨hw.os,hw.tape,hw.output,hw.size,hw.block,own.1,fun k hk=>?_,fun d hd k hk=>?_,⟨fun p hp'=>hp.1 p (kr.subset hp'),fun p hp' q hq'=>hp.2 p (kr.subset hp') q (kr.subset hq')⟩,fun k hk=>?_,fun d hd k hk=>?_,hrest⟩
 ·obtain ⟨p,h1,h2,_⟩:=own.2 k hk
  exact hX k ⟨p,h1,h2⟩
 ·obtain ⟨p,h1,h2,h3⟩:=own.2 k hk
  rcases List.mem_cons.1 hd with rfl|hd
  ·rintro ⟨q,hq,hk'⟩
   obtain ⟨hq1,hq2⟩:=(jJB hn).1 hq
   exact hp.2 p h1 q hq1 (fun e=>hq2 (by rw[← e,h3])) k h2 hk'
  ·exact hapart d hd k ⟨p,h1,h2⟩
 ·obtain ⟨p,h1,h2⟩:=hk
  exact hX k ⟨p,kr.subset h1,h2⟩
 ·obtain ⟨p,h1,h2⟩:=hk
  exact hapart d hd k ⟨p,kr.subset h1,h2⟩
theorem Ent.jM1 (hn:zw m) (hother:∀k,k≠a→adj' k=adj k):Ent B (jK v e 1 (adj' a).length (cellsOf iC (adj' a))::jL e (jKu a m) adj::H) (jL e (kJ a v m) adj'::H):=by
 intro w hw
 obtain ⟨hv,hvX,hvA,hp,hpX,hpA,hrest⟩:=hw.all
 have cases_:∀p∈kJ a v m,p=(a,v)∨(p∈jKu a m∧p.1≠a):=fun p hp'=>by
  rcases (jMT hn).1 hp' with h|⟨h1,h2⟩
  ·exact .inl h
  ·exact .inr ⟨(jJB hn).2 ⟨h1,h2⟩,h2⟩
 refine ⟨hw.os,hw.tape,hw.output,hw.size,hw.block,⟨fun p hp'=>?_,fun p hp' q hq' hne k hk hk'=>?_⟩,fun k hk=>?_,fun d hd k hk=>?_,hrest⟩
 ·rcases cases_ p hp' with rfl|⟨h1,h2⟩
  ·exact hv
  ·rw [hother _ h2];exact hp.1 p h1
 ·rcases cases_ p hp' with rfl|⟨h1,h2⟩
  ·rcases cases_ q hq' with rfl|⟨h3,h4⟩
   ·exact hne I
   ·exact hvA _ (List.mem_cons_self ..) k hk ⟨q,h3,hk'⟩
  ·rcases cases_ q hq' with rfl|⟨h3,h4⟩
   ·exact hvA _ (List.mem_cons_self ..) k hk' ⟨p,h1,hk⟩
   ·exact hp.2 p h1 q h3 hne k hk hk'
 ·obtain ⟨p,hp',hk⟩:=hk
  rcases cases_ p hp' with rfl|⟨h1,h2⟩
  ·exact hvX k hk
  ·exact hpX k ⟨p,h1,hk⟩
 ·obtain ⟨p,hp',hk⟩:=hk
  rcases cases_ p hp' with rfl|⟨h1,h2⟩
  ·exact hvA d (List.mem_cons_of_mem _ hd) k hk
  ·exact hpA d hd k ⟨p,h1,hk⟩
end
end Go.GX
namespace Go.GX
open Go.RowKit
section
variable {K : Type} [DecidableEq K] {P : Program} {kt : TypeId} {enc : K → Value}
def jA2 (enc:K→Value) (w:World) (r b:Nat) (m:List (K×Value)) (seen:List K):Prop:=
 r≠b∧∃(es:Array MapEntry) (clock:Nat) (ents:List MapEntry),w.heap[b]? =some (.map es clock)∧w.heap[r]? =some (.mapIter (some b) clock (ents.map (·.born)).reverse.toArray clock)∧
  es.toList.map (fun e=>(e.key,e.val))=m.map (fun p=>(enc p.1,p.2))∧MapKept.Stamped es clock∧(∀ x∈ents,x∈es.toList)∧ents.map (·.key)=seen.map enc
def jd (enc:K→Value) (r b:Nat) (m:List (K×Value)) (seen:List K):Chunk where
 foot:=fun k=>k=r∨k=b
 p:=fun w=>jA2 enc w r b m seen
 loc:=fun w w' h hp=>by
  obtain ⟨hne,es,clock,ents,h1,h2,h3⟩:=hp
  exact ⟨hne,es,clock,ents,by rw[h b (.inr rfl)];exact h1,by rw[h r (.inl rfl)];exact h2,h3⟩
 lt:=fun w hp k hk=>by
  obtain ⟨hne,es,clock,ents,h1,h2,h3⟩:=hp
  rcases hk with rfl|rfl
  ·exact (Array.getElem?_eq_some_iff.1 h2).1
  ·exact (Array.getElem?_eq_some_iff.1 h1).1
theorem jA2.map {w:World} {r b:Nat} {m:List (K×Value)} {seen:List K} (h:jA2 enc w r b m seen):MapAt enc w b m:=by
 obtain ⟨hne,es,clock,ents,h1,h2,h3,h4,_⟩:=h
 exact ⟨es,clock,h1,h3,h4⟩
theorem key_inj {l:List MapEntry} (hn:(l.map (·.key)).Nodup) {x e:MapEntry} (hx:x∈l) (he:e∈l) (h:x.key=e.key):x=e:=by
 induction l with
 |nil=>cases hx
 |cons a l ih=>
  simp only[List.map_cons,List.nodup_cons]at hn
  rcases List.mem_cons.1 hx with rfl|hx'<;>rcases List.mem_cons.1 he with rfl|he'
  ·rfl
  ·exact absurd (List.mem_map.2 ⟨e,he',h.symm⟩) hn.1
  ·exact absurd (List.mem_map.2 ⟨x,hx',h⟩) hn.1
  ·exact ih hn.2 hx' he'
theorem jLM {w : World} {ty : TypeId} {r b : Nat} {m : List (K × Value)} {seen : List K} (hinj : ∀ a b : K, enc a = enc b → a = b) (h : jA2 enc w r b m seen) :
    ((∀ p ∈ m, p.1 ∈ seen) ∧ (Instr.next (.pointer (some ⟨r, 0, none⟩)) false ty).run P w = .ok (.tuple #[.bool false]) w) ∨
    ∃ k u w', (k, u) ∈ m ∧ k ∉ seen ∧ (Instr.next (.pointer (some ⟨r, 0, none⟩)) false ty).run P w = .ok (.tuple #[.bool true, enc k, u]) w' ∧ jA2 enc w' r b m (k :: seen) ∧ w.grownBy w' (some r) ∧ w'.heap.size = w.heap.size := by
  obtain ⟨hne, es, clock, ents, hb, hr, hm, hst, hin, hk⟩ := h
  have hold : ∀ x ∈ es.toList, x.born < clock := hst.1
  have hrlt := (Array.getElem?_eq_some_iff.1 hr).1
  have start : (Instr.next (.pointer (some ⟨r, 0, none⟩)) false ty).run P w = (do
      let left := leftOf es (ents.map (·.born)).reverse.toArray
      let old := left.filter (·.born < clock)
      let new := left.filter (·.born ≥ clock)
      let candidates := (if old.isEmpty then #[none] else #[]) ++ (old ++ new).map some
      match candidates[← choose (.mapNext candidates.size)]? with
      | some (some e) => do
        setObj r (.mapIter (some b) clock ((ents.map (·.born)).reverse.toArray.push e.born) clock)
        pure (.tuple #[.bool true, e.key, e.val])
      | some none => pure (.tuple #[.bool false])
      | none => stuck "Next: no such candidate" : Sem Value).run P w := by
    simp only [Instr.next, getObj, Sem.run_bind, Sem.run, hr, hb, Result.andThen, next_test_false _ es clock clock hold (Nat.le_refl _), Bool.false_eq_true, if_false]
    rfl
  rw [start]
  have hmem : ∀ x ∈ (leftOf es (ents.map (·.born)).reverse.toArray).toList, x.born < clock := fun x hx => hold x (mem_left hx).1
  have hbornin : ∀ x ∈ es.toList, (ents.map (·.born)).reverse.toArray.contains x.born = true → x ∈ ents := by
    intro x hx hc
    simp at hc
    obtain ⟨y, hy, hyb⟩ := hc
    have := born_inj hst.2.1 (hin y hy) hx hyb
    rw [← this]; exact hy
  have keyof : ∀ e ∈ es.toList, ∃ p ∈ m, e.key = enc p.1 ∧ e.val = p.2 := by
    intro e he
    have : (e.key, e.val) ∈ es.toList.map (fun e => (e.key, e.val)) := List.mem_map.2 ⟨e, he, rfl⟩
    rw [hm] at this
    obtain ⟨p, hp, h⟩ := List.mem_map.1 this
    simp only [Prod.mk.injEq] at h
    exact ⟨p, hp, h.1.symm, h.2.symm⟩
  have ofkey : ∀ p ∈ m, ∃ e ∈ es.toList, e.key = enc p.1 := by
    intro p hp
    have : (enc p.1, p.2) ∈ m.map (fun p => (enc p.1, p.2)) := List.mem_map.2 ⟨p, hp, rfl⟩
    rw [← hm] at this
    obtain ⟨e, he, h⟩ := List.mem_map.1 this
    simp only [Prod.mk.injEq] at h
    exact ⟨e, he, h.1⟩
  have hleft : ∀ x ∈ es.toList, (ents.map (·.born)).reverse.toArray.contains x.born = false → x ∈ (leftOf es (ents.map (·.born)).reverse.toArray).toList := by
    intro x hx hc
    unfold leftOf
    simp only [Array.toList_filter, List.mem_filter]
    exact ⟨hx, by rw [hc]; rfl⟩
  have hnotin : ∀ x ∈ (leftOf es (ents.map (·.born)).reverse.toArray).toList, x ∉ ents := by
    intro x hx hc
    have := (mem_left hx).2
    simp at this
    exact this x hc I
  generalize hL : leftOf es (ents.map (·.born)).reverse.toArray = L at hmem hleft hnotin ⊢
  have hLes : ∀ x ∈ L.toList, x ∈ es.toList := fun x hx => by rw [← hL] at hx; exact (mem_left hx).1
  have e1 : L.filter (fun x => decide (x.born < clock)) = L := Array.filter_eq_self.2 (fun x hx => by simpa using hmem x (by simpa using hx))
  have e2 : L.filter (fun x => decide (x.born ≥ clock)) = #[] := by
    rw [Array.filter_eq_empty_iff]
    intro x hx
    have := hmem x (by simpa using hx)
    simp
    omega
  simp only [e1, e2, Array.append_empty]
  by_cases h0 : L.size = 0
  · left
    have hLe : L = #[] := Array.eq_empty_of_size_eq_zero h0
    subst hLe
    refine ⟨fun p hp => ?_, by simp [choose, Sem.run, Question.forced]⟩
    obtain ⟨e, he, hek⟩ := ofkey p hp
    have hc : (ents.map (·.born)).reverse.toArray.contains e.born = true := by
      cases hc : (ents.map (·.born)).reverse.toArray.contains e.born with
      | true => rfl
      | false => have := hleft e he hc; simp at this
    have hx := hbornin e he hc
    have : e.key ∈ ents.map (·.key) := List.mem_map.2 ⟨e, hx, rfl⟩
    rw [hk, hek] at this
    obtain ⟨q, hq, hqe⟩ := List.mem_map.1 this
    rw [← hinj _ _ hqe]; exact hq
  · right
    have hne' : L.isEmpty = false := by simp [Array.isEmpty, h0]
    simp only [hne', Bool.false_eq_true, if_false, Array.empty_append, Array.size_map]
    have hch : ∃ (j : Nat) (w1 : World), j < L.size ∧ w1.heap = w.heap ∧ w1.os = w.os ∧ w1.tape = w.tape ∧ w1.output = w.output ∧ (choose (Question.mapNext L.size)).run P w = .ok j w1 := by
      by_cases hf : L.size ≤ 1
      · exact ⟨0, w, by omega, rfl, rfl, rfl, rfl, by simp [choose, Sem.run, Question.forced, hf]⟩
      · exact ⟨_, w.drew, Nat.mod_lt _ (by omega), rfl, rfl, rfl, rfl, by
          simp only [choose, Sem.run, Question.forced, decide_eq_true_eq, hf, if_false, Question.cut]
          rfl⟩
    obtain ⟨j, w1, hj, a1, a2, a3, a4, hrun⟩ := hch
    have hLj : L[j] ∈ L.toList := by simp
    have hes := hLes _ hLj
    obtain ⟨p, hp, hpk, hpv⟩ := keyof _ hes
    have hset : ∀ o', (setObj r o').run P w1 = .ok () { w1 with heap := w1.heap.setIfInBounds r o' } := fun o' => by
      simp only [setObj, Sem.run]
      rw [a1, hr]
    refine ⟨p.1, p.2, { w1 with heap := w1.heap.setIfInBounds r (.mapIter (some b) clock ((ents.map (·.born)).reverse.toArray.push L[j].born) clock) }, hp, ?_, ?_, ⟨hne, es, clock, L[j] :: ents, ?_, ?_, hm, hst, ?_, ?_⟩, ⟨a2, a3, a4, ?_, ?_⟩, ?_⟩
    · intro hs
      have : enc p.1 ∈ ents.map (·.key) := by rw [hk]; exact List.mem_map.2 ⟨p.1, hs, rfl⟩
      obtain ⟨x, hx, hxk⟩ := List.mem_map.1 this
      have hnk := hst.2.2
      have hxe : x = L[j] := key_inj hnk (hin x hx) hes (by rw [hxk, hpk])
      exact hnotin _ hLj (hxe ▸ hx)
    · simp only [Sem.run_bind, hrun, Result.andThen, Array.getElem?_map, Array.getElem?_eq_getElem hj, Option.map_some, hset]
      rw [hpk, hpv]
      rfl
    · simp only [a1]
      rw [Array.getElem?_setIfInBounds_ne hne]; exact hb
    · simp only [a1]
      rw [Array.getElem?_setIfInBounds_self_of_lt hrlt]
      congr 2
      simp
    · intro x hx
      rcases List.mem_cons.1 hx with rfl | hx
      · exact hes
      · exact hin x hx
    · simp [hk, hpk]
    · simp [a1]
    · intro k hk' hne2
      simp only [a1]
      rw [Array.getElem?_setIfInBounds_ne (fun e => hne2 (by rw [e]))]
    · simp [a1]
theorem jJk {w:World} {r b:Nat} {m:List (K×Value)} {k:K} {u:Value} {seen:List K} (hinj:∀a b:K,enc a=enc b→a=b) (h:jA2 enc w r b m (k::seen)) (hu:(k,u)∈m):(Instr.entry (.pointer (some ⟨r,0,none⟩))).run P w= .ok (.tuple #[enc k,u]) w:=by
 have hnd:zw m:=h.map.nodup
 obtain ⟨hne,es,clock,ents,hb,hr,hm,hst,hin,hk⟩:=h
 cases ents with
 |nil=>simp at hk
 |cons e ents=>
  simp only[List.map_cons,List.cons.injEq]at hk
  have he:=hin e (List.mem_cons_self ..)
  have hf:es.find? (·.born==e.born)=some e:=by rw[← Array.find?_toList];exact find_born e es.toList hst.2.1 he
  have hv:e.val=u:=by
   have:(e.key,e.val)∈es.toList.map (fun e=>(e.key,e.val)):=List.mem_map.2 ⟨e,he,rfl⟩
   rw[hm]at this
   obtain ⟨p,hp,h⟩:=List.mem_map.1 this
   simp only[Prod.mk.injEq]at h
   have hpk:p.1=k:=hinj _ _ (h.1.trans hk.1)
   have g1:=zN hnd (show (p.1,p.2)∈m from hp)
   have g2:=zN hnd hu
   rw[hpk,g2]at g1
   cases g1
   exact h.2.symm
  have hback:(List.map (fun x=>x.born) (e::ents)).reverse.toArray.back? =some e.born:=by simp
  simp only[Instr.entry,getObj,Sem.run_bind,Sem.run,hr,hb,Result.andThen,hback,bne_self_eq_false,Bool.false_eq_true,if_false,hf,hk.1,hv]
  rfl
variable {f : FuncId} {N : Nat} {k : List Item} {σ : Store} {B : Base} {H H' : List Chunk} {R : Ending → World → Prop} {ops l : List Oper} {o : Oper} {KK : Act → World → Prop}
 {d:Nat} {op:Op} {ty:TypeId} {pos:String} {af:Array Edge} {gd:Option (Nat×Bool)} {v u:Value} {w:World} {t et:TypeId} {b r:Nat} {m:List (K×Value)}
theorem HL.jRr {x:Operand} (i:Nat) (hi:zX H i=some (Jc enc b m)) (hs:stat N ops ⟨some d,.range t x,ty,pos,af,gd⟩ σ=true) (hm:P.underlying t=some (.map kt et)) (hx:lookO σ x=some (.map (some b)))
  (h:∀r,HL P N ops l ((d,.pointer (some ⟨r,0,none⟩))::σ) B (jA3 H i (jd enc r b m [])) KK):HL P N ops (⟨some d,.range t x,ty,pos,af,gd⟩::l) σ B H KK:=by
 refine HL.opX (fun r:Nat=> .pointer (some ⟨r,0,none⟩)) (fun r=>jA3 H i (jd enc r b m [])) (fun _=>True) hs (fun w hw=>?_) (fun r _=>h r)
 have hM:MapAt enc w b m:=hw.nth hi
 obtain ⟨es,clock,h1,h2,h3⟩:=hM
 have hlt:=(Array.getElem?_eq_some_iff.1 h1).1
 refine ⟨w.heap.size,w.alloc (.mapIter (some b) clock #[] clock),?_,trivial,hw.upd hi I I I (by simp) (fun k hk _=>heap_alloc_old w _ hk) ⟨by omega,es,clock,[],?_,heap_alloc_new w _,h2,h3,(fun x hx=>by cases hx),rfl⟩ (fun k hk=>?_)⟩
 ·simp [execOp,jA hx,run_range_map w t kt et b es clock hm h1]
 ·rw [heap_alloc_old w _ hlt];exact h1
 ·rcases hk with rfl|rfl
  ·exact .inr (Nat.le_refl _)
  ·exact .inl I
theorem HL.nextM {x:Operand} {seen:List K} (i:Nat) (hi:zX H i=some (jd enc r b m seen)) (hinj:∀a b:K,enc a=enc b→a=b) (hs:stat N ops ⟨some d,.next x false,ty,pos,af,gd⟩ σ=true) (hx:lookO σ x=some (.pointer (some ⟨r,0,none⟩)))
  (hend:(∀ p∈m,p.1∈seen)→HL P N ops l ((d,.tuple ⟨[.bool false]⟩)::σ) B H KK)
  (hnext:∀k u,(k,u)∈m→k ∉ seen→HL P N ops l ((d,.tuple ⟨[.bool true,enc k,u]⟩)::σ) B (jA3 H i (jd enc r b m (k::seen))) KK):HL P N ops (⟨some d,.next x false,ty,pos,af,gd⟩::l) σ B H KK:=by
 intro w hw
 have hI:jA2 enc w r b m seen:=hw.nth hi
 rcases jLM (P:=P) (ty:=ty) hinj hI with ⟨h1,h2⟩|⟨k,u,w',h1,h2,h3,h4,h5,h6⟩
 ·exact jg.op hs (by simp[execOp,jA hx,h2]) (hend h1 w hw)
 ·exact jg.op hs (by simp[execOp,jA hx,h3]) (hnext k u h1 h2 w' (hw.updG hi h5 (fun k hk=>by cases hk;exact .inl I) h4 (fun k hk=> .inl hk)))
theorem HL.jSx {x:Operand} {k:K} {seen:List K} (i:Nat) (hi:zX H i=some (jd enc r b m (k::seen))) (hinj:∀a b:K,enc a=enc b→a=b) (hu:(k,u)∈m) (hs:stat N ops ⟨some d,.entry x,ty,pos,af,gd⟩ σ=true) (hx:lookO σ x=some (.pointer (some ⟨r,0,none⟩)))
  (h:HL P N ops l ((d,.tuple ⟨[enc k,u]⟩)::σ) B H KK):HL P N ops (⟨some d,.entry x,ty,pos,af,gd⟩::l) σ B H KK:=by
 refine HL.rd hs (fun w hw=>?_) h
 have hI:jA2 enc w r b m (k::seen):=hw.nth hi
 simp[execOp,jA hx,jJk hinj hI hu]
theorem HR.jQt {seen:List K} (i:Nat) (hi:zX H i=some (jd enc r b m seen)) (h:HR P f N k σ B (jA3 H i (Jc enc b m)) R):HR P f N k σ B H R:=
 HR.as i hi (fun w hp=>jA2.map hp) (fun k hk=> .inr hk) h
end
end Go.GX
namespace Go.GX
open Go.RowKit
def ldV (P:Program) (t:TypeId) (cs:List Value) (o:Nat):Option Value:=match P.underlying t with
 |some td=>match zf td with
  |true=>jH7 cs o
  |false=>match P.info? t with
   |some ti=>match jKp cs o ti.size with
    |some us=>some (.agg ⟨us⟩)
    |none=>none
   |none=>none
 |none=>none
def stV (P:Program) (t:TypeId) (cs:List Value) (o:Nat) (u:Value):Option (List Value):=match P.info? t with
 |some ti=>match Nat.beq ti.size (jKs (jq u)),J9 (jq u),Nat.ble (o+jKs (jq u)) (jKs cs)with
  |true,true,true=>some (jJ2 cs o (jq u))
  |_,_,_=>none
 |none=>none
section
variable {P : Program} {f : FuncId} {N : Nat} {k : List Item} {σ : Store} {B : Base} {H H' F : List Chunk} {R : Ending → World → Prop} {ops l : List Oper} {o : Oper} {K : Act → World → Prop} {KQ : Act → Prop}
 {d:Nat} {op:Op} {ty:TypeId} {pos:String} {af:Array Edge} {gd:Option (Nat×Bool)} {v u:Value} {w:World} {d':Option Tmp}
theorem jPW {td:TypeDesc} (h:zf td=false):td.isRow=true:=by cases td<;>first|rfl|(simp [zf]at h)
theorem jQz {t:TypeId} {x:Operand} {b j:Nat} {T:TypeId} {cs:List Value} (i:Nat) (hx:lookO σ x=some (.pointer (some ⟨b,j,none⟩))) (hi:zX H i=some (jU b cs T)) (hu:ldV P t cs j=some u):
  ∀w,Sat B H w→(execOp (evO σ) ⟨d',.load t x,ty,pos,af,gd⟩).run P w= .ok (.value u) w:=by
 unfold ldV at hu
 split at hu
 ·rename_i td hT
  split at hu
  ·rename_i hp;exact jJF i hi hT hp hx hu
  ·rename_i hp
   split at hu
   ·rename_i ti hti
    split at hu
    ·rename_i us hus;cases hu;exact jEa i hi hT (jPW hp) (by rw[hti];rfl) hx hus
    ·cases hu
   ·cases hu
 ·cases hu
theorem HL.L {t:TypeId} {x:Operand} {b j:Nat} {T:TypeId} {cs:List Value} (i:Nat) (hx:lookO σ x=some (.pointer (some ⟨b,j,none⟩))) (hi:zX H i=some (jU b cs T)) (hs:stat N ops ⟨some d,.load t x,ty,pos,af,gd⟩ σ=true) (hu:ldV P t cs j=some u)
  (h:HL P N ops l ((d,u)::σ) B H K):HL P N ops (⟨some d,.load t x,ty,pos,af,gd⟩::l) σ B H K:=HL.rd hs (jQz i hx hi hu) h
theorem HQ.L {t:TypeId} {x:Operand} {b j:Nat} {T:TypeId} {cs:List Value} (i:Nat) (hx:lookO σ x=some (.pointer (some ⟨b,j,none⟩))) (hi:zX H i=some (jU b cs T)) (hs:stat N ops ⟨some d,.load t x,ty,pos,af,gd⟩ σ=true) (hu:ldV P t cs j=some u)
  (h:HQ P N ops l ((d,u)::σ) B H KQ):HQ P N ops (⟨some d,.load t x,ty,pos,af,gd⟩::l) σ B H KQ:=jh.op hs (jQz i hx hi hu) h
theorem HD.L {t:TypeId} {x:Operand} {b j n:Nat} {p:List (Nat×Bool)} {T:TypeId} {cs:List Value} (i:Nat) (hx:lookO σ x=some (.pointer (some ⟨b,j,none⟩))) (hi:zX F i=some (jU b cs T)) (ho:ops[n]? =some ⟨some d,.load t x,ty,pos,af,gd⟩) (hs:stat N ops ⟨some d,.load t x,ty,pos,af,gd⟩ σ=true) (hu:ldV P t cs j=some u)
  (h:HD P N ops p ((d,u)::σ) B H F K):HD P N ops ((n,true)::p) σ B H F K:=HD.rd ho hs (jQz i hx hi hu) h
theorem HL.S {t:TypeId} {x y:Operand} {b o:Nat} {T:TypeId} {cs cs':List Value} (i:Nat) (hx:lookO σ x=some (.pointer (some ⟨b,o,none⟩))) (hi:zX H i=some (jU b cs T)) (hs:stat N ops ⟨none,.store t x y,ty,pos,af,gd⟩ σ=true) (hy:lookO σ y=some u) (hc:stV P t cs o u=some cs')
  (h:HL P N ops l σ B (jA3 H i (jU b cs' T)) K):HL P N ops (⟨none,.store t x y,ty,pos,af,gd⟩::l) σ B H K:=by
 unfold stV at hc
 split at hc
 ·rename_i ti hti
  split at hc
  ·rename_i h1 h2 h3
   cases hc
   exact HL.jRn i hx hi hs hy I (by rw[hti,← Nat.eq_of_beq_eq_true h1];rfl) h2 h3 h
  ·cases hc
 ·cases hc
end
end Go.GX
namespace Go.GX
open Go.RowKit
section
variable {P : Program} {f : FuncId} {N : Nat} {k : List Item} {σ : Store} {B : Base} {H H' F : List Chunk} {R : Ending → World → Prop} {ops l : List Oper} {o : Oper} {K : Act → World → Prop} {KQ : Act → Prop} {C : World → Prop}
 {d:Nat} {op:Op} {ty:TypeId} {pos:String} {af:Array Edge} {gd:Option (Nat×Bool)} {v u:Value} {w:World} {d':Option Tmp} {p:List (Nat×Bool)} {i:Nat} {S:World→Prop}
theorem jJG {g : FuncId} {x : Operand} {args : List Operand} {a1 caps : List Value} {tys : Array TypeId} (hg : IsFn P g) (hx : lookO σ x = some (.func (.func g) #[] caps.toArray)) (ha : vals σ args = some a1) :
    (execOp (evO σ) ⟨d', .call ⟨.value x, args.toArray, tys⟩, ty, pos, af, gd⟩).run P w = .ok (.enter g ((a1 ++ caps).toArray)) w := by
  obtain ⟨fn, c, hf, hb, hn⟩ := hg.out
  have hn' : ¬ fn.name = "runtime.NumGoroutine" := by simpa using hn
  have e := jB3 ha
  simp [execOp, resolve, jA hx, Deferred.ofValue, invoke, callFunc, hf, hn', hb, e]
theorem HL.jEi {r:Value} {g:FuncId} {x:Operand} {args:List Operand} {a1 caps:List Value} {tys:Array TypeId} (hg:IsFn P g) (hx:lookO σ x=some (.func (.func g) #[] caps.toArray))
  (hs:stat N ops ⟨some d,.call ⟨.value x,args.toArray,tys⟩,ty,pos,af,gd⟩ σ=true) (ha:vals σ args=some a1)
  (hc:∀w,Sat B H w→Calls P g ((a1++caps).toArray) w fun e w'=>e= .returned r∧Below w.heap.size w w')
  (h:HL P N ops l ((d,r)::σ) B H K):HL P N ops (⟨some d,.call ⟨.value x,args.toArray,tys⟩,ty,pos,af,gd⟩::l) σ B H K:=
 fun w hw=>jg.enter hs (jJG hg hx ha) ((hc w hw).mono fun e w' ⟨h1,h2⟩=>⟨r,h1,h w' (hw.grow h2)⟩)
theorem HD.jw {t e sz bytes:TypeId} {x y:Operand} {n:Nat} {cs:List Value} {kk:IntKind} {m:Int} (hv:Rd B F v cs n) (hE:Elem P t e sz bytes) (j:Nat) (ho:ops[i]? =some ⟨some d,.indexAddr t x y,ty,pos,af,gd⟩) (hs:stat N ops ⟨some d,.indexAddr t x y,ty,pos,af,gd⟩ σ=true) (hx:lookO σ x=some v) (hi:lookO σ y=some (.int kk m)) (hj:m=(j:Int)) (hlt:j<n)
  (h:HD P N ops p ((d,j6 v (j*sz))::σ) B H F K):HD P N ops ((i,true)::p) σ B H F K:=HD.rd ho hs (jFr hv hE j hx hi hj hlt) h
theorem HD.jY {t:TypeId} {td:TypeDesc} {x:Operand} {n j:Nat} {cs:List Value} (hv:Rd B F v cs n) (ho:ops[i]? =some ⟨some d,.load t x,ty,pos,af,gd⟩) (hs:stat N ops ⟨some d,.load t x,ty,pos,af,gd⟩ σ=true) (hT:P.underlying t=some td) (hp:zf td=true) (hx:lookO σ x=some (j6 v j)) (hu:cs[j]? =some u)
  (h:HD P N ops p ((d,u)::σ) B H F K):HD P N ops ((i,true)::p) σ B H F K:=HD.rd ho hs (jEb hv hT hp hx hu) h
theorem HD.JB {t:TypeId} {td:TypeDesc} {x:Operand} {n j:Nat} {cs us:List Value} (hv:Rd B F v cs n) (ho:ops[i]? =some ⟨some d,.load t x,ty,pos,af,gd⟩) (hs:stat N ops ⟨some d,.load t x,ty,pos,af,gd⟩ σ=true) (hT:P.underlying t=some td) (hr:td.isRow=true) (hm:(P.info? t).map (·.size)=some us.length) (hne:us≠[]) (hx:lookO σ x=some (j6 v j)) (hu:∀(i:Nat) u,us[i]? =some u→cs[j+i]? =some u)
  (h:HD P N ops p ((d,.agg ⟨us⟩)::σ) B H F K):HD P N ops ((i,true)::p) σ B H F K:=HD.rd ho hs (jAs hv hT hr hm hne hx hu) h
theorem HD.field {t:TypeId} {x:Operand} {q:Nat} (ho:ops[i]? =some ⟨some d,.field t x q,ty,pos,af,gd⟩) (hs:stat N ops ⟨some d,.field t x q,ty,pos,af,gd⟩ σ=true) (hb:jSs P σ t x q=some v)
  (h:HD P N ops p ((d,v)::σ) B H F K):HD P N ops ((i,true)::p) σ B H F K:=HD.rd ho hs (fun w _=>jEc hb w) h
theorem JU.ZB (t:Nat) {v v':Value} (hl:look σ t=some v) (e:v=v') (h:JU P N S ops p ((t,v')::σ) w K):JU P N S ops p σ w K:=by
 intro hS a ha
 exact h hS a (ha.weaken fun t' u hu=>by
  rw[Jj]at hu
  split at hu
  ·rename_i e';subst e';cases hu;rw[← e];exact hl
  ·exact hu)
theorem HD.ZB (t:Nat) {v v':Value} (hl:look σ t=some v) (e:v=v') (h:HD P N ops p ((t,v')::σ) B H F K):HD P N ops p σ B H F K:=fun w hw=>JU.ZB t hl e (h w hw)
theorem HD.jCu (t:Nat) {b:Bool} (c:Bool) (hl:look σ t=some (.bool b)) (e:b=c) (h:HD P N ops p ((t,.bool c)::σ) B H F K):HD P N ops p σ B H F K:=HD.ZB t hl (by rw[e]) h
theorem HD.split (t:Nat) {b:Bool} (hl:look σ t=some (.bool b)) (h1:b=true→HD P N ops p ((t,.bool true)::σ) B H F K) (h2:b=false→HD P N ops p ((t,.bool false)::σ) B H F K):HD P N ops p σ B H F K:=by
 cases hb:b with
 |true=>exact HD.jCu t true hl hb (h1 hb)
 |false=>exact HD.jCu t false hl hb (h2 hb)
theorem HL.split (t:Nat) {b:Bool} (hl:look σ t=some (.bool b)) (h1:b=true→HL P N ops l ((t,.bool true)::σ) B H K) (h2:b=false→HL P N ops l ((t,.bool false)::σ) B H K):HL P N ops l σ B H K:=by
 cases hb:b with
 |true=>exact HL.jCu t true hl hb (h1 hb)
 |false=>exact HL.jCu t false hl hb (h2 hb)
theorem HD.jN {r:Value} {g:FuncId} {args:List Operand} {a1:List Value} {tys:Array TypeId} (is:List Nat) (hF:jAM H is=some F) (hd:Js is=true) (hg:IsFn P g) (ho:ops[i]? =some ⟨some d,.call ⟨.value (.func g),args.toArray,tys⟩,ty,pos,af,gd⟩)
  (hs:stat N ops ⟨some d,.call ⟨.value (.func g),args.toArray,tys⟩,ty,pos,af,gd⟩ σ=true) (ha:vals σ args=some a1)
  (hc:∀w,Sat B H w→Calls P g a1.toArray w fun e w'=>e= .returned r∧Below w.heap.size w w')
  (h:HD P N ops p ((d,r)::σ) B H F K):HD P N ops ((i,false)::p) σ B H F K:=HD.one ho (HL.jN hg hs ha hc (HL.back is hF hd h))
end
theorem Sat.vw {B:Base} {H:List Chunk} {w:World} {v:Value} {e sz n i:Nat} {xs:List Value} (hw:Sat B H w) (hi:zX H i=some (jK v e sz n xs)):Vw w v e sz n xs:=hw.nth hi
theorem Sat.jQc {α:Type} [Inhabited α] {enc:α→Value} {w:World} {e n g off cap q:Nat} {zs ys:List α} (h:Vw w (.slice (some ⟨g,off,none⟩) n cap) e 1 n (cellsOf (fun x=>[enc x]) zs)) (hy:ys.length=n):
  Sat ⟨w,Zi [jK (.slice (some ⟨g,off,none⟩) n cap) e 1 n (cellsOf (fun x=>[enc x]) zs)]⟩ [jK (.slice (some ⟨g,off,none⟩) n cap) e 1 n (cellsOf (fun x=>[enc x]) ys)] (Sort.putRow enc (Sort.ahead w q) g off ys.toArray):=by
 have h1:=Sat.jP8 (q:=q) (os:=#[]) (enc:=enc) (zs:=zs) (ys:=ys) h hy
 have e1:Sort.grow (Sort.putRow enc (Sort.ahead w q) g off ys.toArray) #[]=Sort.putRow enc (Sort.ahead w q) g off ys.toArray:=by
  unfold Sort.grow;rw[Array.append_empty]
 rw[e1]at h1
 exact h1
theorem Sat.jS2 {B:Base} {w:World} {g off cap e n h:Nat} {α:Type} {f:α→Value} {ys zs:List α} (hw:Sat B [jK (.slice (some ⟨g,off,none⟩) n cap) e 1 n (cellsOf (fun x=>[f x]) ys)] w) (hh:h≤n) (hz:ys.take h=zs):
  Sat B [jK (.slice (some ⟨g,off,none⟩) h cap) e 1 h (cellsOf (fun x=>[f x]) zs)] w:=by
 refine hw.as 0 I (fun hv=>?_) (fun k hk=>hk)
 have hv:=Vw.sub (sz:=1) (h:=h) (l:=0) (show Vw _ _ _ _ _ _ from hv) (Nat.zero_le _) hh
 have e1:kD 1 (.slice (some ⟨g,off,none⟩) n cap) 0 h= .slice (some ⟨g,off,none⟩) h cap:=by
  unfold kD;simp[Addr.add]
 rw[e1]at hv
 have e2:((cellsOf (fun x=>[f x]) ys).drop (0*1)).take ((h-0)*1)=cellsOf (fun x=>[f x]) zs:=by
  rw[Jt,Jt,← hz];simp
 rw[e2]at hv
 exact hv
theorem Vw.shape {w:World} {v:Value} {e sz n:Nat} {xs:List Value} (h:Vw w v e sz n xs):∃a c,v= .slice a n c:=by
 rcases h.2 with ⟨rfl,rfl⟩|⟨g,off,cap,cur,rfl,_⟩
 ·exact ⟨_,_,rfl⟩
 ·exact ⟨_,_,rfl⟩
theorem HL.shape {P:Program} {N:Nat} {σ:Store} {B:Base} {H:List Chunk} {ops l:List Oper} {K:Act→World→Prop} {v:Value} {e sz n:Nat} {xs:List Value} (i:Nat) (hi:zX H i=some (jK v e sz n xs)) (h:∀a c,v= .slice a n c→HL P N ops l σ B H K):HL P N ops l σ B H K:=
 HL.know (fun w hw=>(Sat.vw hw hi).shape) fun ⟨a,c,e⟩=>h a c e
end Go.GX
namespace Go.GX
open Go.RowKit
section
variable {P : Program} {f : FuncId} {N : Nat} {k : List Item} {σ : Store} {B : Base} {H H' F : List Chunk} {R : Ending → World → Prop} {ops l : List Oper} {o : Oper} {K : Act → World → Prop} {KQ : Act → Prop} {C : World → Prop}
 {d:Nat} {op:Op} {ty:TypeId} {pos:String} {af:Array Edge} {gd:Option (Nat×Bool)} {v u:Value} {w:World} {d':Option Tmp} {p:List (Nat×Bool)} {i:Nat} {S:World→Prop}
theorem jNm (w:World) (n:Nat) (t e:TypeId) (a:Option Addr) (m c m' c':Nat) (h:P.underlying t=some (.slice e)):(Op.equalIn (n+1) t (.slice a m c) (.slice none m' c')).run P w= .ok a.isNone w:=by
 cases a<;>simp[Op.equalIn,run_underlying h]
theorem jPb {t e t':TypeId} {x y:Operand} {a:Option Addr} {m c m' c':Nat} (hT:P.underlying t=some (.slice e)) (hx:lookO σ x=some (.slice a m c)) (hy:lookO σ y=some (.slice none m' c')):
  ∀w,(execOp (evO σ) ⟨d',.binOp .eql t x y t',ty,pos,af,gd⟩).run P w= .ok (.value (.bool a.isNone)) w:=by
 intro w
 have h1:=jNm w 9999 t e a m c m' c' hT
 simp[execOp,jA hx,jA hy,eqGuard,binOp,Op.equal,Op.maxDepth,h1]
theorem HL.eqNil {t e t':TypeId} {x y:Operand} {a:Option Addr} {m c m' c':Nat} (hs:stat N ops ⟨some d,.binOp .eql t x y t',ty,pos,af,gd⟩ σ=true) (hT:P.underlying t=some (.slice e)) (hx:lookO σ x=some (.slice a m c)) (hy:lookO σ y=some (.slice none m' c'))
  (h:HL P N ops l ((d,.bool a.isNone)::σ) B H K):HL P N ops (⟨some d,.binOp .eql t x y t',ty,pos,af,gd⟩::l) σ B H K:=HL.rd hs (fun w _=>jPb hT hx hy w) h
theorem HL.Jy {t e sz bytes:TypeId} (hE:Elem P t e sz bytes) (hs:stat N ops ⟨some d,.buildSlice t 0 #[],ty,pos,af,gd⟩ σ=true)
  (h:∀v',HL P N ops l ((d,v')::σ) B (jK v' e sz 0 []::H) K):HL P N ops (⟨some d,.buildSlice t 0 #[],ty,pos,af,gd⟩::l) σ B H K:=by
 intro w hw
 obtain ⟨i,z,g1,g2,g3,g4,g5⟩:=hE.info
 have hr:(execOp (evO σ) ⟨some d,.buildSlice t 0 #[],ty,pos,af,gd⟩).run P w= .ok (.value (.slice (some ⟨w.heap.size,0,none⟩) 0 0)) (w.alloc (.cells #[] e)):=by
  have e0:(sizeOf e).run P w= .ok sz w:=by simp[sizeOf,typeInfo,g1,g3]
  simp[execOp,Instr.buildSlice,run_underlying hE.slice,e0,Instr.fill,newRow]
  congr 2
  exact Array.eq_empty_of_size_eq_zero (by simp)
 refine jg.op hs hr (h _ _ (hw.push ((Below.refl _ _).alloc (Nat.le_refl _) _) ⟨by simp,.inr ⟨w.heap.size,0,0,#[],rfl,heap_alloc_new w _,Nat.le_refl _,by unfold maxLen;omega,by simp,by simp⟩⟩ (fun k hk=>by cases hk;exact Nat.le_refl _)))
end
end Go.GX
namespace Go.GX
open Go.RowKit
section
variable {P : Program} {f : FuncId} {N : Nat} {k : List Item} {σ : Store} {B : Base} {H H' F : List Chunk} {R : Ending → World → Prop} {ops l : List Oper} {o : Oper} {K : Act → World → Prop} {KQ : Act → Prop} {C : World → Prop}
 {d:Nat} {op:Op} {ty:TypeId} {pos:String} {af:Array Edge} {gd:Option (Nat×Bool)} {v u:Value} {w:World} {d':Option Tmp} {p:List (Nat×Bool)} {i:Nat} {S:World→Prop}
def wI (op:BinOp) (k:IntKind) (a b:Int):Option Int:=
 match op with
 | .add=>some (k.wrap (a+b))
 | .sub=>some (k.wrap (a-b))
 | .mul=>some (k.wrap (a*b))
 | .shl=>some (k.wrap (a*2 ^ (min b.toNat k.bits)))
 | .shr=>some (a.fdiv (2 ^ (min b.toNat k.bits)))
 | .xor=>some (k.wrap ((BitVec.ofInt k.bits a ^^^ BitVec.ofInt k.bits b).toNat))
 | .or=>some (k.wrap ((BitVec.ofInt k.bits a ||| BitVec.ofInt k.bits b).toNat))
 | .and=>some (k.wrap ((BitVec.ofInt k.bits a &&& BitVec.ofInt k.bits b).toNat))
 |_=>none
def jSF:BinOp→Bool
 | .shl=>true
 | .shr=>true
 |_=>false
theorem hx_wI {t t' : TypeId} {x y : Operand} {op : BinOp} {k k' : IntKind} {a b r c : Int} (hx : lookO σ x = some (.int k a)) (hy : lookO σ y = some (.int k' b)) (hk : k = k' ∨ jSF op = true) (hb : jSF op = true → 0 ≤ b) (hw : wI op k a b = some r) (hc : r = c) :
    ∀ w, (execOp (evO σ) ⟨d', .binOp op t x y t', ty, pos, af, gd⟩).run P w = .ok (.value (.int k c)) w := by
  intro w
  subst hc
  have hb' : jSF op = true → ¬ b < 0 := fun h => by have := hb h; omega
  unfold wI at hw
  split at hw <;> cases hw
  all_goals first
    | (have hb' := hb' I
       simp [execOp, jA hx, jA hy, eqGuard, binOp, Op.shift, hb']; done)
    | (have hk : k = k' := by rcases hk with h | h
                              · exact h
                              · cases h
       subst hk
       simp [execOp, jA hx, jA hy, eqGuard, binOp, Op.intArith, Op.intBits]; done)
theorem HQ.wI {t t':TypeId} {x y:Operand} {op:BinOp} {k k':IntKind} {a b r:Int} (c:Int) (hs:stat N ops ⟨some d,.binOp op t x y t',ty,pos,af,gd⟩ σ=true) (hx:lookO σ x=some (.int k a)) (hy:lookO σ y=some (.int k' b)) (hw:GX.wI op k a b=some r) (hk:k=k'∨jSF op=true) (hb:jSF op=true→0≤b) (hc:r=c)
  (h:HQ P N ops l ((d,.int k c)::σ) B H KQ):HQ P N ops (⟨some d,.binOp op t x y t',ty,pos,af,gd⟩::l) σ B H KQ:=jh.op hs (fun w _=>hx_wI hx hy hk hb hw hc w) h
theorem hx_cv {s t:TypeId} {x:Operand} {ks k k':IntKind} {a c:Int} (hx:lookO σ x=some (.int k a)) (hS:P.underlying s=some (.int ks)) (hT:P.underlying t=some (.int k')) (hc:k'.wrap a=c):
  ∀w,(execOp (evO σ) ⟨d',.convert s t x,ty,pos,af,gd⟩).run P w= .ok (.value (.int k' c)) w:=by
 intro w
 subst hc
 simp[execOp,jA hx,convert,underlying,hS,hT,Conv.intToInt]
theorem HL.cv {s t:TypeId} {x:Operand} {ks k k':IntKind} {a:Int} (c:Int) (hs:stat N ops ⟨some d,.convert s t x,ty,pos,af,gd⟩ σ=true) (hx:lookO σ x=some (.int k a)) (hS:P.underlying s=some (.int ks)) (hT:P.underlying t=some (.int k')) (hc:k'.wrap a=c)
  (h:HL P N ops l ((d,.int k' c)::σ) B H K):HL P N ops (⟨some d,.convert s t x,ty,pos,af,gd⟩::l) σ B H K:=HL.rd hs (fun w _=>hx_cv hx hS hT hc w) h
theorem jQ0 {t t2 e:TypeId} {x:Operand} {l':List UInt8} (hv:Rd B H v (ZA l') l'.length) (hE:P.underlying t=some (.slice e)) (he:P.underlying e=some (.int .u8)) (hd:P.underlying t2=some .string) (hx:lookO σ x=some v):
  ∀w,Sat B H w→(execOp (evO σ) ⟨d',.convert t t2 x,ty,pos,af,gd⟩).run P w= .ok (.value (str l')) w:=by
 intro w hw
 simp[execOp,jA hx,jD7 hE he hd (hv.is hw)]
theorem HL.bstr {t t2 e:TypeId} {x:Operand} {l':List UInt8} (hv:Rd B H v (ZA l') l'.length) (hs:stat N ops ⟨some d,.convert t t2 x,ty,pos,af,gd⟩ σ=true) (hx:lookO σ x=some v) (hE:P.underlying t=some (.slice e)) (he:P.underlying e=some (.int .u8)) (hd:P.underlying t2=some .string)
  (h:HL P N ops l ((d,str l')::σ) B H K):HL P N ops (⟨some d,.convert t t2 x,ty,pos,af,gd⟩::l) σ B H K:=HL.rd hs (jQ0 hv hE he hd hx) h
theorem Rd.blk {b n:Nat} {T:TypeId} {cs:List Value} (i:Nat) (hi:zX H i=some (jU b cs T)):Rd B H (.slice (some ⟨b,0,none⟩) n n) cs n:=by
 intro w hw
 have hb:Blk w b cs T:=hw.nth hi
 refine ⟨.inr ⟨b,0,n,rfl,fun j u hu=>?_⟩,_,_,rfl,Nat.le_refl _⟩
 rw[Nat.zero_add,hb.cell];exact hu
theorem u8n (n:Nat):((UInt8.ofNat n).toNat:Int)=((n%256:Nat):Int):=by rw[UInt8.toNat_ofNat']
theorem HR.exit {id:Nat} {k':List Item} (he:exitTo id k=some k') (h:HR P f N k' σ B H R):HR P f N (.code (.exit id)::k) σ B H R:=fun w hw=>Run.exit he (h w hw)
end
end Go.GX
namespace Go.GX
open Go.RowKit
theorem jAr {β:Type} {xs X Z:List β} {p q s:Nat} (hx:xs.length=p+s) (hX:X.length=q) (hZ:Z.length=q+s):
  ((xs.take p++Z).take p++X.take q++(xs.take p++Z).drop (p+q)).take (p+q)++((xs.drop p).take s).take s++((xs.take p++Z).take p++X.take q++(xs.take p++Z).drop (p+q)).drop (p+q+s)=xs.take p++X++xs.drop p:=by
 have l1:(xs.take p).length=p:=by simp;omega
 have e1:(xs.take p++Z).take p=xs.take p:=by rw[List.take_append_of_le_length (by omega),List.take_of_length_le (by omega)]
 have e2:(xs.take p++Z).drop (p+q)=Z.drop q:=by rw[List.drop_append,List.drop_eq_nil_of_le (by omega),l1,List.nil_append];congr 1;omega
 have e3:X.take q=X:=List.take_of_length_le (by omega)
 rw[e1,e2,e3]
 have l2:(xs.take p++X).length=p+q:=by simp[l1,hX]
 have e4:(xs.take p++X++Z.drop q).take (p+q)=xs.take p++X:=by rw[List.take_append_of_le_length (by omega),List.take_of_length_le (by omega)]
 have e5:(xs.take p++X++Z.drop q).drop (p+q+s)=[]:=List.drop_eq_nil_of_le (by rw[List.length_append,l2,List.length_drop];omega)
 have e6:(xs.drop p).take s=xs.drop p:=List.take_of_length_le (by rw[List.length_drop];omega)
 rw[e4,e5,List.append_nil,e6,e6]
theorem Kg {β:Type} {xs X J:List β} {p q s u:Nat} (hx:xs.length=p+s) (hX:X.length=q) (hJ:J.length=q) (hu:s≤u):
  ((xs++J).take (p+q)++(((xs++J).drop p).take u).take s++(xs++J).drop (p+q+s)).take p++X.take q++((xs++J).take (p+q)++(((xs++J).drop p).take u).take s++(xs++J).drop (p+q+s)).drop (p+q)=xs.take p++X++xs.drop p:=by
 have l1:((xs++J).take (p+q)).length=p+q:=by simp;omega
 have e1:(xs++J).drop (p+q+s)=[]:=List.drop_eq_nil_of_le (by simp;omega)
 have e2:(((xs++J).drop p).take u).take s=xs.drop p:=by
  rw[List.take_take,Nat.min_eq_left hu,List.drop_append_of_le_length (by omega),List.take_append_of_le_length (by rw[List.length_drop];omega),List.take_of_length_le (by rw[List.length_drop];omega)]
 rw[e1,e2,List.append_nil]
 have e3:((xs++J).take (p+q)++xs.drop p).take p=xs.take p:=by
  rw[List.take_append_of_le_length (by omega),List.take_take,Nat.min_eq_left (by omega),List.take_append_of_le_length (by omega)]
 have e4:((xs++J).take (p+q)++xs.drop p).drop (p+q)=xs.drop p:=by
  rw[List.drop_append,List.drop_eq_nil_of_le (by omega),l1,Nat.sub_self];simp
 have e6:X.take q=X:=List.take_of_length_le (by omega)
 rw[e3,e4,e6]
theorem KR {β:Type} {xs J:List β} {p s u:Nat} (hx:xs.length=p+s) (hu:s≤u) {b:β} (hb:b∈(((xs++J).drop p).take u).take s):b∈xs:=by
 rw[List.take_take,Nat.min_eq_left hu,List.drop_append_of_le_length (by omega),List.take_append_of_le_length (by rw[List.length_drop];omega)]at hb
 exact List.mem_of_mem_drop (List.mem_of_mem_take hb)
section
variable {P : Program} {f : FuncId} {N : Nat} {k : List Item} {σ : Store} {B : Base} {H : List Chunk} {R : Ending → World → Prop} {ops l : List Oper} {o : Oper} {K : Act → World → Prop}
variable {d : Nat} {d' : Option Nat} {ty : TypeId} {pos : String} {af : Array Edge} {gd : Option (Nat × Bool)} {u v : Value}
def cutV (sz:Nat) (ad:Option Addr) (a b m:Nat):Value:= .slice (if m=a then ad else ad.map (·.add (a*sz))) (b-a) (m-a)
theorem ZJ {sz g off a b m:Nat} (h:a<m):cutV sz (some ⟨g,off,none⟩) a b m= .slice (some ⟨g,off+a*sz,none⟩) (b-a) (m-a):=by
 unfold cutV
 rw[if_neg (by omega)]
 simp only[Option.map_some]
 unfold Addr.add;split<;>simp_all
theorem jQU {t e sz:TypeId} {ad:Option Addr} {n c a b m:Nat} {lo hi mx:Option Value} (hT:P.underlying t=some (.slice e)) (hS:(P.info? e).map (·.size)=some sz)
  (hlo:(lo=none∧a=0)∨∃k,lo=some (.int k (a:Int))) (hhi:(hi=none∧mx=none∧b=n)∨∃k,hi=some (.int k (b:Int))) (hmx:(mx=none∧m=c)∨∃k,mx=some (.int k (m:Int))) (h1:a≤b) (h2:b≤m) (h3:m≤c) (w:World):
  (Instr.sliceAt t (.slice ad n c) lo hi mx).run P w= .ok (cutV sz ad a b m) w:=by
 obtain ⟨ti,g1,g2⟩:∃ti,P.info? e=some ti∧ti.size=sz:=by
  cases h:P.info? e with
  |none=>rw[h]at hS;cases hS
  |some ti=>rw[h]at hS;exact ⟨ti,rfl,by simpa using hS⟩
 have e0:(sizeOf e).run P w= .ok sz w:=by simp[sizeOf,typeInfo,g1,g2]
 have h4:b≤c:=by omega
 rcases hlo with ⟨rfl,rfl⟩|⟨k1,rfl⟩<;>rcases hhi with ⟨rfl,rfl,rfl⟩|⟨k2,rfl⟩<;>rcases hmx with ⟨h5,rfl⟩|⟨k3,h5⟩<;>(first|(cases h5;done)|skip)<;>(try subst h5)<;>
  simp[Instr.sliceAt,Instr.slice,Instr.sliceBounds,Instr.sliceBound,asIntOf,underlying,hT,e0,cutV,h1,h2,h3,h4]
theorem jMt {t e sz:TypeId} {x:Operand} {ad:Option Addr} {n c a b m:Nat} {lo hi mx:Option Operand} (hT:P.underlying t=some (.slice e)) (hS:(P.info? e).map (·.size)=some sz) (hx:lookO σ x=some (.slice ad n c))
  (hlo:(lo=none∧a=0)∨∃y k,lo=some y∧lookO σ y=some (.int k (a:Int))) (hhi:(hi=none∧mx=none∧b=n)∨∃y k,hi=some y∧lookO σ y=some (.int k (b:Int))) (hmx:(mx=none∧m=c)∨∃y k,mx=some y∧lookO σ y=some (.int k (m:Int))) (h1:a≤b) (h2:b≤m) (h3:m≤c) (w:World):
  (execOp (evO σ) ⟨d',.slice t x lo hi mx,ty,pos,af,gd⟩).run P w= .ok (.value (cutV sz ad a b m)) w:=by
 have:=jQU (P:=P) (t:=t) (ad:=ad) (n:=n) (c:=c) (lo:=lo.map (evO σ)) (hi:=hi.map (evO σ)) (mx:=mx.map (evO σ)) hT hS (a:=a) (b:=b) (m:=m) (by
  rcases hlo with ⟨rfl,h⟩|⟨y,k,rfl,h⟩
  ·exact .inl ⟨rfl,h⟩
  ·exact .inr ⟨k,by simp[jA h]⟩) (by
  rcases hhi with ⟨rfl,rfl,h⟩|⟨y,k,rfl,h⟩
  ·exact .inl ⟨rfl,rfl,h⟩
  ·exact .inr ⟨k,by simp[jA h]⟩) (by
  rcases hmx with ⟨rfl,h⟩|⟨y,k,rfl,h⟩
  ·exact .inl ⟨rfl,h⟩
  ·exact .inr ⟨k,by simp[jA h]⟩) h1 h2 h3 w
 simp[execOp,jA hx,this]
theorem HL.cut {t e sz:TypeId} {x:Operand} {ad:Option Addr} {n c:Nat} {lo hi mx:Option Operand} (a b m:Nat) (hs:stat N ops ⟨some d,.slice t x lo hi mx,ty,pos,af,gd⟩ σ=true) (hT:P.underlying t=some (.slice e)) (hS:(P.info? e).map (·.size)=some sz) (hx:lookO σ x=some (.slice ad n c))
  (hlo:(lo=none∧a=0)∨∃y k,lo=some y∧lookO σ y=some (.int k (a:Int))) (hhi:(hi=none∧mx=none∧b=n)∨∃y k,hi=some y∧lookO σ y=some (.int k (b:Int))) (hmx:(mx=none∧m=c)∨∃y k,mx=some y∧lookO σ y=some (.int k (m:Int))) (h1:a≤b) (h2:b≤m) (h3:m≤c)
  (h:HL P N ops l ((d,cutV sz ad a b m)::σ) B H K):HL P N ops (⟨some d,.slice t x lo hi mx,ty,pos,af,gd⟩::l) σ B H K:=HL.rd hs (fun w _=>jMt hT hS hx hlo hhi hmx h1 h2 h3 w) h
theorem HD.cut {F:List Chunk} {j:Nat} {p:List (Nat×Bool)} {t e sz:TypeId} {x:Operand} {ad:Option Addr} {n c:Nat} {lo hi mx:Option Operand} (a b m:Nat) (ho:ops[j]? =some ⟨some d,.slice t x lo hi mx,ty,pos,af,gd⟩) (hs:stat N ops ⟨some d,.slice t x lo hi mx,ty,pos,af,gd⟩ σ=true) (hT:P.underlying t=some (.slice e)) (hS:(P.info? e).map (·.size)=some sz) (hx:lookO σ x=some (.slice ad n c))
  (hlo:(lo=none∧a=0)∨∃y k,lo=some y∧lookO σ y=some (.int k (a:Int))) (hhi:(hi=none∧mx=none∧b=n)∨∃y k,hi=some y∧lookO σ y=some (.int k (b:Int))) (hmx:(mx=none∧m=c)∨∃y k,mx=some y∧lookO σ y=some (.int k (m:Int))) (h1:a≤b) (h2:b≤m) (h3:m≤c)
  (h:HD P N ops p ((d,cutV sz ad a b m)::σ) B H F K):HD P N ops ((j,true)::p) σ B H F K:=HD.rd ho hs (fun w _=>jMt hT hS hx hlo hhi hmx h1 h2 h3 w) h
theorem Vw.put {w:World} {e sz n g off cap:Nat} {cur:Array Value} {xs us:List Value} (hl:xs.length=n*sz) (hg:w.heap[g]? =some (.cells cur e (0,0))) (hnc:n≤cap) (hcm:cap≤maxLen) (hcs:off+cap*sz≤cur.size) (htake:(cur.toList.drop off).take (n*sz)=xs) (j:Nat) (hfit:j+us.length≤xs.length):
  Vw (w.setRow g (cur.toList.take (off+j)++us++cur.toList.drop (off+j+us.length)).toArray) (.slice (some ⟨g,off,none⟩) n cap) e sz n (xs.take j++us++xs.drop (j+us.length)):=by
 have hsz:n*sz≤cap*sz:=Nat.mul_le_mul_right _ hnc
 refine ⟨by simp;omega,.inr ⟨g,off,cap,_,rfl,setRow_heap w g cur _ e _ hg,hnc,hcm,by simp;omega,?_⟩⟩
 have hcl:cur.toList.length=cur.size:=Array.length_toList
 rw[← htake]
 have e2:cur.toList.take (off+j)=cur.toList.take off++(cur.toList.drop off).take j:=by rw[List.take_add]
 rw[e2]
 simp only[List.append_assoc]
 rw[List.drop_append_of_le_length (by simp;omega),List.drop_eq_nil_of_le (by simp;omega),List.nil_append]
 rw[List.take_take,Nat.min_eq_left (by omega)]
 have hl3:((cur.toList.drop off).take j).length=j:=by simp;omega
 rw[List.take_append,List.take_of_length_le (by omega),hl3]
 congr 1
 rw[List.take_append,List.take_of_length_le (by omega)]
 congr 1
 rw[List.drop_take,List.drop_drop]
 congr 1
 ·omega
 ·congr 1;omega
theorem jLN {t t' e sz:TypeId} {w:World} {g o dl dc m sl sc:Nat} {a:Addr} {cur:Array Value} {e':TypeId} {cs:List Value} (hu:P.underlying t=some (.slice e)) (hs:(P.info? e).map (·.size)=some sz)
  (hg:w.heap[g]? =some (.cells cur e' (0,0))) (hm:Nat.min sl dl=m) (hn:cs.length=m*sz) (hsrc:∀j v,cs[j]? =some v→w.cell? (a.add j)=some v) (hfit:o+cs.length≤cur.size) (h1:∀v∈cs,v.oneCell'=true):
  (Builtin.copy_ #[t,t'] ty #[.slice (some ⟨g,o,none⟩) dl dc,.slice (some a) sl sc]).run P w=
   .ok (.int .i64 (m:Int)) (w.setRow g (cur.toList.take o++cs++cur.toList.drop (o+cs.length)).toArray):=by
 have hst:=run_storeCells_at P g o e' cs 0 cur w hg (by simpa using hfit) h1
 cases hq:P.info? e with
 |none=>simp[hq]at hs
 |some i=>
  have hi:i.size=sz:=by simpa[hq]using hs
  have hf:=run_firstCells_some (P:=P) w i.size m a sl sc cs (by rw[hi];exact hn) hsrc
  simp only[Nat.add_zero]at hst
  simp[Builtin.copy_,run_underlying hu,Builtin.lenOf,sizeOf,typeInfo,hq,hm,hf,hst,goInt]
theorem HL.Zu {t t' e sz:TypeId} {x y:Operand} {n m2:Nat} {xs ns:List Value} {v2:Value} (a m:Nat) (i:Nat) (hi:zX H i=some (jK v e sz n xs)) (hv2:Rd B H v2 ns m2) (hs:stat N ops ⟨some d,.call ⟨.builtin .copy,#[x,y],#[t,t']⟩,ty,pos,af,gd⟩ σ=true)
  (hu:P.underlying t=some (.slice e)) (hS:(P.info? e).map (·.size)=some sz) (hx:lookO σ x=some (kD sz v a n)) (hy:lookO σ y=some v2) (hl:ns.length=m2*sz) (h1:∀u∈ns.take (m*sz),u.oneCell'=true) (hm:Nat.min m2 (n-a)=m) (hpos:0<m)
  (h:HL P N ops l ((d,.int .i64 (m:Int))::σ) B (jA3 H i (jK v e sz n (xs.take (a*sz)++ns.take (m*sz)++xs.drop (a*sz+m*sz)))) K):HL P N ops (⟨some d,.call ⟨.builtin .copy,#[x,y],#[t,t']⟩,ty,pos,af,gd⟩::l) σ B H K:=by
 have hm':min m2 (n-a)=m:=hm
 refine HL.opX (α:=Unit) (fun _=> .int .i64 (m:Int)) (fun _=>jA3 H i (jK v e sz n (xs.take (a*sz)++ns.take (m*sz)++xs.drop (a*sz+m*sz)))) (fun _=>True) hs (fun w hw=>?_) (fun _ _=>h)
 have hv:Vw w v e sz n xs:=hw.nth hi
 obtain ⟨hxl,hv⟩:=hv
 rcases hv with ⟨rfl,rfl⟩|⟨g,off,cap,cur,rfl,hg,hnc,hcm,hcs,htake⟩
 ·omega
 ·have hsz:n*sz≤cap*sz:=Nat.mul_le_mul_right _ hnc
  have hsub:kD sz (.slice (some ⟨g,off,none⟩) n cap) a n= .slice (some ⟨g,off+a*sz,none⟩) (n-a) (cap-a):=by
   have hne:¬cap=a:=by omega
   simp only[kD,hne,if_false]
   unfold Addr.add;split<;>simp_all
  have hmul:a*sz+m*sz≤n*sz:=by rw[← Nat.add_mul];exact Nat.mul_le_mul_right _ (by omega)
  have hml:m*sz≤m2*sz:=Nat.mul_le_mul_right _ (by omega)
  have htl:(ns.take (m*sz)).length=m*sz:=by rw[List.length_take,hl];omega
  rcases hv2.is hw with ⟨_,h0,_⟩|⟨b,off2,cap2,rfl,hc⟩
  ·omega
  ·have hadd:∀j,(⟨b,off2,none⟩:Addr).add j=⟨b,off2+j,none⟩:=fun j=>by unfold Addr.add;split<;>simp_all
   have hr:=jLN (P:=P) (t':=t') (ty:=ty) (w:=w) (g:=g) (o:=off+a*sz) (dl:=n-a) (dc:=cap-a) (m:=m) (sl:=m2) (sc:=cap2) (a:=⟨b,off2,none⟩) (cur:=cur) (e':=e) (cs:=ns.take (m*sz)) hu hS hg hm htl (fun j u hu=>by
    rw[hadd]
    rw[List.getElem?_take]at hu
    split at hu
    ·exact hc j u hu
    ·cases hu) (by omega) h1
   have hp:=Vw.put (us:=ns.take (m*sz)) hxl hg hnc hcm hcs htake (a*sz) (by rw[htl,hxl];omega)
   rw[htl]at hp hr
   refine ⟨(),w.setRow g (cur.toList.take (off+a*sz)++ns.take (m*sz)++cur.toList.drop (off+a*sz+m*sz)).toArray,?_,trivial,hw.upd hi I I I (by simp) (fun k hk hne=>setRow_other w g k _ (fun e=>hne (by rw[e];rfl))) hp (fun k hk=> .inl hk)⟩
   simp[execOp,resolve,jA hx,jA hy,invoke,builtin,hsub,hr]
theorem Vw.row {w:World} {e sz n:Nat} {xs:List Value} (h:Vw w v e sz n xs) (hn:0<n):∃g off cap,v= .slice (some ⟨g,off,none⟩) n cap∧n≤cap∧cap≤maxLen:=by
 rcases h.2 with ⟨rfl,rfl⟩|⟨g,off,cap,cur,rfl,_,h1,h2,_⟩
 ·omega
 ·exact ⟨g,off,cap,rfl,h1,h2⟩
theorem HR.row {e sz n:Nat} {xs:List Value} (i:Nat) (hi:zX H i=some (jK v e sz n xs)) (hn:0<n) (h:∀g off cap,v= .slice (some ⟨g,off,none⟩) n cap→n≤cap→cap≤maxLen→HR P f N k σ B H R):HR P f N k σ B H R:=
 HR.know (Q:=∃g off cap,v= .slice (some ⟨g,off,none⟩) n cap∧n≤cap∧cap≤maxLen) (fun w hw=>Vw.row (hw.vw hi) hn) fun ⟨g,off,cap,h1,h2,h3⟩=>h g off cap h1 h2 h3
theorem HL.row {e sz n:Nat} {xs:List Value} (i:Nat) (hi:zX H i=some (jK v e sz n xs)) (hn:0<n) (h:∀g off cap,v= .slice (some ⟨g,off,none⟩) n cap→n≤cap→cap≤maxLen→HL P N ops l σ B H K):HL P N ops l σ B H K:=
 HL.know (Q:=∃g off cap,v= .slice (some ⟨g,off,none⟩) n cap∧n≤cap∧cap≤maxLen) (fun w hw=>Vw.row (hw.vw hi) hn) fun ⟨g,off,cap,h1,h2,h3⟩=>h g off cap h1 h2 h3
theorem Sat.cutK {w:World} {g off c e sz n m:Nat} {xs zs:List Value} (hw:Sat B (jK (.slice (some ⟨g,off,none⟩) n c) e sz n xs::H) w) (hm:m≤n) (hz:xs.take (m*sz)=zs):Sat B (jK (.slice (some ⟨g,off,none⟩) m c) e sz m zs::H) w:=by
 refine Sat.as (c':=jK (.slice (some ⟨g,off,none⟩) m c) e sz m zs) 0 hw I (fun h=>?_) (fun _ h=>h)
 have h2:=Vw.sub (show Vw w (.slice (some ⟨g,off,none⟩) n c) e sz n xs from h) (l:=0) (h:=m) (Nat.zero_le _) hm
 have e1:kD sz (.slice (some ⟨g,off,none⟩) n c) 0 m= .slice (some ⟨g,off,none⟩) m c:=by simp only[kD];split<;>simp[Addr.add]
 rw[e1,Nat.sub_zero,Nat.zero_mul,List.drop_zero,hz]at h2
 exact h2
theorem HL.jSu {t e sz:TypeId} {x y:Operand} {kk:IntKind} {g off n c:Nat} {xs:List Value} (n':Nat) (i:Nat) (hi:zX H i=some (jK (.slice (some ⟨g,off,none⟩) n c) e sz n xs)) (hs:stat N ops ⟨some d,.slice t x none (some y) none,ty,pos,af,gd⟩ σ=true) (hT:P.underlying t=some (.slice e)) (hS:(P.info? e).map (·.size)=some sz)
  {mm:Int} (hx:lookO σ x=some (.slice (some ⟨g,off,none⟩) n c)) (hy:lookO σ y=some (.int kk mm)) (hmm:mm=(n':Int)) (h1:n≤n') (h2:n'≤c)
  (h:∀junk:List Value,junk.length=(n'-n)*sz→HL P N ops l ((d,.slice (some ⟨g,off,none⟩) n' c)::σ) B (jA3 H i (jK (.slice (some ⟨g,off,none⟩) n' c) e sz n' (xs++junk))) K):HL P N ops (⟨some d,.slice t x none (some y) none,ty,pos,af,gd⟩::l) σ B H K:=by
 subst hmm
 refine HL.opX (α:=List Value) (fun _=> .slice (some ⟨g,off,none⟩) n' c) (fun junk=>jA3 H i (jK (.slice (some ⟨g,off,none⟩) n' c) e sz n' (xs++junk))) (fun junk=>junk.length=(n'-n)*sz) hs (fun w hw=>?_) h
 obtain ⟨hxl,hv⟩:Vw w (.slice (some ⟨g,off,none⟩) n c) e sz n xs:=hw.nth hi
 rcases hv with ⟨hh,_⟩|⟨g',off',cap',cur,hh,hg,hnc,hcm,hcs,htake⟩
 ·cases hh
 ·cases hh
  have hcl:cur.toList.length=cur.size:=Array.length_toList
  have hsz:n'*sz≤c*sz:=Nat.mul_le_mul_right _ h2
  have hsz1:n*sz≤n'*sz:=Nat.mul_le_mul_right _ h1
  have hr:=jMt (P:=P) (σ:=σ) (d':=some d) (ty:=ty) (pos:=pos) (af:=af) (gd:=gd) (t:=t) (x:=x) (ad:=some ⟨g,off,none⟩) (n:=n) (c:=c) (lo:=none) (hi:=some y) (mx:=none) (a:=0) (b:=n') (m:=c) hT hS hx (.inl ⟨rfl,rfl⟩) (.inr ⟨y,kk,rfl,hy⟩) (.inl ⟨rfl,rfl⟩) (Nat.zero_le _) h2 (Nat.le_refl _) w
  have hcv:cutV sz (some ⟨g,off,none⟩) 0 n' c= .slice (some ⟨g,off,none⟩) n' c:=by
   unfold cutV
   split
   ·simp
   ·simp [Addr.add]
  rw[hcv]at hr
  refine ⟨((cur.toList.drop off).take (n'*sz)).drop (n*sz),w,hr,?_,hw.upd hi I I I (Nat.le_refl _) (fun _ _ _=>rfl) ?_ (fun k hk=> .inl hk)⟩
  ·rw [List.length_drop,List.length_take,List.length_drop,hcl,Nat.sub_mul];omega
  ·have e3:xs++((cur.toList.drop off).take (n'*sz)).drop (n*sz)=(cur.toList.drop off).take (n'*sz):=by
    rw[← htake]
    conv=>rhs;rw[← List.take_append_drop (n*sz) ((cur.toList.drop off).take (n'*sz))]
    rw[List.take_take,Nat.min_eq_left hsz1]
   refine ⟨?_,.inr ⟨g,off,c,cur,rfl,hg,h2,hcm,hcs,?_⟩⟩
   ·rw [e3,List.length_take,List.length_drop,hcl];omega
   ·exact e3.symm
theorem HL.jHc {t e sz bytes:TypeId} {x y:Operand} {g off n c:Nat} {xs:List Value} (a b:Nat) (i:Nat) (hi:zX H i=some (jK (.slice (some ⟨g,off,none⟩) n c) e sz n xs)) (hE:Elem P t e sz bytes) (hs:stat N ops ⟨some d,.call ⟨.builtin .append,#[x,y],#[t,t]⟩,ty,pos,af,gd⟩ σ=true)
  (hx:lookO σ x=some (kD sz (.slice (some ⟨g,off,none⟩) n c) 0 a)) (hy:lookO σ y=some (kD sz (.slice (some ⟨g,off,none⟩) n c) b n)) (hab:a≤b) (hbn:b≤n) (hnc':n≤c) (h1:∀u∈xs,u.oneCell'=true)
  (h:HL P N ops l ((d,.slice (some ⟨g,off,none⟩) (a+(n-b)) c)::σ) B (jA3 H i (jK (.slice (some ⟨g,off,none⟩) n c) e sz n (xs.take (a*sz)++xs.drop (b*sz)++xs.drop (a*sz+(n-b)*sz)))) K):HL P N ops (⟨some d,.call ⟨.builtin .append,#[x,y],#[t,t]⟩,ty,pos,af,gd⟩::l) σ B H K:=by
 refine HL.opX (α:=Unit) (fun _=> .slice (some ⟨g,off,none⟩) (a+(n-b)) c) (fun _=>jA3 H i (jK (.slice (some ⟨g,off,none⟩) n c) e sz n (xs.take (a*sz)++xs.drop (b*sz)++xs.drop (a*sz+(n-b)*sz)))) (fun _=>True) hs (fun w hw=>?_) (fun _ _=>h)
 have hvw:Vw w (.slice (some ⟨g,off,none⟩) n c) e sz n xs:=hw.nth hi
 obtain ⟨ti,z,g1,g2,g3,g4,g5⟩:=hE.info
 have hsub:=hvw.sub (l:=b) (h:=n) hbn (Nat.le_refl _)
 obtain ⟨hxl,hv⟩:=hvw
 rcases hv with ⟨hh,_⟩|⟨g',off',cap',cur,hh,hg,hnc,hcm,hcs,htake⟩
 ·cases hh
 ·cases hh
  have hcl:cur.toList.length=cur.size:=Array.length_toList
  have m1:a*sz≤b*sz:=Nat.mul_le_mul_right _ hab
  have m2:b*sz≤n*sz:=Nat.mul_le_mul_right _ hbn
  have m3:n*sz≤c*sz:=Nat.mul_le_mul_right _ hnc
  have hnl:(xs.drop (b*sz)).length=(n-b)*sz:=by rw[List.length_drop,hxl,Nat.sub_mul]
  have hnl2:((xs.drop (b*sz)).take ((n-b)*sz))=xs.drop (b*sz):=List.take_of_length_le (by omega)
  rw[hnl2]at hsub
  have hx0:kD sz (.slice (some ⟨g,off,none⟩) n c) 0 a= .slice (some ⟨g,off,none⟩) a c:=by
   simp only[kD];split<;>simp[Addr.add]
  rw[hx0]at hx
  rcases hsub.sl.1 with ⟨hz,h0,_⟩|⟨b2,off2,cap2,hv2,hc2⟩
  · -- nothing is appended
   have hbn':b=n:=by omega
   subst hbn'
   have hnil:xs.drop (b*sz)=[]:=List.drop_eq_nil_of_le (by omega)
   have hy2:∃a0 c0,kD sz (.slice (some ⟨g,off,none⟩) b c) b b= .slice (some a0) 0 c0:=by
    simp only[kD,Nat.sub_self,Option.map_some]
    split
    ·exact ⟨_,_,rfl⟩
    ·exact ⟨_,_,rfl⟩
   obtain ⟨a0,c0,ha0⟩:=hy2
   rw[ha0]at hy
   refine ⟨(),w,?_,trivial,hw.upd hi I I I (Nat.le_refl _) (fun _ _ _=>rfl) ?_ (fun k hk=> .inl hk)⟩
   ·have hac:a≤c:=by omega
    simp[execOp,resolve,jA hx,jA hy,invoke,builtin,Builtin.append_,run_underlying hE.slice,sizeOf,typeInfo,g1,Builtin.lenOf,Builtin.firstCells,loadCells,loadCellsFrom,hac,storeCells]
   ·have:xs.take (a*sz)++xs.drop (b*sz)++xs.drop (a*sz+(b-b)*sz)=xs:=by
     rw[hnil,Nat.sub_self,Nat.zero_mul,Nat.add_zero,List.append_nil,List.take_append_drop]
    rw[this]
    exact ⟨hxl,.inr ⟨g,off,c,cur,rfl,hg,hnc,hcm,hcs,htake⟩⟩
  ·have hadd:∀j,(⟨b2,off2,none⟩:Addr).add j=⟨b2,off2+j,none⟩:=fun j=>by unfold Addr.add;split<;>simp_all
   rw[hv2]at hy
   subst g3
   have hfit:a*ti.size+(xs.drop (b*ti.size)).length≤xs.length:=by rw[hnl,hxl,Nat.sub_mul];omega
   have hr:=KE (w:=w) (P:=P) t ty e ti hE.slice g1 g off a c cur hg ⟨b2,off2,none⟩ (n-b) cap2 (xs.drop (b*ti.size)) hnl (fun j u hu=>by rw[hadd];exact hc2 j u hu) (fun u hu=>h1 u (List.mem_of_mem_drop hu)) (by omega) (by rw[hxl]at hfit;omega)
   refine ⟨(),w.setRow g (cur.toList.take (off+a*ti.size)++xs.drop (b*ti.size)++cur.toList.drop (off+a*ti.size+(xs.drop (b*ti.size)).length)).toArray,?_,trivial,hw.upd hi I I I (by simp) (fun k hk hne=>setRow_other w g k _ (fun e=>hne (by rw[e];rfl))) ?_ (fun k hk=> .inl hk)⟩
   ·simp [execOp,resolve,jA hx,jA hy,invoke,builtin,hr]
   ·have:=Vw.put (us:=xs.drop (b*ti.size)) hxl hg hnc hcm hcs htake (a*ti.size) hfit
    rw[hnl]at this ⊢
    exact this
theorem jAD {z:Value} {sz n:Nat} (hzl:(jq z).length=sz) (hsz:0<sz):(Builtin.zeroCells z.cells n).toList=(List.replicate n (jq z)).flatten:=by
 apply List.ext_getElem?
 intro j
 have e1:z.cells=(jq z).toArray:=J7 z
 by_cases hj:j<n*sz
 ·rw [jEd _ (by omega) n j (by rw[hzl];exact hj)]
  rw[e1]
  have hmod:j%sz<sz:=Nat.mod_lt _ hsz
  have hlt:j<n*(jq z).length:=by rw[hzl];exact hj
  simp only[Builtin.zeroCells,List.size_toArray,Array.getElem?_toList,Array.getElem?_map,Array.getElem?_range,hzl]
  rw[if_pos hj,Option.map_some]
  rw[getElem!_pos (jq z).toArray (j%sz) (by simpa[hzl]using hmod)]
  rw[List.getElem?_eq_getElem (by rw[hzl];exact hmod)]
  congr 1
 ·have a1:(Builtin.zeroCells z.cells n).toList.length=n*sz:=by rw[Array.length_toList,size_zeroCells,e1,List.size_toArray,hzl]
  have a2:((List.replicate n (jq z)).flatten).length=n*sz:=by rw[jX,hzl]
  rw[List.getElem?_eq_none (by omega),List.getElem?_eq_none (by omega)]
theorem HL.jCr {t tn e sz bytes:TypeId} {x y:Operand} {g off n c:Nat} {xs:List Value} {kq kn:IntKind} {z:Value} {mm:Int} (a m:Nat) (i:Nat) (hi:zX H i=some (jK (.slice (some ⟨g,off,none⟩) n c) e sz n xs)) (hE:Elem P t e sz bytes) (hz:(P.info? e).bind (·.zero)=some z) (htn:P.underlying tn=some (.int kn)) (hs:stat N ops ⟨some d,.call ⟨.builtin .append,#[x,y],#[t,tn]⟩,ty,pos,af,gd⟩ σ=true)
  (hx:lookO σ x=some (kD sz (.slice (some ⟨g,off,none⟩) n c) 0 a)) (hy:lookO σ y=some (.int kq mm)) (hmm:mm=(m:Int)) (han:a≤n) (hroom:c<a+m) (hac:n≤c) (hm0:0<m) (hb:(a+m)*bytes≤140737488355328) (h63:a+m≤9223372036854775807)
  (h:∀v',HL P N ops l ((d,v')::σ) B (jK v' e sz (a+m) (xs.take (a*sz)++(List.replicate m (jq z)).flatten)::H) K):HL P N ops (⟨some d,.call ⟨.builtin .append,#[x,y],#[t,tn]⟩,ty,pos,af,gd⟩::l) σ B H K:=by
 subst hmm
 refine HL.opX (fun v=>v) (fun v'=>jK v' e sz (a+m) (xs.take (a*sz)++(List.replicate m (jq z)).flatten)::H) (fun _=>True) hs (fun w hw=>?_) (fun v' _=>h v')
 have hvw:Vw w (.slice (some ⟨g,off,none⟩) n c) e sz n xs:=hw.nth hi
 obtain ⟨ti,z',g1,g2,g3,g4,g5⟩:=hE.info
 have hzz:z'=z:=by rw[g1]at hz;simpa[g2]using hz
 subst hzz
 have hpos:=hE.pos
 have hsub:=hvw.sub (l:=0) (h:=a) (Nat.zero_le _) han
 have hx0:kD sz (.slice (some ⟨g,off,none⟩) n c) 0 a= .slice (some ⟨g,off,none⟩) a c:=by
  simp only[kD];split<;>simp[Addr.add]
 rw[hx0]at hx hsub
 simp only[Nat.zero_mul,List.drop_zero,Nat.sub_zero]at hsub
 obtain ⟨hxl,hv⟩:=hsub
 rcases hv with ⟨hh,_⟩|⟨g',off',cap',cur,hh,hg,hnc,hcm,hcs,htake⟩
 ·cases hh
 ·cases hh
  subst g3
  subst g4
  have holds:∀j u,(xs.take (a*ti.size))[j]? =some u→w.drew.cell? ((⟨g,off,none⟩:Addr).add j)=some u:=by
   intro j u hu
   have ha:(⟨g,off,none⟩:Addr).add j=⟨g,off+j,none⟩:=by unfold Addr.add;split<;>simp_all
   rw[ha]
   show w.cell? _=_
   rw[cell_of_row w g (off+j) cur e (0,0) hg]
   rw[← htake,List.getElem?_take]at hu
   split at hu
   ·simpa using hu
   ·cases hu
  have hzl:(jq z').length=ti.size:=by
   have:=g5;rw[J7]at this;simpa using this
  have hfl:((List.replicate m (jq z')).flatten).length=m*ti.size:=by rw[jX,hzl]
  have hzc:(Builtin.zeroCells z'.cells m).toList=(List.replicate m (jq z')).flatten:=jAD hzl hpos
  have hlen:(xs.take (a*ti.size)++(List.replicate m (jq z')).flatten).length=(a+m)*ti.size:=by rw[List.length_append,hxl,hfl,Nat.add_mul]
  have hf:=run_firstCells_some (P:=P) w.drew ti.size a ⟨g,off,none⟩ a c (xs.take (a*ti.size)) hxl holds
  have hmb:m*ti.bytes≤281474976710656:=by
   have:m*ti.bytes≤(a+m)*ti.bytes:=Nat.mul_le_mul_right _ (by omega)
   omega
  have hr:=Lib.run_append_grow_zeros (P:=P) w t tn ty e ti z' kq kn hE.slice htn g1 g2 (some ⟨g,off,none⟩) a c (xs.take (a*ti.size)) hf m hm0 hpos hroom (by omega) hmb (growslice_fits (by omega) hb)
  have hge:=grownCap_ge w (a+m) c e
  have hcm':grownCap w (a+m) c e≤maxLen:=grownCap_le_maxLen w (a+m) c e (by unfold maxLen;omega)
  refine ⟨_,_,?_,trivial,hw.push (w':=w.drew.alloc (.cells ((xs.take (a*ti.size)).toArray++Builtin.zeroCells z'.cells m++Builtin.zeroCells z'.cells (grownCap w (a+m) c e-(a+m))) e)) ⟨rfl,rfl,rfl,by simp,fun k hk=>heap_alloc_old w.drew _ hk⟩ ⟨hlen,.inr ⟨w.heap.size,0,_,_,rfl,heap_alloc_new w.drew _,hge,hcm',?_,?_⟩⟩ (fun k hk=>by cases hk;exact Nat.le_refl _)⟩
  ·simp [execOp,resolve,jA hx,jA hy,invoke,builtin,hr]
  ·simp only[Array.size_append,List.size_toArray,size_zeroCells,g5,hxl,← Nat.add_mul]
   have:a+m+(grownCap w (a+m) c e-(a+m))=grownCap w (a+m) c e:=by omega
   rw[this];omega
  ·simp only[Array.toList_append,List.append_assoc,List.drop_zero,hzc]
   rw[← List.append_assoc,← hlen]
   exact List.take_left
theorem jJm {w:World} {t e sz:TypeId} {ty:TypeId} {z:Value} {g o n c:Nat} {cur:Array Value} {e':TypeId} (ht:P.underlying t=some (.slice e)) (hz:(P.info? e).bind (·.zero)=some z) (hzl:(jq z).length=sz) (h1:J9 (jq z)=true)
  (hg:w.heap[g]? =some (.cells cur e' (0,0))) (hfit:o+n*sz≤cur.size) (hsz:0<sz):
  (Builtin.clear_ #[t] ty #[.slice (some ⟨g,o,none⟩) n c]).run P w= .ok (.tuple #[]) (w.setRow g (cur.toList.take o++(List.replicate n (jq z)).flatten++cur.toList.drop (o+n*sz)).toArray):=by
 have hzc:(Builtin.zeroCells z.cells n).toList=(List.replicate n (jq z)).flatten:=jAD hzl hsz
 have hfl:((List.replicate n (jq z)).flatten).length=n*sz:=by rw[jX,hzl]
 have hst:=run_storeCells_at P g o e' ((List.replicate n (jq z)).flatten) 0 cur w hg (by rw[hfl];omega) (fun u hu=>by
  obtain ⟨l,hl,hu⟩:=List.mem_flatten.1 hu
  rw[List.eq_of_mem_replicate hl]at hu
  exact jJ h1 u hu)
 simp only[Nat.add_zero,hfl]at hst
 cases n with
 |zero=>
  simp only[List.replicate_zero,List.flatten_nil,List.append_nil,Nat.zero_mul,Nat.add_zero,List.take_append_drop,Array.toArray_toList]
  rw[setRow_self w g cur e' (0,0) hg]
  simp[Builtin.clear_,run_underlying ht]
 |succ n=>
  simp[Builtin.clear_,run_underlying ht,jHh hz,hzc,hst]
theorem HL.jJS {t e sz:TypeId} {x:Operand} {z:Value} {g off n c:Nat} {xs:List Value} (a:Nat) (i:Nat) (hi:zX H i=some (jK (.slice (some ⟨g,off,none⟩) n c) e sz n xs)) (hs:stat N ops ⟨none,.call ⟨.builtin .clear,#[x],#[t]⟩,ty,pos,af,gd⟩ σ=true)
  (hT:P.underlying t=some (.slice e)) (hz:(P.info? e).bind (·.zero)=some z) (hzl:(jq z).length=sz) (h1:J9 (jq z)=true) (hsz:0<sz) (hx:lookO σ x=some (.slice (some ⟨g,off+a*sz,none⟩) (n-a) (c-a))) (han:a≤n)
  (h:HL P N ops l σ B (jA3 H i (jK (.slice (some ⟨g,off,none⟩) n c) e sz n (xs.take (a*sz)++(List.replicate (n-a) (jq z)).flatten))) K):HL P N ops (⟨none,.call ⟨.builtin .clear,#[x],#[t]⟩,ty,pos,af,gd⟩::l) σ B H K:=by
 refine HL.op0 (α:=Unit) (fun _=> .tuple #[]) (fun _=>jA3 H i (jK (.slice (some ⟨g,off,none⟩) n c) e sz n (xs.take (a*sz)++(List.replicate (n-a) (jq z)).flatten))) (fun _=>True) hs (fun w hw=>?_) (fun _ _=>h)
 obtain ⟨hxl,hv⟩:Vw w (.slice (some ⟨g,off,none⟩) n c) e sz n xs:=hw.nth hi
 rcases hv with ⟨hh,_⟩|⟨g',off',cap',cur,hh,hg,hnc,hcm,hcs,htake⟩
 ·cases hh
 ·cases hh
  have m1:a*sz+(n-a)*sz=n*sz:=by rw[← Nat.add_mul];congr 1;omega
  have m2:n*sz≤c*sz:=Nat.mul_le_mul_right _ hnc
  have hfl:((List.replicate (n-a) (jq z)).flatten).length=(n-a)*sz:=by rw[jX,hzl]
  have hr:=jJm (P:=P) (ty:=ty) (c:=c-a) (n:=n-a) (o:=off+a*sz) hT hz hzl h1 hg (by omega) hsz
  have hp:=Vw.put (us:=(List.replicate (n-a) (jq z)).flatten) hxl hg hnc hcm hcs htake (a*sz) (by rw[hfl,hxl];omega)
  rw[hfl,List.drop_eq_nil_of_le (by omega:xs.length≤a*sz+(n-a)*sz),List.append_nil]at hp
  refine ⟨(),w.setRow g (cur.toList.take (off+a*sz)++(List.replicate (n-a) (jq z)).flatten++cur.toList.drop (off+a*sz+(n-a)*sz)).toArray,?_,trivial,hw.upd hi I I I (by simp) (fun k hk hne=>setRow_other w g k _ (fun e=>hne (by rw[e];rfl))) hp (fun k hk=> .inl hk)⟩
  simp[execOp,resolve,jA hx,invoke,builtin,hr]
theorem jQw {t e sz:TypeId} {x:Operand} {lo hi:Option Operand} {n a b:Nat} {cs:List Value} (hv:Rd B H v cs n) (hT:P.underlying t=some (.slice e)) (hS:(P.info? e).map (·.size)=some sz) (hx:lookO σ x=some v)
  (hlo:(lo=none∧a=0)∨∃y k m,lo=some y∧lookO σ y=some (.int k m)∧m=(a:Int)) (hhi:(hi=none∧b=n)∨∃y k m,hi=some y∧lookO σ y=some (.int k m)∧m=(b:Int)) (h1:a≤b) (h2:b≤n):
  ∀w,Sat B H w→(execOp (evO σ) ⟨d',.slice t x lo hi none,ty,pos,af,gd⟩).run P w= .ok (.value (kD sz v a b)) w:=
 jQC hv hT hS hx (hlo.imp id fun ⟨y,k,m,h3,h4,h5⟩=>⟨y,k,h3,by rw[h4,h5]⟩) (hhi.imp id fun ⟨y,k,m,h3,h4,h5⟩=>⟨y,k,h3,by rw[h4,h5]⟩) h1 h2
theorem HL.KP {t e sz:TypeId} {x:Operand} {lo hi:Option Operand} {n:Nat} (a b:Nat) {cs:List Value} (hv:Rd B H v cs n) (hs:stat N ops ⟨some d,.slice t x lo hi none,ty,pos,af,gd⟩ σ=true) (hT:P.underlying t=some (.slice e)) (hS:(P.info? e).map (·.size)=some sz) (hx:lookO σ x=some v)
  (hlo:(lo=none∧a=0)∨∃y k m,lo=some y∧lookO σ y=some (.int k m)∧m=(a:Int)) (hhi:(hi=none∧b=n)∨∃y k m,hi=some y∧lookO σ y=some (.int k m)∧m=(b:Int)) (h1:a≤b) (h2:b≤n)
  (h:HL P N ops l ((d,kD sz v a b)::σ) B H K):HL P N ops (⟨some d,.slice t x lo hi none,ty,pos,af,gd⟩::l) σ B H K:=HL.rd hs (jQw hv hT hS hx hlo hhi h1 h2) h
theorem jSL {x:Operand} {t e:TypeId} {ad:Option Addr} {n c:Nat} (hT:P.underlying t=some (.slice e)) (hx:lookO σ x=some (.slice ad n c)) (w:World):
  (execOp (evO σ) ⟨d',.call ⟨.builtin .cap,#[x],#[t]⟩,ty,pos,af,gd⟩).run P w= .ok (.value (.int .i64 (c:Int))) w:=by
 simp[execOp,resolve,jA hx,invoke,builtin,Builtin.cap_,run_underlying hT,goInt]
theorem HL.jS4 {x:Operand} {t e:TypeId} {ad:Option Addr} {n c:Nat} (hs:stat N ops ⟨some d,.call ⟨.builtin .cap,#[x],#[t]⟩,ty,pos,af,gd⟩ σ=true) (hT:P.underlying t=some (.slice e)) (hx:lookO σ x=some (.slice ad n c))
  (h:HL P N ops l ((d,.int .i64 (c:Int))::σ) B H K):HL P N ops (⟨some d,.call ⟨.builtin .cap,#[x],#[t]⟩,ty,pos,af,gd⟩::l) σ B H K:=HL.rd hs (fun w _=>jSL hT hx w) h
theorem HL.ovl {g : FuncId} {fn : Func} {x y : Operand} {tys : Array TypeId} {tS tR e sz : TypeId} {ga oa na ca gb ob nb cb o2 n2 c2 : Nat} {xa xb : List Value} {ea sza eb szb : Nat} (i j : Nat) (hi : zX H i = some (jK (.slice (some ⟨ga, oa, none⟩) na ca) ea sza na xa)) (hj : zX H j = some (jK (.slice (some ⟨gb, ob, none⟩) nb cb) eb szb nb xb)) (hij : i ≠ j)
    (hs : stat N ops ⟨some d, .call ⟨.value (.func g), #[x, y], tys⟩, ty, pos, af, gd⟩ σ = true) (hx : lookO σ x = some (.slice (some ⟨ga, oa, none⟩) na ca)) (hy : lookO σ y = some (.slice (some ⟨gb, o2, none⟩) n2 c2))
    (hT : P.underlying tS = some (.slice e)) (hS : (P.info? e).map (·.size) = some sz) (hcb : 0 < cb) (hszb : 0 < szb)
    (hf : P.funcs[g]? = some fn) (hname : (fn.name == "runtime.NumGoroutine") = false) (hb : fn.body.isNone = true) (hn : Extern.findNext fn = none) (he : Extern.find fn = some (Extern.SlicesOverlaps.overlaps #[tS, tS] #[tR]))
    (h : HL P N ops l ((d, .bool false) :: σ) B H K) : HL P N ops (⟨some d, .call ⟨.value (.func g), #[x, y], tys⟩, ty, pos, af, gd⟩ :: l) σ B H K := by
  refine HL.rd hs (fun w hw => ?_) h
  have hz : ∀ w, (Go.sizeOf e).run P w = .ok sz w := by
    intro w
    cases hq : P.info? e with
    | none => rw [hq] at hS; cases hS
    | some ti => rw [hq] at hS; simp at hS; simp [sizeOf, typeInfo, hq, hS]
  have hne : ga ≠ gb := fun e' => hw.all.apart hi hj hij ga I (by rw [e']; rfl)
  obtain ⟨_, h1⟩ : Vw w (.slice (some ⟨ga, oa, none⟩) na ca) ea sza na xa := hw.nth hi
  obtain ⟨_, h2⟩ : Vw w (.slice (some ⟨gb, ob, none⟩) nb cb) eb szb nb xb := hw.nth hj
  rcases h1 with ⟨h1, _⟩ | ⟨ga', oa', ca', cura, h1, hga, hna, hca, hcsa, _⟩
  · cases h1
  cases h1
  rcases h2 with ⟨h2, _⟩ | ⟨gb', ob', cb', curb, h2, hgb, hnb, hcb', hcsb, _⟩
  · cases h2
  cases h2
  have hk : curb.size ≠ 0 := by
    have : 1 * 1 ≤ cb * szb := Nat.mul_le_mul hcb hszb
    omega
  have hov := Lib.run_overlaps_apart (P := P) w tS tR e hT sz hz ⟨ga, oa, none⟩ ⟨gb, o2, none⟩ na ca n2 c2 hne ea eb cura.size curb.size (by simp [World.shape?, hga]) (by simp [World.shape?, hgb]) hk (by simp [World.frozen?, hga]) (by simp [World.frozen?, hga])
  have hc := run_callFunc_extern hf hname hb hn he #[.slice (some ⟨ga, oa, none⟩) na ca, .slice (some ⟨gb, o2, none⟩) n2 c2] w
  rw [hov] at hc
  have e1 : evO σ (.func g) = .func (.func g) #[] #[] := rfl
  simp [execOp, resolve, Deferred.ofValue, e1, jA hx, jA hy, invoke, hc]
end
end Go.GX
namespace Go.GX
open Go.RowKit
def jHg (w:World):List Chunk→Prop
 |[]=>True
 |c::H=>c.p w∧(∀ d∈H,∀k,c.foot k→¬d.foot k)∧jHg w H
theorem jHg.mem {w:World}:∀ {H:List Chunk},jHg w H→∀c∈H,c.p w
 |[],_,c,hc=>by cases hc
 |d::H,h,c,hc=>by
  rcases List.mem_cons.1 hc with rfl|hc
  ·exact h.1
  ·exact jHg.mem h.2.2 c hc
theorem jHg.loc {w w':World}:∀ {H:List Chunk},(∀ k,Zi H k→w'.heap[k]? =w.heap[k]?)→jHg w H→jHg w' H
 |[],_,_=>trivial
 |c::H,h,ha=>⟨c.loc w w' (fun k hk=>h k ⟨c,List.mem_cons_self ..,hk⟩) ha.1,ha.2.1,jHg.loc (fun k ⟨d,hd,hk⟩=>h k ⟨d,List.mem_cons_of_mem _ hd,hk⟩) ha.2.2⟩
def jD (G:List Chunk):Chunk where
 foot:=Zi G
 p:=fun w=>jHg w G
 loc:=fun _ _ h hp=>jHg.loc h hp
 lt:=fun w hp k ⟨c,hc,hk⟩=>c.lt w (jHg.mem hp c hc) k hk
theorem zy.q {B:Base} {w:World}:∀ {H:List Chunk},zy B w H→jHg w H
 |[],_=>trivial
 |c::H,h=>⟨h.1,h.2.2.1,zy.q h.2.2.2⟩
theorem zy.of_q {B:Base} {w:World}:∀ {H:List Chunk},jHg w H→(∀ k,Zi H k→B.w.heap.size≤k∨B.X k)→zy B w H
 |[],_,_=>trivial
 |c::H,h,hb=>⟨h.1,fun k hk=>hb k ⟨c,List.mem_cons_self ..,hk⟩,h.2.1,zy.of_q h.2.2 fun k ⟨d,hd,hk⟩=>hb k ⟨d,List.mem_cons_of_mem _ hd,hk⟩⟩
theorem Sat.group {B:Base} {G H:List Chunk} {w:World} (h:Sat B (G++H) w):Sat B (jD G::H) w:=by
 obtain ⟨h1,h2,h3⟩:=h.all.split
 exact ⟨h.os,h.tape,h.output,h.size,h.block,h1.q,fun k ⟨c,hc,hk⟩=>(h1.mem c hc).2 k hk,fun d hd k ⟨c,hc,hk⟩=>h3 c hc d hd k hk,h2⟩
theorem Sat.ungroup {B:Base} {G H:List Chunk} {w:World} (h:Sat B (jD G::H) w):Sat B (G++H) w:=by
 obtain ⟨h1,h2,h3,h4⟩:=h.all
 exact ⟨h.os,h.tape,h.output,h.size,h.block,zy.append (zy.of_q h1 h2) h4 fun c hc d hd k hk=>h3 d hd k ⟨c,hc,hk⟩⟩
theorem zy.sub {B:Base} {w:World} {H:List Chunk} (ha:zy B w H) {H':List Chunk} (hs:∃L,H.Perm (H'++L)):zy B w H':=by
 obtain ⟨L,hp⟩:=hs
 have key:∀ {H K:List Chunk},H.Perm K→zy B w H→zy B w K:=by
  intro H K hp
  induction hp with
  |nil=>exact id
  |cons c hp ih=>exact fun h=>⟨h.1,h.2.1,fun d hd=>h.2.2.1 d (hp.mem_iff.2 hd),ih h.2.2.2⟩
  |swap c d l=>exact fun h=>⟨h.2.2.2.1,h.2.2.2.2.1,fun e he k hk=>by
    rcases List.mem_cons.1 he with rfl|he
    ·exact fun hk'=>h.2.2.1 c (List.mem_cons_self ..) k hk' hk
    ·exact h.2.2.2.2.2.1 e he k hk,h.1,h.2.1,fun e he=>h.2.2.1 e (List.mem_cons_of_mem _ he),h.2.2.2.2.2.2⟩
  |trans _ _ ih1 ih2=>exact fun h=>ih2 (ih1 h)
 exact (zy.split (key hp ha)).1
theorem Sat.sub {B:Base} {H H':List Chunk} {w:World} (h:Sat B H w) (hs:∃L,H.Perm (H'++L)):Sat B H' w:=⟨h.os,h.tape,h.output,h.size,h.block,h.all.sub hs⟩
theorem Ent.group {B:Base} {G H:List Chunk}:Ent B (G++H) (jD G::H):=fun _ h=>h.group
theorem Ent.jSM {B:Base} {A C H:List Chunk} {c:Chunk}:Ent B (jD (A++c::C)::H) (c::jD (A++C)::H):=fun w h=>by
 have h1:=h.ungroup
 have h2:Sat B ((A++C)++(c::H)) w:=h1.sub ⟨[],by
  simp only[List.append_assoc,List.cons_append,List.append_nil]
  exact List.Perm.append_left A (List.perm_middle.symm)⟩
 have h3:=h2.group
 exact h3.sub ⟨[],by simp only[List.append_nil];exact List.Perm.swap _ _ _⟩
theorem Ent.jKP {B:Base} {G G' H:List Chunk} (L:List Chunk) (hp:G.Perm (G'++L)):Ent B (jD G::H) (jD G'::H):=fun w h=>by
 have h1:=h.ungroup
 have h2:Sat B (G'++H) w:=h1.sub ⟨L,by
  refine (List.Perm.append_right H hp).trans ?_
  simp only[List.append_assoc]
  exact List.Perm.append_left G' List.perm_append_comm⟩
 exact h2.group
theorem Ent.jM0 {B:Base} {G G' H:List Chunk}:Ent B (jD G::jD G'::H) (jD (G'++G)::H):=fun w h=>by
 have h1:=h.ungroup
 have h2:Sat B (jD G'::(G++H)) w:=h1.sub ⟨[],by simp only[List.append_nil];exact List.perm_middle⟩
 have h3:=h2.ungroup
 rw[← List.append_assoc]at h3
 exact h3.group
theorem Ent.jKt {B:Base} {H:List Chunk}:Ent B H (jD []::H):=fun w h=>Sat.group (G:=[]) h
theorem Rd.group {B:Base} {H G:List Chunk} {v:Value} {e sz n:Nat} {xs:List Value} (i:Nat) (hi:zX H i=some (jD G)) (hc:jK v e sz n xs∈G):Rd B H v xs n:=fun w hw=>(show Vw w v e sz n xs from jHg.mem (hw.nth hi) _ hc).sl
section
variable {P : Program} {f : FuncId} {N : Nat} {k : List Item} {σ : Store} {B : Base} {H : List Chunk} {R : Ending → World → Prop} {ops l : List Oper} {o : Oper} {K : Act → World → Prop} {KQ : Act → Prop}
variable {d : Nat} {d' : Option Nat} {ty : TypeId} {pos : String} {af : Array Edge} {gd : Option (Nat × Bool)} {u v : Value}
def jRR (P:Program) (t:TypeId) (x y:Value):Option Bool:=match jF1 P t x y with
 |some b=>some b
 |none=>match x,y with
  | .agg ⟨us⟩,.agg ⟨vs⟩=>if P.stoodInHeld t=false then Zj P t us vs else none
  |_,_=>none
def Km (P : Program) (xs ys : List Value) : List Field → Option Bool
  | [] => some true
  | f :: fs => match f.name == "_", jFU P f.type xs f.offset, jFU P f.type ys f.offset with
    | false, some x, some y => match jRR P f.type x y, Km P xs ys fs with
      | some b, some r => some (b && r)
      | _, _ => none
    | _, _, _ => none
theorem jNC {t:TypeId} {x y:Value} {b:Bool} (h:jRR P t x y=some b) (n:Nat) (w:World):(Op.equalIn (n+2) t x y).run P w= .ok b w:=by
 unfold jRR at h
 split at h
 ·rename_i b' hb
  cases h
  exact (jDn hb (n+1) w).1
 ·split at h
  ·rename_i us vs hq
   by_cases hp:P.stoodInHeld t=false
   rotate_left
   ·rw [if_neg hp]at h;cases h
   rw[if_pos hp]at h
   unfold Zj at h
   split at h
   ·rename_i fl hu
    have hf:P.fieldsOf t=⟨fl⟩:=by unfold Program.fieldsOf;rw[hu]
    have:=run_equalIn_struct (P:=P) w (n+1) t ⟨us⟩ ⟨vs⟩ (by rw[hf,hu]) hp
    rw[this,hf]
    exact kg n w h
   ·cases h
  ·cases h
theorem jAx {xs ys : List Value} (n : Nat) (w : World) : ∀ {fs : List Field} {b : Bool}, Km P xs ys fs = some b → (Op.eqFields (n + 2) ⟨xs⟩ ⟨ys⟩ fs).run P w = .ok b w
  | [], b, h => by simp [Km] at h; subst h; simp [Op.eqFields]
  | f :: fs, b, h => by
    unfold Km at h
    split at h
    · rename_i x y hn hx hy
      split at h
      · rename_i b' r hb hr
        cases h
        have h1 := jNC hb n w
        have p1 := Z7 hx w
        have p2 := Z7 hy w
        have hn' : f.name ≠ "_" := by simpa using hn
        have ih := jAx n w hr
        simp only [Op.eqFields, hn', ne_eq, not_false_eq_true, if_true, Sem.run_bind, p1, p2, Result.andThen_ok, h1]
        cases b' <;> simp [ih]
      · cases h
    · cases h
def jAw (P:Program) (t:TypeId) (xs ys:List Value):Option Bool:=
 match P.underlying t with
 |some (.struct ⟨fl⟩)=>Km P xs ys fl
 |_=>none
theorem jEh {t:TypeId} {xs ys:List Value} {b:Bool} (hp:P.stoodInHeld t=false) (h:jAw P t xs ys=some b) (w:World):(Op.equal t (.agg ⟨xs⟩) (.agg ⟨ys⟩)).run P w= .ok b w:=by
 unfold jAw at h
 split at h
 ·rename_i fl hu
  have hf:P.fieldsOf t=⟨fl⟩:=by unfold Program.fieldsOf;rw[hu]
  have:=run_equalIn_struct (P:=P) w 9999 t ⟨xs⟩ ⟨ys⟩ (by rw[hf,hu]) hp
  unfold Op.equal
  show (Op.equalIn (9999+1) t (.agg ⟨xs⟩) (.agg ⟨ys⟩)).run P w=_
  rw[this,hf]
  exact jAx 9997 w h
 ·cases h
theorem jQy {t t':TypeId} {x y:Operand} {xs ys:List Value} {b:Bool} (hp:P.stoodInHeld t=false) (hm:P.eqGuardType P.depth t=false) (hx:lookO σ x=some (.agg ⟨xs⟩)) (hy:lookO σ y=some (.agg ⟨ys⟩)) (h:jAw P t xs ys=some b) (w:World):
  (execOp (evO σ) ⟨d',.binOp .neq t x y t',ty,pos,af,gd⟩).run P w= .ok (.value (.bool (!b))) w:=by
 have h1:=jEh hp h w
 have h2:=run_eqGuard_agg (P:=P) w .neq t x y ⟨xs⟩ ⟨ys⟩ hm
 simp[execOp,jA hx,jA hy,h2,binOp,h1]
theorem jh.neS2 {C:World→Prop} {t t':TypeId} {x y:Operand} {xs ys:List Value} {b:Bool} (hs:stat N ops ⟨some d,.binOp .neq t x y t',ty,pos,af,gd⟩ σ=true) (hp:P.stoodInHeld t=false) (hm:P.eqGuardType P.depth t=false) (hx:lookO σ x=some (.agg ⟨xs⟩)) (hy:lookO σ y=some (.agg ⟨ys⟩)) (hb:jAw P t xs ys=some b)
  (h:jh P N C ops l ((d,.bool (!b))::σ) KQ):jh P N C ops (⟨some d,.binOp .neq t x y t',ty,pos,af,gd⟩::l) σ KQ:=jh.op hs (fun w _=>jQy hp hm hx hy hb w) h
end
end Go.GX
namespace Go.GX
open Go.RowKit
structure Ed where
 a:Int
 b:Int
 deriving DecidableEq
def edC (e:Ed):List Value:=[.int .i64 e.a,.int .i64 e.b]
theorem jHS (e:Ed):(edC e).length=2:=rfl
namespace Tp
def okN (n:Int):Bool:=decide (n≥0)&&decide (n≤250)
def okE (e:Ed):Bool:=okN e.a&&okN e.b&&(e.a != e.b)
def link (e:Ed):Ed:=⟨if e.b<e.a then e.b else e.a,if e.b>e.a then e.b else e.a⟩
def same (a b:Ed):Bool:=(a.a==b.a&&(a.b==b.b&&true))||(a.a==b.b&&a.b==b.a)
theorem jB9 (x y:Ed):same x y=decide (link x=link y):=by
 obtain ⟨a,b⟩:=x
 obtain ⟨c,d⟩:=y
 simp only[same,link]
 rw[Bool.eq_iff_iff]
 simp only[Bool.or_eq_true,Bool.and_eq_true,beq_iff_eq,and_true,decide_eq_true_eq,Ed.mk.injEq]
 split<;>split<;>split<;>split<;>omega
def chk (pre:List Ed):List Ed→Int
 |[]=>0
 |e::r=>if okE e=false then 2 else if link e∈pre.map link then 9 else chk (pre++[e]) r
def check (l:List Ed):Int:=if l.length>256 then 3 else chk [] l
theorem jS3 {l:List Ed} {j:Nat} {e:Ed} (he:l[j]? =some e) (hok:okE e=true) (hn:link e ∉ (l.take j).map link):chk (l.take j) (l.drop j)=chk (l.take (j+1)) (l.drop (j+1)):=by
 rw[ko he,chk,if_neg (by rw[hok];decide),if_neg hn,jG he]
theorem jRX {l:List Ed} {j:Nat} {e:Ed} (he:l[j]? =some e) (hok:okE e=false):chk (l.take j) (l.drop j)=2:=by
 rw[ko he,chk,if_pos hok]
theorem jRW {l:List Ed} {j:Nat} {e:Ed} (he:l[j]? =some e) (hok:okE e=true) (hn:link e∈(l.take j).map link):chk (l.take j) (l.drop j)=9:=by
 rw[ko he,chk,if_neg (by rw[hok];decide),if_pos hn]
end Tp
end Go.GX
