/- Part of a proof. Conditions: none. -/
import Derived.Carry
import Derived.Deep.MidRow
import Derived.Deep.Quiet
import Derived.Laws.IdiomRangeMap
import Derived.Laws.MakeOwn
import Derived.Laws.StructEq
import Derived.Laws.Tables
import Derived.Lib.AppendStr
import Derived.Lib.AppendZerosOnto
import Derived.Lib.OthersKept
import Derived.Lib.Overlaps
import Derived.Lib.OwnBridge
import Derived.Lib.SlicesCompact
import Derived.MapKept
import Derived.Orders
import Derived.OrdersHeld
import Derived.Scope
import Derived.SizedLaws
import Derived.SliceStrings
import Derived.Sort.Grow
import Derived.StillTail
import Derived.Test.YtgfdoognildoeaaGreatProg
import Derived.Test.YtgfdoognildoeaaGreatShelf
import Derived.WalkKit
import Derived.WalkLawsBesides
import Derived.WalkSpells
set_option linter.unusedVariables false
set_option linter.unusedSectionVars false
set_option linter.unusedSimpArgs false
set_option maxRecDepth 100000
set_option maxHeartbeats 4000000
namespace Go.GX
theorem I {α : Sort _} {a : α} : a = a := rfl
open Go.RowKit
abbrev Store:=List (Nat×Value)
def look:Store->Nat->Option Value
 |[],_=>none
 |(t,v)::r,x=>match Nat.beq t x with
  |true=>some v
  |false=>look r x
def evO (σ:Store):Operand->Value
 | .tmp t=>match look σ t with
  |some v=>v
  |none=>undef
 | .const v=>v
 | .global g=> .pointer (some ⟨g,0,none⟩)
 | .func f=> .func (.func f) #[] #[]
def knows (σ:Store):Operand->Bool
 | .tmp t=>match look σ t with
  |some _=>true
  |none=>false
 |_=>true
structure Agr (N:Nat) (σ:Store) (a:Act):Prop where
 defers:a.defers=[]
 size:a.tmps.size=N
 slot:∀t v,look σ t=some v->a.tmps[t]? =some v
def jSH (σ:Store) (d:Option Tmp) (v:Value):Store:=
 match d with
 |some d=>(d,v)::σ
 |none=>σ
def ZQ (N:Nat):Option Tmp->Bool
 |some d=>Nat.blt d N
 |none=>true
theorem JM (t:Nat) (v:Value) (σ:Store) (x:Nat):look ((t,v)::σ) x=if t=x then some v else look σ x:=by
 conv=>lhs;unfold look
 by_cases h:t=x
 ·subst h;simp[Nat.beq_refl]
 ·have:Nat.beq t x=false:=by rw[<- Bool.not_eq_true];intro h';exact h (Nat.eq_of_beq_eq_true h')
  simp only[this,if_neg h]
theorem Agr.put {N:Nat} {σ:Store} {a:Act} (h:Agr N σ a) (d:Option Tmp) (v:Value) (hd:ZQ N d=true):Agr N (jSH σ d v) (a.put d v):=by
 cases d with
 |none=>exact h
 |some d=>
  refine ⟨h.defers,by simp[Act.put,h.size],fun t u hu=>?_⟩;simp only[jSH,JM]at hu;have hlt:d<a.tmps.size:=by rw[h.size];exact Nat.le_of_ble_eq_true hd
  split at hu
  ·rename_i e;subst e;cases hu;simp[Act.put,hlt]
  ·rename_i ne;simp only[Act.put];rw[Array.getElem?_setIfInBounds_ne ne];exact h.slot t u hu
theorem Agr.eval {N:Nat} {σ:Store} {a:Act} (h:Agr N σ a) (x:Operand) (hk:knows σ x=true):a.eval x=evO σ x:=by
 cases x with
 |tmp t=>
  simp only[knows]at hk;simp only[evO,Act.eval];cases hl:look σ t with
  |none=>simp[hl]at hk
  |some v=>simp[Array.getD_eq_getD_getElem?,h.slot t v hl]
 |const v=>rfl
 |global g=>rfl
 |func f=>rfl
theorem Agr.weaken {N:Nat} {σ σ':Store} {a:Act} (h:Agr N σ a) (hs:∀t v,look σ' t=some v->look σ t=some v):Agr N σ' a:=
 ⟨h.defers,h.size,fun t v hv=>h.slot t v (hs t v hv)⟩
def opsL:Op->List Operand
 | .alloc _| .ready _| .waits _=>[]
 | .move x| .assign x| .box _ x| .load _ x| .nilCheck x| .unOp _ _ x| .convert _ _ x| .sliceToArrayPointer _ x| .makeInterface _ x
 | .makeChan _ x| .fieldAddr _ x _| .field _ x _| .range _ x| .next x _| .entry x| .typeAssert x _ _ _| .extract x _| .panic x| .recv _ x _=>[x]
 | .pick c a b=>[c,a,b]
 | .build _ ps| .buildSlice _ _ ps=>ps.toList.map (·.2)
 | .store _ a v| .binOp _ _ a v _| .makeSlice _ a v| .indexAddr _ a v| .index _ a v| .lookup _ a v _| .mapEntry _ a v| .send a v=>[a,v]
 | .makeFunc _ first captured=>first.toList++captured.toList
 | .makeMap _ r=>r.toList
 | .slice _ x l h m=>[x]++l.toList++h.toList++m.toList
 | .mapUpdate _ m k v| .entryStore _ m k v| .insert _ m k v=>[m,k,v]
 | .call c| .go c| .defer c=>(match c.callee with| .value f=>[f]| .invoke r _=>[r]| .builtin _=>[])++c.args.toList
 | .select _ _=>[]
def Kj:Op->Bool
 | .select _ _=>false
 |_=>true
def allKnown (σ:Store):List Operand->Bool
 |[]=>true
 |x::r=>match knows σ x with
  |true=>allKnown σ r
  |false=>false
theorem jHG {σ:Store} {l:List Operand} (h:allKnown σ l=true):∀x∈l,knows σ x=true:=by
 induction l with
 |nil=>intro x hx;cases hx
 |cons y l ih=>
  intro x hx;unfold allKnown at h
  split at h
  ·rename_i hy
   rcases List.mem_cons.1 hx with rfl|hx
   ·exact hy
   ·exact ih h x hx
  ·cases h
theorem jPr (o:Op) (hs:Kj o=true):∀x∈o.operands,x∈opsL o:=by
 intro x hx;cases o<;>simp_all [Op.operands,opsL,Call.operands,Kj]<;>grind
theorem jBy {N:Nat} {σ:Store} {a:Act} (h:Agr N σ a) (o:Oper) (hs:Kj o.op=true) (hk:allKnown σ (opsL o.op)=true):execOp a.eval o=execOp (evO σ) o:=by
 refine execOp_congr o (fun cs b e=>by rw[e]at hs;cases hs) fun x hx=>?_
 exact h.eval x (jHG hk x (jPr o.op hs x hx))
def nth:List Oper->Nat->Option Oper
 |[],_=>none
 |o::_,0=>some o
 |_::r,n+1=>nth r n
theorem jM1 (l:List Oper) (n:Nat):nth l n=l[n]? :=by
 induction l generalizing n with
 |nil=>simp[nth]
 |cons o l ih=>cases n<;>simp[nth,ih]
def JK (ops:List Oper) (g:Option (Nat×Bool)) (σ:Store):Option Bool:=
 match g with
 |none=>some true
 |some (j,want)=>match nth ops j with
  |some o=>match o.dst with
   |some t=>match look σ t with
    |some (.bool b)=>match b,want with
     |true,true=>some true
     |false,false=>some true
     |true,false=>some false
     |false,true=>some false
    |some (.tuple _)=>some false
    |_=>none
   |none=>none
  |none=>none
theorem jk {N:Nat} {ops:List Oper} {o:Oper} {σ:Store} {a:Act} (h:Agr N σ a) {b:Bool} (hw:JK ops o.guard σ=some b):Region.wanted o (yielded ops.toArray a.tmps)=b:=by
 unfold Region.wanted;cases hg:o.guard with
 |none=>rw[hg]at hw;simpa[JK]using hw
 |some gw=>
  obtain ⟨j,want⟩:=gw;rw[hg]at hw;simp only[JK,jM1]at hw;simp only[yielded];cases ho:ops[j]? with
  |none=>simp[ho]at hw
  |some oj=>
   simp only[ho]at hw;cases hd:oj.dst with
   |none=>simp[hd]at hw
   |some t=>
    simp only[hd]at hw;cases hl:look σ t with
    |none=>simp[hl]at hw
    |some v=>
     simp only[hl]at hw;have:=h.slot t _ hl;cases v<;>simp at hw
     ·simp [ho,hd,this]
      rename_i c
      cases c<;>cases want<;>simp_all
     ·simp [ho,hd,this]
      exact hw
def jCE (P:Program) (f:FuncId) (k:List Item) (R:Ending->World->Prop) (a:Act) (w:World):Prop:=
 ∀(b:Frame) (cs:List Frame),b.fn=f->b.kind= .normal->∃e w' fr,R e w'/\Comes P (lone (b.at a k) cs w) (lone fr cs w') e/\fr.fn=f/\fr.leaving P w' e
def Run (P:Program) (f:FuncId) (N:Nat) (k:List Item) (σ:Store) (w:World) (R:Ending->World->Prop):Prop:=
 ∀a,Agr N σ a->jCE P f k R a w
section
variable {P : Program} {f : FuncId} {N : Nat} {k : List Item} {σ : Store} {w : World} {R : Ending -> World -> Prop}
theorem jCE.of_steps {a a':Act} {w':World} {k':List Item} (hs:∀(b:Frame) (cs:List Frame),Steps P (lone (b.at a k) cs w) (lone (b.at a' k') cs w')) (h:jCE P f k' R a' w'):jCE P f k R a w:=by
 intro b cs hb hk;obtain ⟨e,w'',fr,hR,hc,hf,hl⟩:=h b cs hb hk;exact ⟨e,w'',fr,hR,Comes.of_steps (hs b cs) hc,hf,hl⟩
theorem jBz {fn:Func} {c:Code} {args:Array Value} (hf:P.funcs[f]? =some fn) (hb:fn.body=some c) (hN:args.size<=fn.ntmps)
  (h:Run P f fn.ntmps [.code c] (args.toList.zipIdx.map fun (v,i)=>(i,v)) w R):Calls P f args w R:=by
 intro cs
 let b:Frame:={ (default:Frame)with fn:=f,kind:= .normal }
 have henter:Frame.enter P f args .normal=b.at { tmps:=args++Array.replicate (fn.ntmps-args.size) undef,defers:=[] } [.code c]:=by
  simp[Frame.enter,Frame.at,hf,hb,b]
 rw[henter];have lk:∀(l:List Value) (s t:Nat) (v:Value),look ((l.zipIdx s).map fun (v,i)=>(i,v)) t=some v->s<=t/\l[t-s]? =some v:=by
  intro l
  induction l with
  |nil=>intro s t v h;simp[look]at h
  |cons u l ih=>
   intro s t v h;simp only[List.zipIdx_cons,List.map_cons,JM]at h
   split at h
   ·rename_i e;subst e;cases h;simp
   ·rename_i ne
    obtain ⟨h1,h2⟩:=ih (s+1) t v h;refine ⟨by omega,?_⟩;have:t-s=(t-(s+1))+1:=by omega
    rw[this,List.getElem?_cons_succ];exact h2
 refine h _ ⟨rfl,by simp;omega,fun t v hv=>?_⟩ b cs I I;obtain ⟨_,h2⟩:=lk args.toList 0 t v hv;simp only[Nat.sub_zero,Array.getElem?_toList]at h2;have hlt:t<args.size:=(Array.getElem?_eq_some_iff.1 h2).1;rw[Array.getElem?_append_left hlt];exact h2
theorem Run.seq {x y:Code} (h:Run P f N (.code x:: .code y::k) σ w R):Run P f N (.code (.seq x y)::k) σ w R:=
 fun a ha=> .of_steps (fun _ _=> .one step_seq) (h a ha)
theorem Run.skip (h:Run P f N k σ w R):Run P f N (.code .skip::k) σ w R:=fun a ha=> .of_steps (fun _ _=> .one step_skip) (h a ha)
theorem Run.inBlock {id:Nat} (h:Run P f N k σ w R):Run P f N (.inBlock id::k) σ w R:=fun a ha=> .of_steps (fun _ _=> .one step_inBlock) (h a ha)
theorem Run.block {id:Nat} {c:Code} (h:Run P f N (.code c:: .inBlock id::k) σ w R):Run P f N (.code (.block id c)::k) σ w R:=
 fun a ha=> .of_steps (fun _ _=> .one step_block) (h a ha)
theorem Run.exit {id:Nat} {k':List Item} (he:exitTo id k=some k') (h:Run P f N k' σ w R):Run P f N (.code (.exit id)::k) σ w R:=
 fun a ha=> .of_steps (fun _ _=> .one (step_exit he)) (h a ha)
theorem Run.cond {t:Nat} {b:Bool} {x y:Code} (hl:look σ t=some (.bool b)) (ht:b=true->Run P f N (.code x::k) σ w R) (hf:b=false->Run P f N (.code y::k) σ w R):
  Run P f N (.code (.cond (.tmp t) x y)::k) σ w R:=by
 intro a ha;have hv:a.eval (.tmp t)= .bool b:=by rw[ha.eval (.tmp t) (by simp[knows,hl])];simp[evO,hl]
 refine .of_steps (fun _ _=> .one (step_cond hv)) ?_;cases b
 ·exact hf I a ha
 ·exact ht I a ha
theorem Yf {t:Nat} {x y:Code} (hl:look σ t=some (.bool true)) (h:Run P f N (.code x::k) σ w R):Run P f N (.code (.cond (.tmp t) x y)::k) σ w R:=
 Run.cond hl (fun _=>h) (fun e=>by cases e)
theorem Yg {t:Nat} {x y:Code} (hl:look σ t=some (.bool false)) (h:Run P f N (.code y::k) σ w R):Run P f N (.code (.cond (.tmp t) x y)::k) σ w R:=
 Run.cond hl (fun e=>by cases e) (fun _=>h)
def Sub:Store->Store->Prop
 |[],_=>True
 |(t,v)::r,σ=>look σ t=some v/\Sub r σ
theorem Sub.spec:∀ {σ' σ:Store},Sub σ' σ->∀t v,look σ' t=some v->look σ t=some v
 |[],_,_,t,v,h=>by simp[look]at h
 |(t',v')::r,σ,hs,t,v,h=>by
  rw[JM]at h
  split at h
  ·rename_i e;subst e;cases h;exact hs.1
  ·exact Sub.spec hs.2 t v h
theorem Run.sub {σ':Store} (hs:Sub σ' σ) (h:Run P f N k σ' w R):Run P f N k σ w R:=fun a ha=>h a (ha.weaken hs.spec)
theorem Run.loop {c:Code} {ι:Type} (Inv:ι->World->Prop) (st:ι->Store) (μ:ι->Nat) (i0:ι) (h0:Inv i0 w) (hσ:Sub (st i0) σ)
  (round:∀i w,Inv i w->(∀ i' w' σ',Inv i' w'->μ i'<μ i->Sub (st i') σ'->Run P f N (.inLoop c::k) σ' w' R)->Run P f N (.code c:: .inLoop c::k) (st i) w R):
  Run P f N (.code (.loop c)::k) σ w R:=by
 have key:∀n i w,μ i=n->Inv i w->Run P f N (.code c:: .inLoop c::k) (st i) w R:=by
  intro n
  induction n using Nat.strongRecOn with
  |_ n ih=>
   intro i w hn hI;refine round i w hI fun i' w' σ' hI' hlt hsub=>?_
   have:=ih (μ i') (by omega) i' w' I hI'
   exact fun a ha=> .of_steps (fun _ _=> .one step_inLoop) (this a (ha.weaken hsub.spec))
 exact fun a ha=> .of_steps (fun _ _=> .one step_loop) (key _ i0 w I h0 a (ha.weaken hσ.spec))
def jPF (P:Program) (w:World) (σ:Store):List ResultVar->List Value->Prop
 |[],[]=>True
 | .tmp t::r,v::vs=>look σ t=some v/\jPF P w σ r vs
 | .cell a t::r,v::vs=>(∃ p,look σ a=some (.pointer (some p))/\(loadVar t p).run P w= .ok v w)/\jPF P w σ r vs
 |_,_=>False
def ZJ:List Value->Value
 |[v]=>v
 |vs=> .tuple vs.toArray
theorem jCk {fn:Func} {a:Act} (ha:Agr N σ a) {l:List ResultVar} (hl:fn.results=l.toArray) {vs:List Value} (h:jPF P w σ l vs):(results fn a.tmps).run P w= .ok (ZJ vs) w:=by
 have key:∀(g:ResultVar->Sem Value),(∀ t,g (.tmp t)=pure (a.tmps.getD t undef))->(∀ b t,g (.cell b t)=(do loadVar t (<- asAddr (a.tmps.getD b undef))))->
   ∀(l:List ResultVar) (vs:List Value),jPF P w σ l vs->(l.mapM g).run P w= .ok vs w:=by
  intro g hg1 hg2 l
  induction l with
  |nil=>intro vs h;cases vs<;>simp_all [jPF]
  |cons x l ih=>
   intro vs h;cases vs with
   |nil=>cases x<;>simp[jPF]at h
   |cons v vs=>
    cases x with
    |tmp t=>
     obtain ⟨h1,h2⟩:=h;have e:a.tmps.getD t undef=v:=by rw[Array.getD_eq_getD_getElem?,ha.slot t v h1];rfl
     rw[List.mapM_cons,hg1 t,e]
     simp[ih vs h2]
    |cell b t=>
     obtain ⟨⟨p,h1,h2⟩,h3⟩:=h;have e:a.tmps.getD b undef= .pointer (some p):=by rw[Array.getD_eq_getD_getElem?,ha.slot b _ h1];rfl
     rw[List.mapM_cons,hg2 b t,e]
     simp[ih vs h3,asAddr,h2]
 unfold results;rw[hl,List.mapM_toArray];rw[Sem.run_bind,Sem.run_map,key _ ?_ ?_ l vs h]
 ·rcases vs with _|⟨v,_|⟨u,vs⟩⟩<;>simp[ZJ]
 ·intro _;rfl
 ·intro _ _;rfl
theorem yD {fn:Func} {a:Act} {v:Value} (hf:P.funcs[f]? =some fn) (hd:a.defers=[]) (hr:(results fn a.tmps).run P w= .ok v w) (hR:R (.returned v) w):jCE P f (.code .ret::k) R a w:=by
 intro b cs hb hk;exact ⟨.returned v,w,_,hR,.one step_ret,hb,rfl,hd,hk,fn,by simpa[Frame.at,hb]using hf,hr⟩
theorem YI {fn:Func} {a:Act} {v:Value} (hf:P.funcs[f]? =some fn) (hd:a.defers=[]) (hr:(results fn a.tmps).run P w= .ok v w) (hR:R (.returned v) w):jCE P f [] R a w:=by
 intro b cs hb hk;exact ⟨.returned v,w,_,hR,.one step_end,hb,rfl,hd,hk,fn,by simpa[Frame.at,hb]using hf,hr⟩
theorem Run.ret {fn:Func} {l:List ResultVar} (hf:P.funcs[f]? =some fn) (hl:fn.results=l.toArray) (vs:List Value) (hr:jPF P w σ l vs) (hR:R (.returned (ZJ vs)) w):Run P f N (.code .ret::k) σ w R:=
 fun _ ha=>yD hf ha.defers (jCk ha hl hr) hR
theorem Run.fin {fn:Func} {l:List ResultVar} (hf:P.funcs[f]? =some fn) (hl:fn.results=l.toArray) (vs:List Value) (hr:jPF P w σ l vs) (hR:R (.returned (ZJ vs)) w):Run P f N [] σ w R:=
 fun _ ha=>YI hf ha.defers (jCk ha hl hr) hR
end
def JH (P:Program) (N:Nat) (ops l:List Oper) (σ:Store) (w:World) (K:Act->World->Prop):Prop:=
 ∀a,Agr N σ a->wpList P ops.toArray (fun e a' w'=>e= .normal/\K a' w') l a w
def stat (N:Nat) (ops:List Oper) (o:Oper) (σ:Store):Bool:=
 match Kj o.op,allKnown σ (opsL o.op),ZQ N o.dst,JK ops o.guard σ with
 |true,true,true,some true=>true
 |_,_,_,_=>false
theorem zw {N:Nat} {ops:List Oper} {o:Oper} {σ:Store} (h:stat N ops o σ=true):Kj o.op=true/\allKnown σ (opsL o.op)=true/\ZQ N o.dst=true/\JK ops o.guard σ=some true:=by
 unfold stat at h
 split at h
 ·exact ⟨by assumption,by assumption,by assumption,by assumption⟩
 ·cases h
section
variable {P : Program} {f : FuncId} {N : Nat} {k : List Item} {σ : Store} {w w' : World} {R : Ending -> World -> Prop} {ops l : List Oper} {o : Oper} {K : Act -> World -> Prop}
theorem QU {c:Code} {a:Act} (h:c.wp P (fun e a' w'=>e= .normal/\jCE P f k R a' w') a w):jCE P f (.code c::k) R a w:=by
 intro b cs hb hk;obtain ⟨e,a',w',⟨rfl,hq⟩,harr⟩:=h b k cs;obtain ⟨e,w'',fr,hR,hc,hf,hl⟩:=hq b cs hb hk;exact ⟨e,w'',fr,hR,Comes.of_steps harr hc,hf,hl⟩
theorem Run.region {id:Nat} (h:JH P N ops ops σ w (jCE P f k R)):Run P f N (.code (.region id ops.toArray false)::k) σ w R:=
 fun a ha=>QU (wp_region_lit (h a ha))
theorem JH.nil (h:Run P f N k σ w R):JH P N ops [] σ w (jCE P f k R):=fun a ha=>wpList_nil ⟨rfl,h a ha⟩
theorem YD {v:Value} (hs:stat N ops o σ=true) (hr:(execOp (evO σ) o).run P w= .ok (.value v) w') (h:JH P N ops l (jSH σ o.dst v) w' K):JH P N ops (o::l) σ w K:=by
 intro a ha;obtain ⟨h1,h2,h3,h4⟩:=zw hs;refine wpList_step fun K' hK'=>?_
 rw[if_pos (jk ha h4)];unfold Oper.wp;rw[jBy ha o h1 h2,hr];exact hK' _ _ (h _ (ha.put o.dst v h3))
theorem JH.op {v:Value} {d:Nat} {op:Op} {ty:TypeId} {pos:String} {af:Array Edge} {gd:Option (Nat×Bool)} (hs:stat N ops ⟨some d,op,ty,pos,af,gd⟩ σ=true)
  (hr:(execOp (evO σ) ⟨some d,op,ty,pos,af,gd⟩).run P w= .ok (.value v) w') (h:JH P N ops l ((d,v)::σ) w' K):JH P N ops (⟨some d,op,ty,pos,af,gd⟩::l) σ w K:=
 YD hs hr h
theorem Yr {v:Value} {op:Op} {ty:TypeId} {pos:String} {af:Array Edge} {gd:Option (Nat×Bool)} (hs:stat N ops ⟨none,op,ty,pos,af,gd⟩ σ=true)
  (hr:(execOp (evO σ) ⟨none,op,ty,pos,af,gd⟩).run P w= .ok (.value v) w') (h:JH P N ops l σ w' K):JH P N ops (⟨none,op,ty,pos,af,gd⟩::l) σ w K:=
 YD hs hr h
def lookO (σ:Store):Operand->Option Value
 | .tmp t=>look σ t
 | .const v=>some v
 | .global g=>some (.pointer (some ⟨g,0,none⟩))
 | .func f=>some (.func (.func f) #[] #[])
theorem jB {x:Operand} {v:Value} (h:lookO σ x=some v):evO σ x=v:=by
 cases x<;>simp_all [lookO,evO]
theorem Yq {op:Op} {ty:TypeId} {pos:String} {af:Array Edge} {gd:Option (Nat×Bool)} (hs:stat N ops ⟨none,op,ty,pos,af,gd⟩ σ=true)
  (hr:(execOp (evO σ) ⟨none,op,ty,pos,af,gd⟩).run P w= .ok .skip w') (h:JH P N ops l σ w' K):JH P N ops (⟨none,op,ty,pos,af,gd⟩::l) σ w K:=by
 intro a ha;obtain ⟨h1,h2,h3,h4⟩:=zw hs;refine wpList_step fun K' hK'=>?_
 rw[if_pos (jk ha h4)];unfold Oper.wp;rw[jBy ha _ h1 h2,hr];exact hK' _ _ (h _ (ha.put none undef h3))
theorem JH.skip {d:Nat} {op:Op} {ty:TypeId} {pos:String} {af:Array Edge} {gd:Option (Nat×Bool)} (hw:JK ops gd σ=some false) (hd:ZQ N (some d)=true)
  (h:JH P N ops l ((d,undef)::σ) w K):JH P N ops (⟨some d,op,ty,pos,af,gd⟩::l) σ w K:=by
 intro a ha;refine wpList_step fun K' hK'=>?_
 rw[jk ha (o:=⟨some d,op,ty,pos,af,gd⟩) hw];exact hK' _ _ (h _ (ha.put (some d) undef hd))
theorem YM {op:Op} {ty:TypeId} {pos:String} {af:Array Edge} {gd:Option (Nat×Bool)} (hw:JK ops gd σ=some false)
  (h:JH P N ops l σ w K):JH P N ops (⟨none,op,ty,pos,af,gd⟩::l) σ w K:=by
 intro a ha;refine wpList_step fun K' hK'=>?_
 rw[jk ha (o:=⟨none,op,ty,pos,af,gd⟩) hw];exact hK' _ _ (h _ ha)
theorem JH.enter {g:FuncId} {args:Array Value} (hs:stat N ops o σ=true) (hr:(execOp (evO σ) o).run P w= .ok (.enter g args) w)
  (h:Calls P g args w fun e w'=>∃v,e= .returned v/\JH P N ops l (jSH σ o.dst v) w' K):JH P N ops (o::l) σ w K:=by
 intro a ha;obtain ⟨h1,h2,h3,h4⟩:=zw hs;refine wpList_step fun K' hK'=>?_
 rw[if_pos (jk ha h4)];unfold Oper.wp;rw[jBy ha o h1 h2,hr];refine h.mono fun e w'' ⟨v,he,hv⟩=>?_
 subst he;exact hK' _ _ (hv _ (ha.put o.dst v h3))
theorem jJa {g : FuncId} {fn : Func} {c : Code} (ρ : Operand -> Value) {d : Option Tmp} {args : List Operand} {tys : Array TypeId} {ty : TypeId} {pos : String} {af : Array Edge} {gd : Option (Nat × Bool)}
    (hf : P.funcs[g]? = some fn) (hb : fn.body = some c) (hn : (fn.name == "runtime.NumGoroutine") = false) :
    (execOp ρ ⟨d, .call ⟨.value (.func g), args.toArray, tys⟩, ty, pos, af, gd⟩).run P w = .ok (.enter g ((args.map ρ).toArray)) w \/ ρ (.func g) ≠ .func (.func g) #[] #[] := by
  by_cases h : ρ (.func g) = .func (.func g) #[] #[]
  · left
    have hn' : ¬ fn.name = "runtime.NumGoroutine" := by simpa using hn
    simp [execOp, resolve, h, Deferred.ofValue, invoke, callFunc, hf, hn', hb]
  · exact .inr h
def vals (σ:Store):List Operand->Option (List Value)
 |[]=>some []
 |x::r=>match lookO σ x with
  |some v=>match vals σ r with
   |some vs=>some (v::vs)
   |none=>none
  |none=>none
theorem jCY {l:List Operand} {vs:List Value} (h:vals σ l=some vs):l.map (evO σ)=vs:=by
 induction l generalizing vs with
 |nil=>simp[vals]at h;simp[h]
 |cons x r ih=>
  simp only[vals]at h
  split at h
  ·rename_i v hv
   split at h
   ·rename_i us hu
    cases h
    simp[jB hv,ih hu]
   ·cases h
  ·cases h
structure IsFn (P : Program) (g : FuncId) : Prop where
  out : ∃ fn c, P.funcs[g]? = some fn /\ fn.body = some c /\ (fn.name == "runtime.NumGoroutine") = false
theorem JH.call {g:FuncId} {d:Nat} {args:List Operand} {a1:List Value} {tys:Array TypeId} {ty:TypeId} {pos:String} {af:Array Edge} {gd:Option (Nat×Bool)} (hg:IsFn P g)
  (hs:stat N ops ⟨some d,.call ⟨.value (.func g),args.toArray,tys⟩,ty,pos,af,gd⟩ σ=true) (ha:vals σ args=some a1)
  (h:Calls P g a1.toArray w fun e w'=>∃v,e= .returned v/\JH P N ops l ((d,v)::σ) w' K):JH P N ops (⟨some d,.call ⟨.value (.func g),args.toArray,tys⟩,ty,pos,af,gd⟩::l) σ w K:=by
 obtain ⟨fn,c,hf,hb,hn⟩:=hg.out;have:=(jJa (P:=P) (w:=w) (d:=some d) (tys:=tys) (ty:=ty) (pos:=pos) (af:=af) (gd:=gd) (args:=args) (evO σ) hf hb hn).resolve_right (fun h=>h I);rw[jCY ha]at this;exact JH.enter hs this h
def Z5 (tj:Nat):List Oper->Option Nat
 |[]=>none
 |o::r=>match o.op with
  | .pick (.tmp t) _ _=>match Nat.beq t tj with
   |true=>some 0
   |false=>match Z5 tj r with
    |some n=>some (n+1)
    |none=>none
  |_=>match Z5 tj r with
   |some n=>some (n+1)
   |none=>none
def Zp (x:Nat):List Nat->Bool
 |[]=>false
 |y::r=>match Nat.beq x y with
  |true=>true
  |false=>Zp x r
theorem kJ {x:Nat} {l:List Nat} (h:Zp x l=true):x∈l:=by
 induction l with
 |nil=>cases h
 |cons y r ih=>
  unfold Zp at h
  split at h
  ·rename_i e;rw[Nat.eq_of_beq_eq_true e];exact List.mem_cons_self ..
  ·exact List.mem_cons_of_mem _ (ih h)
def jDY (ops:List Oper) (tj:Nat) (want:Bool):List Oper->List Nat->Bool
 |[],_=>true
 |o::r,T=>match o.guard,o.dst with
  |some (j,wt),some d=>match nth ops j with
   |some oj=>match oj.dst with
    |some t=>match (Nat.beq t tj&&(wt==want))||Zp t T,Nat.beq d tj with
     |true,false=>jDY ops tj want r (d::T)
     |_,_=>false
    |none=>false
   |none=>false
  |_,_=>false
def jGT (σ:Store):List Oper->Bool
 |[]=>true
 |o::r=>match o.dst with
  |some d=>match look σ d with
   |none=>jGT σ r
   |some _=>false
  |none=>jGT σ r
theorem jEk {l₁ l₂:List Oper} {a:Act} {ops:Array Oper} {K:Act->World->Prop}
  (h:wpList P ops (fun e a' w'=>e= .normal/\wpList P ops (fun e a' w'=>e= .normal/\K a' w') l₂ a' w') l₁ a w):
  wpList P ops (fun e a' w'=>e= .normal/\K a' w') (l₁++l₂) a w:=by
 have nolet:∀(K:Act->World->Prop),¬LetsOut (fun e a' w'=>e= .normal/\K a' w'):=fun K ⟨_,_,h,_⟩=>by cases h
 induction l₁ generalizing a w with
 |nil=>exact h.2
 |cons o l ih=>
  simp only[wpList,List.cons_append]at h ⊢
  split
  ·rename_i hw
   rw[if_pos hw]at h;rcases h with h|h
   ·left
    unfold Oper.wp at h ⊢;generalize (execOp a.eval o).run P w=r at*;cases r with
    |ok n w'=>
     cases n<;>simp only[Oper.upon]at h ⊢
     case value v=>exact ih h
     case skip=>exact ih h
     case defer=>exact ih h
     case enter g args=>
      refine Calls.mono h fun e w'' he=>?_
      cases e with
      |returned v=>exact ih he
      |panicked c=>exact absurd he.1 (by simp)
      |outgrown=>exact absurd he (nolet _)
     case row r args=>exact Rows.mono h fun _ _ he=>ih he
    |halt x w'=>
     cases x<;>simp only[Oper.upon]at h
     exact absurd h.1 (by simp)
   ·exact absurd h.2 (nolet _)
  ·rename_i hw
   rw[if_neg hw]at h;exact ih h
theorem jKN {tj:Nat} {want b:Bool} (hb:b≠want) {Q:Exit->Act->World->Prop}:∀(l:List Oper) (T:List Nat) (σ:Store) (a:Act),Agr N σ a->look σ tj=some (.bool b)->
  (∀ t∈T,a.tmps[t]? =some undef)->jDY ops tj want l T=true->jGT σ l=true->(∀ o∈l,ZQ N o.dst=true)->
  (∀ a',Agr N σ a'->Q .normal a' w)->wpList P ops.toArray Q l a w:=by
 intro l
 induction l with
 |nil=>intro T σ a ha _ _ _ _ _ h;exact h a ha
 |cons o l ih=>
  intro T σ a ha hl hT hoff hnew hN h;simp only[jDY]at hoff;have hNo:=hN o (List.mem_cons_self ..)
  split at hoff
  ·rename_i j wt d hg hd
   split at hoff
   ·rename_i oj hoj
    split at hoff
    ·rename_i t ht
     split at hoff
     ·rename_i h1 h2
      have hne:d≠tj:=by intro e;subst e;simp at h2
      have hnw:Region.wanted o (yielded ops.toArray a.tmps)=false:=by
       unfold Region.wanted;rw[hg];simp only[yielded];rw[jM1]at hoj;simp only[Bool.or_eq_true,Bool.and_eq_true]at h1;rcases h1 with ⟨e1,e2⟩|e1
       ·have e3:=Nat.eq_of_beq_eq_true e1;have e4:=eq_of_beq e2;subst e3;subst e4
        simp[hoj,ht,ha.slot t _ hl,hb]
       ·have:=hT t (kJ e1)
        simp[hoj,ht,this,undef]
      simp only[wpList,hnw];simp only[jGT,hd]at hnew
      split at hnew
      ·rename_i hlk
       have hdl:d<N:=by rw[hd]at hNo;exact Nat.le_of_ble_eq_true hNo
       have hput:Agr N σ (a.put o.dst undef):=by
        refine ⟨by rw[hd];exact ha.defers,by rw[hd];simp[Act.put,ha.size],fun t' u hu=>?_⟩;have:d≠t':=by intro e;subst e;rw[hlk]at hu;cases hu
        rw[hd];simp only[Act.put];rw[Array.getElem?_setIfInBounds_ne this];exact ha.slot t' u hu
       refine ih (d::T) σ _ hput hl ?_ hoff hnew (fun o ho=>hN o (List.mem_cons_of_mem _ ho)) h;intro t' ht';rw[hd];simp only[Act.put]
       by_cases e:d=t'
       ·subst e;simp[ha.size,hdl]
       ·rw [Array.getElem?_setIfInBounds_ne e];rcases List.mem_cons.1 ht' with e'|ht'
        ·exact absurd e'.symm e
        ·exact hT t' ht'
      ·cases hnew
     ·cases hoff
    ·cases hoff
   ·cases hoff
  ·cases hoff
def jG4 (N:Nat):List Oper->Bool
 |[]=>true
 |o::r=>match ZQ N o.dst with
  |true=>jG4 N r
  |false=>false
theorem jDJ {l:List Oper} (h:jG4 N l=true):∀o∈l,ZQ N o.dst=true:=by
 induction l with
 |nil=>intro o ho;cases ho
 |cons x l ih=>
  unfold jG4 at h
  split at h
  ·rename_i hx
   intro o ho;rcases List.mem_cons.1 ho with rfl|ho
   ·exact hx
   ·exact ih h o ho
  ·cases h
def gslot (ops:List Oper) (o:Oper):Option (Nat×Bool):=
 match o.guard with
 |some (j,want)=>match nth ops j with
  |some oj=>match oj.dst with
   |some t=>some (t,want)
   |none=>none
  |none=>none
 |none=>none
def jCA (N:Nat) (ops:List Oper) (tj:Nat) (want:Bool) (n:Nat) (σ:Store) (l:List Oper):Bool:=
 match jDY ops tj want (l.take n) [],jGT σ (l.take n),jG4 N (l.take n)with
 |true,true,true=>true
 |_,_,_=>false
theorem jEh {tj n:Nat} {want:Bool} (h:jCA N ops tj want n σ l=true):jDY ops tj want (l.take n) []=true/\jGT σ (l.take n)=true/\jG4 N (l.take n)=true:=by
 unfold jCA at h
 split at h
 ·exact ⟨by assumption,by assumption,by assumption⟩
 ·cases h
theorem jFW {l:List Oper} {a:Act} {ops:Array Oper} {K K':Act->World->Prop} (hK:∀a w,K a w->K' a w)
  (h:wpList P ops (fun e a' w'=>e= .normal/\K a' w') l a w):wpList P ops (fun e a' w'=>e= .normal/\K' a' w') l a w:=by
 have nolet:∀(K:Act->World->Prop),¬LetsOut (fun e a' w'=>e= .normal/\K a' w'):=fun K ⟨_,_,h,_⟩=>by cases h
 induction l generalizing a w with
 |nil=>exact ⟨rfl,hK _ _ h.2⟩
 |cons o l ih=>
  unfold wpList at h ⊢
  split
  ·rename_i hw
   rw[if_pos hw]at h;rcases h with h|h
   ·left
    unfold Oper.wp at h ⊢;generalize (execOp a.eval o).run P w=r at*;cases r with
    |ok n w'=>
     cases n<;>simp only[Oper.upon]at h ⊢
     case value v=>exact ih h
     case skip=>exact ih h
     case defer=>exact ih h
     case enter g args=>
      refine Calls.mono h fun e w'' he=>?_
      cases e with
      |returned v=>exact ih he
      |panicked c=>exact absurd he.1 (by simp)
      |outgrown=>exact absurd he (nolet _)
     case row r args=>exact Rows.mono h fun _ _ he=>ih he
    |halt x w'=>
     cases x<;>simp only[Oper.upon]at h
     exact absurd h.1 (by simp)
   ·exact absurd h.2 (nolet _)
  ·rename_i hw
   rw[if_neg hw]at h;exact ih h
theorem YF {tj te n dp:Nat} {want b e:Bool} {rest:List Oper} {ty:TypeId} {pos:String} {af:Array Edge} {gd:Option (Nat×Bool)} {x y:Operand} {C:World->Prop} (hC:C w)
  (hl:look σ tj=some (.bool b)) (hte:look σ te=none)
  (hd:(o::l).drop n=⟨some dp,.pick (.tmp tj) x y,ty,pos,af,gd⟩::rest)
  (hgd:JK ops gd σ=some true)
  (hxy:want=true/\x= .tmp te/\y= .const (.bool false)\/want=false/\x= .const (.bool true)/\y= .tmp te)
  (hok:jCA N ops tj want n σ (o::l)=true) (hdp:ZQ N (some dp)=true)
  (h1:b=want->JH P N ops ((o::l).take n) ((tj,.bool want)::σ) w (fun a' w'=>C w'/\Agr N ((te,.bool e)::(tj,.bool want)::σ) a'))
  (h2:∀w',C w'->JH P N ops rest ((dp,.bool (if want then (b&&e)else (b||e)))::σ) w' K):JH P N ops (o::l) σ w K:=by
 intro a ha;obtain ⟨c1,c2,c3⟩:=jEh hok;rw[<- List.take_append_drop n (o::l),hd];refine jEk ?_;have tail:∀a' w',C w'->Agr N σ a'->(b=want->a'.tmps[te]? =some (.bool e))->wpList P ops.toArray (fun e a' w'=>e= .normal/\K a' w') (⟨some dp,.pick (.tmp tj) x y,ty,pos,af,gd⟩::rest) a' w':=by
  intro a' w' hw' ha' hte;refine wpList_step fun K' hK'=>?_
  rw[if_pos (jk ha' (o:=⟨some dp,.pick (.tmp tj) x y,ty,pos,af,gd⟩) hgd)];have e1:a'.eval (.tmp tj)= .bool b:=by simp[Act.eval,Array.getD_eq_getD_getElem?,ha'.slot _ _ hl]
  have e2:(if b=true then a'.eval x else a'.eval y)= .bool (if want then (b&&e)else (b||e)):=by
   rcases hxy with ⟨rfl,rfl,rfl⟩|⟨rfl,rfl,rfl⟩
   ·cases b
    ·rfl
    ·simp [Act.eval,Array.getD_eq_getD_getElem?,hte rfl]
   ·cases b
    ·simp [Act.eval,Array.getD_eq_getD_getElem?,hte rfl]
    ·rfl
  unfold Oper.wp;simp only[execOp,e1,asBool,Sem.run_bind,Sem.run_pure,Result.andThen_ok,e2,Oper.upon];exact hK' _ _ (h2 w' hw' _ (ha'.put (some dp) _ hdp))
 by_cases hb:b=want
 ·have h3:=h1 hb a (ha.weaken (fun t v hv=>by
   rw[JM]at hv
   split at hv
   ·rename_i e;subst e;rw[hl,hb];exact hv
   ·exact hv))
  refine jFW (fun a' w' hq=>?_) h3;obtain ⟨hq2,hq3⟩:=hq;have hne:te≠tj:=by intro e;subst e;rw[hl]at hte;cases hte
  refine tail a' w' hq2 (hq3.weaken (fun t v hv=>?_)) (fun _=>hq3.slot te _ (by simp[JM]));simp only[JM]
  by_cases e':te=t
  ·subst e';rw[hte]at hv;cases hv
  ·rw [if_neg e']
   by_cases e'':tj=t
   ·subst e'';rw[hl]at hv;cases hv;simp[hb]
   ·rw [if_neg e''];exact hv
 ·exact jKN (b:=b) hb _ [] σ a ha hl (fun _ h=>by cases h) c1 c2 (jDJ c3) (fun a' ha'=>⟨rfl,tail a' w hC ha' (fun h=>absurd h hb)⟩)
def jHs:Nat->Store->Option Store
 |0,σ=>some σ
 |n+1,(t,_)::σ=>match look σ t with
  |none=>jHs n σ
  |some _=>none
 |_+1,[]=>none
theorem jBW:∀ {n:Nat} {σ σ':Store},jHs n σ=some σ'->∀t v,look σ' t=some v->look σ t=some v
 |0,σ,σ',h,t,v,hv=>by simp[jHs]at h;subst h;exact hv
 |n+1,(u,x)::σ,σ',h,t,v,hv=>by
  simp only[jHs]at h
  split at h
  ·rename_i hn
   have:=jBW h t v hv;rw[JM]
   split
   ·rename_i e;subst e;rw[hn]at this;cases this
   ·exact this
  ·cases h
 |_+1,[],_,h,_,_,_=>by simp[jHs]at h
def jSY:Store->Nat
 |[]=>0
 |_::r=>jSY r+1
def JL (P:Program) (N:Nat) (C:World->Prop) (ops l:List Oper) (σ:Store) (K:Act->Prop):Prop:=
 ∀a,Agr N σ a->wpQuiet P ops.toArray C K l a
section
variable {C : World -> Prop} {KQ : Act -> Prop}
theorem Yo {v:Value} (hs:stat N ops o σ=true) (hr:∀w,C w->(execOp (evO σ) o).run P w= .ok (.value v) w) (h:JL P N C ops l (jSH σ o.dst v) KQ):JL P N C ops (o::l) σ KQ:=by
 intro a ha;obtain ⟨h1,h2,h3,h4⟩:=zw hs;refine wpQuiet_step fun K' hK'=>?_
 rw[if_pos (jk ha h4)];refine ⟨v,fun w hw=>?_,hK' _ (h _ (ha.put o.dst v h3))⟩;unfold Oper.quietAt;rw[jBy ha o h1 h2,hr w hw];exact ⟨rfl,rfl⟩
theorem JL.op {v:Value} {d:Nat} {op:Op} {ty:TypeId} {pos:String} {af:Array Edge} {gd:Option (Nat×Bool)} (hs:stat N ops ⟨some d,op,ty,pos,af,gd⟩ σ=true)
  (hr:∀w,C w->(execOp (evO σ) ⟨some d,op,ty,pos,af,gd⟩).run P w= .ok (.value v) w) (h:JL P N C ops l ((d,v)::σ) KQ):JL P N C ops (⟨some d,op,ty,pos,af,gd⟩::l) σ KQ:=
 Yo hs hr h
theorem JL.skip {d:Nat} {op:Op} {ty:TypeId} {pos:String} {af:Array Edge} {gd:Option (Nat×Bool)} (hw:JK ops gd σ=some false) (hd:ZQ N (some d)=true)
  (h:JL P N C ops l ((d,undef)::σ) KQ):JL P N C ops (⟨some d,op,ty,pos,af,gd⟩::l) σ KQ:=by
 intro a ha;refine wpQuiet_step fun K' hK'=>?_
 rw[jk ha (o:=⟨some d,op,ty,pos,af,gd⟩) hw];exact hK' _ (h _ (ha.put (some d) undef hd))
theorem JL.call {g:FuncId} {d:Nat} {v:Value} {args:List Operand} {a1:List Value} {tys:Array TypeId} {ty:TypeId} {pos:String} {af:Array Edge} {gd:Option (Nat×Bool)} (hg:IsFn P g)
  (hs:stat N ops ⟨some d,.call ⟨.value (.func g),args.toArray,tys⟩,ty,pos,af,gd⟩ σ=true) (ha:vals σ args=some a1)
  (hc:∀w,C w->Calls P g a1.toArray w fun e w'=>e= .returned v/\C w')
  (h:JL P N C ops l ((d,v)::σ) KQ):JL P N C ops (⟨some d,.call ⟨.value (.func g),args.toArray,tys⟩,ty,pos,af,gd⟩::l) σ KQ:=by
 intro a hag;obtain ⟨h1,h2,h3,h4⟩:=zw hs;obtain ⟨fn,c,hf,hb,hn⟩:=hg.out;refine wpQuiet_step fun K' hK'=>?_
 rw[if_pos (jk hag h4)];refine ⟨v,fun w hw=>?_,hK' _ (h _ (hag.put (some d) v h3))⟩;unfold Oper.quietAt;have:=(jJa (P:=P) (w:=w) (d:=some d) (tys:=tys) (ty:=ty) (pos:=pos) (af:=af) (gd:=gd) (args:=args) (evO σ) hf hb hn).resolve_right (fun h=>h I);rw[jCY ha]at this;rw[jBy hag _ h1 h2,this];exact ⟨rfl,hc w hw⟩
theorem jDc {l₁ l₂:List Oper} {a:Act} (h:wpQuiet P ops.toArray C (fun a'=>wpQuiet P ops.toArray C KQ l₂ a') l₁ a):wpQuiet P ops.toArray C KQ (l₁++l₂) a:=by
 induction l₁ generalizing a with
 |nil=>exact h
 |cons o l ih=>
  rw[List.cons_append];unfold wpQuiet at h ⊢
  split
  ·rename_i hw;rw[if_pos hw]at h
   exact Oper.quiet_mono (fun a h=>ih h) h
  ·rename_i hw;rw[if_neg hw]at h
   exact ih h
theorem jBi {l:List Oper} {a:Act} {K K':Act->Prop} (hK:∀a,K a->K' a) (h:wpQuiet P ops.toArray C K l a):wpQuiet P ops.toArray C K' l a:=by
 induction l generalizing a with
 |nil=>exact hK _ h
 |cons o l ih=>
  unfold wpQuiet at h ⊢
  split
  ·rename_i hw;rw[if_pos hw]at h
   exact Oper.quiet_mono (fun a h=>ih h) h
  ·rename_i hw;rw[if_neg hw]at h
   exact ih h
theorem jHL {tj:Nat} {want b:Bool} (hb:b≠want) {Q:Act->Prop}:∀(l:List Oper) (T:List Nat) (σ:Store) (a:Act),Agr N σ a->look σ tj=some (.bool b)->
  (∀ t∈T,a.tmps[t]? =some undef)->jDY ops tj want l T=true->jGT σ l=true->(∀ o∈l,ZQ N o.dst=true)->
  (∀ a',Agr N σ a'->Q a')->wpQuiet P ops.toArray C Q l a:=by
 intro l
 induction l with
 |nil=>intro T σ a ha _ _ _ _ _ h;exact h a ha
 |cons o l ih=>
  intro T σ a ha hl hT hoff hnew hN h;simp only[jDY]at hoff;have hNo:=hN o (List.mem_cons_self ..)
  split at hoff
  ·rename_i j wt d hg hd
   split at hoff
   ·rename_i oj hoj
    split at hoff
    ·rename_i t ht
     split at hoff
     ·rename_i h1 h2
      have hnw:Region.wanted o (yielded ops.toArray a.tmps)=false:=by
       unfold Region.wanted;rw[hg];simp only[yielded];rw[jM1]at hoj;simp only[Bool.or_eq_true,Bool.and_eq_true]at h1;rcases h1 with ⟨e1,e2⟩|e1
       ·have e3:=Nat.eq_of_beq_eq_true e1;have e4:=eq_of_beq e2;subst e3;subst e4
        simp[hoj,ht,ha.slot t _ hl,hb]
       ·have:=hT t (kJ e1)
        simp[hoj,ht,this,undef]
      simp only[wpQuiet,hnw];simp only[jGT,hd]at hnew
      split at hnew
      ·rename_i hlk
       have hdl:d<N:=by rw[hd]at hNo;exact Nat.le_of_ble_eq_true hNo
       have hput:Agr N σ (a.put o.dst undef):=by
        refine ⟨by rw[hd];exact ha.defers,by rw[hd];simp[Act.put,ha.size],fun t' u hu=>?_⟩;have:d≠t':=by intro e;subst e;rw[hlk]at hu;cases hu
        rw[hd];simp only[Act.put];rw[Array.getElem?_setIfInBounds_ne this];exact ha.slot t' u hu
       refine ih (d::T) σ _ hput hl ?_ hoff hnew (fun o ho=>hN o (List.mem_cons_of_mem _ ho)) h;intro t' ht';rw[hd];simp only[Act.put]
       by_cases e:d=t'
       ·subst e;simp[ha.size,hdl]
       ·rw [Array.getElem?_setIfInBounds_ne e];rcases List.mem_cons.1 ht' with e'|ht'
        ·exact absurd e'.symm e
        ·exact hT t' ht'
      ·cases hnew
     ·cases hoff
    ·cases hoff
   ·cases hoff
  ·cases hoff
theorem YC {tj te n dp:Nat} {want b e:Bool} {rest:List Oper} {ty:TypeId} {pos:String} {af:Array Edge} {gd:Option (Nat×Bool)} {x y:Operand}
  (hl:look σ tj=some (.bool b)) (hte:look σ te=none)
  (hd:(o::l).drop n=⟨some dp,.pick (.tmp tj) x y,ty,pos,af,gd⟩::rest)
  (hgd:JK ops gd σ=some true)
  (hxy:want=true/\x= .tmp te/\y= .const (.bool false)\/want=false/\x= .const (.bool true)/\y= .tmp te)
  (hok:jCA N ops tj want n σ (o::l)=true) (hdp:ZQ N (some dp)=true)
  (h1:b=want->JL P N C ops ((o::l).take n) ((tj,.bool want)::σ) (fun a'=>Agr N ((te,.bool e)::(tj,.bool want)::σ) a'))
  (h2:JL P N C ops rest ((dp,.bool (if want then (b&&e)else (b||e)))::σ) KQ):JL P N C ops (o::l) σ KQ:=by
 intro a ha;obtain ⟨c1,c2,c3⟩:=jEh hok;rw[<- List.take_append_drop n (o::l),hd];refine jDc ?_;have tail:∀a',Agr N σ a'->(b=want->a'.tmps[te]? =some (.bool e))->wpQuiet P ops.toArray C KQ (⟨some dp,.pick (.tmp tj) x y,ty,pos,af,gd⟩::rest) a':=by
  intro a' ha' hte;refine wpQuiet_step fun K' hK'=>?_
  rw[if_pos (jk ha' (o:=⟨some dp,.pick (.tmp tj) x y,ty,pos,af,gd⟩) hgd)];have e1:a'.eval (.tmp tj)= .bool b:=by simp[Act.eval,Array.getD_eq_getD_getElem?,ha'.slot _ _ hl]
  have e2:(if b=true then a'.eval x else a'.eval y)= .bool (if want then (b&&e)else (b||e)):=by
   rcases hxy with ⟨rfl,rfl,rfl⟩|⟨rfl,rfl,rfl⟩
   ·cases b
    ·rfl
    ·simp [Act.eval,Array.getD_eq_getD_getElem?,hte rfl]
   ·cases b
    ·simp [Act.eval,Array.getD_eq_getD_getElem?,hte rfl]
    ·rfl
  refine ⟨_,fun w _=>?_,hK' _ (h2 _ (ha'.put (some dp) _ hdp))⟩;unfold Oper.quietAt;simp only[execOp,e1,asBool,Sem.run_bind,Sem.run_pure,Result.andThen_ok,e2,Oper.quietUpon];exact ⟨trivial,trivial⟩
 by_cases hb:b=want
 ·have h3:=h1 hb a (ha.weaken (fun t v hv=>by
   rw[JM]at hv
   split at hv
   ·rename_i e;subst e;rw[hl,hb];exact hv
   ·exact hv))
  refine jBi (fun a' hq3=>?_) h3;have hne:te≠tj:=by intro e;subst e;rw[hl]at hte;cases hte
  refine tail a' (hq3.weaken (fun t v hv=>?_)) (fun _=>hq3.slot te _ (by simp[JM]));simp only[JM]
  by_cases e':te=t
  ·subst e';rw[hte]at hv;cases hv
  ·rw [if_neg e']
   by_cases e'':tj=t
   ·subst e'';rw[hl]at hv;cases hv;simp[hb]
   ·rw [if_neg e''];exact hv
 ·exact jHL (b:=b) hb _ [] σ a ha hl (fun _ h=>by cases h) c1 c2 (jDJ c3) (fun a' ha'=>tail a' ha' (fun h=>absurd h hb))
theorem Yc {tj te n dp:Nat} {b e:Bool} {rest:List Oper} {ty:TypeId} {pos:String} {af:Array Edge} {gd:Option (Nat×Bool)}
  (hg:gslot ops o=some (tj,true)) (hl:look σ tj=some (.bool b)) (hn:Z5 tj (o::l)=some n)
  (hd:(o::l).drop n=⟨some dp,.pick (.tmp tj) (.tmp te) (.const (.bool false)),ty,pos,af,gd⟩::rest)
  (hgd:JK ops gd σ=some true) (hte:look σ te=none) (hok:jCA N ops tj true n σ (o::l)=true) (hdp:ZQ N (some dp)=true)
  (h1:b=true->JL P N C ops ((o::l).take n) ((tj,.bool true)::σ) (fun a'=>Agr N ((te,.bool e)::(tj,.bool true)::σ) a'))
  (h2:JL P N C ops rest ((dp,.bool (b&&e))::σ) KQ):JL P N C ops (o::l) σ KQ:=
 YC (want:=true) hl hte hd hgd (.inl ⟨rfl,rfl,rfl⟩) hok hdp h1 h2
theorem Yn {tj te n dp:Nat} {b e:Bool} {rest:List Oper} {ty:TypeId} {pos:String} {af:Array Edge} {gd:Option (Nat×Bool)}
  (hg:gslot ops o=some (tj,false)) (hl:look σ tj=some (.bool b)) (hn:Z5 tj (o::l)=some n)
  (hd:(o::l).drop n=⟨some dp,.pick (.tmp tj) (.const (.bool true)) (.tmp te),ty,pos,af,gd⟩::rest)
  (hgd:JK ops gd σ=some true) (hte:look σ te=none) (hok:jCA N ops tj false n σ (o::l)=true) (hdp:ZQ N (some dp)=true)
  (h1:b=false->JL P N C ops ((o::l).take n) ((tj,.bool false)::σ) (fun a'=>Agr N ((te,.bool e)::(tj,.bool false)::σ) a'))
  (h2:JL P N C ops rest ((dp,.bool (b||e))::σ) KQ):JL P N C ops (o::l) σ KQ:=
 YC (want:=false) hl hte hd hgd (.inr ⟨rfl,rfl,rfl⟩) hok hdp h1 h2
theorem YB {te:Nat} {e:Bool} {σ₀:Store} (he:look σ te=some (.bool e)) (hp:jHs (jSY σ-jSY σ₀) σ=some σ₀):JL P N C ops [] σ (fun a'=>Agr N ((te,.bool e)::σ₀) a'):=
 fun a ha=>ha.weaken (fun t v hv=>by
  rw[JM]at hv
  split at hv
  ·rename_i e';subst e';cases hv;exact he
  ·exact jBW hp t v hv)
end
end
abbrev str (l:List UInt8):Value:= .string ⟨l.toArray⟩
section
variable {P : Program} {σ : Store} {w : World} {d : Option Tmp} {x y i : Operand} {t t' ty : TypeId} {pos : String} {af : Array Edge} {gd : Option (Nat × Bool)}
theorem jR1 {k k':IntKind} {n:Int} {ds:TypeDesc} (hS:P.underlying t=some ds) (hD:P.underlying t'=some (.int k)) (hx:evO σ x= .int k' n) (hw:k.wrap n=n):
  (execOp (evO σ) ⟨d,.convert t t' x,ty,pos,af,gd⟩).run P w= .ok (.value (.int k n)) w:=by
 simp[execOp,hx,convert,underlying,hS,hD,Conv.intToInt,hw]
theorem jTY {s:List UInt8} {k:IntKind} {n:Int} (hT:P.underlying t=some .string) (hx:evO σ x=str s) (hi:evO σ i= .int k n) (j:Nat) (hj:n=(j:Int)) (hlt:j<s.length):
  (execOp (evO σ) ⟨d,.index t x i,ty,pos,af,gd⟩).run P w= .ok (.value (.int .u8 ((s.getD j 0).toNat:Int))) w:=by
 subst hj;have h1:(⟨s.toArray⟩:ByteArray)[j]? =some (s.getD j 0):=by
  have:(⟨s.toArray⟩:ByteArray)[j]? =s[j]? :=by
   have hsz:(⟨s.toArray⟩:ByteArray).size=s.length:=by simp[ByteArray.size]
   rw[getElem?_def]
   split
   ·rename_i h;rw[List.getElem?_eq_getElem (by omega)];rfl
   ·rename_i h;rw[List.getElem?_eq_none (by omega)]
  rw[this,List.getD_eq_getElem?_getD,List.getElem?_eq_getElem hlt];rfl
 simp[execOp,hx,hi,Instr.index,asIntOf,underlying,hT,h1]
theorem jRy {s:List UInt8} (hT:P.underlying t=some .string) (hx:evO σ x=str s):
  (execOp (evO σ) ⟨d,.call ⟨.builtin .len,#[x],#[t]⟩,ty,pos,af,gd⟩).run P w= .ok (.value (.int .i64 (s.length:Int))) w:=by
 have:=run_len_string (P:=P) (w:=w) t ty ⟨s.toArray⟩ hT;have hsz:(⟨s.toArray⟩:ByteArray).size=s.length:=by simp[ByteArray.size]
 simp[execOp,resolve,hx,invoke,builtin,this,hsz,goInt]
theorem jNp {a:Option Addr} {n c:Nat} {e:TypeId} (hT:P.underlying t=some (.slice e)) (hx:evO σ x= .slice a n c):
  (execOp (evO σ) ⟨d,.call ⟨.builtin .len,#[x],#[t]⟩,ty,pos,af,gd⟩).run P w= .ok (.value (.int .i64 (n:Int))) w:=by
 simp[execOp,resolve,hx,invoke,builtin,Builtin.len_,underlying,hT,goInt]
theorem jTZ {a b:List UInt8} (hx:evO σ x=str a) (hy:evO σ y=str b) (h:a.length+b.length<=9223372036854775807):
  (execOp (evO σ) ⟨d,.binOp .add t x y t',ty,pos,af,gd⟩).run P w= .ok (.value (str (a++b))) w:=by
 have:=run_string_add_sum (P:=P) (w:=w) ⟨a.toArray⟩ ⟨b.toArray⟩ (by simpa[ByteArray.size]using h);rw[ByteArray.mk_append_mk]at this
 simp[execOp,hx,hy,eqGuard,binOp,this]
theorem jRv {s:List UInt8} {k k':IntKind} {n m:Int} {lo hi:Operand} (hT:P.underlying t=some .string) (hx:evO σ x=str s) (hl:evO σ lo= .int k n) (hh:evO σ hi= .int k' m)
  (a b:Nat) (ha:n=(a:Int)) (hb:m=(b:Int)) (h1:a<=b) (h2:b<=s.length):
  (execOp (evO σ) ⟨d,.slice t x (some lo) (some hi) none,ty,pos,af,gd⟩).run P w= .ok (.value (str ((s.drop a).take (b-a)))) w:=by
 subst ha;subst hb;have hsz:(⟨s.toArray⟩:ByteArray).size=s.length:=by simp[ByteArray.size]
 simp[execOp,hx,hl,hh,Instr.sliceAt,Instr.slice,Instr.sliceBounds,Instr.sliceBound,asIntOf,underlying,hT,hsz,h1,h2,ByteArray.extract_mk]
theorem jLW {s:List UInt8} {k:IntKind} {n:Int} {lo:Operand} (hT:P.underlying t=some .string) (hx:evO σ x=str s) (hl:evO σ lo= .int k n)
  (a:Nat) (ha:n=(a:Int)) (h1:a<=s.length):
  (execOp (evO σ) ⟨d,.slice t x (some lo) none none,ty,pos,af,gd⟩).run P w= .ok (.value (str (s.drop a))) w:=by
 subst ha;have hsz:(⟨s.toArray⟩:ByteArray).size=s.length:=by simp[ByteArray.size]
 have e:List.take (s.length-a) (List.drop a s)=List.drop a s:=List.take_of_length_le (by simp)
 simp[execOp,hx,hl,Instr.sliceAt,Instr.slice,Instr.sliceBounds,Instr.sliceBound,asIntOf,underlying,hT,hsz,h1,ByteArray.extract_mk,e]
theorem jQV {s:List UInt8} {k:IntKind} {m:Int} {hi:Operand} (hT:P.underlying t=some .string) (hx:evO σ x=str s) (hh:evO σ hi= .int k m)
  (b:Nat) (hb:m=(b:Int)) (h2:b<=s.length):
  (execOp (evO σ) ⟨d,.slice t x none (some hi) none,ty,pos,af,gd⟩).run P w= .ok (.value (str (s.take b))) w:=by
 subst hb;have hsz:(⟨s.toArray⟩:ByteArray).size=s.length:=by simp[ByteArray.size]
 simp[execOp,hx,hh,Instr.sliceAt,Instr.slice,Instr.sliceBounds,Instr.sliceBound,asIntOf,underlying,hT,hsz,h2,ByteArray.extract_mk]
theorem jRw {k k':IntKind} {a b:Int} {ts:Array TypeId} (hx:evO σ x= .int k a) (hy:evO σ y= .int k' b):
  (execOp (evO σ) ⟨d,.call ⟨.builtin .min,#[x,y],ts⟩,ty,pos,af,gd⟩).run P w= .ok (.value (.int k (if b<a then b else a))) w:=by
 simp[execOp,resolve,hx,hy,invoke,builtin,run_min_int2]
theorem jRx {k k':IntKind} {a b:Int} {ts:Array TypeId} (hx:evO σ x= .int k a) (hy:evO σ y= .int k' b):
  (execOp (evO σ) ⟨d,.call ⟨.builtin .max,#[x,y],ts⟩,ty,pos,af,gd⟩).run P w= .ok (.value (.int k (if b>a then b else a))) w:=by
 simp[execOp,resolve,hx,hy,invoke,builtin,run_max_int2]
def zK:TypeDesc->Bool
 | .struct _| .array _ _=>false
 |_=>true
theorem jFp {td:TypeDesc} {p:Addr} {v:Value} (hT:P.underlying t=some td) (hp:zK td=true) (hc:w.cell? p=some v):(loadVar t p).run P w= .ok v w:=by
 have:(isAgg t).run P w= .ok false w:=by
  simp[isAgg,underlying,hT]
  cases td<;>simp_all [zK]
 simp[loadVar,this,load,Sem.run,hc]
theorem jKE {td:TypeDesc} {p:Addr} {v:Value} (hT:P.underlying t=some td) (hp:zK td=true) (hx:evO σ x= .pointer (some p)) (hc:w.cell? p=some v):
  (execOp (evO σ) ⟨d,.load t x,ty,pos,af,gd⟩).run P w= .ok (.value v) w:=by
 have:=jFp (t:=t) hT hp hc
 simp[execOp,hx,Instr.loadAt,Instr.sureAddr,this]
theorem jEW {b off n c:Nat} {e sz:Nat} {k:IntKind} {m:Int} (hT:P.underlying t=some (.slice e)) (hS:(P.info? e).map (·.size)=some sz) (hx:evO σ x= .slice (some ⟨b,off,none⟩) n c) (hi:evO σ i= .int k m)
  (j:Nat) (hj:m=(j:Int)) (hlt:j<n):
  (execOp (evO σ) ⟨d,.indexAddr t x i,ty,pos,af,gd⟩).run P w= .ok (.value (.pointer (some ⟨b,off+j*sz,none⟩))) w:=by
 subst hj;obtain ⟨ti,h1,h2⟩:∃ti,P.info? e=some ti/\ti.size=sz:=by
  cases h:P.info? e with
  |none=>rw[h]at hS;cases hS
  |some ti=>rw[h]at hS;exact ⟨ti,rfl,by simpa using hS⟩
 have hadd:(⟨b,off,none⟩:Addr).add (j*sz)=⟨b,off+j*sz,none⟩:=by unfold Addr.add;split<;>simp_all
 simp[execOp,hx,hi,Instr.indexAt,asIntOf,underlying,hT,sizeOf,typeInfo,h1,h2,hlt,hadd]
end
def jCe:IntKind->IntKind->Bool
 | .i8,.i8| .i16,.i16| .i32,.i32| .i64,.i64| .u8,.u8| .u16,.u16| .u32,.u32| .u64,.u64=>true
 |_,_=>false
theorem zZ {k k':IntKind} (h:jCe k k'=true):k=k':=by
 cases k<;>cases k'<;>first|rfl|cases h
def binI (op:BinOp) (k:IntKind) (a b:Int):Option Value:=
 match op,k with
 | .eql,_=>some (.bool (a==b))
 | .neq,_=>some (.bool (a != b))
 | .lss,_=>some (.bool (decide (a<b)))
 | .leq,_=>some (.bool (decide (a<=b)))
 | .gtr,_=>some (.bool (decide (a>b)))
 | .geq,_=>some (.bool (decide (a>=b)))
 |_,_=>none
def binS (op:BinOp) (a b:List UInt8):Option Value:=
 match op with
 | .eql=>some (.bool (a==b))
 | .neq=>some (.bool (!(a==b)))
 | .lss=>some (.bool (Op.bytesLess a b))
 | .leq=>some (.bool (Op.bytesLess a b||a==b))
 | .gtr=>some (.bool (!(Op.bytesLess a b||a==b)))
 | .geq=>some (.bool (!Op.bytesLess a b))
 |_=>none
def jJz:List Value->Nat->Option Value
 |[],_=>none
 |v::_,0=>some v
 |_::r,n+1=>jJz r n
theorem jHy (l:List Value) (n:Nat):jJz l n=l[n]? :=by
 induction l generalizing n with
 |nil=>simp[jJz]
 |cons v l ih=>cases n<;>simp[jJz,ih]
def jLr (P:Program) (σ:Store):Op->Option Value
 | .move x=>lookO σ x
 | .assign x=>lookO σ x
 | .pick c x y=>match lookO σ c with
  |some (.bool true)=>lookO σ x
  |some (.bool false)=>lookO σ y
  |_=>none
 | .binOp op t x y _=>match lookO σ x,lookO σ y with
  |some (.int k a),some (.int k' b)=>match jCe k k' with
   |true=>binI op k a b
   |false=>none
  |some (.string ⟨⟨a⟩⟩),some (.string ⟨⟨b⟩⟩)=>binS op a b
  |some (.bool a),some (.bool b)=>match P.underlying t,op with
   |some .bool,.eql=>some (.bool (a==b))
   |some .bool,.neq=>some (.bool (a != b))
   |_,_=>none
  |_,_=>none
 | .unOp .not _ x=>match lookO σ x with
  |some (.bool b)=>some (.bool (!b))
  |_=>none
 | .nilCheck x=>match lookO σ x with
  |some (.pointer (some p))=>some (.pointer (some p))
  |_=>none
 | .extract x i=>match lookO σ x with
  |some (.tuple ⟨vs⟩)=>jJz vs i
  |_=>none
 | .call ⟨.builtin .len,⟨[x]⟩,⟨[t]⟩⟩=>match P.underlying t,lookO σ x with
  |some .string,some (.string ⟨⟨a⟩⟩)=>some (.int .i64 (a.length:Int))
  |some (.slice _),some (.slice _ n _)=>some (.int .i64 (n:Int))
  |_,_=>none
 | .call ⟨.builtin .min,⟨[x,y]⟩,_⟩=>match lookO σ x,lookO σ y with
  |some (.int k a),some (.int _ b)=>some (.int k (if b<a then b else a))
  |_,_=>none
 | .call ⟨.builtin .max,⟨[x,y]⟩,_⟩=>match lookO σ x,lookO σ y with
  |some (.int k a),some (.int _ b)=>some (.int k (if b>a then b else a))
  |_,_=>none
 |_=>none
section
variable {P : Program} {f : FuncId} {N : Nat} {k : List Item} {σ : Store} {w w' : World} {R : Ending -> World -> Prop} {ops l : List Oper} {K : Act -> World -> Prop} {d : Nat} {op : Op} {ty : TypeId} {pos : String} {af : Array Edge} {gd : Option (Nat × Bool)} {v : Value}
theorem jAH {d:Option Tmp} (h:jLr P σ op=some v):(execOp (evO σ) ⟨d,op,ty,pos,af,gd⟩).run P w= .ok (.value v) w:=by
 unfold jLr at h
 split at h
 ·simp [execOp,jB h]
 ·simp [execOp,jB h]
 ·split at h
  ·rename_i hc;simp[execOp,jB h,jB hc,asBool]
  ·rename_i hc;simp[execOp,jB h,jB hc,asBool]
  ·cases h
 ·split at h
  ·rename_i op _ x y _ k a k' b hx hy
   split at h
   ·rename_i hk
    have e:=zZ hk;subst e;unfold binI at h
    split at h<;>cases h<;>simp[execOp,jB hx,jB hy,eqGuard,binOp,Op.intCmp]
   ·cases h
  ·rename_i op _ x y _ a b hx hy
   unfold binS at h
   split at h<;>cases h<;>simp[execOp,jB hx,jB hy,eqGuard,binOp,Op.stringOp]
  ·rename_i op _ x y _ a b hx hy
   split at h
   ·rename_i ht;cases h;simp[execOp,jB hx,jB hy,eqGuard,binOp,run_equal_bool _ _ _ _ ht]
   ·rename_i ht;cases h;simp[execOp,jB hx,jB hy,eqGuard,binOp,run_equal_bool _ _ _ _ ht];cases a<;>cases b<;>rfl
   ·cases h
  ·cases h
 ·split at h
  ·rename_i hx;cases h;simp[execOp,jB hx,Op.unary]
  ·cases h
 ·split at h
  ·rename_i hx;cases h;simp[execOp,jB hx]
  ·cases h
 ·split at h
  ·rename_i hx;rw[jHy]at h;simp[execOp,jB hx,Instr.extract,h]
  ·cases h
 ·split at h
  ·rename_i hT hx;cases h
   exact jRy hT (jB hx)
  ·rename_i hT hx;cases h
   exact jNp hT (jB hx)
  ·cases h
 ·split at h
  ·rename_i hx hy;cases h
   exact jRw (jB hx) (jB hy)
  ·cases h
 ·split at h
  ·rename_i hx hy;cases h
   exact jRx (jB hx) (jB hy)
  ·cases h
 ·cases h
theorem JH.ev (hs:stat N ops ⟨some d,op,ty,pos,af,gd⟩ σ=true) (he:jLr P σ op=some v) (h:JH P N ops l ((d,v)::σ) w K):JH P N ops (⟨some d,op,ty,pos,af,gd⟩::l) σ w K:=
 JH.op hs (jAH he) h
def fits (k:IntKind) (n:Int):Prop:=
 match k with
 | .i64=>-9223372036854775808<=n/\n<=9223372036854775807
 | .i32=>-2147483648<=n/\n<=2147483647
 | .i16=>-32768<=n/\n<=32767
 | .i8=>-128<=n/\n<=127
 | .u64=>0<=n/\n<=18446744073709551615
 | .u32=>0<=n/\n<=4294967295
 | .u16=>0<=n/\n<=65535
 | .u8=>0<=n/\n<=255
theorem Jh {k:IntKind} {n:Int} (h:fits k n):k.wrap n=n:=by
 cases k<;>simp only[fits]at h<;>simp only[IntKind.wrap,IntKind.bits,IntKind.signed]<;>simp<;>omega
def jA6 (k:IntKind) (n:Int) (f:Prop->Option (Value×Prop)):Option (Value×Prop):=
 match k with
 | .i64=>f (-9223372036854775808<=n/\n<=9223372036854775807)
 | .i32=>f (-2147483648<=n/\n<=2147483647)
 | .i16=>f (-32768<=n/\n<=32767)
 | .i8=>f (-128<=n/\n<=127)
 | .u64=>f (0<=n/\n<=18446744073709551615)
 | .u32=>f (0<=n/\n<=4294967295)
 | .u16=>f (0<=n/\n<=65535)
 | .u8=>f (0<=n/\n<=255)
theorem Jw (k:IntKind) (n:Int) (f:Prop->Option (Value×Prop)):jA6 k n f=f (fits k n):=by cases k<;>rfl
def jE5 (off j:Nat) (sz:Nat):Nat:=
 match sz with
 |1=>off+j
 |sz=>off+j*sz
theorem jEF (off j sz:Nat):jE5 off j sz=off+j*sz:=by
 unfold jE5;split<;>simp
def shOk (k:IntKind) (b:Nat):Bool:=
 match k with
 | .i64| .u64=>Nat.ble b 64
 | .i32| .u32=>Nat.ble b 32
 | .i16| .u16=>Nat.ble b 16
 | .i8| .u8=>Nat.ble b 8
theorem jMB {k:IntKind} {b:Nat} (h:shOk k b=true):b<=k.bits:=by cases k<;>exact Nat.le_of_ble_eq_true h
def pwK (b:Nat) (f:Int->Option (Value×Prop)):Option (Value×Prop):=
 match b with
 |0=>f 1
 |1=>f 2
 |2=>f 4
 |3=>f 8
 |4=>f 16
 |5=>f 32
 |6=>f 64
 |7=>f 128
 |8=>f 256
 |9=>f 512
 |10=>f 1024
 |11=>f 2048
 |12=>f 4096
 |13=>f 8192
 |14=>f 16384
 |15=>f 32768
 |16=>f 65536
 |20=>f 1048576
 |24=>f 16777216
 |28=>f 268435456
 |31=>f 2147483648
 |32=>f 4294967296
 |40=>f 1099511627776
 |48=>f 281474976710656
 |56=>f 72057594037927936
 |b=>f (2 ^ b)
theorem jQq (b:Nat) (f:Int->Option (Value×Prop)):pwK b f=f (2 ^ b):=by
 unfold pwK
 split<;>rfl
theorem bits_nat (k:IntKind) (a:Nat) (h:fits k (a:Int)):(BitVec.ofInt k.bits (a:Int)).toNat=a:=by
 have:(BitVec.ofInt k.bits (a:Int))=BitVec.ofNat k.bits a:=by simp
 rw[this,BitVec.toNat_ofNat]
 apply Nat.mod_eq_of_lt
 cases k<;>simp only[fits]at h<;>simp only[IntKind.bits]<;>omega
def jK4:List Field->Nat->Option Field
 |[],_=>none
 |f::_,0=>some f
 |_::r,n+1=>jK4 r n
theorem jM3 (l:List Field) (n:Nat):jK4 l n=l[n]? :=by
 induction l generalizing n with
 |nil=>simp[jK4]
 |cons v l ih=>cases n<;>simp[jK4,ih]
def jPk (off o:Nat):Nat:=
 match o with
 |0=>off
 |o=>match off with
  |0=>o
  |off=>off+o
theorem jJt (off o:Nat):jPk off o=off+o:=by unfold jPk;split<;>(try split)<;>simp
def natK (b:Nat) (f:Nat->Option (Value×Prop)):Option (Value×Prop):=
 match b with
 |0=>f 0
 |1=>f 1
 |2=>f 2
 |3=>f 3
 |4=>f 4
 |5=>f 5
 |6=>f 6
 |7=>f 7
 |8=>f 8
 |9=>f 9
 |10=>f 10
 |11=>f 11
 |12=>f 12
 |13=>f 13
 |14=>f 14
 |15=>f 15
 |16=>f 16
 |17=>f 17
 |18=>f 18
 |19=>f 19
 |20=>f 20
 |21=>f 21
 |22=>f 22
 |23=>f 23
 |24=>f 24
 |25=>f 25
 |26=>f 26
 |27=>f 27
 |28=>f 28
 |29=>f 29
 |30=>f 30
 |31=>f 31
 |32=>f 32
 |b=>f b
theorem jRG (b:Nat) (f:Nat->Option (Value×Prop)):natK b f=f b:=by
 unfold natK
 split<;>rfl
def jQt (σ:Store) (x:Operand) (f:Nat->Option (Value×Prop)):Option (Value×Prop):=
 match x with
 | .const (.int _ (.ofNat j))=>natK j f
 |x=>match lookO σ x with
  |some (.int _ (.ofNat j))=>f j
  |_=>none
theorem kH {σ:Store} {x:Operand} {f:Nat->Option (Value×Prop)} {r:Value×Prop} (h:jQt σ x f=some r):∃k j,evO σ x= .int k (.ofNat j)/\f j=some r:=by
 unfold jQt at h
 split at h
 ·rw [jRG]at h;exact ⟨_,_,rfl,h⟩
 ·split at h
  ·rename_i hl;exact ⟨_,_,jB hl,h⟩
  ·cases h
def evC (P:Program) (σ:Store):Op->Option (Value×Prop)
 | .binOp op _ x y _=>match op,lookO σ x,lookO σ y with
  | .add,some (.int k a),some (.int k' b)=>match jCe k k' with
   |true=>jA6 k (a+b) fun c=>some (.int k (a+b),c)
   |false=>none
  | .sub,some (.int k a),some (.int k' b)=>match jCe k k' with
   |true=>jA6 k (a-b) fun c=>some (.int k (a-b),c)
   |false=>none
  | .mul,some (.int k a),some (.int k' b)=>match jCe k k' with
   |true=>jA6 k (a*b) fun c=>some (.int k (a*b),c)
   |false=>none
  | .quo,some (.int k a),some (.int k' b)=>match jCe k k' with
   |true=>jA6 k a fun c=>some (.int k (a / b),c/\0<=a/\0<b)
   |false=>none
  | .rem,some (.int k a),some (.int k' b)=>match jCe k k' with
   |true=>some (.int k (a%b),0<=a/\0<b)
   |false=>none
  | .shr,some (.int k a),some (.int _ (.ofNat b))=>match shOk k b with
   |true=>pwK b fun m=>some (.int k (a / m),0<=a)
   |false=>none
  | .shl,some (.int k a),some (.int _ (.ofNat b))=>match shOk k b with
   |true=>pwK b fun m=>jA6 k (a*m) fun c1=>some (.int k (a*m),c1)
   |false=>none
  | .and,some (.int k (.ofNat a)),some (.int k' (.ofNat b))=>match jCe k k' with
   |true=>jA6 k (a:Int) fun c=>jA6 k (b:Int) fun c'=>some (.int k ((a &&& b:Nat):Int),c/\c')
   |false=>none
  | .or,some (.int k (.ofNat a)),some (.int k' (.ofNat b))=>match jCe k k' with
   |true=>jA6 k (a:Int) fun c=>jA6 k (b:Int) fun c'=>some (.int k ((a ||| b:Nat):Int),c/\c')
   |false=>none
  | .xor,some (.int k (.ofNat a)),some (.int k' (.ofNat b))=>match jCe k k' with
   |true=>jA6 k (a:Int) fun c=>jA6 k (b:Int) fun c'=>some (.int k ((a ^^^ b:Nat):Int),c/\c')
   |false=>none
  | .add,some (.string ⟨⟨a⟩⟩),some (.string ⟨⟨b⟩⟩)=>some (.string ⟨⟨a++b⟩⟩,a.length+b.length<=9223372036854775807)
  |_,_,_=>none
 | .unOp .neg _ x=>match lookO σ x with
  |some (.int k a)=>jA6 k (0-a) fun c=>some (.int k (-a),c)
  |_=>none
 | .convert s t x=>match lookO σ x with
  |some (.int _ a)=>match P.underlying s,P.underlying t with
   |some _,some (.int k)=>jA6 k a fun c=>some (.int k a,c)
   |_,_=>none
  |_=>none
 | .index t x i=>match P.underlying t,lookO σ x with
  |some .string,some (.string ⟨⟨s⟩⟩)=>jQt σ i fun j=>some (.int .u8 ((s.getD j 0).toNat:Int),j<s.length)
  |_,_=>none
 | .slice t x (some lo) (some hi) none=>match P.underlying t,lookO σ x with
  |some .string,some (.string ⟨⟨s⟩⟩)=>jQt σ lo fun a=>jQt σ hi fun b=>some (.string ⟨⟨(s.drop a).take (b-a)⟩⟩,a<=b/\b<=s.length)
  |_,_=>none
 | .slice t x (some lo) none none=>match P.underlying t,lookO σ x with
  |some .string,some (.string ⟨⟨s⟩⟩)=>jQt σ lo fun a=>some (.string ⟨⟨s.drop a⟩⟩,a<=s.length)
  |_,_=>none
 | .slice t x none (some hi) none=>match P.underlying t,lookO σ x with
  |some .string,some (.string ⟨⟨s⟩⟩)=>jQt σ hi fun b=>some (.string ⟨⟨s.take b⟩⟩,b<=s.length)
  |_,_=>none
 | .fieldAddr s x i=>match P.underlying s,lookO σ x with
  |some (.struct ⟨fl⟩),some (.pointer (some ⟨b,off,none⟩))=>match jK4 fl i with
   |some fd=>match P.info? fd.type with
    |some ti=>match ti.size with
     |0=>none
     |_+1=>some (.pointer (some ⟨b,jPk off fd.offset,none⟩),0<1)
    |none=>none
   |none=>none
  |_,_=>none
 | .indexAddr t x i=>match P.underlying t,lookO σ x with
  |some (.slice e),some (.slice (some ⟨b,off,none⟩) n _)=>match P.info? e with
   |some ti=>jQt σ i fun j=>some (.pointer (some ⟨b,jE5 off j ti.size,none⟩),j<n)
   |none=>none
  |_,_=>none
 |_=>none
theorem Kk {n x y:Nat} (hx:x<2 ^ n) (hy:y<2 ^ n):x &&& y<2 ^ n:=Nat.and_lt_two_pow x hy
theorem jHD {k:IntKind} {a b:Nat} {t t':TypeId} {x y:Operand} {d:Option Tmp} (hx:lookO σ x=some (.int k (.ofNat a))) (hy:lookO σ y=some (.int k (.ofNat b))) (h1:fits k (a:Int)) (h2:fits k (b:Int)):
  (execOp (evO σ) ⟨d,.binOp .and t x y t',ty,pos,af,gd⟩).run P w= .ok (.value (.int k ((a &&& b:Nat):Int))) w:=by
 have e1:=bits_nat k a h1;have e2:=bits_nat k b h2;have g:(BitVec.ofInt k.bits (Int.ofNat a) &&& BitVec.ofInt k.bits (Int.ofNat b)).toNat=a &&& b:=by
  rw[BitVec.toNat_and];show (BitVec.ofInt k.bits (a:Int)).toNat &&& (BitVec.ofInt k.bits (b:Int)).toNat=_;rw[e1,e2]
 have hlt:∀ {c:Nat},c<2 ^ k.bits->(c:Int)<=(2 ^ k.bits:Nat)-1:=fun h=>by omega
 have g2:k.wrap ((a &&& b:Nat):Int)=((a &&& b:Nat):Int):=by
  apply Jh
  cases k<;>simp only[fits]at h1 h2 ⊢<;>refine ⟨by omega,?_⟩
  all_goals
   first
    |(have:=Kk (n:=63) (x:=a) (y:=b) (by omega) (by omega);omega)
    |(have:=Kk (n:=31) (x:=a) (y:=b) (by omega) (by omega);omega)
    |(have:=Kk (n:=15) (x:=a) (y:=b) (by omega) (by omega);omega)
    |(have:=Kk (n:=7) (x:=a) (y:=b) (by omega) (by omega);omega)
    |(have:=Kk (n:=64) (x:=a) (y:=b) (by omega) (by omega);omega)
    |(have:=Kk (n:=32) (x:=a) (y:=b) (by omega) (by omega);omega)
    |(have:=Kk (n:=16) (x:=a) (y:=b) (by omega) (by omega);omega)
    |(have:=Kk (n:=8) (x:=a) (y:=b) (by omega) (by omega);omega)
 have e3:evO σ x= .int k (.ofNat a):=jB hx;have e4:evO σ y= .int k (.ofNat b):=jB hy;simp only[execOp,e3,e4,eqGuard,binOp,Op.intBits,g,g2]
 simp
theorem jJL {k:IntKind} {a b:Nat} {t t':TypeId} {x y:Operand} {d:Option Tmp} (hx:lookO σ x=some (.int k (.ofNat a))) (hy:lookO σ y=some (.int k (.ofNat b))) (h1:fits k (a:Int)) (h2:fits k (b:Int)):
  (execOp (evO σ) ⟨d,.binOp .or t x y t',ty,pos,af,gd⟩).run P w= .ok (.value (.int k ((a ||| b:Nat):Int))) w:=by
 have e1:=bits_nat k a h1;have e2:=bits_nat k b h2;have g:(BitVec.ofInt k.bits (Int.ofNat a) ||| BitVec.ofInt k.bits (Int.ofNat b)).toNat=a ||| b:=by
  rw[BitVec.toNat_or];show (BitVec.ofInt k.bits (a:Int)).toNat ||| (BitVec.ofInt k.bits (b:Int)).toNat=_
  rw[e1,e2]
 have hlt:∀ {c:Nat},c<2 ^ k.bits->(c:Int)<=(2 ^ k.bits:Nat)-1:=fun h=>by omega
 have g2:k.wrap ((a ||| b:Nat):Int)=((a ||| b:Nat):Int):=by
  apply Jh
  cases k<;>simp only[fits]at h1 h2 ⊢<;>refine ⟨by omega,?_⟩
  all_goals
   first
    |(have:=Nat.or_lt_two_pow (n:=63) (x:=a) (y:=b) (by omega) (by omega);omega)
    |(have:=Nat.or_lt_two_pow (n:=31) (x:=a) (y:=b) (by omega) (by omega);omega)
    |(have:=Nat.or_lt_two_pow (n:=15) (x:=a) (y:=b) (by omega) (by omega);omega)
    |(have:=Nat.or_lt_two_pow (n:=7) (x:=a) (y:=b) (by omega) (by omega);omega)
    |(have:=Nat.or_lt_two_pow (n:=64) (x:=a) (y:=b) (by omega) (by omega);omega)
    |(have:=Nat.or_lt_two_pow (n:=32) (x:=a) (y:=b) (by omega) (by omega);omega)
    |(have:=Nat.or_lt_two_pow (n:=16) (x:=a) (y:=b) (by omega) (by omega);omega)
    |(have:=Nat.or_lt_two_pow (n:=8) (x:=a) (y:=b) (by omega) (by omega);omega)
 have e3:evO σ x= .int k (.ofNat a):=jB hx;have e4:evO σ y= .int k (.ofNat b):=jB hy;simp only[execOp,e3,e4,eqGuard,binOp,Op.intBits,g,g2]
 simp
theorem jHC {k:IntKind} {a b:Nat} {t t':TypeId} {x y:Operand} {d:Option Tmp} (hx:lookO σ x=some (.int k (.ofNat a))) (hy:lookO σ y=some (.int k (.ofNat b))) (h1:fits k (a:Int)) (h2:fits k (b:Int)):
  (execOp (evO σ) ⟨d,.binOp .xor t x y t',ty,pos,af,gd⟩).run P w= .ok (.value (.int k ((a ^^^ b:Nat):Int))) w:=by
 have e1:=bits_nat k a h1;have e2:=bits_nat k b h2;have g:(BitVec.ofInt k.bits (Int.ofNat a) ^^^ BitVec.ofInt k.bits (Int.ofNat b)).toNat=a ^^^ b:=by
  rw[BitVec.toNat_xor];show (BitVec.ofInt k.bits (a:Int)).toNat ^^^ (BitVec.ofInt k.bits (b:Int)).toNat=_;rw[e1,e2]
 have hlt:∀ {c:Nat},c<2 ^ k.bits->(c:Int)<=(2 ^ k.bits:Nat)-1:=fun h=>by omega
 have g2:k.wrap ((a ^^^ b:Nat):Int)=((a ^^^ b:Nat):Int):=by
  apply Jh
  cases k<;>simp only[fits]at h1 h2 ⊢<;>refine ⟨by omega,?_⟩
  all_goals
   first
    |(have:=Nat.xor_lt_two_pow (n:=63) (x:=a) (y:=b) (by omega) (by omega);omega)
    |(have:=Nat.xor_lt_two_pow (n:=31) (x:=a) (y:=b) (by omega) (by omega);omega)
    |(have:=Nat.xor_lt_two_pow (n:=15) (x:=a) (y:=b) (by omega) (by omega);omega)
    |(have:=Nat.xor_lt_two_pow (n:=7) (x:=a) (y:=b) (by omega) (by omega);omega)
    |(have:=Nat.xor_lt_two_pow (n:=64) (x:=a) (y:=b) (by omega) (by omega);omega)
    |(have:=Nat.xor_lt_two_pow (n:=32) (x:=a) (y:=b) (by omega) (by omega);omega)
    |(have:=Nat.xor_lt_two_pow (n:=16) (x:=a) (y:=b) (by omega) (by omega);omega)
    |(have:=Nat.xor_lt_two_pow (n:=8) (x:=a) (y:=b) (by omega) (by omega);omega)
 have e3:evO σ x= .int k (.ofNat a):=jB hx;have e4:evO σ y= .int k (.ofNat b):=jB hy;simp only[execOp,e3,e4,eqGuard,binOp,Op.intBits,g,g2]
 simp
theorem jFS {s:TypeId} {x:Operand} {fl:List Field} {i:Nat} {fd:Field} {ti:TypeInfo} {b off:Nat} {d:Option Tmp} (hT:P.underlying s=some (.struct fl.toArray)) (hx:lookO σ x=some (.pointer (some ⟨b,off,none⟩))) (hf:fl[i]? =some fd) (hti:P.info? fd.type=some ti) (hz:0<ti.size):
  (execOp (evO σ) ⟨d,.fieldAddr s x i,ty,pos,af,gd⟩).run P w= .ok (.value (.pointer (some ⟨b,off+fd.offset,none⟩))) w:=by
 have hadd:(⟨b,off,none⟩:Addr).add fd.offset=⟨b,off+fd.offset,none⟩:=by unfold Addr.add;split<;>simp_all
 have hz':¬ti.size=0:=by omega
 simp[execOp,jB hx,Instr.fieldAt,underlying,hT,hf,Instr.sureAddr,fieldPlace,sizeOf,typeInfo,hti,hz',hadd]
theorem jDH {c:Prop} {d:Option Tmp} (h:evC P σ op=some (v,c)) (hc:c):(execOp (evO σ) ⟨d,op,ty,pos,af,gd⟩).run P w= .ok (.value v) w:=by
 unfold evC at h
 split at h
 ·split at h
  ·rename_i hx hy
   split at h
   ·rename_i hk;have e:=zZ hk;subst e
    rw[Jw]at h;cases h;have:=Jh hc
    simp[execOp,jB hx,jB hy,eqGuard,binOp,Op.intArith,this]
   ·cases h
  ·rename_i hx hy
   split at h
   ·rename_i hk;have e:=zZ hk;subst e
    rw[Jw]at h;cases h;have:=Jh hc
    simp[execOp,jB hx,jB hy,eqGuard,binOp,Op.intArith,this]
   ·cases h
  ·rename_i hx hy
   split at h
   ·rename_i hk;have e:=zZ hk;subst e
    rw[Jw]at h;cases h;have:=Jh hc
    simp[execOp,jB hx,jB hy,eqGuard,binOp,Op.intArith,this]
   ·cases h
  ·rename_i k a _ b hx hy
   split at h
   ·rename_i hk;have e:=zZ hk;subst e
    rw[Jw]at h;cases h;obtain ⟨h1,h2,h3⟩:=hc;have e1:a.tdiv b=a / b:=Int.tdiv_eq_ediv_of_nonneg h2;have h4:fits k (a / b):=by
     have g1:0<=a / b:=Int.ediv_nonneg h2 (by omega);have g2:a / b<=a:=Int.ediv_le_self _ h2;cases k<;>simp only[fits]at h1 ⊢<;>omega
    have:=Jh h4;have h5:¬b=0:=by omega
    simp[execOp,jB hx,jB hy,eqGuard,binOp,Op.intDiv,e1,this,h5]
   ·cases h
  ·rename_i k a _ b hx hy
   split at h
   ·rename_i hk;have e:=zZ hk;subst e
    cases h;obtain ⟨h2,h3⟩:=hc;have e1:a.tmod b=a%b:=Int.tmod_eq_emod_of_nonneg h2;have h5:¬b=0:=by omega
    simp[execOp,jB hx,jB hy,eqGuard,binOp,Op.intDiv,e1,h5]
   ·cases h
  ·rename_i k a _ b hx hy
   split at h
   ·rename_i hsh
    rw[jQq]at h;cases h;have h2:=jMB hsh;have h4:min (b:Int).toNat k.bits=b:=by simp;omega
    have h5:a.fdiv (2 ^ b)=a / 2 ^ b:=by rw[Int.fdiv_eq_ediv_of_nonneg];exact Int.le_of_lt (Int.pow_pos (by decide))
    simp[execOp,jB hx,jB hy,eqGuard,binOp,Op.shift]
    simp_all
    intro h;exfalso;omega
   ·cases h
  ·rename_i k a _ b hx hy
   split at h
   ·rename_i hsh
    rw[jQq,Jw]at h;cases h;have h2:=jMB hsh;have h4:min (b:Int).toNat k.bits=b:=by simp;omega
    have h5:=Jh hc
    simp[execOp,jB hx,jB hy,eqGuard,binOp,Op.shift]
    simp_all
    intro h;exfalso;omega
   ·cases h
  ·rename_i k a _ b hx hy
   split at h
   ·rename_i hk;have e:=zZ hk;subst e
    rw[Jw,Jw]at h;cases h;exact jHD hx hy hc.1 hc.2
   ·cases h
  ·rename_i k a _ b hx hy
   split at h
   ·rename_i hk;have e:=zZ hk;subst e
    rw[Jw,Jw]at h;cases h;exact jJL hx hy hc.1 hc.2
   ·cases h
  ·rename_i k a _ b hx hy
   split at h
   ·rename_i hk;have e:=zZ hk;subst e
    rw[Jw,Jw]at h;cases h;exact jHC hx hy hc.1 hc.2
   ·cases h
  ·rename_i hx hy;cases h
   exact jTZ (jB hx) (jB hy) hc
  ·cases h
 ·split at h
  ·rename_i hx;rw[Jw]at h;cases h
   have:=Jh hc;simp only[Int.zero_sub]at this
   simp[execOp,jB hx,Op.unary,Op.intArith,this]
  ·cases h
 ·split at h
  ·rename_i hx
   split at h
   ·rename_i hS hT;rw[Jw]at h;cases h
    exact jR1 hS hT (jB hx) (Jh hc)
   ·cases h
  ·cases h
 ·split at h
  ·rename_i hT hx
   obtain ⟨_,j,hi,h⟩:=kH h;cases h;exact jTY hT (jB hx) hi _ I hc
  ·cases h
 ·split at h
  ·rename_i hT hx
   obtain ⟨_,a,hl,h⟩:=kH h;obtain ⟨_,b,hh,h⟩:=kH h;cases h;exact jRv hT (jB hx) hl hh _ _ I I hc.1 hc.2
  ·cases h
 ·split at h
  ·rename_i hT hx
   obtain ⟨_,a,hl,h⟩:=kH h;cases h;exact jLW hT (jB hx) hl _ I hc
  ·cases h
 ·split at h
  ·rename_i hT hx
   obtain ⟨_,a,hl,h⟩:=kH h;cases h;exact jQV hT (jB hx) hl _ I hc
  ·cases h
 ·split at h
  ·rename_i hT hx
   split at h
   ·rename_i fd hfd
    split at h
    ·rename_i ti hti
     split at h
     ·cases h
     ·rename_i m hm;cases h
      rw[jM3]at hfd;rw[jJt];exact jFS hT hx hfd hti (by omega)
    ·cases h
   ·cases h
  ·cases h
 ·split at h
  ·rename_i hT hx
   split at h
   ·rename_i ti hti
    obtain ⟨_,j,hi,h⟩:=kH h;cases h;rw[jEF];exact jEW hT (by rw[hti];rfl) (jB hx) hi _ I hc
   ·cases h
  ·cases h
 ·cases h
theorem Yt {c:Prop} (hs:stat N ops ⟨some d,op,ty,pos,af,gd⟩ σ=true) (he:evC P σ op=some (v,c)) (hc:c) (h:JH P N ops l ((d,v)::σ) w K):
  JH P N ops (⟨some d,op,ty,pos,af,gd⟩::l) σ w K:=
 JH.op hs (jDH he hc) h
theorem YT {C:World->Prop} {KQ:Act->Prop} (hs:stat N ops ⟨some d,op,ty,pos,af,gd⟩ σ=true) (he:jLr P σ op=some v) (h:JL P N C ops l ((d,v)::σ) KQ):JL P N C ops (⟨some d,op,ty,pos,af,gd⟩::l) σ KQ:=
 JL.op hs (fun _ _=>jAH he) h
theorem YA {C:World->Prop} {KQ:Act->Prop} {c:Prop} (hs:stat N ops ⟨some d,op,ty,pos,af,gd⟩ σ=true) (he:evC P σ op=some (v,c)) (hc:c) (h:JL P N C ops l ((d,v)::σ) KQ):
  JL P N C ops (⟨some d,op,ty,pos,af,gd⟩::l) σ KQ:=
 JL.op hs (fun _ _=>jDH he hc) h
def jAR:Nat->List Item->Option (List Item)
 |n+1,.code (.seq a b)::k=>jAR n (.code a:: .code b::k)
 |n+1,.code .skip::k=>jAR n k
 |n+1,.inBlock _::k=>jAR n k
 |n+1,.code (.block id c)::k=>jAR n (.code c:: .inBlock id::k)
 |n+1,.code (.exit id)::k=>match exitTo id k with
  |some k'=>jAR n k'
  |none=>none
 |_,k=>some k
def ctl (k:List Item):Option (List Item):=
 match k with
 | .code (.seq _ _)::_=>jAR 40 k
 | .code .skip::_=>jAR 40 k
 | .inBlock _::_=>jAR 40 k
 | .code (.block _ _)::_=>jAR 40 k
 | .code (.exit _)::_=>jAR 40 k
 |_=>none
theorem Run.jAR {n:Nat} {k':List Item} (hk:jAR n k=some k') (h:Run P f N k' σ w R):Run P f N k σ w R:=by
 induction n generalizing k with
 |zero=>
  have:GX.jAR 0 k=some k:=by unfold GX.jAR;cases k<;>rfl
  rw[this]at hk;cases hk;exact h
 |succ n ih=>
  unfold GX.jAR at hk
  split at hk
  ·rename_i e;cases e;exact Run.seq (ih hk)
  ·rename_i e;cases e;exact Run.skip (ih hk)
  ·rename_i e;cases e;exact Run.inBlock (ih hk)
  ·rename_i e;cases e;exact Run.block (ih hk)
  ·rename_i e;cases e
   split at hk
   ·rename_i he;exact Run.exit he (ih hk)
   ·cases hk
  ·cases hk;exact h
theorem Run.ctl {k':List Item} (hk:ctl k=some k') (h:Run P f N k' σ w R):Run P f N k σ w R:=by
 unfold GX.ctl at hk
 split at hk
 all_goals first|exact Run.jAR hk h|cases hk
end
structure Elem (P:Program) (t e:TypeId) (sz bytes:Nat):Prop where
 slice:P.underlying t=some (.slice e)
 info:∃i z,P.info? e=some i/\i.zero=some z/\i.size=sz/\i.bytes=bytes/\z.cells.size=sz
 pos:0<sz
theorem grownBy_refl (w:World) (r:Option Nat):w.grownBy w r:=⟨rfl,rfl,rfl,Nat.le_refl _,fun _ _ _=>rfl⟩
def jCX (w:World) (v:Value) (cs:List Value) (n:Nat):Prop:=
 ((v= .slice none 0 0\/∃a c,v= .slice (some a) 0 c)/\n=0/\cs=[])\/∃b off cap,v= .slice (some ⟨b,off,none⟩) n cap/\∀j u,cs[j]? =some u->w.cell? ⟨b,off+j,none⟩=some u
theorem jCX.nil (w:World):jCX w (.slice none 0 0) [] 0:= .inl ⟨.inl rfl,rfl,rfl⟩
def jv (v:Value) (j:Nat):Value:=
 match v with
 | .slice (some ⟨b,off,_⟩) _ _=> .pointer (some ⟨b,off+j,none⟩)
 |_=>undef
theorem jCX.below {w w':World} {v:Value} {cs:List Value} {n:Nat} {B:Nat} (h:jCX w v cs n) (hb:Below B w w') (hB:∀b,v.ownBlock=some b->b<B):jCX w' v cs n:=by
 rcases h with h|⟨b,off,cap,hv,hc⟩
 ·exact .inl h
 ·refine .inr ⟨b,off,cap,hv,fun j u hu=>?_⟩;have hlt:=hB b (by subst hv;rfl);have:=hb.cell (p:=⟨b,off+j,none⟩) hlt;rw[this];exact hc j u hu
theorem jCX.lt {w:World} {v:Value} {cs:List Value} {n:Nat} (h:jCX w v cs n) (hc:cs≠[]):∀b,v.ownBlock=some b->b<w.heap.size:=by
 rcases h with h|⟨b,off,cap,hv,hc'⟩
 ·exact absurd h.2.2 hc
 ·intro b' hb';subst hv
  simp[Value.ownBlock]at hb'
  subst hb';cases cs with
  |nil=>exact absurd I hc
  |cons u r=>exact World.block_lt_of_cell? w ⟨b,off+0,none⟩ (hc' 0 u I)
theorem jCX.ext {w w':World} {v:Value} {cs:List Value} {n:Nat} (h:jCX w v cs n) (hb:Below w.heap.size w w'):jCX w' v cs n:=by
 by_cases hc:cs=[]
 ·subst hc;rcases h with h|⟨b,off,cap,hv,_⟩
  ·exact .inl h
  ·exact .inr ⟨b,off,cap,hv,fun j u hu=>by simp at hu⟩
 ·exact h.below hb (h.lt hc)
theorem jCX.head {w:World} {v:Value} {cs:List Value} {n:Nat} (h:jCX w v cs n):∃a c,v= .slice a n c:=by
 rcases h with ⟨h,hn,_⟩|⟨b,off,cap,hv,_⟩
 ·rcases h with h|⟨a,c,h⟩
  ·exact ⟨none,0,by rw[h,hn]⟩
  ·exact ⟨some a,c,by rw[h,hn]⟩
 ·exact ⟨_,_,hv⟩
section
variable {P : Program} {f : FuncId} {N : Nat} {k : List Item} {σ : Store} {w w' : World} {R : Ending -> World -> Prop} {ops l : List Oper} {K : Act -> World -> Prop} {KQ : Act -> Prop} {C : World -> Prop} {d : Nat} {ty : TypeId} {pos : String} {af : Array Edge} {gd : Option (Nat × Bool)} {v u : Value} {cs : List Value} {n : Nat} {t e : TypeId} {sz bytes : Nat}
theorem jRz {d:Option Tmp} {x:Operand} (hv:jCX w v cs n) (hT:P.underlying t=some (.slice e)) (hx:lookO σ x=some v) (w1:World):
  (execOp (evO σ) ⟨d,.call ⟨.builtin .len,#[x],#[t]⟩,ty,pos,af,gd⟩).run P w1= .ok (.value (.int .i64 (n:Int))) w1:=by
 obtain ⟨a,c,rfl⟩:=hv.head;exact jNp hT (jB hx)
theorem jR0 {d:Option Tmp} {x i:Operand} {kk:IntKind} {m:Int} (hv:jCX w v cs n) (hE:Elem P t e sz bytes) (hx:lookO σ x=some v) (hi:lookO σ i=some (.int kk m)) (j:Nat) (hj:m=(j:Int)) (hlt:j<n) (w1:World):
  (execOp (evO σ) ⟨d,.indexAddr t x i,ty,pos,af,gd⟩).run P w1= .ok (.value (jv v (j*sz))) w1:=by
 rcases hv with ⟨_,hn,_⟩|⟨b,off,cap,rfl,hc⟩
 ·omega
 ·obtain ⟨ti,z,h1,h2,h3,h4,h5⟩:=hE.info;exact jEW hE.slice (by rw[h1,<- h3];rfl) (jB hx) (jB hi) j hj hlt
theorem jCX.cell (hv:jCX w v cs n) {j:Nat} (hu:cs[j]? =some u):∃p,jv v j= .pointer (some p)/\w.cell? p=some u/\v.ownBlock=some p.block:=by
 rcases hv with ⟨_,_,rfl⟩|⟨b,off,cap,rfl,hc⟩
 ·simp at hu
 ·exact ⟨_,rfl,hc j u hu,rfl⟩
def jC1:Nat->List (Nat×Operand)->Option (List Operand)
 |_,[]=>some []
 |n,(i,x)::r=>match Nat.beq i n with
  |true=>match jC1 (n+1) r with
   |some xs=>some (x::xs)
   |none=>none
  |false=>none
theorem jGL:∀ {n:Nat} {ps:List (Nat×Operand)} {xs:List Operand},jC1 n ps=some xs->ps=(xs.zipIdx n).map fun (x,i)=>(i,x)
 |_,[],xs,h=>by simp[jC1]at h;simp[h]
 |n,(i,x)::r,xs,h=>by
  simp only[jC1]at h
  split at h
  ·rename_i hi
   have e:=Nat.eq_of_beq_eq_true hi;subst e
   split at h
   ·rename_i ys hy
    cases h
    simp[List.zipIdx_cons,<- jGL hy]
   ·cases h
  ·cases h
def jDD (sz:Nat):List Value->Option (List Value)
 |[]=>some []
 | .agg ⟨c⟩::r=>match Nat.beq c.length sz with
  |true=>match jDD sz r with
   |some cs=>some (c++cs)
   |none=>none
  |false=>none
 | .tuple _::_=>none
 |v::r=>match Nat.beq 1 sz with
  |true=>match jDD sz r with
   |some cs=>some (v::cs)
   |none=>none
  |false=>none
theorem jKC:∀ {vs:List Value} {cs:List Value},jDD sz vs=some cs->(∀ v∈vs,v.cells.size=sz)/\cs=(vs.map fun v=>v.cells.toList).flatten:=by
 intro vs
 induction vs with
 |nil=>intro cs h;simp[jDD]at h;simp[h]
 |cons v r ih=>
  intro cs h;have one:(∀ c,v≠ .agg c)->(match Nat.beq 1 sz with
    |true=>match jDD sz r with
     |some cs=>some (v::cs)
     |none=>none
    |false=>none)=some cs->(∀ u∈v::r,u.cells.size=sz)/\cs=((v::r).map fun v=>v.cells.toList).flatten:=by
   intro hne h;have hc:v.cells=#[v]:=by cases v<;>first|rfl|exact absurd I (hne _)
   split at h
   ·rename_i hl
    split at h
    ·rename_i ys hy;cases h
     obtain ⟨g1,g2⟩:=ih hy;have:=Nat.eq_of_beq_eq_true hl;refine ⟨fun u hu=>?_,by simp[hc,g2]⟩;rcases List.mem_cons.1 hu with rfl|hu
     ·rw [hc];simpa using this
     ·exact g1 u hu
    ·cases h
   ·cases h
  cases v with
  |agg c=>
   obtain ⟨c⟩:=c;simp only[jDD]at h
   split at h
   ·rename_i hl
    split at h
    ·rename_i ys hy;cases h
     obtain ⟨h1,h2⟩:=ih hy;have:=Nat.eq_of_beq_eq_true hl;refine ⟨fun v hv=>?_,by simp[Value.cells,h2]⟩;rcases List.mem_cons.1 hv with rfl|hv
     ·simpa [Value.cells]using this
     ·exact h1 v hv
    ·cases h
   ·cases h
  |tuple vs=>simp[jDD]at h
  |_=>exact one (fun c e=>by cases e) (by simpa only[jDD]using h)
theorem jQR (sz:Nat):∀(vs:List Value) (i:Nat) (pre post:List Value),pre.length=i*sz->post.length=vs.length*sz->(∀ v∈vs,v.cells.size=sz)->
  Instr.fill (fun i=>some (i*sz,sz)) (pre++post).toArray ((vs.zipIdx i).map fun (v,i)=>(i,v))=some (pre++(vs.map fun v=>v.cells.toList).flatten).toArray:=by
 intro vs
 induction vs with
 |nil=>intro i pre post hp hq _;simp at hq;subst hq;simp[Instr.fill]
 |cons v vs ih=>
  intro i pre post hp hq hs;have hv:=hs v (List.mem_cons_self ..);simp only[List.zipIdx_cons,List.map_cons,Instr.fill];have hlen:¬(v.cells.size≠sz\/i*sz+v.cells.size>(pre++post).toArray.size):=by
   simp only[List.length_cons,Nat.add_mul,Nat.one_mul]at hq
   simp[hv,hp,hq]
  rw[if_neg (by simpa using hlen)]
  have key:∀(cs:List Value) (j:Nat) (pre post:List Value),pre.length=i*sz+j->cs.length<=post.length->
    ((cs.zipIdx j).foldl (fun (a:Array Value) (x:Value×Nat)=>a.setIfInBounds (i*sz+x.2) x.1) (pre++post).toArray)=(pre++cs++post.drop cs.length).toArray:=by
   intro cs
   induction cs with
   |nil=>intro j pre post _ _;simp
   |cons c cs ih2=>
    intro j pre post h1 h2;cases post with
    |nil=>simp at h2
    |cons q post=>
     simp only[List.zipIdx_cons,List.foldl_cons];have e:(pre++q::post).toArray.setIfInBounds (i*sz+j) c=((pre++[c])++post).toArray:=by
      simp[<- h1]
     rw[e,ih2 (j+1) (pre++[c]) post (by simp[h1];omega) (by simpa using h2)]
     simp
  have k1:=key v.cells.toList 0 pre post (by simpa using hp) (by
   simp only[List.length_cons,Nat.add_mul,Nat.one_mul]at hq
   simp[hv,hq])
  have e1:(v.cells.zipIdx.foldl (fun cs (x:Value×Nat)=>match x with|(c,j)=>cs.setIfInBounds (i*sz+j) c) (pre++post).toArray)=(pre++v.cells.toList++post.drop v.cells.toList.length).toArray:=by
   rw[<- k1,<- Array.foldl_toList]
   congr 1
   simp
  rw[e1];have:=ih (i+1) (pre++v.cells.toList) (post.drop v.cells.toList.length) (by simp[hp,hv,Nat.add_mul]) (by
   simp only[List.length_cons,Nat.add_mul,Nat.one_mul]at hq
   simp[hv,hq]) (fun v' h'=>hs v' (List.mem_cons_of_mem _ h'))
  rw[this]
  simp
theorem jBS {m:Nat} (hE:Elem P t e sz bytes) (parts:Array (Nat×Value)) (hm0:0<m) (hsm:m*sz<=16777216)
  (hf:∀cells:List Value,cells.length=m*sz->Instr.fill (fun i=>some (i*sz,sz)) cells.toArray parts.toList=some cs.toArray):
  (Instr.buildSlice t m parts).run P w= .ok (.slice (some ⟨w.heap.size,0,none⟩) m m) (w.alloc (.cells cs.toArray e)):=by
 obtain ⟨ti,z,h1,h2,h3,h4,h5⟩:=hE.info;have hne:¬m*sz=0:=by have:=Nat.mul_pos hm0 hE.pos;omega
 have h6:¬m*sz>16777216:=by omega
 have e2:=hf ((Array.range (m*sz)).map (z.cells[·%z.cells.size]!)).toList (by simp);simp only[Array.toArray_toList]at e2;have r1:(underlying t).run P w= .ok (.slice e) w:=run_underlying hE.slice w;have r2:(sizeOf e).run P w= .ok sz w:=by simp[sizeOf,typeInfo,h1,h3]
 have r3:(zeroValue e).run P w= .ok z w:=by simp[zeroValue,typeInfo,h1,h2]
 unfold Instr.buildSlice;rw[Sem.run_bind,r1];simp only[Result.andThen_ok];rw[Sem.run_bind,r2];simp only[Result.andThen_ok,h6,hne,if_false];rw[Sem.run_bind,r3];simp only[Result.andThen_ok,Sem.run_pure,Sem.run_bind,e2]
 simp[newRow]
theorem jKd {ps:List (Nat×Operand)} {xs:List Operand} {vs:List Value} {m:Nat} {d:Option Tmp} (hE:Elem P t e sz bytes) (hps:jC1 0 ps=some xs) (hvs:vals σ xs=some vs) (hcs:jDD sz vs=some cs) (hm:vs.length=m) (hsm:m*sz<=16777216) (hm0:0<m):
  (execOp (evO σ) ⟨d,.buildSlice t m ps.toArray,ty,pos,af,gd⟩).run P w= .ok (.value (.slice (some ⟨w.heap.size,0,none⟩) m m)) (w.alloc (.cells cs.toArray e)):=by
 obtain ⟨g1,g2⟩:=jKC hcs;have hp:=jGL hps;have e1:(ps.toArray.map fun (i,x)=>(i,evO σ x)).toList=(vs.zipIdx 0).map fun (v,i)=>(i,v):=by
  rw[hp,<- jCY hvs]
  simp[List.zipIdx_map,List.map_map,Function.comp_def]
 have:=jBS (w:=w) (cs:=cs) (m:=m) hE (ps.toArray.map fun (i,x)=>(i,evO σ x)) hm0 hsm (fun cells hl=>by
  rw[e1,g2];have:=jQR sz vs 0 [] cells (by simp) (by rw[hl,hm]) g1
  simpa using this)
 unfold execOp;simp only[Sem.run_bind,this];rfl
theorem YE {ps:List (Nat×Operand)} {xs:List Operand} {vs:List Value} {m:Nat} (hE:Elem P t e sz bytes) (hs:stat N ops ⟨some d,.buildSlice t m ps.toArray,ty,pos,af,gd⟩ σ=true) (hps:jC1 0 ps=some xs) (hvs:vals σ xs=some vs) (hcs:jDD sz vs=some cs) (hm:vs.length=m) (hsm:m*sz<=16777216) (hm0:0<m)
  (h:∀w' v',w'.ownsRow w.heap.size e sz v' m cs->v'.ownBlock=some w.heap.size->Below w.heap.size w w'->JH P N ops l ((d,v')::σ) w' K):JH P N ops (⟨some d,.buildSlice t m ps.toArray,ty,pos,af,gd⟩::l) σ w K:=by
 refine JH.op hs (jKd hE hps hvs hcs hm hsm hm0) (h _ _ ?_ I ((Below.refl _ _).alloc (Nat.le_refl _) _));obtain ⟨g1,g2⟩:=jKC hcs;have hl:cs.length=m*sz:=by
  rw[g2,<- hm];clear hvs hcs g2 hm
  induction vs with
  |nil=>simp
  |cons v r ih=>simp[Nat.add_mul,g1 v (List.mem_cons_self ..),ih (fun v' h'=>g1 v' (List.mem_cons_of_mem _ h'))];omega
 refine ⟨hl,.inr ⟨w.heap.size,m,cs.toArray,rfl,Nat.le_refl _,heap_alloc_new w _,Nat.le_refl _,?_,by simpa using hl,?_⟩⟩
 ·have:=hE.pos;have:m*1<=m*sz:=Nat.mul_le_mul_left _ this;unfold maxLen;omega
 ·exact List.take_of_length_le (by simp[hl])
def Zo (l:List UInt8):List Value:=l.map fun b=> .int .u8 (b.toNat:Int)
theorem jBE (a b:List UInt8):Zo (a++b)=Zo a++Zo b:=by simp[Zo]
theorem jEt {src dst:TypeId} {l:List UInt8} (hE:P.underlying src=some (.slice e)) (he:P.underlying e=some (.int .u8)) (hd:P.underlying dst=some .string) (hv:jCX w v (Zo l) l.length):
  (convert src dst v).run P w= .ok (str l) w:=by
 rcases hv with ⟨rfl|⟨a,c,rfl⟩,hn,hc⟩|⟨b,off,cap,rfl,hc⟩
 ·have:l=[]:=List.eq_nil_of_length_eq_zero hn;subst this;rw[run_convert_bytes_string w src dst e _ _ _ hE he hd]
  simp[Conv.bytesToString]
  rfl
 ·have:l=[]:=List.eq_nil_of_length_eq_zero hn;subst this;rw[run_convert_bytes_string w src dst e _ _ _ hE he hd]
  simp[Conv.bytesToString]
  rfl
 ·rw [run_convert_bytes_string w src dst e _ _ _ hE he hd];have hadd:∀j,(⟨b,off,none⟩:Addr).add j=⟨b,off+j,none⟩:=fun j=>by unfold Addr.add;split<;>simp_all
  have h1:=run_loadCells_list (P:=P) w ⟨b,off,none⟩ (Zo l) (fun j u hu=>by rw[hadd];exact hc j u hu);have h2:Zo l=(l.map fun b=>(b.toNat:Int)).map (Value.int .u8):=by simp[Zo]
  have h3:=run_bytesToString (P:=P) w ⟨b,off,none⟩ l.length cap (l.map fun b=>(b.toNat:Int)) (by
   rw[<- h2];simpa[Zo]using h1)
  rw[h3,foldl_push_byteCells]
  simp
def Blk (w:World) (b:Nat) (cs:List Value) (T:TypeId):Prop:=w.heap[b]? =some (.cells cs.toArray T (0,0))
theorem Blk.lt {b:Nat} {T:TypeId} (h:Blk w b cs T):b<w.heap.size:=(Array.getElem?_eq_some_iff.1 h).1
theorem Blk.cell {b:Nat} {T:TypeId} (h:Blk w b cs T) (j:Nat):w.cell? ⟨b,j,none⟩=cs[j]? :=by
 unfold Blk at h;simp[World.cell?,h]
def ji (v:Value):List Value:=
 match v with
 | .agg ⟨c⟩=>c
 |v=>[v]
theorem Jr (v:Value):v.cells=(ji v).toArray:=by cases v<;>rfl
theorem JH.box {x:Operand} {T:TypeId} (hs:stat N ops ⟨some d,.box T x,ty,pos,af,gd⟩ σ=true) (hx:lookO σ x=some u)
  (h:∀w',Blk w' w.heap.size (ji u) T->Below w.heap.size w w'->w'.heap.size=w.heap.size+1->JH P N ops l ((d,.pointer (some ⟨w.heap.size,0,none⟩))::σ) w' K):JH P N ops (⟨some d,.box T x,ty,pos,af,gd⟩::l) σ w K:=by
 refine JH.op (w':=w.alloc (.cells u.cells T)) hs ?_ (h _ ?_ ((Below.refl _ _).alloc (Nat.le_refl _) _) (by simp))
 ·simp [execOp,jB hx,Instr.box,newVar,newRow]
 ·unfold Blk;rw[Jr];exact heap_alloc_new w _
theorem JH.alloc {T:TypeId} (hs:stat N ops ⟨some d,.alloc T,ty,pos,af,gd⟩ σ=true) (hz:(P.info? T).bind (·.zero)=some u)
  (h:∀w',Blk w' w.heap.size (ji u) T->Below w.heap.size w w'->w'.heap.size=w.heap.size+1->JH P N ops l ((d,.pointer (some ⟨w.heap.size,0,none⟩))::σ) w' K):JH P N ops (⟨some d,.alloc T,ty,pos,af,gd⟩::l) σ w K:=by
 refine JH.op (w':=w.alloc (.cells u.cells T)) hs ?_ (h _ ?_ ((Below.refl _ _).alloc (Nat.le_refl _) _) (by simp))
 ·have:(zeroValue T).run P w= .ok u w:=by
   cases hi:P.info? T with
   |none=>rw[hi]at hz;cases hz
   |some ti=>rw[hi]at hz;simp at hz;simp[zeroValue,typeInfo,hi,hz]
  simp[execOp,Instr.alloc,this,newVar,newRow]
 ·unfold Blk;rw[Jr];exact heap_alloc_new w _
end
theorem Below.seq {w w1 w2:World} (h1:Below w.heap.size w w1) (h2:Below w1.heap.size w1 w2):Below w.heap.size w w2:=h1.trans (h2.mono h1.size)
def zA (ops:Array Oper):List (Nat×Bool)->Array Bool->Bool
 |[],listed=>(Region.ready .any ops listed).isEmpty
 |(i,true)::p,listed=>(Region.ready .any ops listed).contains i&&Region.free .any ops listed i&&zA ops p (listed.setIfInBounds i true)
 |(i,false)::p,listed=>decide (Region.ready .any ops listed=[i])&&zA ops p (listed.setIfInBounds i true)
def jMs (ops:Array Oper) (p:List (Nat×Bool)):Bool:=Region.noSelect ops&&Nat.beq p.length ops.size&&zA ops p (Array.replicate ops.size false)
section
variable {P : Program} {S : World -> Prop}
def QN (K:Act->World->Prop):Exit->Act->World->Prop:=fun e a w=>e= .normal/\K a w
def Zq (P:Program) (ops:Array Oper) (S:World->Prop) (K:Act->World->Prop):List (Nat×Bool)->Act->World->Prop
 |[],a,w=>K a w
 |(i,true)::p,a,w=>∃o v,ops[i]? =some o/\YieldsIf P ops S o v a/\Zq P ops S K p (a.put o.dst v) w
 |(i,false)::p,a,w=>wpOp P ops (QN K) i (fun a' w'=>S w'/\Zq P ops S K p a' w') a w
theorem Zz {ops:Array Oper} {K:Act->World->Prop} (hn:Region.noSelect ops=true):∀(p:List (Nat×Bool)) (listed:Array Bool) (a:Act) (w:World),S w->
  zA ops p listed=true->Zq P ops S K p a w->wpAnyH P .any ops (QN K) S p.length listed a w
 |[],listed,a,w,hS,hB,h=>⟨by simpa[zA]using hB,rfl,h⟩
 |(i,true)::p,listed,a,w,hS,hB,h=>by
  obtain ⟨o,v,ho,hy,h⟩:=h;simp only[zA,Bool.and_eq_true]at hB;exact wpAnyH_take ho hn hB.1.2 hB.1.1 (fun c a w h=>absurd h.1 (by nofun)) hy hS (Zz hn p _ _ _ hS hB.2 h)
 |(i,false)::p,listed,a,w,hS,hB,h=>by
  simp only[zA,Bool.and_eq_true,decide_eq_true_eq]at hB;refine wpAnyH_all hB.1 (by simp) fun j hj=>?_
  have:j=i:=by simpa using hj
  subst this;exact wpOp_mono (fun a' w' h'=>⟨h'.1,Zz hn p _ _ _ h'.1 hB.2 h'.2⟩) h
def zU (P:Program) (N:Nat) (S:World->Prop) (ops:List Oper) (p:List (Nat×Bool)) (σ:Store) (w:World) (K:Act->World->Prop):Prop:=
 S w->∀a,Agr N σ a->Zq P ops.toArray S K p a w
variable {f : FuncId} {N : Nat} {k : List Item} {σ : Store} {w w' : World} {R : Ending -> World -> Prop} {ops l : List Oper} {o : Oper} {K : Act -> World -> Prop} {p : List (Nat × Bool)} {i : Nat}
 {v:Value} {d:Nat} {op:Op} {ty:TypeId} {pos:String} {af:Array Edge} {gd:Option (Nat×Bool)}
theorem yh (p:List (Nat×Bool)) (S:World->Prop) {id:Nat} (hm:P.follows .mixedOrders=true) (hB:jMs ops.toArray p=true)
  (h:∀w1,Below w.heap.size w w1->w1.heap=w.heap->S w1/\zU P N S ops p σ w1 (jCE P f k R)):Run P f N (.code (.region id ops.toArray true)::k) σ w R:=by
 intro a ha;refine QU (wp_region_held (S:=S) hm ?_);simp only[jMs,Bool.and_eq_true]at hB;rw[show ops.toArray.size=p.length from (Nat.eq_of_beq_eq_true hB.1.2).symm];obtain ⟨hS,h⟩:=h { w with drawn:=w.drawn+1 } ⟨rfl,rfl,rfl,Nat.le_refl _,fun _ _=>rfl⟩ rfl;have h2:=hB.2;rw[show ops.toArray.size=p.length from (Nat.eq_of_beq_eq_true hB.1.2).symm]at h2;exact Zz hB.1.1 p _ _ _ hS h2 (h hS a ha)
theorem zU.nil (h:Run P f N k σ w R):zU P N S ops [] σ w (jCE P f k R):=fun _ a ha=>h a ha
theorem yg (ho:ops[i]? =some ⟨some d,op,ty,pos,af,gd⟩) (hs:stat N ops ⟨some d,op,ty,pos,af,gd⟩ σ=true)
  (hr:∀w,S w->(execOp (evO σ) ⟨some d,op,ty,pos,af,gd⟩).run P w= .ok (.value v) w) (h:zU P N S ops p ((d,v)::σ) w K):zU P N S ops ((i,true)::p) σ w K:=by
 intro hS a ha;obtain ⟨h1,h2,h3,h4⟩:=zw hs;refine ⟨_,v,by simpa using ho,.inl ⟨jk ha h4,fun w hw=>?_⟩,h hS _ (ha.put (some d) v h3)⟩;rw[jBy ha _ h1 h2];exact hr w hw
theorem zU.ev (ho:ops[i]? =some ⟨some d,op,ty,pos,af,gd⟩) (hs:stat N ops ⟨some d,op,ty,pos,af,gd⟩ σ=true) (he:jLr P σ op=some v) (h:zU P N S ops p ((d,v)::σ) w K):
  zU P N S ops ((i,true)::p) σ w K:=yg ho hs (fun _ _=>jAH he) h
theorem Yu {c:Prop} (ho:ops[i]? =some ⟨some d,op,ty,pos,af,gd⟩) (hs:stat N ops ⟨some d,op,ty,pos,af,gd⟩ σ=true) (he:evC P σ op=some (v,c)) (hc:c) (h:zU P N S ops p ((d,v)::σ) w K):
  zU P N S ops ((i,true)::p) σ w K:=yg ho hs (fun _ _=>jDH he hc) h
theorem zU.skip (ho:ops[i]? =some ⟨some d,op,ty,pos,af,gd⟩) (hw:JK ops gd σ=some false) (hd:ZQ N (some d)=true) (h:zU P N S ops p ((d,undef)::σ) w K):zU P N S ops ((i,true)::p) σ w K:=by
 intro hS a ha;exact ⟨_,undef,by simpa using ho,.inr ⟨jk ha (o:=⟨some d,op,ty,pos,af,gd⟩) hw,rfl⟩,h hS _ (ha.put (some d) undef hd)⟩
theorem YO (ho:ops[i]? =some ⟨some d,op,ty,pos,af,gd⟩) (hw:JK ops gd σ=some false) (hd:ZQ N (some d)=true) (h:zU P N S ops p ((d,undef)::σ) w K):zU P N S ops ((i,false)::p) σ w K:=by
 intro hS a ha;have hw':=jk ha (o:=⟨some d,op,ty,pos,af,gd⟩) hw;simp only[Zq,wpOp,show ops.toArray[i]? =some _ by simpa using ho,hw',Bool.false_eq_true,if_false];exact ⟨hS,h hS _ (ha.put (some d) undef hd)⟩
def DK (P:Program) (S:World->Prop) (ops:List Oper) (p:List (Nat×Bool)) (K:Act->World->Prop):Act->World->Prop:=fun a' w'=>S w'/\Zq P ops.toArray S K p a' w'
theorem KM {K:Act->World->Prop} (h:LetsOut (QN K)):False:=by
 obtain ⟨a,w,h,_⟩:=h;cases h
theorem jPH {K' K2:Act->World->Prop} {a:Act} {next:Act->World->Prop} (h:o.wp P a w next (QN K')):o.wp P a w next (QN K2):=by
 unfold Oper.wp at*;generalize (execOp a.eval o).run P w=r at*;cases r with
 |ok n w'=>
  cases n<;>simp only[Oper.upon]at h ⊢
  case value u=>exact h
  case skip=>exact h
  case defer d=>exact h
  case enter f args=>
   refine Calls.mono h fun e w'' he=>?_
   cases e with
   |returned u=>exact he
   |panicked c=>exact absurd he.1 (by nofun)
   |outgrown=>exact (KM he).elim
  case row row args=>exact h
 |halt x w'=>
  cases x<;>simp only[Oper.upon]at h ⊢
  case panic u=>exact absurd h.1 (by nofun)
theorem zU.one (ho:ops[i]? =some o) (h:JH P N ops [o] σ w (DK P S ops p K)):zU P N S ops ((i,false)::p) σ w K:=by
 intro hS a ha
 replace h:=h a ha
 simp only[Zq,wpOp,show ops.toArray[i]? =some o by simpa using ho];unfold wpList at h
 split
 ·rename_i hw
  rw[if_pos hw]at h;rcases h with h|h
  ·left
   have h2:o.wp P a w (fun a' w'=>(QN (DK P S ops p K)) .normal a' w') (QN (DK P S ops p K)):=h;exact Oper.wp_mono (fun a' w' h'=>h'.2) (jPH h2)
  ·exact (KM (K:=DK P S ops p K) h.2).elim
 ·rename_i hw
  rw[if_neg hw]at h;exact h.2
theorem JH.back (hS:S w) (h:zU P N S ops p σ w K):JH P N ops [] σ w (DK P S ops p K):=fun a ha=>wpList_nil ⟨rfl,hS,h hS a ha⟩
end
section
variable {P : Program} {N : Nat} {σ : Store} {w : World} {ops l : List Oper} {K : Act -> World -> Prop}
theorem yU (t:Nat) {v v':Value} (hl:look σ t=some v) (e:v=v') (h:JH P N ops l ((t,v')::σ) w K):JH P N ops l σ w K:=
 fun a ha=>h a (ha.weaken fun t' u hu=>by
  rw[JM]at hu
  split at hu
  ·rename_i e';subst e';cases hu;rw[<- e];exact hl
  ·exact hu)
theorem Yd (t:Nat) {b:Bool} (c:Bool) (hl:look σ t=some (.bool b)) (e:b=c) (h:JH P N ops l ((t,.bool c)::σ) w K):JH P N ops l σ w K:=
 yU t hl (by rw[e]) h
end
section
variable {P : Program} {N : Nat} {σ : Store} {w w' : World} {ops l : List Oper} {K : Act -> World -> Prop} {KQ : Act -> Prop} {C : World -> Prop} {d : Nat} {ty : TypeId} {pos : String} {af : Array Edge} {gd : Option (Nat × Bool)} {v u : Value} {n : Nat} {t e : TypeId} {cs : List Value}
theorem jKD {d:Option Tmp} {x:Operand} {b o:Nat} {td:TypeDesc} (hc:w.rangeAt b o cs) (hT:P.underlying t=some td) (hr:td.isRow=true) (hi:(P.info? t).map (·.size)=some cs.length) (hx:lookO σ x=some (.pointer (some ⟨b,o,none⟩))):
  (execOp (evO σ) ⟨d,.load t x,ty,pos,af,gd⟩).run P w= .ok (.value (.agg cs.toArray)) w:=by
 simp[execOp,jB hx,run_loadAt_mid w b o t cs td hc hT hr hi]
theorem jCX.range {xs:List Value} {m k:Nat} (hv:jCX w v cs n) (hxs:xs≠[]) (hc:∀j u,xs[j]? =some u->cs[k+j]? =some u):∃b o,jv v k= .pointer (some ⟨b,o,none⟩)/\w.rangeAt b o xs:=by
 rcases hv with ⟨_,_,rfl⟩|⟨b,off,cap,rfl,hcell⟩
 ·cases xs with
  |nil=>exact absurd I hxs
  |cons a r=>have:=hc 0 a rfl;simp at this
 ·exact ⟨b,off+k,rfl,fun j u hu=>by have:=hcell _ _ (hc j u hu);rwa[<- Nat.add_assoc]at this⟩
end
def jB9 {K:Type} [DecidableEq K] (k:K):List (K×Value)->Nat->Option (Nat×Value)
 |[],_=>none
 |(a,v)::m,i=>if k=a then some (i,v)else jB9 k m (i+1)
structure KeyK (P:Program) (kt:TypeId) {K:Type} [DecidableEq K] (enc:K->Value):Prop where
 find:∀(k:K) (m:List (K×Value)) (es:List MapEntry) (w:World),es.map (fun e=>(e.key,e.val))=m.map (fun p=>(enc p.1,p.2))->(Instr.findKey kt (enc k) es).run P w= .ok (jB9 k m 0) w
 check:∀(e:Bool) (k:K) (w:World),(Instr.checkKey e 10000 kt (enc k)).run P w= .ok () w
 stays:∀(k:K) (w:World),(Instr.keyThatStays (enc k) (enc k)).run P w= .ok (enc k) w
 inj:∀a b:K,enc a=enc b->a=b
theorem jDF (k:Int):∀(m:List (Int×Value)) (es:List MapEntry) (i:Nat),es.map (fun e=>(e.key,e.val))=m.map (fun p=>(Value.int .i64 p.1,p.2))->Instr.findNow (.int .i64) (.int .i64 k) es i=some (jB9 k m i)
 |[],es,i,h=>by
  have:es=[]:=by simpa using h
  subst this;rfl
 |(a,v)::m,[],i,h=>by simp at h
 |(a,v)::m,e::es,i,h=>by
  simp only[List.map_cons,List.cons.injEq,Prod.mk.injEq]at h;obtain ⟨⟨h1,h2⟩,h3⟩:=h;unfold Instr.findNow jB9;rw[h1];simp only[Instr.sameNow]
  by_cases e:k=a
  ·subst e;simp[h2]
  ·have e2:(k==a)=false:=by simpa using e
   rw[e2,if_neg e];simp only[if_true];exact jDF k m es (i+1) h3
theorem jRN {P:Program} {kt:TypeId} (ht:P.underlying kt=some (.int .i64)):KeyK P kt (fun z:Int=>Value.int .i64 z):=by
 have hk:∀k,MapKept.IsKey (.int .i64) (Value.int .i64 k):=fun k=>by simp[MapKept.IsKey]
 exact ⟨fun k m es w h=>MapKept.run_findKey ht (jDF k m es 0 h),fun e k w=>MapKept.run_checkKey ht (hk k) e 9999,fun k w=>MapKept.run_keyThatStays (hk k),fun a b h=>by simpa using h⟩
section
variable {K : Type} [DecidableEq K] {P : Program} {kt : TypeId} {enc : K -> Value} {w w' : World} {b : Nat} {m : List (K × Value)}
def MapAt (enc:K->Value) (w:World) (b:Nat) (m:List (K×Value)):Prop:=
 ∃es clock,w.heap[b]? =some (.map es clock)/\es.toList.map (fun e=>(e.key,e.val))=m.map (fun p=>(enc p.1,p.2))/\MapKept.Stamped es clock
def getM (k:K):List (K×Value)->Option Value
 |[]=>none
 |(a,v)::m=>if k=a then some v else getM k m
theorem jGw (k:K):∀(m:List (K×Value)) (i:Nat),(jB9 k m i).map (·.2)=getM k m
 |[],i=>rfl
 |(a,v)::m,i=>by
  unfold jB9 getM
  split
  ·rfl
  ·exact jGw k m (i+1)
end
section
variable {K : Type} [DecidableEq K] {P : Program} {t kt et : TypeId} {enc : K -> Value} {w w' : World} {b : Nat} {m : List (K × Value)} {z v : Value}
theorem jHb (hK:KeyK P kt enc) (hm:P.underlying t=some (.map kt et)) (hz:∀w,(zeroValue et).run P w= .ok z w) (h:MapAt enc w b m) (k:K) (ok:Bool):
  (Instr.lookup t (.map (some b)) (enc k) ok).run P w= .ok (if ok then .tuple #[(getM k m).getD z,.bool (getM k m).isSome]else (getM k m).getD z) w:=by
 obtain ⟨es,clock,h1,h2,h3⟩:=h;have hf:=hK.find k m es.toList w h2;have hg:=jGw k m 0;unfold Instr.lookup;simp only[Sem.run_bind,run_underlying hm,MapKept.run_getObj_map h1,hK.check,Result.andThen];cases hx:jB9 k m 0 with
 |none=>
  rw[hx]at hg hf;have hg':getM k m=none:=hg.symm;rw[hg'];cases ok<;>simp[hf,hz,Result.andThen]
 |some p=>
  rw[hx]at hg hf;obtain ⟨i,u⟩:=p;have hg':getM k m=some u:=hg.symm;rw[hg'];cases ok<;>simp[hf,Result.andThen]
end
end Go.GX
