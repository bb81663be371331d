/- A part of the proof: contracts of the program's functions. Conditions: none. -/
import Derived.Carry
import Derived.Deep.MidRow
import Derived.Deep.Quiet
import Derived.Laws.IdiomRangeMap
import Derived.Laws.MakeOwn
import Derived.Laws.StructEq
import Derived.Laws.Tables
import Derived.Lib.AppendStr
import Derived.Lib.AppendZerosOnto
import Derived.Lib.OthersKept
import Derived.Lib.Overlaps
import Derived.Lib.OwnBridge
import Derived.Lib.SlicesCompact
import Derived.MapKept
import Derived.Orders
import Derived.OrdersHeld
import Derived.Scope
import Derived.Sort.Grow
import Derived.StillTail
import Derived.Test.YtgfdoognildoeaaGreatProg
import Derived.Test.YtgfdoognildoeaaGreatShelf
import Derived.WalkKit
import Derived.WalkLawsBesides
import Derived.WalkSpells
import Derived.Test.YtgfdoognildoeaaGreatLB1
import Derived.Test.YtgfdoognildoeaaGreatLB2
import Derived.Test.YtgfdoognildoeaaGreatLB3
import Derived.Test.YtgfdoognildoeaaGreatLB4
import Derived.Test.YtgfdoognildoeaaGreatLB5
import Derived.Test.YtgfdoognildoeaaGreatLB6
import Derived.Test.YtgfdoognildoeaaGreatLB7
import Derived.Test.YtgfdoognildoeaaGreatLB8
import Derived.Test.YtgfdoognildoeaaGreatLB9
import Derived.Test.YtgfdoognildoeaaGreatLB10
set_option linter.unusedVariables false
set_option linter.unusedSectionVars false
set_option linter.unusedSimpArgs false
set_option maxRecDepth 100000
set_option maxHeartbeats 4000000
namespace Me
open Go.GX Nd Tp
theorem jDn {α:Type} {dr ur:α→Bool} {q:List α} {x y:α} (h:y∈(jMd dr ur q x).1):y∈q∨y=x:=by
 have hi:∀l:List α,(∀ z∈l,z∈q)→y∈ins ur l x→y∈q∨y=x:=by
  intro l hl h
  unfold ins at h
  rcases List.mem_append.1 h with h|h
  ·exact .inl (hl y ((List.takeWhile_sublist _).subset h))
  ·rcases List.mem_cons.1 h with h|h
   ·exact .inr h
   ·exact .inl (hl y ((List.dropWhile_sublist _).subset h))
 unfold jMd at h
 split at h
 ·split at h
  ·exact .inl (List.mem_of_mem_take h)
  ·rcases List.mem_append.1 h with h|h
   ·exact .inl (List.mem_of_mem_take h)
   ·exact .inr (List.mem_singleton.1 h)
 ·split at h
  ·split at h
   ·exact .inl (List.mem_of_mem_take h)
   ·exact hi _ (fun z hz=>List.mem_of_mem_take (List.mem_of_mem_eraseIdx hz)) h
  ·exact hi _ (fun z hz=>List.mem_of_mem_take hz) h
theorem jNW {q:List Sn} {f:Fr} {s:Sn} (h:s∈(jDB q f).1):s∈q∨s.f=f:=by
 rcases jDn h with h|rfl
 ·exact .inl h
 ·exact .inr I
theorem jHi {q:List Ma} {f:Fr} {now:Int} {s:Ma} (h:s∈(jEQ q f now).1):s∈q∨s.f=f:=by
 rcases jDn h with h|rfl
 ·exact .inl h
 ·exact .inr I
theorem jDw {q:List Sn} {i:Nat} {ok:Bool} {s:Sn} (h:s∈(kU q i ok).1):∃t∈q,t.f=s.f:=by
 unfold kU at h
 split at h
 ·exact ⟨s,List.mem_of_mem_take h,rfl⟩
 ·rename_i t ht
  have hm:t∈q:=List.mem_of_mem_take (List.mem_of_getElem? ht)
  split at h
  ·exact ⟨s,List.mem_of_mem_take (List.mem_of_mem_eraseIdx h),rfl⟩
  ·split at h
   ·exact ⟨s,List.mem_of_mem_take (List.mem_of_mem_eraseIdx h),rfl⟩
   ·rcases List.mem_or_eq_of_mem_set h with h|rfl
    ·exact ⟨s,List.mem_of_mem_take h,rfl⟩
    ·exact ⟨t,hm,rfl⟩
theorem jLT {q:List Sn} {s:Sn} (h:s∈Z6 q):∃t∈q,t.f=s.f:=by
 unfold Z6 at h
 obtain ⟨t,ht,rfl⟩:=List.mem_map.1 h
 refine ⟨t,List.mem_of_mem_take ht,?_⟩
 unfold KR;split<;>rfl
theorem jCR {to now life:Int}:∀ {l:List Ma} {s:Fr×List Ma×Bool},(∀ m∈(l.foldl (zG to now life) s).2.1,m∈l∨m∈s.2.1)∧((l.foldl (zG to now life) s).2.2=true→s.2.2=true∧(l.foldl (zG to now life) s).1=s.1∨∃m∈l,m.f=(l.foldl (zG to now life) s).1)
 |[],s=>⟨fun m hm=> .inr hm,fun h=> .inl ⟨h,rfl⟩⟩
 |a::l,s=>by
  obtain ⟨h1,h2⟩:=jCR (to:=to) (now:=now) (life:=life) (l:=l) (s:=zG to now life s a)
  rw[List.foldl_cons]
  have hb:(zG to now life s a=s)∨(zG to now life s a=(a.f,s.2.1,true))∨(zG to now life s a=(s.1,s.2.1++[a],s.2.2)):=by
   unfold zG;split
   ·exact .inl I
   ·split
    ·exact .inr (.inl I)
    ·exact .inr (.inr I)
  refine ⟨fun m hm=>?_,fun h=>?_⟩
  ·rcases h1 m hm with h|h
   ·exact .inl (List.mem_cons_of_mem _ h)
   ·rcases hb with e|e|e
    ·rw [e]at h;exact .inr h
    ·rw [e]at h;exact .inr h
    ·rw [e]at h
     rcases List.mem_append.1 h with h|h
     ·exact .inr h
     ·exact .inl (by rw[List.mem_singleton.1 h];exact List.mem_cons_self ..)
  ·rcases h2 h with ⟨g1,g2⟩|⟨m,hm,e⟩
   ·rcases hb with e|e|e
    ·rw [e]at g1 g2 ⊢;exact .inl ⟨g1,g2⟩
    ·rw [e]at g2 ⊢;exact .inr ⟨a,List.mem_cons_self ..,g2.symm⟩
    ·rw [e]at g1 g2 ⊢;exact .inl ⟨g1,g2⟩
   ·exact .inr ⟨m,List.mem_cons_of_mem _ hm,e⟩
theorem jFV {l:List Ma} {to now life:Int} {m:Ma} (h:m∈(zu l to now life).2.1):m∈l:=by
 unfold zu at h
 rcases (jCR).1 m h with h|h
 ·exact List.mem_of_mem_take h
 ·cases h
theorem jHh {l:List Ma} {to now life:Int} (h:(zu l to now life).2.2=true):∃m∈l,m.f=(zu l to now life).1:=by
 unfold zu at h ⊢
 rcases (jCR).2 h with ⟨h,_⟩|⟨m,hm,e⟩
 ·cases h
 ·exact ⟨m,List.mem_of_mem_take hm,e⟩
def Knows (t:List Ro) (q:Ro):Prop:=∃s∈t,s.dest=q.dest∧(s.sq>q.sq∨(s.sq=q.sq∧s.cost≤q.cost))
def jCc (t:List Ro) (q:Ro):Prop:=∃s∈t,s.dest=q.dest∧(s.sq>q.sq∨(s.sq=q.sq∧s.cost<q.cost))
theorem Knows.kept {t t':List Ro} {q:Ro} (h:Knows t q) (hk:Kept t t'):Knows t' q:=by
 obtain ⟨s,hs,h1,h2⟩:=h
 obtain ⟨x,hx,h3⟩:=hk s hs
 rcases h3 with rfl|⟨e,h3⟩
 ·exact ⟨_,hx,h1,h2⟩
 ·exact ⟨x,hx,e.trans h1,by omega⟩
theorem jCc.kept {t t':List Ro} {q:Ro} (h:jCc t q) (hk:Kept t t'):jCc t' q:=by
 obtain ⟨s,hs,h1,h2⟩:=h
 obtain ⟨x,hx,h3⟩:=hk s hs
 rcases h3 with rfl|⟨e,h3⟩
 ·exact ⟨_,hx,h1,h2⟩
 ·exact ⟨x,hx,e.trans h1,by omega⟩
theorem jFQ:∀(l:List Ro) (k:Nat),((l.map jCh).flatten).drop (4*k)=((l.drop k).map jCh).flatten
 |l,0=>rfl
 |[],k+1=>by simp
 |r::l,k+1=>by
  rw[List.drop_succ_cons,← jFQ l k,List.map_cons,List.flatten_cons,show 4*(k+1)=4+4*k by omega,← List.drop_drop]
  rfl
theorem jKF {n:Int} (h:0≤n) (h2:n≤255):((u8 n).toNat:Int)=n:=u8v h h2
theorem jH5 {r:Ro} (h:usable r=true) (s:By):jEj (jCh r++s)=⟨r.dest,r.sq,r.cost,255⟩:=by
 obtain ⟨h1,h2,h3,h4,h5⟩:=Zx h
 rw[zT]at h1
 have e1:=jKF h1.1 (by omega)
 have e2:((u8 (r.sq / 256)).toNat:Int)=r.sq / 256:=jKF (by omega) (by omega)
 have e3:((u8 r.sq).toNat:Int)=r.sq%256:=by
  unfold u8
  rw[UInt8.toNat_ofNat']
  omega
 have e4:=jKF h4 h5
 show (⟨((u8 r.dest).toNat:Int),(((u8 (r.sq / 256)).toNat*256+(u8 r.sq).toNat:Nat):Int),((u8 r.cost).toNat:Int),255⟩:Ro)=_
 rw[e1,e4]
 congr 1
 omega
theorem jH4 {t:List Ro} {q:Ro} (h:q∈(jAA (jCi t)).1):Knows t q:=by
 unfold jAA at h
 split at h
 ·cases h
 ·split at h
  ·cases h
  ·split at h
   ·cases h
   ·obtain ⟨k,hk⟩:=List.getElem?_of_mem h
    have hlt:k<(jCi t).length / 4:=by
     have:=(List.getElem?_eq_some_iff.1 hk).1
     rwa[Za]at this
    have hk:(zJ (jCi t) ((jCi t).length / 4))[k]? =some q:=hk
    rw[KJ _ hlt]at hk
    cases hk
    unfold jCi at hlt ⊢
    rw[jBX]at hlt
    obtain ⟨r,hr⟩:=jJ (show k<((t.filter usable).take 24).length by omega)
    obtain ⟨hl,e⟩:=List.getElem?_eq_some_iff.1 hr
    have hm:=List.mem_filter.1 (List.mem_of_mem_take (List.mem_of_getElem? hr))
    rw[jFQ,List.drop_eq_getElem_cons hl,e,List.map_cons,List.flatten_cons,jH5 hm.2]
    exact ⟨r,hm.1,rfl,.inr ⟨rfl,Int.le_refl _⟩⟩
theorem jG3 {t:List Ro} {self fr cost:Int} {adv:List Ro} {r:Ro} (h:Tab self t) (hr:r∈jEM t self fr cost adv):r∈t∨(1≤cost∧∃a∈adv,r=jAt fr cost a):=by
 have key:∀(adv t:List Ro),r∈adv.foldl (ZA self fr cost) t→r∈t∨∃a∈adv,r=jAt fr cost a:=by
  intro adv
  induction adv with
  |nil=>exact fun t h=> .inl h
  |cons a adv ih=>
   intro t h
   rcases ih _ h with h|⟨b,hb,e⟩
   ·unfold ZA at h
    split at h
    ·exact .inl h
    ·rcases jAs h with h|h
     ·exact .inl h
     ·exact .inr ⟨a,List.mem_cons_self ..,h⟩
   ·exact .inr ⟨b,List.mem_cons_of_mem _ hb,e⟩
 unfold jEM at hr
 rw[h.tab]at hr
 split at hr
 ·exact .inl hr
 ·rename_i hn
  rcases key _ _ hr with h|h
  ·exact .inl h
  ·exact .inr ⟨by omega,h⟩
theorem jC5 {t:List Ro} {fr cost:Int} {a:Ro} (hk:Knows t a) (hc:1≤cost) (hf:fin (jAt fr cost a)=true):(jAt fr cost a).nx=fr∧jCc t (jAt fr cost a):=by
 unfold jAt at hf ⊢
 split
 ·obtain ⟨s,hs,h1,h2⟩:=hk
  exact ⟨rfl,s,hs,h1,by show s.sq>a.sq∨(s.sq=a.sq∧s.cost<a.cost+cost);omega⟩
 ·rename_i hn
  rw[if_neg hn]at hf
  unfold fin at hf
  simp at hf
structure Ctx where
 D:Fr→Prop
 K:List Pt→Prop
 M:Int→De→Prop
 hD:∀(f:Fr) (fr dst hp:Int),D f→D { f with fr:=fr,dst:=dst,hp:=hp }
 hK:∀(l:List Pt) (f:Fr) (now:Int),K l→D f→(jCm l f.so now f.da).e=0→K (jCm l f.so now f.da).l∧((jCm l f.so now f.da).ok=true→M f.ta ⟨f.so,(jCm l f.so now f.da).t⟩)
 hE:∀(l:List Pt) (now life:Int),K l→K (jCk l now life)
 hN:K []
structure Sound (C:Ctx) (a:Int) (t:List Ro) (f:Fr):Prop where
 bea:f.kd=1→f.fr=a∧∀q∈(jAA f.da).1,Knows t q
 pol:f.kd=3→f.fr=a∧Knows t ⟨a,f.sq,0,0⟩
 dat:f.kd=2→C.D f
theorem Sound.kept {C:Ctx} {a:Int} {t t':List Ro} {f:Fr} (h:Sound C a t f) (hk:Kept t t'):Sound C a t' f:=
 ⟨fun e=>⟨(h.bea e).1,fun q hq=>((h.bea e).2 q hq).kept hk⟩,fun e=>⟨(h.pol e).1,(h.pol e).2.kept hk⟩,h.dat⟩
theorem Sound.data {C:Ctx} {a:Int} {t:List Ro} {f:Fr} (hk:f.kd=2) (h:C.D f):Sound C a t f:=
 ⟨fun e=>absurd (hk.symm.trans e) (by decide),fun e=>absurd (hk.symm.trans e) (by decide),fun _=>h⟩
structure Fine (C:Ctx) (R:Ro→Prop) (n m:Nd.Nd):Prop where
 good:Good n m
 rt:∀r∈m.table,r.dest≠m.addr→fin r=true→r∈n.table∨R r
 out:∀s∈m.out,Sound C m.addr m.table s.f
 bx:∀b∈m.boxes,b.f.kd=2∧C.D b.f
 pt:C.K m.parts
 ib:∀d∈m.inbox,C.M m.addr d
section
variable {C : Ctx} {R : Ro → Prop} {n m : Nd.Nd}
theorem Fine.ZL (h:Fine C R n m) {q:List Sn} (hl:q.length≤16) (hq:∀s∈q,∃t∈m.out,t.f=s.f):Fine C R n { m with out:=q }:=
 ⟨h.good.out hl,h.rt,fun s hs=>by obtain ⟨t,ht,e⟩:=hq s hs;rw[← e];exact h.out t ht,h.bx,h.pt,h.ib⟩
theorem Fine.lose (h:Fine C R n m):Fine C R n (lose m):=⟨h.good.lose,h.rt,h.out,h.bx,h.pt,h.ib⟩
theorem Fine.queue (h:Fine C R n m) {f:Fr} (hf:Sound C m.addr m.table f):Fine C R n (queue m f).1:=by
 have key:∀l,Fine C R n { m with out:=(jDB m.out f).1,lost:=l }↔Fine C R n { m with out:=(jDB m.out f).1,lost:=l }:=fun _=>Iff.rfl
 have hg:=h.good.queue f
 have hs:∀s∈(jDB m.out f).1,Sound C m.addr m.table s.f:=fun s hs=>by
  rcases jNW hs with hs|e
  ·exact h.out s hs
  ·rw [e];exact hf
 unfold Nd.queue at hg ⊢
 simp only at hg ⊢
 split
 ·rename_i hc;rw[if_pos hc]at hg;exact ⟨hg,h.rt,hs,h.bx,h.pt,h.ib⟩
 ·rename_i hc;rw[if_neg hc]at hg;exact ⟨hg,h.rt,hs,h.bx,h.pt,h.ib⟩
theorem Fine.box (h:Fine C R n m) {f:Fr} (hk:f.kd=2) (hf:C.D f) (now:Int):Fine C R n (box m f now):=by
 have hg:=h.good.box f now
 have hs:∀b∈(jEQ m.boxes f now).1,b.f.kd=2∧C.D b.f:=fun s hs=>by
  rcases jHi hs with hs|e
  ·exact h.bx s hs
  ·rw [e];exact ⟨hk,hf⟩
 unfold Nd.box at hg ⊢
 simp only at hg ⊢
 split
 ·rename_i hc;rw[if_pos hc]at hg;exact ⟨hg,h.rt,h.out,hs,h.pt,h.ib⟩
 ·rename_i hc;rw[if_neg hc]at hg;exact ⟨hg,h.rt,h.out,hs,h.pt,h.ib⟩
theorem Fine.deliver (h:Fine C R n m) {d:De} (hd:C.M m.addr d):Fine C R n (deliver m d):=by
 have hg:=h.good.deliver d
 unfold Nd.deliver at hg ⊢
 split
 ·exact h.lose
 ·rename_i hc
  rw[if_neg hc]at hg
  refine ⟨hg,h.rt,h.out,h.bx,h.pt,fun e he=>?_⟩
  rcases List.mem_append.1 he with he|he
  ·exact h.ib e he
  ·rw [List.mem_singleton.1 he];exact hd
theorem Fine.setTable (h:Fine C R n m) {t:List Ro} (ht:Tab m.addr t) (hk:Kept m.table t) (hr:∀r∈t,r.dest≠m.addr→fin r=true→r∈m.table∨R r):Fine C R n { m with table:=t }:=
 ⟨⟨h.good.ord.setTable ht,h.good.addr,h.good.kept.trans hk⟩,fun r h1 h2 h3=>(hr r h1 h2 h3).elim (fun g=>h.rt r g h2 h3) .inr,fun s hs=>(h.out s hs).kept hk,h.bx,h.pt,h.ib⟩
theorem Fine.kK (h:Fine C R n m) {t:List Li} (ht:jCA t=0):Fine C R n { m with links:=t }:=⟨⟨h.good.ord.kK ht,h.good.addr,h.good.kept⟩,h.rt,h.out,h.bx,h.pt,h.ib⟩
theorem Fine.ZP (h:Fine C R n m) {t:List Pt} (ht:C.K t):Fine C R n { m with parts:=t }:=⟨⟨h.good.ord.ZP t,h.good.addr,h.good.kept⟩,h.rt,h.out,h.bx,ht,h.ib⟩
theorem Fine.zQ (h:Fine C R n m) {q:List Ma} (hl:q.length≤16) (hq:∀b∈q,b∈m.boxes):Fine C R n { m with boxes:=q }:=⟨⟨h.good.ord.zQ hl,h.good.addr,h.good.kept⟩,h.rt,h.out,fun b hb=>h.bx b (hq b hb),h.pt,h.ib⟩
theorem jKu {t:List Ro} {self:Int} {r:Ro} (h:Tab self t) (hr:r∈jCj t self) (hd:r.dest≠self):r∈t:=by
 unfold jCj at hr
 rw[h.tab,jB6 h.ok]at hr
 split at hr
 ·rename_i o ho
  split at hr
  ·rcases List.mem_or_eq_of_mem_set hr with hr|rfl
   ·exact hr
   ·exact absurd (jF5 h.asc ho).2 hd
  ·exact hr
 ·exact hr
theorem Fine.bumped (h:Fine C R n m):Fine C R n (bumped m):=by
 obtain ⟨g1,g2⟩:=jEk h.good.ord.table
 exact h.setTable g1 g2 fun r h1 h2 h3=> .inl (jKu h.good.ord.table h1 h2)
theorem jEt (h:Ord m):Knows m.table ⟨m.addr,number m,0,0⟩:=by
 obtain ⟨r,h1,h2,h3,h4⟩:=h.table.get
 refine ⟨r,List.mem_of_find?_eq_some h1,h2,.inr ⟨?_,by show r.cost≤0;omega⟩⟩
 show r.sq=number m
 unfold number;rw[h1]
theorem Fine.J5 (h:Fine C R n m):Fine C R n (J5 m):=by
 unfold Nd.J5;split
 ·refine h.bumped.queue ⟨fun _=>⟨rfl,fun q hq=>jH4 hq⟩,fun e=>?_,fun e=>?_⟩
  ·exact absurd (show (1:Int)=3 from e) (by decide)
  ·exact absurd (show (1:Int)=2 from e) (by decide)
 ·exact h.bumped
theorem Fine.poll (h:Fine C R n m):Fine C R n (poll m):=by
 unfold Nd.poll;split
 ·refine h.bumped.queue ⟨fun e=>?_,fun _=>⟨rfl,jEt h.bumped.good.ord⟩,fun e=>?_⟩
  ·exact absurd (show (3:Int)=1 from e) (by decide)
  ·exact absurd (show (3:Int)=2 from e) (by decide)
 ·exact h.bumped
theorem Fine.boxes (now:Int):∀(l:List Fr) {m:Nd.Nd},(∀ f∈l,f.kd=2∧C.D f)→Fine C R n m→Fine C R n (l.foldl (fun n f=>Nd.box n f now) m)
 |[],_,_,h=>h
 |f::l,m,hl,h=>Fine.boxes now l (fun g hg=>hl g (List.mem_cons_of_mem _ hg)) (h.box (hl f (List.mem_cons_self ..)).1 (hl f (List.mem_cons_self ..)).2 now)
theorem jMq {x:Sn} (h:stale x=true):x.f.kd=2:=by unfold stale at h;simp at h;exact h.1.1
theorem Fine.asleep (h:Fine C R n m) (now:Int):Fine C R n (asleep m now):=by
 unfold Nd.asleep
 refine Fine.boxes now _ (fun f hf=>?_) (h.ZL (Nat.le_trans (List.length_filter_le _ _) h.good.ord.out) fun s hs=>⟨s,(List.mem_filter.1 hs).1,rfl⟩)
 obtain ⟨s,hs,rfl⟩:=List.mem_map.1 hf
 obtain ⟨h1,h2⟩:=List.mem_filter.1 hs
 have hk:=jMq h2
 exact ⟨hk,(h.out s h1).dat hk⟩
theorem Fine.tick (h:Fine C R n m) (now:Int):Fine C R n (Zr m now):=by
 have h1:Fine C R n (Nd.asleep { m with out:=Z6 m.out,boxes:=jBi m.boxes (Nd.tick now) 120,parts:=jCk m.parts (Nd.tick now) 120 } (Nd.tick now)):=
  Fine.asleep (((h.ZL (jB3 m.out) fun s hs=>jLT hs).zQ (jBh m.boxes (Nd.tick now) 120) fun b hb=>List.mem_of_mem_take (List.mem_filter.1 hb).1).ZP (C.hE _ _ _ h.pt)) (Nd.tick now)
 unfold Zr
 rw[h.good.ord.eq]
 simp only
 generalize Nd.asleep { m with out:=Z6 m.out,boxes:=jBi m.boxes (Nd.tick now) 120,parts:=jCk m.parts (Nd.tick now) 120 } (Nd.tick now)=a at h1 ⊢
 have h2:Fine C R n (if a.poll=0∧Nd.tick now%8=a.addr%8 then Nd.J5 a else a):=by
  split
  ·exact h1.J5
  ·exact h1
 generalize (if a.poll=0∧Nd.tick now%8=a.addr%8 then Nd.J5 a else a)=b at h2 ⊢
 split
 ·exact h2.poll
 ·exact h2
theorem Fine.Jo {now:Int}:∀(k:Nat) {m:Nd.Nd} {i:Nat},Fine C R n m→Fine C R n (Jo now k m i).1∧((Jo now k m i).2.2=true→Sound C (Jo now k m i).1.addr (Jo now k m i).1.table (Jo now k m i).2.1)
 |0,m,i,h=>⟨h,fun e=>by cases e⟩
 |k+1,m,i,h=>by
  unfold Nd.Jo
  split
  ·exact ⟨h,fun e=>by cases e⟩
  ·rename_i x hx
   have hm:x∈m.out:=List.mem_of_getElem? hx
   split
   ·exact Fine.Jo k h
   ·split
    ·exact ⟨h,fun _=>h.out x hm⟩
    ·rename_i hd
     have hk:x.f.kd=2:=Decidable.not_not.1 fun e=>hd (.inl e)
     have hD:=(h.out x hm).dat hk
     split
     ·exact Fine.Jo k ((h.ZL (Nat.le_trans (List.length_eraseIdx_le _ _) h.good.ord.out) fun s hs=>⟨s,List.mem_of_mem_eraseIdx hs,rfl⟩).box (f:={ x.f with dst:=x.f.ta }) hk (C.hD x.f x.f.fr x.f.ta x.f.hp hD) _)
     ·split
      ·exact ⟨h,fun _=>Sound.data hk (C.hD x.f x.f.fr _ x.f.hp hD)⟩
      ·split
       ·exact Fine.Jo k (h.ZL (Zj _ _ _) fun s hs=>jDw hs).lose
       ·exact Fine.Jo k (h.ZL (Zj _ _ _) fun s hs=>jDw hs)
theorem Fine.talk (h:Fine C R n m) (now:Int):Fine C R n (talk m now).1∧((talk m now).2.2=true→Sound C (talk m now).1.addr (talk m now).1.table (talk m now).2.1):=by
 unfold Nd.talk
 rw[h.good.ord.eq]
 exact Fine.Jo _ h
theorem jHD {t:List Ro} {self next:Int} {r:Ro} (h:Tab self t) (hr:r∈jH6 t self next) (hf:fin r=true):r∈t:=by
 unfold jH6 at hr
 rw[h.tab]at hr
 obtain ⟨x,hx,e⟩:=List.mem_map.1 hr
 split at e
 ·subst e;unfold fin at hf;simp at hf
 ·subst e;exact hx
theorem Fine.giveUp (h:Fine C R n m) (to:Int):Fine C R n (giveUp m to):=by
 have hg:=jCD h.good to
 obtain ⟨g1,g2⟩:=jDj (next:=to) h.good.ord.table
 unfold Nd.giveUp at hg ⊢
 split
 ·exact h.lose
 ·rename_i hc
  rw[if_neg hc]at hg
  exact ⟨hg,fun r h1 h2 h3=>h.rt r (jHD h.good.ord.table h1 h3) h2 h3,fun s hs=>(h.out s hs).kept g2,h.bx,h.pt,h.ib⟩
theorem Fine.result (h:Fine C R n m) (f:Fr) (ok:Bool):Fine C R n (result m f ok):=by
 unfold Nd.result
 rw[h.good.ord.eq]
 simp only
 split
 ·exact h
 ·rename_i i hi
  have k1:∀a,Fine C R n a→Fine C R n (if okN f.dst=true then { a with links:=ZE a.links f.dst ok } else a):=by
   intro a h1
   split
   ·exact h1.kK (Km _ _ _)
   ·exact h1
  have h2:=k1 { m with out:=(kU m.out i ok).1 } (h.ZL (Zj _ _ _) fun s hs=>jDw hs)
  split
  ·exact h2.giveUp _
  ·exact h2
theorem Fine.drain {fr now:Int}:∀(k:Nat) {m:Nd.Nd},Fine C R n m→Fine C R n (drain fr now k m)
 |0,_,h=>h
 |k+1,m,h=>by
  unfold Nd.drain
  simp only
  have hb:=(jCS m.boxes fr now 120).1
  have h1:Fine C R n { m with boxes:=(zu m.boxes fr now 120).2.1 }:=h.zQ hb fun b hb=>jFV hb
  split
  ·rename_i ht
   obtain ⟨b,hb,e⟩:=jHh ht
   obtain ⟨g1,g2⟩:=h.bx b hb
   rw[e]at g1 g2
   exact Fine.drain k (h1.queue (Sound.data g1 (C.hD _ m.addr (zu m.boxes fr now 120).1.dst (zu m.boxes fr now 120).1.hp g2)))
  ·exact h1
theorem Fine.JD {f:Fr} (h:Fine C R n m) (hf:okN f.fr=true) (hne:f.fr≠m.addr) (hR:∀q∈(jAA f.da).1,∀c,1≤c→fin (jAt f.fr c q)=true→R (jAt f.fr c q)):Fine C R n (JD m f):=by
 unfold Nd.JD
 simp only
 have k1:∀a:Nd.Nd,Fine C R n a→a.addr=m.addr→Fine C R n (if a.poll>0∧a.parent=255∧(kL (jAA f.da).1 0).2=true then { a with parent:=f.fr } else a):=by
  intro a h2 e2
  split
  ·exact ⟨⟨{ h2.good.ord with parent:= .inr ⟨hf,fun e=>hne (e.trans e2)⟩ },h2.good.addr,h2.good.kept⟩,h2.rt,h2.out,h2.bx,h2.pt,h2.ib⟩
  ·exact h2
 have k2:∀a:Nd.Nd,Fine C R n a→a.addr=m.addr→Fine C R n { a with table:=jEM a.table a.addr f.fr (jB9 a.links f.fr) (jAA f.da).1 }:=by
  intro a h1 e1
  obtain ⟨g1,g2⟩:=jAP (fr:=f.fr) (cost:=jB9 a.links f.fr) (adv:=(jAA f.da).1) h1.good.ord.table
  refine h1.setTable g1 g2 fun r hr h2 h3=>?_
  rcases jG3 h1.good.ord.table hr with hr|⟨hc,q,hq,rfl⟩
  ·exact .inl hr
  ·exact .inr (hR q hq _ hc h3)
 have h1:Fine C R n { m with links:=ZE m.links f.fr true }:=h.kK (Km _ _ _)
 split
 ·exact h1
 ·exact k1 _ (k2 _ h1 I) I
theorem Fine.polled {f:Fr} {now:Int} (h:Fine C R n m) (hf:okN f.fr=true) (hne:f.fr≠m.addr) (hR:fin (jAt f.fr 10 ⟨f.fr,f.sq,0,0⟩)=true→R (jAt f.fr 10 ⟨f.fr,f.sq,0,0⟩)):Fine C R n (polled m f now):=by
 unfold Nd.polled
 refine Fine.drain _ ?_
 obtain ⟨g1,g2⟩:=jAP (fr:=f.fr) (cost:=10) (adv:=[⟨f.fr,f.sq,0,0⟩]) h.good.ord.table
 obtain ⟨c1,c2⟩:=kE h.good.ord.kids f.fr
 refine ⟨⟨{ h.good.ord with table:=g1,kids:=c1,kid:=fun x hx=>?_ },h.good.addr,h.good.kept.trans g2⟩,fun r h1 h2 h3=>?_,fun s hs=>(h.out s hs).kept g2,h.bx,h.pt,h.ib⟩
 ·rcases (c2 x).1 hx with rfl|hx
  ·exact ⟨hf,hne⟩
  ·exact h.good.ord.kid x hx
 ·rcases jG3 h.good.ord.table h1 with h1|⟨_,q,hq,rfl⟩
  ·exact h.rt r h1 h2 h3
  ·rw [List.mem_singleton.1 hq]at h3 ⊢;exact .inr (hR h3)
theorem Fine.received {f:Fr} {now:Int} (h:Fine C R n m) (hk:f.kd=2) (hD:C.D f):Fine C R n (received m f now):=by
 unfold Nd.received
 simp only
 have h1:Fine C R n { m with seen:=(Z7 m.seen ⟨f.so,f.sq⟩).1 }:=⟨⟨{ h.good.ord with seen:=jA0 _ _ },h.good.addr,h.good.kept⟩,h.rt,h.out,h.bx,h.pt,h.ib⟩
 split
 ·exact h1
 ·split
  ·rename_i hta
   split
   ·exact h1
   ·rename_i he
    have he:(jCm m.parts f.so now f.da).e=0:=Decidable.not_not.1 he
    obtain ⟨k1,k2⟩:=C.hK m.parts f now h.pt hD he
    split
    ·rename_i ho
     have hM:=k2 ho
     rw[hta]at hM
     exact (h1.ZP k1).deliver hM
    ·exact h1.ZP k1
  ·split
   ·exact h1.lose
   ·exact h1.queue (Sound.data hk (C.hD f m.addr 255 (f.hp+1) hD))
theorem Fine.hear {f:Fr} {y:Int} {t:List Ro} (h:Fine C R n m) (now:Int) (hs:Sound C y t f) (hR:∀r,r.nx=y→jCc t r→R r):Fine C R n (hear m now f):=by
 unfold Nd.hear
 rw[h.good.ord.eq]
 simp only
 split
 ·exact h
 ·rename_i h1
  have hc:jCe f=0:=Decidable.not_not.1 fun e=>h1 (.inl e)
  have hf:=(jED hc).1
  have hne:f.fr≠m.addr:=fun e=>h1 (.inr (.inl e))
  split
  ·rename_i hk
   obtain ⟨g1,g2⟩:=hs.bea hk
   refine h.JD hf hne fun q hq c hc1 hfin=>?_
   obtain ⟨a1,a2⟩:=jC5 (g2 q hq) hc1 hfin
   exact hR _ (a1.trans g1) a2
  ·split
   ·rename_i hk
    obtain ⟨g1,g2⟩:=hs.pol hk.1
    refine h.polled hf hne fun hfin=>?_
    rw[g1]at hfin ⊢
    obtain ⟨a1,a2⟩:=jC5 g2 (by decide) hfin
    exact hR _ a1 a2
   ·split
    ·rename_i hk
     exact h.received hk.1 (hs.dat hk.1)
    ·exact h
theorem Fine.sends {target:Int} {ur:Bool}:∀ {l:List By} {m z:Nd.Nd},(∀ (sq:Int),∀p∈l,C.D ⟨2,m.addr,255,m.addr,target,sq,0,ur,p⟩)→Fine C R n m→sends target ur l m=some z→Fine C R n z
 |[],m,z,_,h,e=>by cases e;exact h
 |p::l,m,z,hl,h,e=>by
  unfold Nd.sends at e
  split at e
  ·have ha:=(Zb m (KG m target ur p)).2
   have hq:Fine C R n (Nd.queue m (KG m target ur p)).1:=h.queue (Sound.data I (hl m.seq p (List.mem_cons_self ..)))
   have h2:Fine C R n { (Nd.queue m (KG m target ur p)).1 with seq:=(m.seq+1)%65536 }:=
    ⟨⟨{ hq.good.ord with seq:=by show 0≤(m.seq+1)%65536∧(m.seq+1)%65536≤65535;omega },hq.good.addr,hq.good.kept⟩,hq.rt,hq.out,hq.bx,hq.pt,hq.ib⟩
   refine Fine.sends (l:=l) (fun sq q hq=>?_) h2 e
   show C.D ⟨2,(Nd.queue m (KG m target ur p)).1.addr,255,(Nd.queue m (KG m target ur p)).1.addr,target,sq,0,ur,q⟩
   rw[ha]
   exact hl sq q (List.mem_cons_of_mem _ hq)
  ·cases e
theorem Fine.send {target:Int} {ur:Bool} {text:By} (h:Fine C R n m) (hM:C.M m.addr ⟨m.addr,text⟩∨target≠m.addr) (hl:∀(sq id:Int),∀p∈(zF text id).1,C.D ⟨2,m.addr,255,m.addr,target,sq,0,ur,p⟩)
  (e:(Nd.send m target ur text).2=0):Fine C R n (Nd.send m target ur text).1:=by
 unfold Nd.send at e ⊢
 rw[h.good.ord.eq]at e ⊢
 simp only at e ⊢
 split at e
 ·cases e
 ·rename_i h1
  rw[if_neg h1]
  split at e
  ·rename_i h2;exact absurd e h2
  ·rename_i h2
   rw[if_neg h2]
   split at e
   ·rename_i h3
    rw[if_pos h3]
    exact h.deliver (hM.elim id fun g=>absurd h3 g)
   ·rename_i h3
    rw[if_neg h3]
    split at e
    ·rename_i z hz
     exact Fine.sends (fun sq p hp=>hl sq _ p hp) h hz
    ·cases e
theorem Fine.take (h:Fine C R n m):Fine C R n (take m).1∧(take m).2=m.inbox:=by
 unfold Nd.take
 rw[h.good.ord.eq]
 exact ⟨⟨⟨{ h.good.ord with inbox:=Nat.zero_le _ },h.good.addr,h.good.kept⟩,h.rt,h.out,h.bx,h.pt,fun d hd=>by cases hd⟩,rfl⟩
theorem Fine.refl (h:Ord m) (h1:∀s∈m.out,Sound C m.addr m.table s.f) (h2:∀b∈m.boxes,b.f.kd=2∧C.D b.f) (h3:C.K m.parts) (h4:∀d∈m.inbox,C.M m.addr d):Fine C R m m:=
 ⟨Good.refl h,fun r hr _ _=> .inl hr,h1,h2,h3,h4⟩
theorem jEG {a:Int}:∀(l:List Ro) {t:List Ro},Tab a t→Tab a (jCp a l t)∧Kept t (jCp a l t)∧∀r∈jCp a l t,fin r=true→r∈t
 |[],t,h=>⟨h,Kept.refl t,fun r hr _=>hr⟩
 |x::l,t,h=>by
  have hs:jCp a (x::l) t=jCp a l (if x.nx≠a∧x.nx≠255 then jH6 t a x.nx else t):=rfl
  rw[hs]
  split
  ·obtain ⟨g1,g2⟩:=jDj (next:=x.nx) h
   obtain ⟨k1,k2,k3⟩:=jEG l g1
   exact ⟨k1,g2.trans k2,fun r hr hf=>jHD h (k3 r hr hf) hf⟩
  ·exact jEG l h
theorem Zi {a poll:Int} (h:okN a=true):(new a poll).addr=a∧(new a poll).out=[]∧(new a poll).boxes=[]∧(new a poll).parts=[]∧(new a poll).inbox=[]∧(new a poll).table=[jG9 a]:=by
 rw[zT]at h
 have hc:clamp a 0 250=a:=by unfold clamp;omega
 refine ⟨hc,rfl,rfl,rfl,rfl,?_⟩
 show (if jAR [] (clamp a 0 250)=0 then []else [jG9 (clamp a 0 250)])=_
 rw[hc,if_neg]
 unfold jAR
 rw[if_neg (by decide),if_neg (by rw[(zT a).2 h];decide)]
 simp[jc]
theorem Fine.again (h:Ord m):Fine C R m (again m m.addr):=by
 have hn:=Ja ⟨m.addr,m.poll,255,[],[],[],[],[],[],[],[],0,0⟩
 obtain ⟨e1,e2,e3,e4,e5,e6⟩:=Zi (poll:=m.poll) h.table.ok
 obtain ⟨k1,k2,k3⟩:=jEG m.table h.table
 have hn:Ord (new m.addr m.poll):=hn
 refine ⟨⟨?_,e1,k2⟩,fun r hr h2 h3=> .inl (k3 r hr h3),fun s hs=>?_,fun b hb=>?_,?_,fun d hd=>?_⟩
 ·have:=hn.setTable (t:=jCp m.addr m.table m.table) (by rw[e1];exact k1)
  exact { this with seq:=h.seq }
 ·have hs:s∈(new m.addr m.poll).out:=hs
  rw[e2]at hs;cases hs
 ·have hb:b∈(new m.addr m.poll).boxes:=hb
  rw[e3]at hb;cases hb
 ·show C.K (new m.addr m.poll).parts
  rw[e4];exact C.hN
 ·have hd:d∈(new m.addr m.poll).inbox:=hd
  rw[e5]at hd;cases hd
end
end Me
namespace Me
open Go.GX Nd Tp
structure Inv (C:Ctx) (l:List Nd.Nd):Prop where
 ord:∀x∈l,Ord x
 dis:∀(i j:Nat) (x y:Nd.Nd),l[i]? =some x→l[j]? =some y→x.addr=y.addr→i=j
 rt:∀x∈l,∀r∈x.table,r.dest≠x.addr→fin r=true→∀y∈l,y.addr=r.nx→jCc y.table r
 out:∀x∈l,∀s∈x.out,Sound C x.addr x.table s.f
 bx:∀x∈l,∀b∈x.boxes,b.f.kd=2∧C.D b.f
 pt:∀x∈l,C.K x.parts
 ib:∀x∈l,∀d∈x.inbox,C.M x.addr d
theorem Inv.fine {C:Ctx} {R:Ro→Prop} {l:List Nd.Nd} (h:Inv C l) {x:Nd.Nd} (hx:x∈l):Fine C R x x:=
 Fine.refl (h.ord x hx) (h.out x hx) (h.bx x hx) (h.pt x hx) (h.ib x hx)
theorem Inv.same {C:Ctx} {l:List Nd.Nd} (h:Inv C l) {x y:Nd.Nd} (hx:x∈l) (hy:y∈l) (e:x.addr=y.addr):x=y:=by
 obtain ⟨i,hi⟩:=List.getElem?_of_mem hx
 obtain ⟨j,hj⟩:=List.getElem?_of_mem hy
 have:=h.dis i j x y hi hj e
 subst this
 rw[hi]at hj;cases hj;rfl
theorem Inv.upd {C:Ctx} {R:Ro→Prop} {l:List Nd.Nd} (h:Inv C l) {k:Nat} {x x':Nd.Nd} (hx:l[k]? =some x) (hf:Fine C R x x') (hR:∀r,R r→∀y∈l,y.addr=r.nx→jCc y.table r):Inv C (l.set k x'):=by
 have hk:=(List.getElem?_eq_some_iff.1 hx).1
 have hxm:x∈l:=List.mem_of_getElem? hx
 have mem:∀ {z},z∈l.set k x'→z=x'∨z∈l:=fun hz=>(List.mem_or_eq_of_mem_set hz).symm
 have old:∀y∈l.set k x',∃y0∈l,y0.addr=y.addr∧Kept y0.table y.table:=fun y hy=>by
  rcases mem hy with rfl|hy
  ·exact ⟨x,hxm,hf.good.addr.symm,hf.good.kept⟩
  ·exact ⟨y,hy,rfl,Kept.refl _⟩
 refine ⟨fun z hz=>?_,fun i j z y hi hj e=>?_,fun z hz r hr hd hfin y hy hn=>?_,fun z hz=>?_,fun z hz=>?_,fun z hz=>?_,fun z hz=>?_⟩
 ·rcases mem hz with rfl|hz
  ·exact hf.good.ord
  ·exact h.ord z hz
 ·have get:∀(i:Nat) (z:Nd.Nd),(l.set k x')[i]? =some z→∃z0,l[i]? =some z0∧z0.addr=z.addr:=fun i z hi=>by
   by_cases hik:i=k
   ·subst hik
    rw[List.getElem?_set_self hk]at hi;cases hi
    exact ⟨x,hx,hf.good.addr.symm⟩
   ·rw [List.getElem?_set_ne (Ne.symm hik)]at hi
    exact ⟨z,hi,rfl⟩
  obtain ⟨z0,a1,a2⟩:=get i z hi
  obtain ⟨y0,b1,b2⟩:=get j y hj
  exact h.dis i j z0 y0 a1 b1 (a2.trans (e.trans b2.symm))
 ·obtain ⟨y0,hy0,e0,k0⟩:=old y hy
  refine jCc.kept ?_ k0
  rcases mem hz with rfl|hz
  ·rcases hf.rt r hr hd hfin with h1|h1
   ·exact h.rt x hxm r h1 (by rw[← hf.good.addr];exact hd) hfin y0 hy0 (e0.trans hn)
   ·exact hR r h1 y0 hy0 (e0.trans hn)
  ·exact h.rt z hz r hr hd hfin y0 hy0 (e0.trans hn)
 ·rcases mem hz with rfl|hz
  ·exact hf.out
  ·exact h.out z hz
 ·rcases mem hz with rfl|hz
  ·exact hf.bx
  ·exact h.bx z hz
 ·rcases mem hz with rfl|hz
  ·exact hf.pt
  ·exact h.pt z hz
 ·rcases mem hz with rfl|hz
  ·exact hf.ib
  ·exact h.ib z hz
abbrev none_:Ro→Prop:=fun _=>False
theorem Inv.loc {C:Ctx} {l:List Nd.Nd} (h:Inv C l) {k:Nat} {x x':Nd.Nd} (hx:l[k]? =some x) (hf:Fine C none_ x x'):Inv C (l.set k x'):=h.upd hx hf fun r hr=>hr.elim
theorem jDb {l:List Nd.Nd} {k:Nat} {x x':Nd.Nd} (hx:l[k]? =some x) (ha:x'.addr=x.addr):(l.set k x').map (·.addr)=l.map (·.addr):=by
 refine List.ext_getElem? fun i=>?_
 simp only[List.getElem?_map]
 by_cases hik:i=k
 ·subst hik
  rw[List.getElem?_set_self (List.getElem?_eq_some_iff.1 hx).1,hx]
  simp[ha]
 ·rw [List.getElem?_set_ne (Ne.symm hik)]
theorem jRN {l:List Nd.Nd} {k:Nat} (hk:k<l.length):l[k]? =some (nth l k):=by
 unfold nth;rw[List.getD_eq_getElem?_getD,List.getElem?_eq_getElem hk];rfl
theorem jRM {l:List Nd.Nd} {k:Nat} {x:Nd.Nd} (hx:l[k]? =some x):nth l k=x:=by
 unfold nth;rw[List.getD_eq_getElem?_getD,hx];rfl
theorem ZQ {l:List Nd.Nd} {a:Int} {k:Nat} (h:idx l a=some k):l[k]? =some (nth l k)∧(nth l k).addr=a:=by
 obtain ⟨h1,h2,_⟩:=List.findIdx?_eq_some_iff_getElem.1 h
 have:=jRN h1
 refine ⟨this,?_⟩
 rw[List.getElem?_eq_getElem h1]at this
 rw[← Option.some.inj this]
 simpa using h2
theorem jNi {l:List Nd.Nd} {a:Int} (h:idx l a=none):∀x∈l,x.addr≠a:=by
 intro x hx e
 have:=List.findIdx?_eq_none_iff.1 h x hx
 simp[e]at this
theorem jLz {l:List Nd.Nd} {x:Nd.Nd} (hx:x∈l):∃k,idx l x.addr=some k:=by
 cases h:idx l x.addr with
 |some k=>exact ⟨k,rfl⟩
 |none=>exact absurd I (jNi h x hx)
theorem Inv.map {C:Ctx} {l:List Nd.Nd} (h:Inv C l) (g:Nd.Nd→Nd.Nd) (hg:∀x∈l,Fine C none_ x (g x)):Inv C (l.map g):=by
 have mem:∀ {z},z∈l.map g→∃x∈l,g x=z:=fun hz=>List.mem_map.1 hz
 refine ⟨fun z hz=>?_,fun i j z y hi hj e=>?_,fun z hz r hr hd hfin y hy hn=>?_,fun z hz=>?_,fun z hz=>?_,fun z hz=>?_,fun z hz=>?_⟩
 ·obtain ⟨x,hx,rfl⟩:=mem hz;exact (hg x hx).good.ord
 ·rw [List.getElem?_map]at hi hj
  cases hi':l[i]? with
  |none=>rw[hi']at hi;cases hi
  |some z0=>
   cases hj':l[j]? with
   |none=>rw[hj']at hj;cases hj
   |some y0=>
    rw[hi']at hi;rw[hj']at hj
    cases hi;cases hj
    refine h.dis i j z0 y0 hi' hj' ?_
    rw[← (hg z0 (List.mem_of_getElem? hi')).good.addr,← (hg y0 (List.mem_of_getElem? hj')).good.addr];exact e
 ·obtain ⟨x,hx,rfl⟩:=mem hz
  obtain ⟨y0,hy0,rfl⟩:=mem hy
  have fx:=hg x hx
  have fy:=hg y0 hy0
  rcases fx.rt r hr hd hfin with h1|h1
  ·exact (h.rt x hx r h1 (by rw[← fx.good.addr];exact hd) hfin y0 hy0 (fy.good.addr.symm.trans hn)).kept fy.good.kept
  ·exact h1.elim
 ·obtain ⟨x,hx,rfl⟩:=mem hz;exact (hg x hx).out
 ·obtain ⟨x,hx,rfl⟩:=mem hz;exact (hg x hx).bx
 ·obtain ⟨x,hx,rfl⟩:=mem hz;exact (hg x hx).pt
 ·obtain ⟨x,hx,rfl⟩:=mem hz;exact (hg x hx).ib
def Says (C:Ctx) (l:List Nd.Nd) (k:Nat) (f:Fr):Prop:=∃x,l[k]? =some x∧Sound C x.addr x.table f
theorem Inv.ZK {C:Ctx} {f:Fr} {now:Int} {k:Nat} {s:List Nd.Nd×Bool} (h:Inv C s.1) (hs:Says C s.1 k f) (to:Int):
  Inv C (ZK f now s to).1∧Says C (ZK f now s to).1 k f∧(ZK f now s to).1.map (·.addr)=s.1.map (·.addr):=by
 unfold Me.ZK
 split
 ·exact ⟨h,hs,rfl⟩
 ·rename_i i hi
  obtain ⟨h1,h2⟩:=ZQ hi
  split
  ·obtain ⟨x,hx,hso⟩:=hs
   have hf:Fine C (fun r=>r.nx=x.addr∧jCc x.table r) (nth s.1 i) (hear (nth s.1 i) now f):=(h.fine (List.mem_of_getElem? h1)).hear now hso fun r e1 e2=>⟨e1,e2⟩
   refine ⟨h.upd h1 hf fun r hr y hy e=>?_,?_,jDb h1 hf.good.addr⟩
   ·rw [h.same hy (List.mem_of_getElem? hx) (e.trans hr.1)];exact hr.2
   ·by_cases hik:k=i
    ·subst hik
     rw[hx]at h1
     have e:nth s.1 k=x:=(Option.some.inj h1).symm
     rw[e]at hf ⊢
     refine ⟨_,List.getElem?_set_self (List.getElem?_eq_some_iff.1 hx).1,?_⟩
     rw[hf.good.addr]
     exact hso.kept hf.good.kept
    ·exact ⟨x,by rw[List.getElem?_set_ne (Ne.symm hik)];exact hx,hso⟩
  ·exact ⟨h,hs,rfl⟩
theorem Inv.hears {C:Ctx} {f:Fr} {now:Int} {k:Nat}:∀(tos:List Int) {s:List Nd.Nd×Bool},Inv C s.1→Says C s.1 k f→
  Inv C (tos.foldl (Me.ZK f now) s).1∧Says C (tos.foldl (Me.ZK f now) s).1 k f∧(tos.foldl (Me.ZK f now) s).1.map (·.addr)=s.1.map (·.addr)
 |[],s,h,hs=>⟨h,hs,rfl⟩
 |to::tos,s,h,hs=>by
  obtain ⟨h1,h2,h3⟩:=h.ZK (now:=now) hs to
  obtain ⟨g1,g2,g3⟩:=Inv.hears (now:=now) tos h1 h2
  exact ⟨g1,g2,g3.trans h3⟩
def Waits (C:Ctx) (l:List Nd.Nd) (fs:List (Fr×Bool)):Prop:=∀i f,fs[i]? =some (f,true)→Says C l i f
theorem Says.stay {C:Ctx} {l l':List Nd.Nd} {k:Nat} {f:Fr} (h:Says C l k f) (hk:∀x,l[k]? =some x→∃y,l'[k]? =some y∧y.addr=x.addr∧Kept x.table y.table):Says C l' k f:=by
 obtain ⟨x,hx,hs⟩:=h
 obtain ⟨y,hy,e1,e2⟩:=hk x hx
 refine ⟨y,hy,?_⟩
 rw[e1];exact hs.kept e2
def Grown (l l':List Nd.Nd):Prop:=∀(k:Nat) (x:Nd.Nd),l[k]? =some x→∃y,l'[k]? =some y∧y.addr=x.addr∧Kept x.table y.table
theorem Grown.refl (l:List Nd.Nd):Grown l l:=fun k x hx=>⟨x,hx,rfl,Kept.refl _⟩
theorem Grown.trans {a b c:List Nd.Nd} (h:Grown a b) (h':Grown b c):Grown a c:=fun k x hx=>by
 obtain ⟨y,hy,e1,e2⟩:=h k x hx
 obtain ⟨z,hz,g1,g2⟩:=h' k y hy
 exact ⟨z,hz,g1.trans e1,e2.trans g2⟩
theorem Grown.set {l:List Nd.Nd} {k:Nat} {x x':Nd.Nd} (hx:l[k]? =some x) (hg:Good x x'):Grown l (l.set k x'):=fun i z hz=>by
 by_cases hik:i=k
 ·subst hik
  rw[hx]at hz;cases hz
  exact ⟨x',List.getElem?_set_self (List.getElem?_eq_some_iff.1 hx).1,hg.addr,hg.kept⟩
 ·exact ⟨z,by rw[List.getElem?_set_ne (Ne.symm hik)];exact hz,rfl,Kept.refl _⟩
theorem jGd {f:Fr} {now:Int} {s:List Nd.Nd×Bool} {to:Int} (h:∀x∈s.1,Ord x):Grown s.1 (ZK f now s to).1∧∀x∈(ZK f now s to).1,Ord x:=by
 unfold ZK
 split
 ·exact ⟨Grown.refl _,h⟩
 ·rename_i i hi
  obtain ⟨h1,h2⟩:=ZQ hi
  split
  ·have ho:=h _ (List.mem_of_getElem? h1)
   have hg:=jFC (nth s.1 i) now f
   rw[ho.eq]at hg
   refine ⟨Grown.set h1 hg,fun x hx=>?_⟩
   rcases List.mem_or_eq_of_mem_set hx with hx|rfl
   ·exact h x hx
   ·exact hg.ord
  ·exact ⟨Grown.refl _,h⟩
theorem jCC {f:Fr} {now:Int}:∀(tos:List Int) {s:List Nd.Nd×Bool},(∀ x∈s.1,Ord x)→Grown s.1 (tos.foldl (ZK f now) s).1
 |[],s,h=>Grown.refl _
 |to::tos,s,h=>by
  obtain ⟨h1,h2⟩:=jGd (f:=f) (now:=now) (to:=to) h
  exact h1.trans (jCC tos h2)
theorem Inv.told {C:Ctx} {a:Air} {now:Int} {l:List Nd.Nd} {k:Nat} {f:Fr} (h:Inv C l) (hs:Says C l k f):Inv C (told a now l k f)∧Grown l (told a now l k f)∧(told a now l k f).map (·.addr)=l.map (·.addr):=by
 obtain ⟨h1,⟨x,hx,_⟩,h3⟩:=h.hears (now:=now) (Ra.recv (Ra.san a) f) (s:=(l,false)) hs
 have hg:=jCC (f:=f) (now:=now) (Ra.recv (Ra.san a) f) (s:=(l,false)) h.ord
 unfold Me.told
 simp only
 have e:Me.hears f now l (Ra.recv (Ra.san a) f)=(Ra.recv (Ra.san a) f).foldl (Me.ZK f now) (l,false):=rfl
 rw[e]
 generalize (Ra.recv (Ra.san a) f).foldl (Me.ZK f now) (l,false)=H at h1 hx h3 hg ⊢
 rw[jRM hx]
 have hf:Fine C none_ x (result x f (Ra.jFe (Ra.san a) f&&(H.2||(f.dst==255)))):=(h1.fine (List.mem_of_getElem? hx)).result _ _
 exact ⟨h1.loc hx hf,hg.trans (Grown.set hx hf.good),(jDb hx hf.good.addr).trans h3⟩
theorem Inv.tells {C:Ctx} {a:Air} {now:Int} {fs:List (Fr×Bool)} {l:List Nd.Nd} (h:Inv C l) (hw:Waits C l fs):∀k,Inv C (tells a now fs k l)∧Grown l (tells a now fs k l)∧(tells a now fs k l).map (·.addr)=l.map (·.addr)
 |0=>⟨h,Grown.refl _,rfl⟩
 |k+1=>by
  obtain ⟨h1,h2,h3⟩:=Inv.tells (a:=a) (now:=now) h hw k
  unfold Me.tells
  cases hf:fs[k]? with
  |none=>exact ⟨h1,h2,h3⟩
  |some p=>
   obtain ⟨f,b⟩:=p
   cases b with
   |false=>exact ⟨h1,h2,h3⟩
   |true=>
    have hs:=(hw k f hf).stay (h2 k)
    obtain ⟨g1,g2,g3⟩:=h1.told (a:=a) (now:=now) hs
    exact ⟨g1,h2.trans g2,g3.trans h3⟩
theorem Inv.gen {C:Ctx} {l:List Nd.Nd} (h:Inv C l) (a:Air) (now:Int) (g:Nd.Nd→Nd.Nd×Fr×Bool)
  (hg:∀x∈l,Fine C none_ x (g x).1∧((g x).2.2=true→Sound C (g x).1.addr (g x).1.table (g x).2.1)) (n:Nat):
  Inv C (Me.tells a now ((l.map g).map (·.2)) n ((l.map g).map (·.1)))∧(Me.tells a now ((l.map g).map (·.2)) n ((l.map g).map (·.1))).map (·.addr)=l.map (·.addr):=by
 have hm:=h.map (fun n=>(g n).1) fun x hx=>(hg x hx).1
 have e1:(l.map g).map (·.1)=l.map fun n=>(g n).1:=by rw[List.map_map];rfl
 have e2:(l.map g).map (·.2)=l.map fun n=>(g n).2:=by rw[List.map_map];rfl
 have hw:Waits C (l.map fun n=>(g n).1) (l.map fun n=>(g n).2):=by
  intro i f hi
  rw[List.getElem?_map]at hi
  cases hx:l[i]? with
  |none=>rw[hx]at hi;cases hi
  |some x=>
   rw[hx]at hi
   have hi:(g x).2=(f,true):=Option.some.inj hi
   have hk:=(hg x (List.mem_of_getElem? hx)).2 (by rw[hi])
   rw[hi]at hk
   exact ⟨(g x).1,by rw[List.getElem?_map,hx];rfl,hk⟩
 rw[e1,e2]
 obtain ⟨g1,g2,g3⟩:=hm.tells (a:=a) (now:=now) hw n
 refine ⟨g1,g3.trans ?_⟩
 rw[List.map_map]
 exact List.map_congr_left fun x hx=>(hg x hx).1.good.addr
theorem Inv.step {C:Ctx} {m:Mesh} (h:Inv C m.nodes) (a:Air):Inv C (jDy m a).nodes∧(jDy m a).nodes.map (·.addr)=m.nodes.map (·.addr):=by
 have key:∀now,∀x∈m.nodes,Fine C none_ x (jBS now (live a x.addr) (phase1 a now x)).1∧((jBS now (live a x.addr) (phase1 a now x)).2.2=true→Sound C (jBS now (live a x.addr) (phase1 a now x)).1.addr (jBS now (live a x.addr) (phase1 a now x)).1.table (jBS now (live a x.addr) (phase1 a now x)).2.1):=by
  intro now x hx
  have hf:Fine C none_ x x:=h.fine hx
  unfold jBS phase1
  by_cases hl:live a x.addr=true
  ·simp only[if_pos hl]
   exact (hf.tick now).talk now
  ·simp only[if_neg hl]
   exact ⟨hf,fun e=>Bool.noConfusion e⟩
 unfold jDy spoken
 generalize jHN m.tick=now
 exact h.gen a now (fun n=>jBS now (live a n.addr) (phase1 a now n)) (key now) m.nodes.length
theorem asc_one {t:List Ro} (h:Asc (·.dest) t) {r s:Ro} (hr:r∈t) (hs:s∈t) (e:r.dest=s.dest):r=s:=by
 obtain ⟨i,hi⟩:=List.getElem?_of_mem hr
 obtain ⟨j,hj⟩:=List.getElem?_of_mem hs
 rcases Nat.lt_trichotomy i j with hij|rfl|hij
 ·have:=h.lt hij hi hj;omega
 ·rw [hi]at hj;cases hj;rfl
 ·have:=h.lt hij hj hi;omega
theorem jPi {t:List Ro} {d:Int} (h:(kL t d).2=true):∃r∈t,r.dest=d∧fin r=true∧(kL t d).1=r.nx:=by
 unfold kL at h ⊢
 split at h
 ·rename_i r hr
  split at h
  ·rename_i hf
   exact ⟨r,List.mem_of_find?_eq_some hr,by simpa using List.find?_some hr,hf,by rw[if_pos hf]⟩
  ·cases h
 ·cases h
theorem jMB {C:Ctx} {l:List Nd.Nd} (h:Inv C l) (to:Int):∀(k:Nat) (p:List Int) (now:Int),
  (∀ b∈p,b≠to∧∃y∈l,y.addr=b∧∃r∈y.table,r.dest=to∧∀z∈l,z.addr=now→jCc z.table r)→(jMf l to k p now).2≠2
 |0,p,now,_=>fun e=>absurd (show (1:Int)=2 from e) (by decide)
 |k+1,p,now,hp=>by
  unfold jMf
  split
  ·exact fun e=>absurd (show (1:Int)=2 from e) (by decide)
  ·rename_i i hi
   obtain ⟨h1,h2⟩:=ZQ hi
   have hm:=List.mem_of_getElem? h1
   split
   ·rename_i hin
    exfalso
    obtain ⟨_,y,hy,e,r,hr,hd,ha⟩:=hp now hin
    obtain ⟨s,hs,e1,e2⟩:=ha y hy e
    have:=asc_one (h.ord y hy).table.asc hs hr e1
    subst this
    omega
   ·split
    ·exact fun e=>absurd (show (0:Int)=2 from e) (by decide)
    ·rename_i hto
     split
     ·rename_i hh
      obtain ⟨r,hr,hd,hf,hn⟩:=jPi hh
      have hab:∀z∈l,z.addr=(kL (nth l i).table to).1→jCc z.table r:=fun z hz e=>h.rt _ hm r hr (by rw[hd,h2];exact fun e=>hto e.symm) hf z hz (e.trans hn)
      refine jMB h to k _ _ fun b hb=>?_
      rcases List.mem_append.1 hb with hb|hb
      ·obtain ⟨g1,y,hy,e,q,hq,hqd,ha⟩:=hp b hb
       refine ⟨g1,y,hy,e,q,hq,hqd,fun z hz ez=>?_⟩
       obtain ⟨s,hs,e1,e2⟩:=ha _ hm h2
       have:=asc_one (h.ord _ hm).table.asc hs hr (by rw[e1,hqd,hd])
       subst this
       obtain ⟨u,hu,u1,u2⟩:=hab z hz ez
       exact ⟨u,hu,by rw[u1,e1],by omega⟩
      ·rw [List.mem_singleton.1 hb]
       exact ⟨hto,_,hm,h2,r,hr,hd,hab⟩
     ·exact fun e=>absurd (show (1:Int)=2 from e) (by decide)
theorem Inv.jHP {C:Ctx} {l:List Nd.Nd} (h:Inv C l):loops l=false:=by
 unfold loops
 rw[← Bool.not_eq_true,List.any_eq_true]
 rintro ⟨n,hn,h2⟩
 obtain ⟨r,hr,h3⟩:=List.any_eq_true.1 h2
 have:=jMB h r.dest (l.length+2) [] n.addr fun b hb=>by cases hb
 exact this (by simpa[follow]using h3)
end Me
namespace Me
open Go.GX Nd Tp
theorem jNh {α:Type} (p:α→Bool) (l:List α) (x:α):(ins p l x).Perm (x::l):=by
 unfold ins
 have:=List.perm_middle (a:=x) (l₁:=l.takeWhile p) (l₂:=l.dropWhile p)
 rwa[List.takeWhile_append_dropWhile]at this
theorem Kv (addrs polls:List Int):∀k,(build addrs polls k).Perm ((List.range k).map (nodeAt addrs polls))
 |0=>List.Perm.refl _
 |k+1=>by
  unfold build put
  refine (jNh _ _ _).trans ?_
  rw[List.range_succ,List.map_append]
  exact ((Kv addrs polls k).cons _).trans (List.perm_append_singleton _ _).symm
theorem jPB {addrs:List Int} (h:jc (Js addrs) addrs.length=0):(∀ a∈addrs,okN a=true)∧addrs.Nodup:=by
 have key:∀(i:Nat) (a:Int),addrs[i]? =some a→okN a=true∧a ∉ addrs.take i:=by
  intro i a hi
  have h1:=zo h i (List.getElem?_eq_some_iff.1 hi).1
  unfold Js at h1
  rw[hi]at h1
  simp only at h1
  split at h1
  ·cases h1
  ·rename_i h2
   split at h1
   ·cases h1
   ·rename_i h3
    exact ⟨by cases e:okN a;exact absurd e h2;rfl,h3⟩
 refine ⟨fun a ha=>?_,?_⟩
 ·obtain ⟨i,hi⟩:=List.getElem?_of_mem ha
  exact (key i a hi).1
 ·refine List.pairwise_iff_getElem.2 fun i j hi hj hij e=>?_
  refine (key j addrs[j] (List.getElem?_eq_getElem hj)).2 ?_
  rw[← e]
  exact List.mem_of_getElem? (i:=i) (by rw[List.getElem?_take_of_lt hij,List.getElem?_eq_getElem hi])
theorem jSA {l:List Nd.Nd} (h:(l.map (·.addr)).Nodup):∀(i j:Nat) (x y:Nd.Nd),l[i]? =some x→l[j]? =some y→x.addr=y.addr→i=j:=by
 intro i j x y hi hj e
 have hi':(l.map (·.addr))[i]? =some x.addr:=by rw[List.getElem?_map,hi];rfl
 have hj':(l.map (·.addr))[j]? =some y.addr:=by rw[List.getElem?_map,hj];rfl
 exact (List.getElem?_inj (List.getElem?_eq_some_iff.1 hi').1 h).1 (by rw[hi',hj',e])
theorem jMW {C:Ctx} {addrs polls:List Int} (h:jc (Js addrs) addrs.length=0):Inv C (build addrs polls addrs.length)∧(build addrs polls addrs.length).length=addrs.length:=by
 obtain ⟨h1,h2⟩:=jPB h
 have hp:=Kv addrs polls addrs.length
 have hat:∀k,k<addrs.length→okN (addrs.getD k 0)=true:=fun k hk=>by
  rw[List.getD_eq_getElem?_getD,List.getElem?_eq_getElem hk]
  exact h1 _ (List.getElem_mem hk)
 have hx:∀x∈build addrs polls addrs.length,∃a p,okN a=true∧x=new a p:=fun x hx=>by
  obtain ⟨k,hk,rfl⟩:=List.mem_map.1 (hp.mem_iff.1 hx)
  exact ⟨_,_,hat k (List.mem_range.1 hk),rfl⟩
 have ha:((List.range addrs.length).map (nodeAt addrs polls)).map (·.addr)=addrs:=by
  refine List.ext_getElem? fun k=>?_
  rw[List.map_map,List.getElem?_map]
  by_cases hk:k<addrs.length
  ·rw [List.getElem?_range hk,List.getElem?_eq_getElem hk]
   show some (new (addrs.getD k 0) (jBz polls k)).addr=some addrs[k]
   rw[(Zi (hat k hk)).1,List.getD_eq_getElem?_getD,List.getElem?_eq_getElem hk];rfl
  ·rw [List.getElem?_eq_none (by simpa using hk),List.getElem?_eq_none (by simpa using hk)];rfl
 have hd:((build addrs polls addrs.length).map (·.addr)).Nodup:=by
  refine (hp.map (·.addr)).nodup_iff.2 ?_
  rw[ha];exact h2
 refine ⟨⟨fun x hm=>?_,jSA hd,fun x hm r hr hne=>?_,fun x hm s hs=>?_,fun x hm s hs=>?_,fun x hm=>?_,fun x hm s hs=>?_⟩,by rw[hp.length_eq];simp⟩
 all_goals obtain ⟨a,p,hok,rfl⟩:=hx x hm
 all_goals obtain ⟨e1,e2,e3,e4,e5,e6⟩:=Zi (poll:=p) hok
 ·exact Ja _
 ·rw [e6,List.mem_singleton]at hr
  subst hr
  rw[e1]at hne
  exact absurd I hne
 ·rw [e2]at hs;cases hs
 ·rw [e3]at hs;cases hs
 ·rw [e4];exact C.hN
 ·rw [e5]at hs;cases hs
theorem Inv.new {C:Ctx} {addrs polls:List Int} (h:(Kj addrs polls).2=0):Inv C (Kj addrs polls).1.nodes∧(Kj addrs polls).1.tick=0∧(Kj addrs polls).1.nodes.length=addrs.length:=by
 unfold Kj at h ⊢
 split at h
 ·cases h
 ·rename_i h1
  rw[if_neg h1]
  split at h
  ·rename_i h2;exact absurd h h2
  ·rename_i h2
   rw[if_neg h2]
   obtain ⟨g1,g2⟩:=jMW (C:=C) (polls:=polls) (Decidable.not_not.1 h2)
   exact ⟨g1,rfl,g2⟩
def Fit (C:Ctx) (x:Op):Prop:=x.kind=1→(x.m=x.n→C.M x.n ⟨x.n,x.te⟩)∧∀(sq id:Int),∀p∈(zF x.te id).1,C.D ⟨2,x.n,255,x.n,x.m,sq,0,x.ur,p⟩
structure Went (C:Ctx) (m:Mesh) (x:Op):Prop where
 inv:Inv C (next m x).1.nodes
 adr:(next m x).1.nodes.map (·.addr)=m.nodes.map (·.addr)
 tick:0≤m.tick→m.tick≤JU-1→(next m x).1.tick=if x.kind=0 then m.tick+1 else m.tick
 got:∀d∈(next m x).2,C.M x.n d
theorem Inv.next {C:Ctx} {m:Mesh} (h:Inv C m.nodes) (x:Op) (hf:Fit C x):Went C m x:=by
 have upd:∀ {k:Nat} {y:Nd.Nd},m.nodes[k]? =some (nth m.nodes k)→Fine C none_ (nth m.nodes k) y→Inv C (m.nodes.set k y)∧(m.nodes.set k y).map (·.addr)=m.nodes.map (·.addr):=fun hk hy=>⟨h.loc hk hy,jDb hk hy.good.addr⟩
 have stay:Went C m x→Went C m x:=id
 by_cases k0:x.kind=0
 ·obtain ⟨g1,g2⟩:=h.step x.air
  have e:Me.next m x=(jDy m x.air,[]):=by unfold Me.next;rw[if_pos k0]
  refine ⟨by rw[e];exact g1,by rw[e];exact g2,fun h0 h1=>?_,fun d hd=>by rw[e]at hd;cases hd⟩
  rw[e,if_pos k0]
  show jHN m.tick=_
  unfold jHN;omega
 by_cases k1:x.kind=1
 ·by_cases hs:(Zt m x.n x.m x.ur x.te).2=0
  ·have e:Me.next m x=((Zt m x.n x.m x.ur x.te).1,[]):=by unfold Me.next;rw[if_neg k0,if_pos k1,if_pos hs]
   rw[show (Zt m x.n x.m x.ur x.te)=(Zt m x.n x.m x.ur x.te)from rfl]at hs
   have key:Inv C (Zt m x.n x.m x.ur x.te).1.nodes∧(Zt m x.n x.m x.ur x.te).1.nodes.map (·.addr)=m.nodes.map (·.addr)∧(Zt m x.n x.m x.ur x.te).1.tick=m.tick:=by
    unfold Zt at hs ⊢
    split at hs
    ·cases hs
    ·rename_i i hi
     obtain ⟨h1,h2⟩:=ZQ hi
     split at hs
     ·rename_i h3;exact absurd hs h3
     ·rename_i h3
      rw[if_neg h3]
      have h3:=Decidable.not_not.1 h3
      obtain ⟨f1,f2⟩:=hf k1
      have hfi:Fine C none_ (nth m.nodes i) (send (nth m.nodes i) x.m x.ur x.te).1:=by
       refine (h.fine (List.mem_of_getElem? h1)).send ?_ ?_ h3
       ·rw [h2]
        by_cases e:x.m=x.n
        ·exact .inl (f1 e)
        ·exact .inr e
       ·rw [h2];exact f2
      obtain ⟨g1,g2⟩:=upd h1 hfi
      exact ⟨g1,g2,rfl⟩
   exact ⟨by rw[e];exact key.1,by rw[e];exact key.2.1,fun _ _=>by rw[e,if_neg k0];exact key.2.2,fun d hd=>by rw[e]at hd;cases hd⟩
  ·have e:Me.next m x=(m,[]):=by unfold Me.next;rw[if_neg k0,if_pos k1,if_neg hs]
   exact ⟨by rw[e];exact h,by rw[e],fun _ _=>by rw[e,if_neg k0],fun d hd=>by rw[e]at hd;cases hd⟩
 by_cases k2:x.kind=2
 ·have e:Me.next m x=Z8 m x.n:=by unfold Me.next;rw[if_neg k0,if_neg k1,if_pos k2]
  have key:Inv C (Z8 m x.n).1.nodes∧(Z8 m x.n).1.nodes.map (·.addr)=m.nodes.map (·.addr)∧(Z8 m x.n).1.tick=m.tick∧∀d∈(Z8 m x.n).2,C.M x.n d:=by
   unfold Z8
   split
   ·exact ⟨h,rfl,rfl,fun d hd=>by cases hd⟩
   ·rename_i i hi
    obtain ⟨h1,h2⟩:=ZQ hi
    have hm:=List.mem_of_getElem? h1
    obtain ⟨t1,t2⟩:=(h.fine (R:=none_) hm).take
    obtain ⟨g1,g2⟩:=upd h1 t1
    refine ⟨g1,g2,rfl,fun d hd=>?_⟩
    have hd:d∈(take (nth m.nodes i)).2:=hd
    rw[t2]at hd
    rw[← h2]
    exact h.ib _ hm d hd
  exact ⟨by rw[e];exact key.1,by rw[e];exact key.2.1,fun _ _=>by rw[e,if_neg k0];exact key.2.2.1,fun d hd=>by rw[e]at hd;exact key.2.2.2 d hd⟩
 by_cases k3:x.kind=3
 ·have e:Me.next m x=(Jr m x.n,[]):=by unfold Me.next;rw[if_neg k0,if_neg k1,if_neg k2,if_pos k3]
  have key:Inv C (Jr m x.n).nodes∧(Jr m x.n).nodes.map (·.addr)=m.nodes.map (·.addr)∧(Jr m x.n).tick=m.tick:=by
   unfold Jr
   split
   ·exact ⟨h,rfl,rfl⟩
   ·rename_i i hi
    obtain ⟨h1,h2⟩:=ZQ hi
    have hm:=List.mem_of_getElem? h1
    have hfi:Fine C none_ (nth m.nodes i) (again (nth m.nodes i) x.n):=by rw[← h2];exact Fine.again (h.ord _ hm)
    obtain ⟨g1,g2⟩:=upd h1 hfi
    exact ⟨g1,g2,rfl⟩
  exact ⟨by rw[e];exact key.1,by rw[e];exact key.2.1,fun _ _=>by rw[e,if_neg k0];exact key.2.2,fun d hd=>by rw[e]at hd;cases hd⟩
 ·have e:Me.next m x=(m,[]):=by unfold Me.next;rw[if_neg k0,if_neg k1,if_neg k2,if_neg k3]
  exact ⟨by rw[e];exact h,by rw[e],fun _ _=>by rw[e,if_neg k0],fun d hd=>by rw[e]at hd;cases hd⟩
structure Ran (C:Ctx) (m0:Mesh) (m:Mesh) (k:Nat):Prop where
 inv:Inv C m.nodes
 adr:m.nodes.map (·.addr)=m0.nodes.map (·.addr)
 t0:0≤m.tick
 t1:m.tick≤k
theorem Ran.step {C : Ctx} {m0 m : Mesh} {k : Nat} (h : Ran C m0 m k) (hk : k ≤ 1000) (x : Op) (hf : Fit C x) : Ran C m0 (next m x).1 (k + 1) ∧ (next m x).1.tick = (if x.kind = 0 then m.tick + 1 else m.tick) := by
  have hw := h.inv.next x hf
  have h1 := h.t1
  have h0 := h.t0
  have ht := hw.tick h0 (by have : (1000 : Int) ≤ JU - 1 := by decide
                            omega)
  refine ⟨⟨hw.inv, hw.adr.trans h.adr, ?_, ?_⟩, ht⟩ <;> rw [ht] <;> split <;> omega
theorem Ran.new {C:Ctx} {addrs polls:List Int} (h:(Kj addrs polls).2=0):Ran C (Kj addrs polls).1 (Kj addrs polls).1 0:=by
 obtain ⟨g1,g2,g3⟩:=Inv.new (C:=C) h
 exact ⟨g1,rfl,by rw[g2];decide,by rw[g2];decide⟩
end Me
namespace Go.Proofs.YtgfdoognildoeaaGreat
open Go.GX Go.RowKit
attribute [local irreducible] Calls Run jZ jf JK HR HL HD jT jG JY Rd jK jY
open Nd Me
theorem jGG {s:By} {id:Int} {i:Nat}:(piece s id i).length≤1000:=by
 unfold piece
 simp
 omega
theorem jBD {s:By} {id:Int} {p:By} (h:p∈(zF s id).1):p.length≤1000:=by
 unfold zF at h
 split at h
 ·cases h
 ·split at h
  ·cases h
  ·obtain ⟨i,hi,rfl⟩:=List.mem_map.1 h
   exact jGG
theorem jRD:PtSm []:=⟨Nat.zero_le _,fun p hp=>by cases hp⟩
def jN0:Ctx where
 D f:=f.da.length≤1000
 K:=PtSm
 M _ _:=True
 hD _ _ _ _ h:=h
 hK _ _ _ _ hd he:=⟨jGM hd he,fun _=>trivial⟩
 hE l now life _:=jGJ l now life
 hN:=jRD
theorem fit0 (x:Me.Op):Fit jN0 x:=fun _=>⟨fun _=>trivial,fun _ _ _ hp=>jBD hp⟩
theorem jAQ {m:Mesh} {l:List Me.Op} {i:Nat} {x:Me.Op} (hx:l[i]? =some x):runs m l (i+1)=(Me.next (runs m l i) x).1:=by
 show (match l[i]? with|some x=>(Me.next (runs m l i) x).1|none=>runs m l i)=_
 rw[hx]
theorem ran0 {addrs polls:List Int} {l:List Me.Op} (h:(Kj addrs polls).2=0) (hl:l.length≤1000):∀i,i≤l.length→Ran jN0 (Kj addrs polls).1 (runs (Kj addrs polls).1 l i) i
 |0,_=>Ran.new h
 |i+1,hi=>by
  obtain ⟨x,hx⟩:=jJ (show i<l.length by omega)
  rw[jAQ hx]
  exact ((ran0 h hl i (by omega)).step (by omega) x (fit0 x)).1
end Go.Proofs.YtgfdoognildoeaaGreat
namespace Go.Proofs.YtgfdoognildoeaaGreat
open Go.GX Go.RowKit
attribute [local irreducible] Calls Run jZ jf JK HR HL HD jT jG JY Rd jK jY
open Nd
abbrev Zg (p:NV×Nd):List Value:=ndC p.1 p.2
theorem jm (p:NV×Nd):(Zg p).length=13:=rfl
theorem jNU (p:NV×Nd):J6 (Zg p)=true:=rfl
theorem Jm:Elem Tryz.prog 24 62 13 232:=⟨rfl,⟨_,_,rfl,rfl,rfl,rfl,rfl⟩,by decide⟩
structure OkL (w:World) (v:Value) (xs:List (NV×Nd)):Prop where
 s:Sl w v (cellsOf Zg xs) xs.length
 r:∀x∈xs,OkN w x.1 x.2
theorem OkL.ext {w w':World} {v:Value} {xs:List (NV×Nd)} (h:OkL w v xs) (hb:Below w.heap.size w w'):OkL w' v xs:=⟨h.s.ext hb,fun x hx=>(h.r x hx).ext hb⟩
abbrev nds (xs:List (NV×Nd)):List Nd:=xs.map (·.2)
end Go.Proofs.YtgfdoognildoeaaGreat
namespace Go.Proofs.YtgfdoognildoeaaGreat
open Go.GX Go.RowKit
attribute [local irreducible] Calls Run jZ jf JK HR HL HD jT jG JY Rd jK jY
open Nd
theorem fn148:IsFn Tryz.prog 148:=⟨⟨_,_,Tryz.func148,rfl,by decide⟩⟩
theorem fn204:IsFn Tryz.prog 204:=⟨⟨_,_,Tryz.func204,rfl,by decide⟩⟩
theorem fn35:IsFn Tryz.prog 35:=⟨⟨_,_,Tryz.func35,rfl,by decide⟩⟩
theorem jJz (l:List Int) (v:Value) (w:World) (hv:Sl w v (cellsOf iC l) l.length) (hl:l.length≤1000):
  Calls Tryz.prog 148 #[v] w fun e w'=>∃v',e= .returned v'∧Sat (base w) [jG v' 3 1 l.length (cellsOf iC l)] w':=by
 obtain ⟨a,c,rfl,_⟩:=hv.2
 refine jD Tryz.func148 I (Nat.le_of_ble_eq_true I) ?_
 refine HR.sub (σ':=[(0,.slice a l.length c)]) ⟨I,trivial⟩ ?_
 repeat' (first|refine zh ?_|refine HL.eqNil I I I I ?_|apply zb ?_ ?_|exact zc|(refine zi fun hb=>?_;try simp at hb)|intro (bk:Nat))
 refine HR.cond I (fun h=>?_) (fun h=>?_)
 ·have ha:a=none:=by simpa using h
  have hz:l=[]:=by
   subst ha
   rcases hv.1 with ⟨_,h0,_⟩|⟨b,off,cap,he,_⟩
   ·exact List.eq_nil_of_length_eq_zero h0
   ·cases he
  subst hz
  repeat' (first|refine zh ?_|apply zb ?_ ?_|exact zc|(refine zi fun hb=>?_;try simp at hb)|intro (bk:Nat))
  refine HR.ZC 3 1 ?_
  refine HR.ret Tryz.func148 I [_] (fun _ _=>⟨I,trivial⟩) ?_
  exact fun w' hw=>⟨.slice none 0 0,rfl,hw⟩
 ·repeat' (first|refine zh ?_|refine HL.Zw Jw I ?_|apply zb ?_ ?_|exact zc|(refine zi fun hb=>?_;try simp at hb)|intro (bk:Nat))
  intro v1
  repeat' (first|refine zh ?_|refine HL.ZN 0 I Jw (Rd.arg hv) I I I (jC jAd _) (jU jRW _) (by omega) (by omega) ?_|apply zb ?_ ?_|exact zc|(refine zi fun hb=>?_;try simp at hb)|intro (bk:Nat))
  intro v2
  repeat' (first|refine zh ?_|apply zb ?_ ?_|exact zc|(refine zi fun hb=>?_;try simp at hb)|intro (bk:Nat))
  refine HR.ret Tryz.func148 I [_] (fun _ _=>⟨I,trivial⟩) ?_
  exact fun w' hw=>⟨v2,rfl,Ent.JV (Nat.zero_add _) (List.nil_append _) w' hw⟩
theorem jGk (l:List PtV) (v:Value) (w:World) (hv:Sl w v (cellsOf ptC l) l.length) (hsh:∀p∈l,jA9 p) (hl:l.length≤1000):
  Calls Tryz.prog 204 #[v] w fun e w'=>∃v',e= .returned v'∧Sat (base w) [jG v' 173 6 l.length (cellsOf ptC l)] w':=by
 obtain ⟨a,c,rfl,_⟩:=hv.2
 refine jD Tryz.func204 I (Nat.le_of_ble_eq_true I) ?_
 refine HR.sub (σ':=[(0,.slice a l.length c)]) ⟨I,trivial⟩ ?_
 repeat' (first|refine zh ?_|refine HL.eqNil I I I I ?_|apply zb ?_ ?_|exact zc|(refine zi fun hb=>?_;try simp at hb)|intro (bk:Nat))
 refine HR.cond I (fun h=>?_) (fun h=>?_)
 ·have ha:a=none:=by simpa using h
  have hz:l=[]:=by
   subst ha
   rcases hv.1 with ⟨_,h0,_⟩|⟨b,off,cap,he,_⟩
   ·exact List.eq_nil_of_length_eq_zero h0
   ·cases he
  subst hz
  repeat' (first|refine zh ?_|apply zb ?_ ?_|exact zc|(refine zi fun hb=>?_;try simp at hb)|intro (bk:Nat))
  refine HR.ZC 173 6 ?_
  refine HR.ret Tryz.func204 I [_] (fun _ _=>⟨I,trivial⟩) ?_
  exact fun w' hw=>⟨.slice none 0 0,rfl,hw⟩
 ·repeat' (first|refine zh ?_|refine HL.Zw JM I ?_|apply zb ?_ ?_|exact zc|(refine zi fun hb=>?_;try simp at hb)|intro (bk:Nat))
  intro v1
  repeat' (first|refine zh ?_|refine HL.ZN 0 I JM (Rd.arg hv) I I I (jC JR _) (jK3 hsh) (by omega) (by omega) ?_|apply zb ?_ ?_|exact zc|(refine zi fun hb=>?_;try simp at hb)|intro (bk:Nat))
  intro v2
  repeat' (first|refine zh ?_|apply zb ?_ ?_|exact zc|(refine zi fun hb=>?_;try simp at hb)|intro (bk:Nat))
  refine HR.ret Tryz.func204 I [_] (fun _ _=>⟨I,trivial⟩) ?_
  exact fun w' hw=>⟨v2,rfl,Ent.JV (Nat.zero_add _) (List.nil_append _) w' hw⟩
theorem jLw (l:List (NV×Nd)) (x:(NV×Nd)) (i:Nat) (v va:Value) (B0:Base) (w:World) (hw0:Sat B0 [jG va 62 13 1 (Zg x),jG v 62 13 l.length (cellsOf Zg l)] w) (hi:i≤l.length) (hl:l.length≤1000):
  Calls Tryz.prog 35 #[v,.int .i64 (i:Int),va] w fun e w'=>∃r:Value,e= .returned r∧True∧Sat ⟨w,Zn [jG va 62 13 1 (Zg x),jG v 62 13 l.length (cellsOf Zg l)]⟩ [jG r 62 13 (l.take i++x::l.drop i).length (cellsOf Zg (l.take i++x::l.drop i))] w':=by
 obtain ⟨ga,oa,ca,rfl,hnca,hcma⟩:=Vw.row (Sat.vw hw0 (i:=0) I) (by decide)
 have hlen:(l.take i++x::l.drop i).length=l.length+1:=by simp;omega
 have hcl:(cellsOf Zg l).length=l.length*13:=jC jm l
 have hcells:cellsOf Zg (l.take i++x::l.drop i)=(cellsOf Zg l).take (i*13)++Zg x++(cellsOf Zg l).drop (i*13):=by
  rw[JJ jm,JB jm,jP,List.append_assoc];rfl
 have ha1:∀u∈cellsOf Zg l,u.oneCell'=true:=jU jNU _
 refine jg [jG (.slice (some ⟨ga,oa,none⟩) 1 ca) 62 13 1 (Zg x),jG v 62 13 l.length (cellsOf Zg l)] (hw0) Tryz.func35 I (Nat.le_of_ble_eq_true I) ?_
 refine HR.sub (σ':=[(0,v),(1,.int .i64 (i:Int)),(2,.slice (some ⟨ga,oa,none⟩) 1 ca)]) ⟨I,I,I,trivial⟩ ?_
 repeat' (first|refine zh ?_|refine HL.JN (Rd.own 1 I) I I I ?_|refine HL.jAo (sz:=13) i l.length (Rd.own 1 I) I I I I (.inr ⟨_,_,_,rfl,rfl,rfl⟩) (.inl ⟨rfl,rfl⟩) hi (Nat.le_refl _) ?_|apply zb ?_ ?_|exact zc|(refine zi fun hb=>?_;try simp at hb)|intro (bk:Nat))
 refine HR.cond I (fun h=>?_) (fun h=>?_)
 ·have hil:i=l.length:=by have:=eq_of_beq h;omega
  repeat' (first|refine zh ?_|refine HL.ZN 1 I Jm (Rd.own 0 I) I I I I (jF I) (by omega) (by omega) ?_|apply zb ?_ ?_|exact zc|(refine zi fun hb=>?_;try simp at hb)|intro (bk:Nat))
  intro v2
  repeat' (first|refine zh ?_|apply zb ?_ ?_|exact zc|(refine zi fun hb=>?_;try simp at hb)|intro (bk:Nat))
  refine HR.ret Tryz.func35 I [_] (fun _ _=>⟨I,trivial⟩) ?_
  refine fun w' hw=>⟨_,rfl,trivial,Ent.JV ?_ ?_ w' (hw.pick [1] I rfl)⟩
  ·rw [hlen]
  ·subst hil;rw[hcells,List.take_of_length_le (by omega),List.drop_eq_nil_of_le (by omega),List.append_nil]
 have hlt:i<l.length:=by have h:((i:Int)==(l.length:Int))=false:=h;simp at h;omega
 refine HR.row 1 I (by omega) fun g off c hv hnc hcm=>?_
 subst hv
 have hcm:c≤9223372036854775807:=hcm
 repeat' (first|refine zh ?_|refine HL.JN (Rd.own 1 I) I I I ?_|refine HL.jSD I I I ?_|apply zb ?_ ?_|exact zc|(refine zi fun hb=>?_;try simp at hb)|intro (bk:Nat))
 refine HR.cond I (fun h2=>?_) (fun h2=>?_)
 ·have hc:c<l.length+1:=by have:=of_decide_eq_true h2;omega
  repeat' (first|refine zh ?_|refine HL.jAo (sz:=13) 0 i (Rd.own 1 I) I I I I (.inl ⟨rfl,rfl⟩) (.inr ⟨_,_,_,rfl,rfl,rfl⟩) (Nat.zero_le _) hi ?_|refine HL.jCZ i (l.length+1-i) 1 I Jm I I I I I (by omega) hi (by omega) hnc (by omega) (by omega) (by omega) ?_|apply zb ?_ ?_|exact zc|(refine zi fun hb=>?_;try simp at hb)|intro (bk:Nat))
  intro v2
  have hN:i+(l.length+1-i)=l.length+1:=by omega
  rw[hN]
  refine HL.row 0 I (by omega) fun g2 o2 c2 hv2 hnc2 hcm2=>?_
  subst hv2
  repeat' (first|refine zh ?_|refine HL.jAo (sz:=13) i (l.length+1) (Rd.own 0 I) I I I I (.inr ⟨_,_,_,rfl,rfl,rfl⟩) (.inl ⟨rfl,rfl⟩) (by omega) (Nat.le_refl _) ?_|refine HL.Zv i 1 0 I (Rd.own 1 I) I I I I I I (jF I) (Nat.min_eq_left (by omega)) (by decide) ?_|apply zb ?_ ?_|exact zc|(refine zi fun hb=>?_;try simp at hb)|intro (bk:Nat))
  refine HR.j4 [(0,true),(1,true),(2,true),(3,true),(4,true),(5,true),(6,true),(7,true),(8,false)] [] I I Jc (by kernel_rfl) ?_
  repeat' (first|refine HD.ev I I I ?_|refine HD.evc I I I (by first|omega|(simp;done)|(simp;omega)) ?_|refine HD.cut (sz:=13) (i+1) (l.length+1) c2 I I I I I (.inr ⟨_,_,rfl,rfl⟩) (.inl ⟨rfl,rfl,rfl⟩) (.inl ⟨rfl,rfl⟩) (by omega) hnc2 (Nat.le_refl _) ?_|refine HD.cut (sz:=13) i l.length c I I I I I (.inr ⟨_,_,rfl,rfl⟩) (.inl ⟨rfl,rfl,rfl⟩) (.inl ⟨rfl,rfl⟩) hi hnc (Nat.le_refl _) ?_|refine HD.L 0 I I I I I ?_|refine HD.L 1 I I I I I ?_|refine HD.L 2 I I I I I ?_|refine HD.L 3 I I I I I ?_|refine HD.build I I I ?_|refine HD.field I I I ?_|refine HD.skip I I I ?_|refine HD.kH I I I ?_|(refine HD.one I ?_;first|refine HL.ev I I ?_|refine HL.Zv (i+1) (l.length-i) 0 I (Rd.sub (Rd.own 2 I) hcl hi (Nat.le_refl _)) I I I I I (by rw[List.length_take,List.length_drop,hcl];omega) (fun u hu=>ha1 u (List.mem_of_mem_drop (List.mem_of_mem_take (List.mem_of_mem_take hu)))) (Nat.min_eq_left (by omega)) (by omega) ?_|(refine HL.isLoad ?_;first|refine HL.L 0 I I I I ?_|refine HL.L 1 I I I I ?_|refine HL.L 2 I I I I ?_|refine HL.L 3 I I I I ?_)|(refine HL.jL ?_;first|refine HL.S 0 I I I I I ?_|refine HL.S 1 I I I I I ?_|refine HL.S 2 I I I I I ?_|refine HL.S 3 I I I I I ?_)|(refine HL.alloc I I ?_;intro bk))|refine HL.back [] rfl rfl ?_|refine HD.nil ?_)
  repeat' (first|refine zh ?_|apply zb ?_ ?_|exact zc|(refine zi fun hb=>?_;try simp at hb)|intro (bk:Nat))
  refine HR.ret Tryz.func35 I [_] (fun _ _=>⟨I,trivial⟩) ?_
  refine fun w' hw=>⟨_,rfl,trivial,Ent.JV ?_ ?_ w' (hw.pick [0] I rfl)⟩
  ·rw [hlen]
  ·rw [hcells,← jAc (xs:=cellsOf Zg l) (X:=Zg x) (Z:=(List.replicate (l.length+1-i) (Zg (V0,nd0))).flatten) (p:=i*13) (q:=13) (s:=(l.length-i)*13) (by rw[hcl];omega) I (by rw[jV];simp;omega)]
   rw[show (i+1)*13=i*13+13 by omega]
   rfl
 ·have hc:l.length+1≤c:=by have:=of_decide_eq_false h2;omega
  repeat' (first|refine zh ?_|refine HL.jR3 (sz:=13) (l.length+1) 1 I I I I I I I (by omega) hc ?_|apply zb ?_ ?_|exact zc|(refine zi fun hb=>?_;try simp at hb)|intro (bk:Nat))
  intro junk hj
  repeat' (first|refine zh ?_|refine HL.cut (sz:=13) (i+1) (l.length+1) c I I I I (.inr ⟨_,_,rfl,rfl⟩) (.inl ⟨rfl,rfl,rfl⟩) (.inl ⟨rfl,rfl⟩) (by omega) hc (Nat.le_refl _) ?_|intro (bk:Nat))
  refine HL.jCg (zy (by omega)) ?_
  refine HL.ovl 0 1 I I (by decide) I I I (tS:=24) (tR:=4) I I (by omega) (by decide) I (by kernel_rfl) (by kernel_rfl) (by kernel_rfl) (by kernel_rfl) ?_
  repeat' (first|refine zh ?_|apply zb ?_ ?_|exact zc|(refine zi fun hb=>?_;try simp at hb)|intro (bk:Nat))
  refine HR.j4 [(0,true),(1,true),(2,true),(3,true),(4,true),(5,true),(6,true),(7,true),(8,false)] [] I I Jc (by kernel_rfl) ?_
  repeat' (first|refine HD.ev I I I ?_|refine HD.evc I I I (by first|omega|(simp;done)|(simp;omega)) ?_|refine HD.cut (sz:=13) (i+1) (l.length+1) c I I I I I (.inr ⟨_,_,rfl,rfl⟩) (.inl ⟨rfl,rfl,rfl⟩) (.inl ⟨rfl,rfl⟩) (by omega) hc (Nat.le_refl _) ?_|refine HD.cut (sz:=13) i (l.length+1) c I I I I I (.inr ⟨_,_,rfl,rfl⟩) (.inl ⟨rfl,rfl,rfl⟩) (.inl ⟨rfl,rfl⟩) (by omega) hc (Nat.le_refl _) ?_|refine HD.L 0 I I I I I ?_|refine HD.L 1 I I I I I ?_|refine HD.L 2 I I I I I ?_|refine HD.L 3 I I I I I ?_|refine HD.build I I I ?_|refine HD.field I I I ?_|refine HD.skip I I I ?_|refine HD.kH I I I ?_|(refine HD.one I ?_;first|refine HL.ev I I ?_|refine HL.Zv (i+1) (l.length-i) 1 I (Rd.sub (sz:=13) (l:=i) (h:=l.length+1) (Rd.own 1 I) (by rw[List.length_append,hcl,hj];omega) (by omega) (Nat.le_refl _)) I I I I I (by rw[List.length_take,List.length_drop,List.length_append,hcl,hj];omega) (fun u hu=>ha1 u (KF (p:=i*13) (s:=(l.length-i)*13) (u:=(l.length+1-i)*13) (by rw[hcl];omega) (by omega) hu)) (show min (l.length+1-i) (l.length+1-(i+1))=l.length-i by omega) (by omega) ?_|(refine HL.isLoad ?_;first|refine HL.L 0 I I I I ?_|refine HL.L 1 I I I I ?_|refine HL.L 2 I I I I ?_|refine HL.L 3 I I I I ?_)|(refine HL.jL ?_;first|refine HL.S 0 I I I I I ?_|refine HL.S 1 I I I I I ?_|refine HL.S 2 I I I I I ?_|refine HL.S 3 I I I I I ?_)|(refine HL.alloc I I ?_;intro bk))|refine HL.back [] rfl rfl ?_|refine HD.nil ?_)
  repeat' (first|refine zh ?_|refine HL.jAo (sz:=13) i (l.length+1) (Rd.own 1 I) I I I I (.inr ⟨_,_,_,rfl,rfl,rfl⟩) (.inl ⟨rfl,rfl⟩) (by omega) (Nat.le_refl _) ?_|refine HL.Zv i 1 1 I (Rd.own 0 I) I I I I I I (jF I) (Nat.min_eq_left (by omega)) (by decide) ?_|apply zb ?_ ?_|exact zc|(refine zi fun hb=>?_;try simp at hb)|intro (bk:Nat))
  refine HR.ret Tryz.func35 I [_] (fun _ _=>⟨I,trivial⟩) ?_
  refine fun w' hw=>⟨_,rfl,trivial,Ent.JV ?_ ?_ w' (hw.pick [1] I rfl)⟩
  ·rw [hlen]
  ·rw [hcells,← KU (xs:=cellsOf Zg l) (X:=Zg x) (J:=junk) (p:=i*13) (q:=13) (s:=(l.length-i)*13) (u:=(l.length+1-i)*13) (by rw[hcl];omega) I (by rw[hj];omega) (by omega)]
   rw[show (i+1)*13=i*13+13 by omega]
end Go.Proofs.YtgfdoognildoeaaGreat
namespace Me
open Go.GX Nd Tp
structure WfS (s:Sn):Prop where
 tr:Go.GX.fits .i64 s.tr
 wt:Go.GX.fits .i64 s.wt
 da:s.f.da.length≤9223372036854775807
structure WfO (n:Nd.Nd):Prop where
 out:∀s∈n.out,WfS s
 bx:∀b∈n.boxes,b.f.da.length≤9223372036854775807
theorem jR2:Go.GX.fits .i64 0:=by show (-9223372036854775808:Int)≤0∧(0:Int)≤9223372036854775807;omega
section
variable {n m : Nd.Nd}
theorem WfO.of (h:WfO n) (h1:∀s∈m.out,s∈n.out) (h2:∀b∈m.boxes,b∈n.boxes):WfO m:=⟨fun s hs=>h.out s (h1 s hs),fun b hb=>h.bx b (h2 b hb)⟩
theorem WfO.order (h:WfO n):WfO (order n):=h.of (fun s hs=>List.mem_of_mem_take hs) fun b hb=>List.mem_of_mem_take hb
theorem WfO.lose (h:WfO n):WfO (lose n):=⟨h.out,h.bx⟩
theorem WfO.queue (h:WfO n) {f:Fr} (hf:f.da.length≤9223372036854775807):WfO (queue n f).1:=by
 have hs:∀s∈(jDB n.out f).1,WfS s:=fun s hs=>by
  rcases jDn hs with hs|rfl
  ·exact h.out s hs
  ·exact ⟨jR2,jR2,hf⟩
 unfold Nd.queue
 simp only
 split
 ·exact ⟨hs,h.bx⟩
 ·exact ⟨hs,h.bx⟩
theorem WfO.box (h:WfO n) {f:Fr} (hf:f.da.length≤9223372036854775807) (now:Int):WfO (box n f now):=by
 have hs:∀b∈(jEQ n.boxes f now).1,b.f.da.length≤9223372036854775807:=fun b hb=>by
  rcases jHi hb with hb|e
  ·exact h.bx b hb
  ·rw [e];exact hf
 unfold Nd.box
 simp only
 split
 ·exact ⟨h.out,hs⟩
 ·exact ⟨h.out,hs⟩
theorem WfO.deliver (h:WfO n) (d:De):WfO (deliver n d):=by
 unfold Nd.deliver;split
 ·exact h.lose
 ·exact ⟨h.out,h.bx⟩
theorem jGR (s:Sn):0≤j3 s∧j3 s≤8:=by unfold j3;omega
theorem jDv {q:List Sn} {i:Nat} {ok:Bool} (h:∀s∈q,WfS s):∀s∈(kU q i ok).1,WfS s:=by
 have h16:∀s∈q.take 16,WfS s:=fun s hs=>h s (List.mem_of_mem_take hs)
 unfold kU
 intro s hs
 split at hs
 ·exact h16 s hs
 ·rename_i t ht
  split at hs
  ·exact h16 s (List.mem_of_mem_eraseIdx hs)
  ·split at hs
   ·exact h16 s (List.mem_of_mem_eraseIdx hs)
   ·rcases List.mem_or_eq_of_mem_set hs with hs|rfl
    ·exact h16 s hs
    ·have:=jGR t
     refine ⟨?_,?_,(h16 t (List.mem_of_getElem? ht)).da⟩
     ·show (-9223372036854775808:Int)≤j3 t∧j3 t≤9223372036854775807
      omega
     ·show (-9223372036854775808:Int)≤(if t.f.ur then 0 else min (j3 t) 4)∧(if t.f.ur then 0 else min (j3 t) 4)≤(9223372036854775807:Int)
      split<;>omega
theorem jNV {q:List Sn} (h:∀s∈q,WfS s):∀s∈Z6 q,WfS s:=by
 intro s hs
 unfold Z6 at hs
 obtain ⟨t,ht,rfl⟩:=List.mem_map.1 hs
 have h1:=h t (List.mem_of_mem_take ht)
 unfold KR;split
 ·rename_i hw
  have h2:(-9223372036854775808:Int)≤t.wt∧t.wt≤9223372036854775807:=h1.wt
  refine ⟨h1.tr,?_,h1.da⟩
  show (-9223372036854775808:Int)≤t.wt-1∧t.wt-1≤9223372036854775807
  omega
 ·exact h1
theorem WfO.boxes (now:Int):∀(l:List Fr) {n:Nd.Nd},(∀ f∈l,f.da.length≤9223372036854775807)→WfO n→WfO (l.foldl (fun n f=>Nd.box n f now) n)
 |[],_,_,h=>h
 |f::l,n,hl,h=>WfO.boxes now l (fun g hg=>hl g (List.mem_cons_of_mem _ hg)) (h.box (hl f (List.mem_cons_self ..)) now)
theorem WfO.asleep (h:WfO n) (now:Int):WfO (asleep n now):=by
 unfold Nd.asleep
 refine WfO.boxes now _ (fun f hf=>?_) ⟨fun s hs=>h.out s (List.mem_filter.1 hs).1,h.bx⟩
 obtain ⟨s,hs,rfl⟩:=List.mem_map.1 hf
 exact (h.out s (List.mem_filter.1 hs).1).da
theorem jH2 (t:List Ro):(jCi t).length≤9223372036854775807:=by
 unfold jCi
 rw[jBX]
 have:((t.filter usable).take 24).length≤24:=List.length_take_le _ _
 omega
theorem WfO.J5 (h:WfO n):WfO (J5 n):=by
 have hb:WfO (bumped n):=⟨h.out,h.bx⟩
 unfold Nd.J5;split
 ·exact hb.queue (jH2 _)
 ·exact hb
theorem WfO.poll (h:WfO n):WfO (poll n):=by
 have hb:WfO (bumped n):=⟨h.out,h.bx⟩
 unfold Nd.poll;split
 ·exact hb.queue (Nat.zero_le _)
 ·exact hb
theorem WfO.tick (h:WfO n) (now:Int):WfO (Zr n now):=by
 have ho:=h.order
 unfold Zr
 simp only
 have h1:WfO (Nd.asleep { Nd.order n with out:=Z6 (Nd.order n).out,boxes:=jBi (Nd.order n).boxes (Nd.tick now) 120,parts:=jCk (Nd.order n).parts (Nd.tick now) 120 } (Nd.tick now)):=
  WfO.asleep ⟨jNV ho.out,fun b hb=>ho.bx b (List.mem_of_mem_take (List.mem_filter.1 hb).1)⟩ _
 generalize Nd.asleep { Nd.order n with out:=Z6 (Nd.order n).out,boxes:=jBi (Nd.order n).boxes (Nd.tick now) 120,parts:=jCk (Nd.order n).parts (Nd.tick now) 120 } (Nd.tick now)=a at h1 ⊢
 have h2:WfO (if a.poll=0∧Nd.tick now%8=a.addr%8 then Nd.J5 a else a):=by
  split
  ·exact h1.J5
  ·exact h1
 generalize (if a.poll=0∧Nd.tick now%8=a.addr%8 then Nd.J5 a else a)=b at h2 ⊢
 split
 ·exact h2.poll
 ·exact h2
theorem WfO.Jo {now:Int}:∀(k:Nat) {n:Nd.Nd} {i:Nat},WfO n→WfO (Jo now k n i).1∧(Jo now k n i).2.1.da.length≤9223372036854775807
 |0,n,i,h=>⟨h,Nat.zero_le _⟩
 |k+1,n,i,h=>by
  unfold Nd.Jo
  split
  ·exact ⟨h,Nat.zero_le _⟩
  ·rename_i x hx
   have hm:x∈n.out:=List.mem_of_getElem? hx
   have hd:=(h.out x hm).da
   split
   ·exact WfO.Jo k h
   ·split
    ·exact ⟨h,hd⟩
    ·split
     ·exact WfO.Jo k (WfO.box (n:={ n with out:=n.out.eraseIdx i }) (f:={ x.f with dst:=x.f.ta }) ⟨fun s hs=>h.out s (List.mem_of_mem_eraseIdx hs),h.bx⟩ hd _)
     ·split
      ·exact ⟨h,hd⟩
      ·split
       ·exact WfO.Jo k (WfO.lose (n:={ n with out:=(kU n.out i false).1 }) ⟨jDv h.out,h.bx⟩)
       ·exact WfO.Jo k (n:={ n with out:=(kU n.out i false).1 }) ⟨jDv h.out,h.bx⟩
theorem WfO.talk (h:WfO n) (now:Int):WfO (talk n now).1∧(talk n now).2.1.da.length≤9223372036854775807:=WfO.Jo _ h.order
theorem WfO.giveUp (h:WfO n) (to:Int):WfO (giveUp n to):=by
 unfold Nd.giveUp;split
 ·exact h.lose
 ·exact ⟨h.out,h.bx⟩
theorem WfO.result (h:WfO n) (f:Fr) (ok:Bool):WfO (result n f ok):=by
 have ho:=h.order
 unfold Nd.result
 simp only
 split
 ·exact ho
 ·rename_i i hi
  have h2:WfO (if okN f.dst=true then { Nd.order n with out:=(kU (Nd.order n).out i ok).1,links:=ZE (Nd.order n).links f.dst ok } else { Nd.order n with out:=(kU (Nd.order n).out i ok).1 }):=by
   split
   ·exact ⟨jDv ho.out,ho.bx⟩
   ·exact ⟨jDv ho.out,ho.bx⟩
  split
  ·exact h2.giveUp _
  ·exact h2
theorem WfO.drain {fr now:Int}:∀(k:Nat) {n:Nd.Nd},WfO n→WfO (drain fr now k n)
 |0,_,h=>h
 |k+1,n,h=>by
  unfold Nd.drain
  simp only
  have h1:WfO { n with boxes:=(zu n.boxes fr now 120).2.1 }:=⟨h.out,fun b hb=>h.bx b (jFV hb)⟩
  split
  ·rename_i ht
   obtain ⟨b,hb,e⟩:=jHh ht
   refine WfO.drain k (h1.queue ?_)
   show (zu n.boxes fr now 120).1.da.length≤_
   rw[← e];exact h.bx b hb
  ·exact h1
theorem WfO.JD (h:WfO n) (f:Fr):WfO (JD n f):=by
 unfold Nd.JD
 simp only
 split
 ·exact ⟨h.out,h.bx⟩
 ·split
  ·exact ⟨h.out,h.bx⟩
  ·exact ⟨h.out,h.bx⟩
theorem WfO.received (h:WfO n) {f:Fr} (hf:f.da.length≤9223372036854775807) (now:Int):WfO (received n f now):=by
 have h1:WfO { n with seen:=(Z7 n.seen ⟨f.so,f.sq⟩).1 }:=⟨h.out,h.bx⟩
 unfold Nd.received
 simp only
 split
 ·exact h1
 ·split
  ·split
   ·exact h1
   ·split
    ·exact WfO.deliver (n:={ n with seen:=(Z7 n.seen ⟨f.so,f.sq⟩).1,parts:=_ }) ⟨h.out,h.bx⟩ _
    ·exact ⟨h.out,h.bx⟩
  ·split
   ·exact h1.lose
   ·exact h1.queue hf
theorem WfO.hear (h : WfO n) {f : Fr} (hf : f.da.length ≤ 9223372036854775807) (now : Int) : WfO (hear n now f) := by
  have ho := h.order
  unfold Nd.hear
  simp only
  split
  · exact ho
  · split
    · exact ho.JD f
    · split
      · unfold Nd.polled
        exact WfO.drain _ (n := { Nd.order n with children := _, table := _ }) ⟨ho.out, ho.bx⟩
      · first
        | exact ho.received hf _
        | (split
           · exact ho.received hf _
           · exact ho)
theorem WfO.sends {target:Int} {ur:Bool}:∀ {l:List By} {m z:Nd.Nd},(∀ p∈l,p.length≤9223372036854775807)→WfO m→sends target ur l m=some z→WfO z
 |[],m,z,_,h,e=>by cases e;exact h
 |p::l,m,z,hl,h,e=>by
  unfold Nd.sends at e
  split at e
  ·have hq:WfO (Nd.queue m (KG m target ur p)).1:=h.queue (hl p (List.mem_cons_self ..))
   exact WfO.sends (l:=l) (m:={ (Nd.queue m (KG m target ur p)).1 with seq:=(m.seq+1)%65536 }) (fun q hq=>hl q (List.mem_cons_of_mem _ hq)) ⟨hq.out,hq.bx⟩ e
  ·cases e
theorem jND {s:By} {id:Int} {i:Nat}:(piece s id i).length≤9223372036854775807:=by
 unfold piece
 simp
 omega
theorem WfO.nd0:WfO nd0:=⟨fun s hs=>(List.not_mem_nil hs).elim,fun b hb=>(List.not_mem_nil hb).elim⟩
theorem WfO.send (h:WfO n) (target:Int) (ur:Bool) (text:By):WfO (send n target ur text).1:=by
 have ho:=h.order
 unfold Nd.send
 simp only
 split
 ·exact WfO.nd0
 ·split
  ·exact WfO.nd0
  ·split
   ·exact ho.deliver _
   ·split
    ·rename_i z hz
     refine WfO.sends (fun p hp=>?_) ho hz
     unfold zF at hp
     split at hp
     ·cases hp
     ·split at hp
      ·cases hp
      ·obtain ⟨k,_,rfl⟩:=List.mem_map.1 hp
       exact jND
    ·exact WfO.nd0
theorem WfO.take (h:WfO n):WfO (take n).1:=⟨h.order.out,h.order.bx⟩
theorem WfO.new (addr poll:Int):WfO (new addr poll):=WfO.order (n:=⟨addr,poll,255,[],[],[],[],[],[],[],[],0,0⟩) ⟨fun s hs=>(List.not_mem_nil hs).elim,fun b hb=>(List.not_mem_nil hb).elim⟩
theorem WfO.again (addr:Int):WfO (again n addr):=⟨(WfO.new addr n.poll).out,(WfO.new addr n.poll).bx⟩
end
end Me
namespace Go.Proofs.YtgfdoognildoeaaGreat
open Go.GX Go.RowKit
attribute [local irreducible] Calls Run jZ jf JK HR HL HD jT jG JY Rd jK jY
open Nd
structure GdN (n:Nd):Prop where
 sm:SmN n
 wf:Me.WfO n
theorem SmN.ptS {n:Nd} (h:SmN n):PtSm n.parts:=⟨h.pa,h.sm⟩
section
variable {n : Nd}
theorem GdN.tick (h:GdN n) (now:Int):GdN (Zr n now):=⟨jB2 (jKJ n now).ord (jKH n now),h.wf.tick now⟩
theorem GdN.talk (h:GdN n) (now:Int):GdN (talk n now).1∧(talk n now).2.1.da.length≤9223372036854775807:=⟨⟨jB2 (jKL n now).ord (jKK h.sm.ptS),(h.wf.talk now).1⟩,(h.wf.talk now).2⟩
theorem GdN.hear (h:GdN n) {f:Fr} (hf:f.da.length≤9223372036854775807) (now:Int):GdN (hear n now f):=⟨jB2 (jFC n now f).ord (jL5 h.sm.ptS),h.wf.hear hf now⟩
theorem GdN.result (h:GdN n) (f:Fr) (ok:Bool):GdN (result n f ok):=⟨jB2 (jF1 n f ok).ord (jF0 h.sm.ptS),h.wf.result f ok⟩
theorem GdN.take (h:GdN n):GdN (take n).1:=⟨jB2 (jKM n).ord (show PtSm n.parts from h.sm.ptS),h.wf.take⟩
theorem GdN.send (h:GdN n) {target:Int} {ur:Bool} {text:By} (e:(send n target ur text).2=0):GdN (send n target ur text).1:=⟨jB2 (jKb e).ord (jKa h.sm.ptS),h.wf.send target ur text⟩
theorem GdN.new (a p:Int):GdN (new a p):=⟨jB2 (Ja _) (jNS a p),Me.WfO.new a p⟩
theorem jEH (a:Int):∀(l t:List Ro),t.length≤1000→(Me.jCp a l t).length≤1000
 |[],t,h=>h
 |x::l,t,h=>by
  have hs:Me.jCp a (x::l) t=Me.jCp a l (if x.nx≠a∧x.nx≠255 then jH6 t a x.nx else t):=rfl
  rw[hs]
  refine jEH a l _ ?_
  split
  ·rw [jDk,List.length_map]
   have:=(Zh t a).len
   omega
  ·exact h
theorem GdN.again (h:GdN n) (a:Int):GdN (Me.again n a):=
 ⟨⟨jEH a _ _ h.sm.ta,(GdN.new a n.poll).sm.li,(GdN.new a n.poll).sm.ou,(GdN.new a n.poll).sm.ch,(GdN.new a n.poll).sm.bo,(GdN.new a n.poll).sm.se,(GdN.new a n.poll).sm.pa,(GdN.new a n.poll).sm.ib,(GdN.new a n.poll).sm.sm⟩,Me.WfO.again a⟩
end
theorem zA:Elem Tryz.prog 70 77 24 320:=⟨rfl,⟨_,_,rfl,rfl,rfl,rfl,rfl⟩,by decide⟩
abbrev meC (t:Int) (v:Value):List Value:=[.int .i64 t,v]
abbrev meV (t:Int) (v:Value):Value:= .agg ⟨meC t v⟩
abbrev cNd (v:Value) (xs:List (NV×Nd)):Chunk:=jG v 62 13 xs.length (cellsOf Zg xs)
theorem jMT (v:Value) (ys:List (NV×Nd)) (x:NV×Nd):cNd v (ys++[x])=jG v 62 13 (ys.length+1) (cellsOf Zg ys++Zg x):=by
 show jG v _ 13 (ys++[x]).length (cellsOf Zg (ys++[x]))=_
 rw[jP,List.length_append,J2];rfl
theorem JG (xs:List (NV×Nd)):(nds xs).length=xs.length:=by simp[nds]
theorem jAC {xs:List (NV×Nd)} {k:Nat} {x:NV×Nd} (h:xs[k]? =some x):(nds xs)[k]? =some x.2:=by unfold nds;rw[List.getElem?_map,h];rfl
theorem jP0 (xs:List (NV×Nd)) (k:Nat) (x:NV×Nd):nds (xs.set k x)=(nds xs).set k x.2:=by unfold nds;rw[List.map_set]
theorem jAy {xs:List (NV×Nd)} {k:Nat} {x:NV×Nd} (h:xs[k]? =some x):Me.nth (nds xs) k=x.2:=by unfold Me.nth;rw[List.getD_eq_getElem?_getD,jAC h];rfl
theorem jDa {α:Type} {l:List α} {k:Nat} {a:α} (h:l[k]? =some a):l.set k a=l:=by
 obtain ⟨hk,rfl⟩:=List.getElem?_eq_some_iff.1 h
 exact List.set_getElem_self hk
def jMe (l:List Nd) (a:Int):Int:=match Me.idx l a with
 |some i=>(i:Int)
 |none=>-1
theorem jL0 (xs:List (NV×Nd)) (a:Int):jMe (nds xs) a=fidx (fun x=>x.2.addr==a) xs:=by
 unfold jMe fidx Me.idx nds
 rw[List.findIdx?_map];rfl
theorem kC (xs:List (NV×Nd)) (a:Int):(jMe (nds xs) a= -1∧Me.idx (nds xs) a=none)∨∃(i:Nat) (x:NV×Nd),jMe (nds xs) a=(i:Int)∧Me.idx (nds xs) a=some i∧xs[i]? =some x∧x.2.addr=a:=by
 unfold jMe
 cases h:Me.idx (nds xs) a with
 |none=>exact .inl ⟨rfl,rfl⟩
 |some i=>
  obtain ⟨h1,h2⟩:=Me.ZQ h
  have hl:i<xs.length:=by have:=(List.getElem?_eq_some_iff.1 h1).1;rwa[JG]at this
  obtain ⟨x,hx⟩:=jJ hl
  exact .inr ⟨i,x,rfl,rfl,hx,by rw[jAy hx]at h2;exact h2⟩
end Go.Proofs.YtgfdoognildoeaaGreat
namespace Go.GX
open Go.RowKit
section
variable {P : Program} {N : Nat} {σ : Store} {B : Base} {H : List Chunk} {ops l : List Oper} {K : Act → World → Prop}
variable {d : Nat} {ty : TypeId} {pos : String} {af : Array Edge} {gd : Option (Nat × Bool)}
theorem HL.jPV {α:Type} {r:α→Value} {Q:α→Prop} {G:α→List Chunk} {g:FuncId} {x:Operand} {args:List Operand} {a1 caps:List Value} {tys:Array TypeId} (hg:IsFn P g) (hx:lookO σ x=some (.func (.func g) #[] caps.toArray))
  (hs:stat N ops ⟨some d,.call ⟨.value x,args.toArray,tys⟩,ty,pos,af,gd⟩ σ=true) (ha:vals σ args=some a1)
  (hc:∀w,Sat B H w→Calls P g ((a1++caps).toArray) w fun e w'=>∃x,e= .returned (r x)∧Q x∧Sat (base w) (G x) w')
  (h:∀x,Q x→HL P N ops l ((d,r x)::σ) B (G x++H) K):HL P N ops (⟨some d,.call ⟨.value x,args.toArray,tys⟩,ty,pos,af,gd⟩::l) σ B H K:=
 fun w hw=>jZ.enter hs (jHX hg hx ha) ((hc w hw).mono fun e w' ⟨x,h1,h2,h3⟩=>⟨r x,h1,h x h2 w' (hw.join h3)⟩)
theorem HR.seq {f:FuncId} {k:List Item} {R:Ending→World→Prop} {x y:Code} (h:HR P f N (.code x:: .code y::k) σ B H R):HR P f N (.code (.seq x y)::k) σ B H R:=fun w hw=>Run.seq (h w hw)
end
end Go.GX
namespace Go.Proofs.YtgfdoognildoeaaGreat
open Go.GX Go.RowKit
attribute [local irreducible] Calls Run jZ jf JK HR HL HD jT jG JY Rd jK jY
open Nd
theorem fn64:IsFn Tryz.prog 64:=⟨⟨_,_,Tryz.func64,rfl,by decide⟩⟩
theorem fn65:IsFn Tryz.prog 65:=⟨⟨_,_,Tryz.func65,rfl,by decide⟩⟩
theorem jMD:IsFn Tryz.prog 34:=⟨⟨_,_,Tryz.func34,rfl,by decide⟩⟩
theorem fn149:IsFn Tryz.prog 149:=⟨⟨_,_,Tryz.func149,rfl,by decide⟩⟩
theorem fn78:IsFn Tryz.prog 78:=⟨⟨_,_,Tryz.func78,rfl,by decide⟩⟩
theorem jE8 (l:List (NV×Nd)) (p:NV×Nd→Bool) (g:FuncId) (caps:List Value) (v:Value) (w:World) (hg:IsFn Tryz.prog g) (hp:jPa Tryz.prog g caps (fun a=> .agg ⟨Zg a⟩) p l w) (hv:Sl w v (cellsOf Zg l) l.length) (hl:l.length≤1000000):
  Calls Tryz.prog 64 #[v,.func (.func g) #[] caps.toArray] w fun e w'=>e= .returned (.int .i64 (fidx p l))∧Below w.heap.size w w':=by
 refine jD Tryz.func64 I (Nat.le_of_ble_eq_true I) ?_
 refine HR.sub (σ':=[(0,v),(1,.func (.func g) #[] caps.toArray)]) ⟨I,I,trivial⟩ ?_
 repeat' (first|refine zh ?_|refine HL.JN (Rd.arg hv) I I I ?_|intro (bk:Nat))
 refine HR.loop (ι:=Nat) (fun k=>k≤l.length∧∀j b,j<k→l[j]? =some b→p b=false) (fun k=>[(0,v),(1,.func (.func g) #[] caps.toArray),(7,.int .i64 (l.length:Int)),(8,.int .i64 (k:Int))]) (fun _=>[]) (fun k=>l.length-k) 0 ⟨Nat.zero_le _,fun j b hj=>absurd hj (Nat.not_lt_zero _)⟩ ⟨I,I,I,I,trivial⟩ Ent.refl ?_
 rintro k ⟨hk,hno⟩ ih
 repeat' (first|refine zh ?_|intro (bk:Nat))
 refine HR.cond I (fun h2=>?_) (fun h2=>?_)
 ·have hlt:k<l.length:=by have:=of_decide_eq_true h2;omega
  obtain ⟨x,hx⟩:=jJ hlt
  repeat' (first|refine zh ?_|refine HL.JA (Rd.arg hv) Jm k I I I I hlt ?_|refine HL.JW (Rd.arg hv) I I I I (by simp) I (jH jm hx) ?_|refine HL.jEF (caps:=caps) hg I I I (fun w' hw=>hp x (List.mem_of_getElem? hx) w' hw.jE) ?_|intro (bk:Nat))
  refine HR.cond I (fun h3=>?_) (fun h3=>?_)
  ·have h3:p x=true:=h3
   repeat' (first|refine zh ?_|intro (bk:Nat))
   refine HR.ret Tryz.func64 I [_] (fun _ _=>⟨I,trivial⟩) ?_
   rw[kY hx h3 hno]
   exact fun w' hw=>⟨rfl,hw.jE⟩
  ·have h3:p x=false:=h3
   repeat' (first|refine zh ?_|intro (bk:Nat))
   refine ih (k+1) _ _ ⟨hlt,fun j b hj hb=>?_⟩ (by omega) ⟨I,I,I,I,trivial⟩ Ent.refl
   by_cases e:j=k
   ·subst e;rw[hx]at hb;cases hb;exact h3
   ·exact hno j b (by omega) hb
 ·have hke:k=l.length:=by have:=of_decide_eq_false h2;omega
  subst hke
  rw[zX hno]
  repeat' (first|refine zh ?_|intro (bk:Nat))
  refine HR.ret Tryz.func64 I [_] (fun _ _=>⟨I,trivial⟩) ?_
  exact fun w' hw=>⟨rfl,hw.jE⟩
theorem jGU (bt:Nat) (k:Int) (x:NV×Nd) (w:World) (hb:Sl w (.slice (some ⟨bt,0,none⟩) 1 1) [.int .i64 k] 1):Calls Tryz.prog 65 #[.agg ⟨Zg x⟩,.pointer (some ⟨bt,0,none⟩)] w fun e w'=>e= .returned (.bool (x.2.addr==k))∧Below w.heap.size w w':=by
 refine jD Tryz.func65 I (Nat.le_of_ble_eq_true I) ?_
 refine HR.sub (σ':=[(0,.agg ⟨Zg x⟩),(1,.pointer (some ⟨bt,0,none⟩))]) ⟨I,I,trivial⟩ ?_
 repeat' (first|refine zh ?_|refine HL.ji (j:=0) (Rd.arg hb) I I I I I ?_|intro (bk:Nat))
 refine HR.ret Tryz.func65 I [_] (fun _ _=>⟨I,trivial⟩) ?_
 exact fun w' hw=>⟨rfl,hw.jE⟩
theorem Jj (xs:List (NV×Nd)) (a:Int) (v:Value) (w:World) (h:Sl w v (cellsOf Zg xs) xs.length) (hl:xs.length≤1000000):
  Calls Tryz.prog 34 #[v,.int .i64 a] w fun e w'=>e= .returned (.int .i64 (jMe (nds xs) a))∧Below w.heap.size w w':=by
 rw[jL0]
 refine jD Tryz.func34 I (Nat.le_of_ble_eq_true I) ?_
 refine HR.sub (σ':=[(0,v),(1,.int .i64 a)]) ⟨I,I,trivial⟩ ?_
 repeat' (first|refine zh ?_|refine HL.mkF (g:=65) (caps:=[_]) I I ?_|refine HL.jR fn64 I I (fun w1 hw1=>jE8 xs (fun x=>x.2.addr==a) 65 [.pointer (some ⟨bk,0,none⟩)] v w1 fn65 (fun x hx w2 hb=>jGU bk a x w2 (((Rd.blk (n:=1) 0 rfl).at hw1).ext hb)) ((Rd.arg h).at hw1) hl) ?_|intro (bk:Nat))
 refine HR.ret Tryz.func34 I [_] (fun _ _=>⟨I,trivial⟩) ?_
 exact fun w' hw=>⟨rfl,hw.jE⟩
theorem drop_at {α:Type} {l m:List α} {k:Nat} {x:α} (h:l.drop k=m.drop k) (hx:m[k]? =some x):l[k]? =some x:=by
 have e:(l.drop k)[0]? =(m.drop k)[0]? :=by rw[h]
 rw[List.getElem?_drop,List.getElem?_drop,Nat.add_zero,hx]at e
 exact e
theorem jCo (L:List PtV) (v:Value) (w:World) (hv:RdPts w v L) (hs:∀p∈L,jER p.pt) (hl:L.length≤1000):
  Calls Tryz.prog 149 #[v] w fun e w'=>∃x:Value×List PtV,e= .returned x.1∧jEL x (pts L)∧Sat (base w) (jF7 x) w':=by
 have hsh:∀p∈L,jA9 p:=fun p hp=>(hv.r p hp).sh
 have cL:(cellsOf ptC L).length=L.length*6:=jC JR _
 refine jD Tryz.func149 I (Nat.le_of_ble_eq_true I) ?_
 refine HR.sub (σ':=[(0,v)]) ⟨I,trivial⟩ ?_
 repeat' (first|refine zh ?_|refine HL.JQ fn204 I I (fun w1 hw1=>jGk L v w1 ((Rd.arg hv.s).at hw1) hsh hl) ?_|intro (bk:Nat))
 intro v1
 repeat' (first|refine zh ?_|refine HL.JN (Rd.own 0 I) I I I ?_|intro (bk:Nat))
 refine HR.jA2 (α:=Nat) (β:=List PtV) (fun k M=>k≤L.length∧pts M=pts L∧M.drop k=L.drop k∧∀p∈M,jA9 p) (fun k M=>[(0,v),(3,v1),(8,.int .i64 (L.length:Int)),(9,.int .i64 (k:Int))]) (fun k M=>[jG v1 173 6 M.length (cellsOf ptC M),jB (ptG (M.take k))]) (fun k _=>L.length-k) 0 L ⟨Nat.zero_le _,rfl,rfl,hsh⟩ ⟨I,I,I,I,trivial⟩ (Ent.trans Ent.jL8 (Ent.pick [1,0] I I)) ?_
 rintro k M ⟨hk,hpM,hdr,hshM⟩ ih
 have hk:k≤L.length:=hk
 have hML:M.length=L.length:=by rw[← JH,hpM,JH]
 have cM:(cellsOf ptC M).length=M.length*6:=jC JR _
 repeat' (first|refine zh ?_|intro (bk:Nat))
 refine HR.cond I (fun h2=>?_) (fun h2=>?_)
 ·have hlt:k<L.length:=by have:(k:Int)<(L.length:Int):=of_decide_eq_true h2;omega
  obtain ⟨p,hp⟩:=jJ hlt
  have hpm:=drop_at hdr hp
  have hrp:=hv.r p (List.mem_of_getElem? hp)
  have hsp:=hs p (List.mem_of_getElem? hp)
  obtain ⟨aa,na,ca,ab,nb,cb,ex⟩:=hrp.sh.lit
  obtain ⟨q,hq⟩:∃q,q=p.pt:=⟨_,rfl⟩
  rw[← hq]at ex hsp
  subst ex
  have hh:Sl w (.slice aa na ca) (cellsOf bC q.hv) q.hv.length:=hrp.h
  have hd:Sl w (.slice ab nb cb) (cellsOf sC q.da) q.da.length:=hrp.d
  have hs1:q.hv.length≤140737488355328:=hsp.1
  have hs2:q.da.length≤8796093022208:=hsp.2.1
  repeat' (first|refine zh ?_|refine HL.JA (Rd.arg hv.s) JM k I I I I hlt ?_|refine HL.jo 4 (Rd.arg hv.s) (by rw[cL];omega) I I I I I I I ?_|refine HL.ji (Rd.arg hv.s) I I I I (jQ JR hp (i:=4) I) ?_|refine HL.JQ jRw I I (fun w1 hw1=>jDQ q.hv _ w1 ((Rd.arg hh).at hw1) hs1) ?_|intro (bk:Nat))
  intro u1
  refine HL.shape 0 I fun a1 c1 hu=>?_
  subst hu
  repeat' (first|refine zh ?_|refine HL.JA (Rd.own 1 I) JM k I I I I (by omega) ?_|refine HL.jo 4 (Rd.own 1 I) (by rw[cM];omega) I I I I I I I ?_|refine HL.KA (j:=k*6+4) 1 I I I I I I I (by rw[cM];omega) ?_|intro (bk:Nat))
  obtain ⟨M1,hM1⟩:∃M1,M1=M.set k ⟨.slice a1 q.hv.length c1,.slice ab nb cb,q⟩:=⟨_,rfl⟩
  have hg1:M1[k]? =some ⟨.slice a1 q.hv.length c1,.slice ab nb cb,q⟩:=by rw[hM1];simp[hML,hlt]
  have hl1:M1.length=M.length:=by rw[hM1];exact List.length_set
  have cM1:(cellsOf ptC M1).length=M1.length*6:=jC JR _
  refine HL.ent (H':=[jG v1 173 6 M1.length (cellsOf ptC M1),jG (.slice a1 q.hv.length c1) 4 1 q.hv.length (cellsOf bC q.hv),jB (ptG (M.take k))]) (Ent.trans (Ent.pick [1,0,2] I I) (Ent.JV hl1.symm (by rw[hM1];exact Jv (i:=4) JR hpm I (by decide)))) ?_
  repeat' (first|refine zh ?_|refine HL.JA (Rd.arg hv.s) JM k I I I I hlt ?_|refine HL.jo 5 (Rd.arg hv.s) (by rw[cL];omega) I I I I I I I ?_|refine HL.ji (Rd.arg hv.s) I I I I (jQ JR hp (i:=5) I) ?_|refine HL.JQ jRv I I (fun w1 hw1=>jDP q.da _ w1 ((Rd.arg hd).at hw1) hs2) ?_|intro (bk:Nat))
  intro u2
  refine HL.shape 0 I fun a2 c2 hu=>?_
  subst hu
  repeat' (first|refine zh ?_|refine HL.JA (Rd.own 1 I) JM k I I I I (by omega) ?_|refine HL.jo 5 (Rd.own 1 I) (by rw[cM1];omega) I I I I I I I ?_|refine HL.KA (j:=k*6+5) 1 I I I I I I I (by rw[cM1];omega) ?_|intro (bk:Nat))
  obtain ⟨Q,hQ⟩:∃Q:PtV,Q=⟨.slice a1 q.hv.length c1,.slice a2 q.da.length c2,q⟩:=⟨_,rfl⟩
  have hms:M1.set k Q=M.set k Q:=by rw[hM1,List.set_set]
  have htk:(M.set k Q).take (k+1)=M.take k++[Q]:=by
   rw[jN (show (M.set k Q)[k]? =some Q by simp[hML,hlt]),List.take_set_of_le (Nat.le_refl k)]
  refine ih (k+1) (M.set k Q) _ _ ⟨hlt,?_,?_,?_⟩ (by show L.length-(k+1)<L.length-k;omega) ⟨I,I,I,I,trivial⟩ ?_
  ·unfold pts
   rw[List.map_set,hQ]
   show (pts M).set k q=pts L
   have hqk:(pts M)[k]? =some q:=KL hpm
   rw[jDa hqk];exact hpM
  ·rw [List.drop_set_of_lt (Nat.lt_succ_self k)]
   have:=congrArg (List.drop 1) hdr
   rwa[List.drop_drop,List.drop_drop]at this
  ·intro x hx
   rcases List.mem_or_eq_of_mem_set hx with hx|rfl
   ·exact hshM x hx
   ·rw [hQ];exact ⟨⟨_,_,_,rfl⟩,⟨_,_,_,rfl⟩⟩
  ·show Ent _ _ [jG v1 173 6 (M.set k Q).length (cellsOf ptC (M.set k Q)),jB (ptG ((M.set k Q).take (k+1)))]
   rw[htk,kN,jBw,hQ]
   refine Ent.trans (Ent.pick (H':=[ptH ⟨.slice a1 q.hv.length c1,.slice a2 q.da.length c2,q⟩,ptD ⟨.slice a1 q.hv.length c1,.slice a2 q.da.length c2,q⟩,jB (ptG (M.take k)),_]) [2,0,3,1] I I) (Ent.trans (Ent.group (G:=[ptH _,ptD _])) (Ent.trans Ent.jL9 (Ent.trans (Ent.pick [1,0] I I) (Ent.JV (by rw[hl1,List.length_set]) ?_))))
   rw[← hQ,← hms,hQ]
   exact Jv (i:=5) JR hg1 I (by decide)
 ·have hke:k=L.length:=by have:¬(k:Int)<(L.length:Int):=of_decide_eq_false h2;omega
  subst hke
  repeat' (first|refine zh ?_|intro (bk:Nat))
  refine HR.ret Tryz.func149 I [_] (fun _ _=>⟨I,trivial⟩) ?_
  refine fun w' hw=>⟨(v1,M),rfl,⟨hpM,hshM⟩,?_⟩
  rw[← hML,List.take_length]at hw
  exact hw
theorem jDD (V:NV) (n:Nd) (w:World) (h:OkN w V n) (hs:SmN n):
  Calls Tryz.prog 78 #[.agg ⟨ndC V n⟩] w fun e w'=>∃x:NV×List Chunk,e= .returned (.agg ⟨ndC x.1 n⟩)∧Own x.1 x.2 n∧Sat (base w) [jB x.2] w':=by
 refine jD Tryz.func78 I (Nat.le_of_ble_eq_true I) ?_
 refine HR.sub (σ':=[(0,.agg ⟨ndC V n⟩)]) ⟨I,trivial⟩ ?_
 repeat' (first|refine zh ?_|refine HL.JQ fn61 I I (fun w1 hw1=>ku n.table _ w1 ((Rd.arg h.ta).at hw1) hs.ta) ?_|intro (bk:Nat))
 intro v1
 refine HL.shape 0 I fun a1 c1 hv=>?_
 subst hv
 repeat' (first|refine zh ?_|refine HL.JQ jRy I I (fun w1 hw1=>jCP n.links _ w1 ((Rd.arg h.li).at hw1) hs.li) ?_|intro (bk:Nat))
 intro v2
 refine HL.shape 0 I fun a2 c2 hv=>?_
 subst hv
 repeat' (first|refine zh ?_|refine HL.JQ jNs I I (fun w1 hw1=>kr n.out _ w1 ((Rd.arg h.ou).at hw1) hs.ou) ?_|intro (bk:Nat))
 intro v3
 refine HL.shape 0 I fun a3 c3 hv=>?_
 subst hv
 repeat' (first|refine zh ?_|refine HL.JQ fn148 I I (fun w1 hw1=>jJz n.children _ w1 ((Rd.arg h.ch).at hw1) hs.ch) ?_|intro (bk:Nat))
 intro v4
 refine HL.shape 0 I fun a4 c4 hv=>?_
 subst hv
 repeat' (first|refine zh ?_|refine HL.JQ jQU I I (fun w1 hw1=>jAG n.boxes _ w1 ((Rd.arg h.bo).at hw1) hs.bo) ?_|intro (bk:Nat))
 intro v5
 refine HL.shape 0 I fun a5 c5 hv=>?_
 subst hv
 refine HL.ent (Ent.pick [6,0,1,2,3,4,5] I I) ?_
 repeat' (first|refine zh ?_|refine HL.JQ jQS I I (fun w1 hw1=>jAF n.seen _ w1 ((Rd.arg h.se).at hw1) hs.se) ?_|intro (bk:Nat))
 intro v6
 refine HL.shape 0 I fun a6 c6 hv=>?_
 subst hv
 repeat' (first|refine zh ?_|intro (bk:Nat))
 refine HL.JC (r:=fun x:Value×List PtV=>x.1) (Q:=fun x=>jEL x (pts V.ps)) (G:=fun x=>jF7 x) fn149 I I (fun w1 hw1=>jCo V.ps _ w1 (h.pa.ext hw1.jE) (fun p hp=>hs.sm p.pt (by rw[← h.eq];exact List.mem_map.2 ⟨p,hp,rfl⟩)) (by rw[← JH,h.eq];exact hs.pa)) ?_
 rintro ⟨v7,L7⟩ ⟨hp7,hsh7⟩
 have hp7:pts L7=pts V.ps:=hp7
 refine HL.ent (H':=jG v7 173 6 L7.length (cellsOf ptC L7)::jB (ptG L7)::_) Ent.refl ?_
 refine HL.shape 0 I fun a7 c7 hv=>?_
 subst hv
 repeat' (first|refine zh ?_|refine HL.JQ fn59 I I (fun w1 hw1=>jAH n.inbox _ w1 ((Rd.arg h.ib).at hw1) hs.ib) ?_|intro (bk:Nat))
 intro v8
 refine HL.shape 0 I fun a8 c8 hv=>?_
 subst hv
 refine HL.ent (Ent.pick [10,4,0,1,2,3,5,6,7,8,9] I I) ?_
 repeat' (first|refine zh ?_|intro (bk:Nat))
 refine HR.ret Tryz.func78 I [_] (fun w hw=>⟨⟨_,rfl,jS hw 0 I I I I rfl⟩,trivial⟩) ?_
 refine fun w' hw=>⟨(⟨(a1,c1),(a2,c2),(a3,c3),(a4,c4),(a5,c5),(a6,c6),(a7,c7),(a8,c8),L7⟩,ndH ⟨(a1,c1),(a2,c2),(a3,c3),(a4,c4),(a5,c5),(a6,c6),(a7,c7),(a8,c8),L7⟩ n),rfl,Pts.own ⟨by rw[← h.eq];exact hp7,hsh7⟩,KH (hw.pick [10,9,8,7,6,5,3,4,2] I rfl)⟩
end Go.Proofs.YtgfdoognildoeaaGreat
namespace Go.Proofs.YtgfdoognildoeaaGreat
open Go.GX Go.RowKit
attribute [local irreducible] Calls Run jZ jf JK HR HL HD jT jG JY Rd jK jY
open Nd
theorem fn54:IsFn Tryz.prog 54:=⟨⟨_,_,Tryz.func54,rfl,by decide⟩⟩
abbrev meZ:List Value:=[.int .i64 0,.slice none 0 0]
abbrev meB (b:Nat) (t:Int) (v:Value):Chunk:=jT b (meC t v) 26
abbrev MkL (x:SV×List (NV×Nd)×List Chunk) (l:List Nd):Prop:=nds x.2.1=l∧∀y∈x.2.1,Own y.1 x.2.2 y.2
theorem jA6 (t:Int) (v:Value) (xs:List (NV×Nd)) (w:World) (h:OkL w v xs) (hg:∀x∈xs,SmN x.2) (hl:xs.length≤1000):
  Calls Tryz.prog 54 #[meV t v] w fun e w'=>∃x:SV×List (NV×Nd)×List Chunk,e= .returned (meV t (sv x.1 x.2.1.length))∧MkL x (nds xs)∧Sat (base w) [cNd (sv x.1 x.2.1.length) x.2.1,jB x.2.2] w':=by
 obtain ⟨av,cv,rfl,_⟩:=h.s.2
 refine jD Tryz.func54 I (Nat.le_of_ble_eq_true I) ?_
 refine HR.sub (σ':=[(0,meV t (sv (av,cv) xs.length))]) ⟨I,trivial⟩ ?_
 refine HR.ctl I ?_
 refine HR.region ?_
 refine HL.box I I ?_
 intro b1
 refine HL.alloc I I ?_
 intro b2
 repeat' (first|refine zh ?_|intro (bk:Nat))
 refine HR.join (ι:=Nat×SV) (fun _=>True) (fun x=>[(1,ptr b1),(2,ptr b2),(3,ptr x.1)]) (fun x=>[meB x.1 t (sv x.2 0),cNd (sv x.2 0) [],meB b1 t (sv (av,cv) xs.length),jT b2 meZ 26]) ?_ (fun hj=>?_)
 rotate_left
 ·refine HR.kM [0,1] I I Jc ?_
  refine za 0 ?_
  refine za 1 ?_
  refine za 2 ?_
  refine za 3 ?_
  refine HA.rd 4 (by kernel_rfl) I I (jL2 (Rd.arg h.s) I I) ?_
  refine HA.two 5 7 (by kernel_rfl) I I ?_ ?_
  ·refine HL.kV 0 xs.length Jm I I I I I I (Nat.zero_le _) (show 232*xs.length≤_ by omega) (by omega) ?_
   intro v3
   refine HL.shape 0 I fun a3 c3 hv=>?_
   subst hv
   refine HL.jh [1,2] I I ?_
   refine za 6 ?_
   refine HA.one 7 (by kernel_rfl) I ?_
   refine HL.alloc I I ?_
   intro b3
   refine HL.jh [2,3] I I ?_
   refine HA.one 8 (by kernel_rfl) I ?_
   repeat' (first|refine zn ?_|intro (bk:Nat))
   refine HL.jh [2,3] I I ?_
   refine HA.done (by kernel_rfl) ?_
   exact hj (b3,(a3,c3)) _ _ trivial ⟨I,I,I,trivial⟩ (Ent.pick [0,1,3,2] I I)
  ·refine HL.alloc I I ?_
   intro b3
   refine HL.jh [1,2] I I ?_
   refine HA.one 5 (by kernel_rfl) I ?_
   refine HL.kV 0 xs.length Jm I I I I I I (Nat.zero_le _) (show 232*xs.length≤_ by omega) (by omega) ?_
   intro v3
   refine HL.shape 0 I fun a3 c3 hv=>?_
   subst hv
   refine HL.jh [2,3] I I ?_
   refine za 6 ?_
   refine HA.one 8 (by kernel_rfl) I ?_
   repeat' (first|refine zn ?_|intro (bk:Nat))
   refine HL.jh [2,3] I I ?_
   refine HA.done (by kernel_rfl) ?_
   exact hj (b3,(a3,c3)) _ _ trivial ⟨I,I,I,trivial⟩ (Ent.pick [1,0,3,2] I I)
 rintro ⟨b3,y0⟩ _
 repeat' (first|refine zh ?_|refine HL.JN (Rd.arg h.s) I I I ?_|intro (bk:Nat))
 refine HR.loop (ι:=Nat×SV×List (NV×Nd)×List Chunk) (fun x=>x.1≤xs.length∧nds x.2.2.1=(nds xs).take x.1∧∀y∈x.2.2.1,Own y.1 x.2.2.2 y.2) (fun x=>[(2,ptr b2),(3,ptr b3),(14,sv (av,cv) xs.length),(15,.int .i64 (xs.length:Int)),(16,.int .i64 (x.1:Int))]) (fun x=>[meB b3 t (sv x.2.1 x.2.2.1.length),jT b2 meZ 26,cNd (sv x.2.1 x.2.2.1.length) x.2.2.1,jB x.2.2.2]) (fun x=>xs.length-x.1) (0,y0,[],[]) ⟨Nat.zero_le _,rfl,fun y hy=>(List.not_mem_nil hy).elim⟩ ⟨I,I,I,I,I,trivial⟩ (Ent.trans Ent.jL8 (Ent.pick [1,4,2,0] I I)) ?_
 rintro ⟨k,y,ys,G⟩ ⟨hk,hys,hown⟩ ih
 have hk:k≤xs.length:=hk
 have hys:nds ys=(nds xs).take k:=hys
 have hown:∀z∈ys,Own z.1 G z.2:=hown
 have hyl:ys.length=k:=by rw[← JG,hys,List.length_take,JG];omega
 repeat' (first|refine zh ?_|intro (bk:Nat))
 refine HR.cond I (fun h2=>?_) (fun h2=>?_)
 rotate_left
 ·have hke:k=xs.length:=by have:¬(k:Int)<(xs.length:Int):=of_decide_eq_false h2;omega
  repeat' (first|refine zh ?_|intro (bk:Nat))
  refine HR.ret Tryz.func54 I [_] (fun w hw=>⟨⟨_,rfl,jS hw 1 I I I I rfl⟩,trivial⟩) ?_
  refine fun w' hw=>⟨(y,ys,G),rfl,⟨?_,hown⟩,hw.pick [2,3] I rfl⟩
  show nds ys=nds xs
  rw[hys,hke,← JG,List.take_length]
 have hlt:k<xs.length:=by have:(k:Int)<(xs.length:Int):=of_decide_eq_true h2;omega
 obtain ⟨⟨V,n⟩,hx⟩:=jJ hlt
 have hok:OkN w V n:=h.r _ (List.mem_of_getElem? hx)
 have hsn:SmN n:=hg _ (List.mem_of_getElem? hx)
 repeat' (first|refine zh ?_|refine HL.JA (Rd.arg h.s) Jm k I I I I hlt ?_|refine HL.JW (Rd.arg h.s) I I I I (by simp) I (jH jm hx) ?_|intro (bk:Nat))
 refine HR.Jf [(0,true),(1,true),(2,true),(3,false),(4,false),(5,false),(6,true)] 7 [0,1] I I Jc (by kernel_rfl) ?_
 repeat' (first|refine zd ?_|fail)
 refine HD.one I ?_
 refine HL.JC (r:=fun x:NV×List Chunk=> .agg ⟨ndC x.1 n⟩) (Q:=fun x=>Own x.1 x.2 n) (G:=fun x=>[jB x.2]) fn78 I I (fun w1 hw1=>jDD V n w1 (hok.ext hw1.jE) hsn) ?_
 rintro ⟨V2,G2⟩ hO
 have hO:Own V2 G2 n:=hO
 refine HL.back [1,2] I I ?_
 refine HD.one I ?_
 refine HL.jv Jm I I I I I (by decide) (by decide) ?_
 intro va
 refine HL.back [2,3] I I ?_
 refine HD.one I ?_
 refine HL.ZN 5 I Jm (Rd.own 0 I) I I I I (jF I) (by show (ys.length+1)*232≤_;omega) (by show ys.length+1≤_;omega) ?_
 intro vc
 refine HL.back [2,3] I I ?_
 repeat' (first|refine zd ?_|fail)
 refine HD.last I ?_
 refine HL.shape 5 I fun ac cc hv=>?_
 subst hv
 repeat' (first|refine zn ?_|intro (bk:Nat))
 repeat' (first|refine zh ?_|intro (bk:Nat))
 refine ih (k+1,(ac,cc),ys++[(V2,n)],[jB G2,jB G]) _ _ ⟨hlt,?_,?_⟩ (by show xs.length-(k+1)<xs.length-k;omega) ⟨I,I,I,I,I,trivial⟩ ?_
 ·show nds (ys++[(V2,n)])=(nds xs).take (k+1)
  rw[jN (jAC hx),← hys];simp[nds]
 ·intro z hz
  have hz:z∈ys++[(V2,n)]:=hz
  rcases List.mem_append.1 hz with hz|hz
  ·exact fun w2 hg2=>hown z hz w2 (jM hg2 (by simp))
  ·rw [List.mem_singleton.1 hz];exact fun w2 hg2=>hO w2 (jM hg2 (by simp))
 ·show Ent _ _ [meB b3 t (sv (ac,cc) (ys++[(V2,n)]).length),jT b2 meZ 26,cNd (sv (ac,cc) (ys++[(V2,n)]).length) (ys++[(V2,n)]),jB [jB G2,jB G]]
  rw[jMT,show (ys++[(V2,n)]).length=ys.length+1 by simp]
  exact Ent.trans (Ent.pick (H':=[jB G2,jB G]++[meB b3 t (sv (ac,cc) (ys.length+1)),jT b2 meZ 26,jG (sv (ac,cc) (ys.length+1)) 62 13 (ys.length+1) (cellsOf Zg ys++Zg (V2,n))]) [1,6,3,4,5] I I) (Ent.trans Ent.group (Ent.pick [1,2,3,0] I I))
end Go.Proofs.YtgfdoognildoeaaGreat
