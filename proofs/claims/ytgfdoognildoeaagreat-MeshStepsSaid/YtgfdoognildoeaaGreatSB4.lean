/- Part of a proof. Conditions: none. -/
import Derived.Test.YtgfdoognildoeaaGreatSB3
set_option linter.unusedVariables false
set_option linter.unusedSectionVars false
set_option linter.unusedSimpArgs false
set_option maxRecDepth 100000
set_option maxHeartbeats 4000000
namespace Go.GX.Tp
open Go.GX
def nodes:List Int:=(List.range 251).map Int.ofNat
theorem jGa {n : Int} : n ∈ nodes ↔ okN n = true := by
  simp only [nodes, List.mem_map, List.mem_range, okN, Bool.and_eq_true, decide_eq_true_eq]
  constructor
  · rintro ⟨k, hk, rfl⟩
    exact ⟨Int.natCast_nonneg k, by have : (k : Int) <= 250 := by omega
                                    exact this⟩
  · rintro ⟨h1, h2⟩
    exact ⟨n.toNat, by omega, by simp; omega⟩
theorem jGR:nodes.Pairwise (·<·):=by
 unfold nodes;rw[List.pairwise_map];exact List.pairwise_lt_range.imp fun h=>by simpa using h
def linked (l:List Ed) (a b:Int):Bool:=l.any fun e=>okE e&&same e ⟨a,b⟩
theorem jAB {l:List Ed} {a b:Int}:linked l a b=true↔∃e∈l,okE e=true/\(e=⟨a,b⟩\/e=⟨b,a⟩):=by
 simp only[linked,List.any_eq_true,Bool.and_eq_true,same,Bool.or_eq_true,beq_iff_eq,and_true]
 constructor
 ·rintro ⟨⟨x,y⟩,he,hok,h⟩
  refine ⟨⟨x,y⟩,he,hok,?_⟩;rcases h with ⟨h1,h2⟩|⟨h1,h2⟩
  ·left;simp_all
  ·right;simp_all
 ·rintro ⟨⟨x,y⟩,he,hok,h⟩
  refine ⟨⟨x,y⟩,he,hok,?_⟩;rcases h with h|h
  ·left;simp_all
  ·right;simp_all
theorem jH5 {l:List Ed} {a b:Int}:linked l a b=linked l b a:=by
 rw[Bool.eq_iff_iff,jAB,jAB]
 constructor<;>(rintro ⟨e,h1,h2,h3⟩;exact ⟨e,h1,h2,h3.symm⟩)
theorem jGe {l:List Ed} {a b:Int} (h:linked l a b=true):okN a=true/\okN b=true/\a≠b:=by
 obtain ⟨e,_,hok,h⟩:=jAB.1 h;simp only[okE,Bool.and_eq_true,bne_iff_ne,ne_eq]at hok;rcases h with rfl|rfl
 ·exact ⟨hok.1.1,hok.1.2,hok.2⟩
 ·exact ⟨hok.1.2,hok.1.1,fun e=>hok.2 e.symm⟩
def Z7 (l:List Ed) (n:Int):List Int:=nodes.filter (linked l n)
theorem jPz {l:List Ed} {n k:Int}:k∈Z7 l n↔linked l n k=true:=by
 simp only[Z7,List.mem_filter,jGa];exact ⟨fun h=>h.2,fun h=>⟨(jGe h).2.1,h⟩⟩
theorem jC3 (l:List Ed) (n:Int):(Z7 l n).Pairwise (·<·):=jGR.sublist List.filter_sublist
theorem jFB (l:List Ed) (n:Int):(Z7 l n).length<=251:=by
 have:=List.length_filter_le (linked l n) nodes;have h2:nodes.length=251:=by simp[nodes]
 unfold Z7;omega
theorem jDp:∀ {a b:List Int},a.Pairwise (·<·)->b.Pairwise (·<·)->(∀ x,x∈a↔x∈b)->a=b
 |[],[],_,_,_=>rfl
 |[],y::b,_,_,h=>by have:=(h y).2 (List.mem_cons_self ..);cases this
 |x::a,[],_,_,h=>by have:=(h x).1 (List.mem_cons_self ..);cases this
 |x::a,y::b,ha,hb,h=>by
  obtain ⟨ha1,ha2⟩:=List.pairwise_cons.1 ha;obtain ⟨hb1,hb2⟩:=List.pairwise_cons.1 hb;have hxy:x=y:=by
   rcases List.mem_cons.1 ((h x).1 (List.mem_cons_self ..))with e|e
   ·exact e
   ·rcases List.mem_cons.1 ((h y).2 (List.mem_cons_self ..))with e'|e'
    ·exact e'.symm
    ·have:=hb1 x e;have:=ha1 y e';omega
  subst hxy
  congr 1
  refine jDp ha2 hb2 fun z=>?_
  constructor
  ·intro hz;rcases List.mem_cons.1 ((h z).1 (List.mem_cons_of_mem _ hz))with e|e
   ·subst e;have:=ha1 z hz;omega
   ·exact e
  ·intro hz;rcases List.mem_cons.1 ((h z).2 (List.mem_cons_of_mem _ hz))with e|e
   ·subst e;have:=hb1 z hz;omega
   ·exact e
theorem jHU {a:List Int} {s:List Int} (hp:s.Perm a) (hs:s.Pairwise (·<=·)) (hn:a.Nodup) {b:List Int} (hb:b.Pairwise (·<·)) (hm:∀x,x∈a↔x∈b):s=b:=by
 refine jDp ?_ hb fun x=>by rw[hp.mem_iff,hm]
 have hn':s.Nodup:=hp.nodup_iff.2 hn;exact (hs.and hn').imp fun ⟨h1,h2⟩=>by omega
structure Adj (l:List Ed) (adj:Int->List Int):Prop where
 nodup:∀n,(adj n).Nodup
 mem:∀n x,x∈adj n↔linked l n x=true
theorem Adj.nil:Adj [] fun _=>[]:=⟨fun _=>List.nodup_nil,fun n x=>by simp[linked]⟩
theorem jAd {l:List Ed} {e:Ed} {a b:Int}:linked (l++[e]) a b=(linked l a b||(okE e&&same e ⟨a,b⟩)):=by simp[linked]
theorem jRL {l:List Ed} {a b:Int} (hab:a≠b) (h1:okN a=true) (h2:okN b=true):linked l a b=true↔∃e∈l,okE e=true/\link e=link ⟨a,b⟩:=by
 rw[jAB];have:∀e:Ed,(e=⟨a,b⟩\/e=⟨b,a⟩)↔link e=link ⟨a,b⟩:=by
  intro e;have:=KU e ⟨a,b⟩;have h3:(same e ⟨a,b⟩=true)↔(e=⟨a,b⟩\/e=⟨b,a⟩):=by
   obtain ⟨x,y⟩:=e
   simp[same]
  rw[<- h3,this,decide_eq_true_eq]
 exact ⟨fun ⟨e,h1,h2,h3⟩=>⟨e,h1,h2,(this e).1 h3⟩,fun ⟨e,h1,h2,h3⟩=>⟨e,h1,h2,(this e).2 h3⟩⟩
def upd (adj:Int->List Int) (n:Int) (xs:List Int):Int->List Int:=fun k=>if k=n then xs else adj k
theorem Adj.skip {l:List Ed} {adj:Int->List Int} {e:Ed} (h:Adj l adj) (hs:okE e=false\/∃e'∈l,okE e'=true/\link e'=link e):Adj (l++[e]) adj:=by
 refine ⟨h.nodup,fun n x=>?_⟩;rw[h.mem,jAd];rcases hs with hs|⟨e',h1,h2,h3⟩
 ·simp [hs]
 ·constructor
  ·intro h;simp[h]
  ·intro hh;rcases Bool.or_eq_true_iff.1 hh with hh|hh
   ·exact hh
   ·obtain ⟨hok,hsm⟩:=Bool.and_eq_true_iff.1 hh;rw[KU,decide_eq_true_eq]at hsm;simp only[linked,List.any_eq_true,Bool.and_eq_true];exact ⟨e',h1,h2,by rw[KU,h3,hsm];simp⟩
theorem Adj.add {l:List Ed} {adj:Int->List Int} {e:Ed} (h:Adj l adj) (hok:okE e=true) (hs:∀e'∈l,okE e'=true->link e'≠link e):Adj (l++[e]) (upd (upd adj e.a (adj e.a++[e.b])) e.b (adj e.b++[e.a])):=by
 obtain ⟨a,b⟩:=e;have hok':=hok;simp only[okE,Bool.and_eq_true,bne_iff_ne,ne_eq]at hok';obtain ⟨⟨ha,hb⟩,hab⟩:=hok';have hn:linked l a b=false:=by
  rw[<- Bool.not_eq_true];intro hl;obtain ⟨e',h1,h2,h3⟩:=(jRL hab ha hb).1 hl;exact hs e' h1 h2 h3
 have hn2:linked l b a=false:=by rw[jH5];exact hn
 have nb:b ∉ adj a:=fun hm=>by rw[h.mem,hn]at hm;cases hm
 have na:a ∉ adj b:=fun hm=>by rw[h.mem,hn2]at hm;cases hm
 have nd:∀(n x:Int),x ∉ adj n->(adj n++[x]).Nodup:=fun n x hx=>List.nodup_append.2 ⟨h.nodup n,by simp,fun y hy z hz=>by simp at hz;subst hz;exact fun e=>hx (e▸hy)⟩
 refine ⟨fun n=>?_,fun n x=>?_⟩
 ·simp only[upd]
  split
  ·exact nd _ _ na
  ·split
   ·exact nd _ _ nb
   ·exact h.nodup n
 ·rw [jAd,hok];simp only[upd,same,Bool.true_and]
  by_cases h1:n=b
  ·subst h1;have:¬n=a:=fun e=>hab e.symm
   rw[if_pos rfl,List.mem_append,h.mem];simp only[List.mem_singleton,Bool.or_eq_true,Bool.and_eq_true,beq_iff_eq,and_true]
   grind
  ·rw [if_neg h1]
   by_cases h2:n=a
   ·subst h2;rw[if_pos rfl,List.mem_append,h.mem];simp only[List.mem_singleton,Bool.or_eq_true,Bool.and_eq_true,beq_iff_eq,and_true]
    grind
   ·rw [if_neg h2,h.mem];simp only[Bool.or_eq_true,Bool.and_eq_true,beq_iff_eq,and_true]
    grind
theorem Adj.len {l:List Ed} {adj:Int->List Int} (h:Adj l adj) (n:Int):(adj n).length<=251:=by
 have h1:(adj n).Subset nodes:=fun x hx=>jGa.2 (jGe ((h.mem n x).1 hx)).2.1
 have:=List.Nodup.length_le_of_subset (h.nodup n) h1
 simpa[nodes]using this
end Go.GX.Tp
namespace Tf
open Go.GX
abbrev srt (b:List Int):List Int:=b.mergeSort fun x y=>decide (x<=y)
abbrev dif (b:List Int):List Int:=Go.Lib.compact (srt b)
theorem jBP (b:List Int):(srt b).Pairwise fun x y=>x<=y:=by
 have:=List.pairwise_mergeSort (le:=fun x y:Int=>decide (x<=y)) (fun a b c h1 h2=>by simp only[decide_eq_true_eq]at *;omega) (fun a b=>by simp only[Bool.or_eq_true,decide_eq_true_eq];omega) b;exact this.imp fun h=>by simpa using h
theorem jCZ {zs:List Int} (hs:zs.Pairwise fun x y=>x<=y):∀m,m<=zs.length->(Go.Lib.compactUpTo zs.toArray m).Pairwise (fun x y=>x<y)/\∀x,x∈Go.Lib.compactUpTo zs.toArray m↔x∈zs.take m
 |0,_=>by simp[Go.Lib.compactUpTo]
 |m+1,hm=>by
  obtain ⟨h1,h2⟩:=jCZ hs m (by omega);obtain ⟨a,ha⟩:=jG (show m<zs.length by omega);have hma:zs.toArray[m]! =a:=by
   obtain ⟨hl,he⟩:=List.getElem?_eq_some_iff.1 ha;rw[getElem!_pos zs.toArray m (by simpa using hl)];simpa using he
  rw[Go.Lib.compactUpTo_succ,jE ha,hma]
  by_cases hk:Go.Lib.keeps zs.toArray m=true
  ·rw [if_pos hk];refine ⟨List.pairwise_append.2 ⟨h1,List.pairwise_singleton _ _,fun x hx y hy=>?_⟩,fun x=>by simp[h2 x]⟩;rw[List.mem_singleton]at hy;subst hy;have hx:=(h2 x).1 hx;obtain ⟨j,hj⟩:=List.getElem?_of_mem hx;have hjm:j<m:=by have:=(List.getElem?_eq_some_iff.1 hj).1;simp at this;omega
   rw[List.getElem?_take_of_lt hjm]at hj;have hm0:m≠0:=by omega
   obtain ⟨c,hc⟩:=jG (show m-1<zs.length by omega);have hmc:zs.toArray[m-1]! =c:=by
    obtain ⟨hl,he⟩:=List.getElem?_eq_some_iff.1 hc;rw[getElem!_pos zs.toArray (m-1) (by simpa using hl)];simpa using he
   have hne:y≠c:=by
    have:=hk;simp only[Go.Lib.keeps,hma,hmc,decide_eq_true_eq]at this;rcases this with h|h
    ·exact absurd h hm0
    ·exact h
   obtain ⟨l1,e1⟩:=List.getElem?_eq_some_iff.1 hj;obtain ⟨l2,e2⟩:=List.getElem?_eq_some_iff.1 hc;obtain ⟨l3,e3⟩:=List.getElem?_eq_some_iff.1 ha;have hcy:c<=y:=by
    have:=List.pairwise_iff_getElem.1 hs (m-1) m l2 l3 (by omega);omega
   have hxc:x<=c:=by
    by_cases hjm':j=m-1
    ·subst hjm';rw[hj]at hc;cases hc;omega
    ·have:=List.pairwise_iff_getElem.1 hs j (m-1) l1 l2 (by omega);omega
   omega
  ·rw [if_neg hk,List.append_nil];refine ⟨h1,fun x=>?_⟩;rw[h2 x];simp only[List.mem_append,List.mem_singleton];refine ⟨.inl,fun h=>h.elim id fun h=>?_⟩;subst h;simp only[Go.Lib.keeps,hma,decide_eq_true_eq,not_or,ne_eq,Decidable.not_not]at hk;obtain ⟨hm0,hk⟩:=hk;obtain ⟨c,hc⟩:=jG (show m-1<zs.length by omega);have hmc:zs.toArray[m-1]! =c:=by
    obtain ⟨hl,he⟩:=List.getElem?_eq_some_iff.1 hc;rw[getElem!_pos zs.toArray (m-1) (by simpa using hl)];simpa using he
   rw[hk,hmc];exact List.mem_of_getElem? (show (zs.take m)[m-1]? =some c by rw[List.getElem?_take_of_lt (by omega)];exact hc)
theorem jR5 (b:List Int):(dif b).Pairwise fun x y=>x<y:=(jCZ (jBP b) (srt b).length (Nat.le_refl _)).1
theorem jR4 (b:List Int) (x:Int):x∈dif b↔x∈b:=by
 have:=(jCZ (jBP b) (srt b).length (Nat.le_refl _)).2 x;rw[List.take_length]at this;exact this.trans List.mem_mergeSort
end Tf
namespace Ra
open Go.GX Tp
structure Air where
 e:List Ed
 o:List Int
 n:List Int
structure Fr where
 kd:Int
 fr:Int
 dst:Int
 so:Int
 ta:Int
 sq:Int
 hp:Int
 ur:Bool
 da:List UInt8
def check (a:Air):Int:=if Tp.check a.e≠0 then Tp.check a.e else if (a.o++a.n).all okN=false then 2 else if a.o.length>24\/a.n.length>24 then 3 else 0
theorem jNz {a:Air} (h:¬Tp.check a.e=0):check a=Tp.check a.e:=by simp[check,h]
theorem jN2 {a:Air} (h:Tp.check a.e=0) (h2:(a.o++a.n).all okN=false):check a=2:=by unfold check;rw[if_neg (by simp[h]),if_pos h2]
theorem jN1 {a:Air} (h:Tp.check a.e=0) (h2:(a.o++a.n).all okN=true) (h3:a.o.length>24\/a.n.length>24):check a=3:=by unfold check;rw[if_neg (by simp[h]),if_neg (by rw[h2];decide),if_pos h3]
theorem jN3 {a:Air} (h:Tp.check a.e=0) (h2:(a.o++a.n).all okN=true) (h3:¬(a.o.length>24\/a.n.length>24)):check a=0:=by unfold check;rw[if_neg (by simp[h]),if_neg (by rw[h2];decide),if_neg h3]
def san (a:Air):Air:=if check a=0 then a else ⟨[],[],[]⟩
theorem jQi {a:Air} (h:check a=0):san a=a:=by simp[san,h]
theorem jQj {a:Air} (h:¬check a=0):san a=⟨[],[],[]⟩:=by simp[san,h]
theorem jKL {α:Type} {f:α->Bool} {l:List α} {k:Nat} {x:α} (hx:l[k]? =some x):(l.take (k+1)).all f=((l.take k).all f&&f x):=by
 rw[jE hx];simp
theorem jQ3 {α:Type} {f:α->Bool} {l:List α} {k:Nat} {x:α} (hx:l[k]? =some x) (hf:f x=false):l.all f=false:=by
 rw[<- Bool.not_eq_true,List.all_eq_true];intro h;rw[h x (List.mem_of_getElem? hx)]at hf;cases hf
def hears (a:Air) (n:Int):Bool:=!decide (n∈a.o)&&!decide (n∈a.n)
def takes (a:Air) (dst n:Int):Bool:=hears a n&&((dst==255)||(dst==n))
def heard (a:Air) (f:Fr):List Int:=(Z7 a.e f.fr).filter (takes a f.dst)
def recv (a:Air) (f:Fr):List Int:=if f.fr∈a.o then []else heard a f
def jCC (a:Air) (f:Fr):Bool:=!decide (f.fr∈a.o)&&((f.dst==255)||(decide (0<(heard a f).length)&&!decide (f.fr∈a.n)))
theorem jNe (a:Air) (f:Fr):(heard a f).length<=251:=Nat.le_trans (List.length_filter_le _ _) (jFB _ _)
theorem jJh (a:Air) (f:Fr):(recv a f).length<=251:=by
 unfold recv;split
 ·simp
 ·exact jNe a f
theorem jGr (a:Air) (f:Fr):(heard a f).Pairwise (·<·):=(jC3 _ _).sublist List.filter_sublist
theorem jNd {a:Air} {f:Fr} (h:¬f.dst=255):((heard a f).length==1)=decide (0<(heard a f).length):=by
 have hs:=jGr a f;have hm:∀x∈heard a f,x=f.dst:=fun x hx=>by
  have:=(List.mem_filter.1 hx).2;simp only[takes,Bool.and_eq_true,Bool.or_eq_true,beq_iff_eq,h,false_or]at this;exact this.2.symm
 match hh:heard a f with
 |[]=>rfl
 |[x]=>rfl
 |x::y::r=>
  rw[hh]at hs hm;have h1:=hm x (List.mem_cons_self ..);have h2:=hm y (List.mem_cons_of_mem _ (List.mem_cons_self ..));have:=(List.pairwise_cons.1 hs).1 y (List.mem_cons_self ..);omega
theorem Jp {α:Type} {f:α->Bool} {l:List α} {k:Nat} {x:α} (hx:l[k]? =some x):(l.take (k+1)).filter f=(l.take k).filter f++if f x=true then [x]else []:=by
 rw[jE hx,List.filter_append];simp only[List.filter_cons,List.filter_nil]
end Ra
namespace Nd
open Go.GX Tp
abbrev Fr:=Ra.Fr
abbrev By:=List UInt8
def fr0:Fr:=⟨0,0,0,0,0,0,0,false,[]⟩
instance:DecidableEq Ra.Fr:=fun a b=>
 decidable_of_iff (a.kd=b.kd/\a.fr=b.fr/\a.dst=b.dst/\a.so=b.so/\a.ta=b.ta/\a.sq=b.sq/\a.hp=b.hp/\a.ur=b.ur/\a.da=b.da)
  ⟨fun h=>by obtain ⟨h1,h2,h3,h4,h5,h6,h7,h8,h9⟩:=h;cases a;cases b;simp_all,fun h=>by subst h;simp⟩
structure Ro where
 dest:Int
 sq:Int
 cost:Int
 nx:Int
deriving DecidableEq
structure Li where
 nd:Int
 bi:Int
 ct:Int
deriving DecidableEq
structure Sn where
 f:Fr
 tr:Int
 wt:Int
deriving DecidableEq
structure Ma where
 f:Fr
 si:Int
deriving DecidableEq
structure Pr where
 so:Int
 sq:Int
deriving DecidableEq
structure De where
 so:Int
 te:By
deriving DecidableEq
structure Pt where
 so:Int
 id:Int
 ct:Int
 si:Int
 hv:List Bool
 da:List By
deriving DecidableEq
structure Nd where
 addr:Int
 poll:Int
 parent:Int
 table:List Ro
 links:List Li
 out:List Sn
 children:List Int
 boxes:List Ma
 seen:List Pr
 parts:List Pt
 inbox:List De
 seq:Int
 lost:Int
deriving DecidableEq
def nd0:Nd:=⟨0,0,0,[],[],[],[],[],[],[],[],0,0⟩
abbrev jw:Int:=1099511627776
def jf (f:Nat->Int):Nat->Int
 |0=>0
 |n+1=>if jf f n≠0 then jf f n else f n
def clamp (n lo hi:Int):Int:=max lo (min n hi)
def tick (n:Int):Int:=clamp n 0 jw
def lastIdx {α:Type} (p:α->Bool):List α->Option Nat
 |[]=>none
 |a::l=>match lastIdx p l with
  |some i=>some (i+1)
  |none=>if p a then some 0 else none
def ins {α:Type} (p:α->Bool) (l:List α) (x:α):List α:=l.takeWhile p++x::l.dropWhile p
def okT (n:Int):Bool:=okN n||(n==255)
def Kr (f:Fr):Bool:=!okN f.fr||!okN f.so||!okT f.dst||!okT f.ta||decide (f.sq<0)||decide (f.sq>65535)||decide (f.hp<0)||decide (f.hp>15)
def jAQ (f:Fr):Bool:=!(f.fr==f.dst)&&(!((f.kd==1)||(f.kd==4))||((f.dst==255)&&(f.ta==255)))&&(!(f.kd==3)||(decide (f.da=[])&&!(f.dst==255)))
def Kv (f:Fr):Int:=
 if f.kd<1\/f.kd>4 then 7 else if Kr f=true then 2 else if f.da.length>109 then 3 else if jAQ f=false then 4 else 0
def zD (x:Li):Bool:=decide (x.nd<0)||decide (x.nd>250)||decide (x.ct<0)||decide (x.ct>16)||decide (x.bi<0)||decide (x.bi>=2 ^ x.ct.toNat)
def jH8 (l:List Li) (i:Nat):Int:=match l[i]? with
 |none=>0
 |some x=>if zD x=true then 2 else if 0<i/\(match l[i-1]? with|some y=>decide (x.nd<=y.nd)|none=>false)=true then 14 else 0
def jAs (l:List Li):Int:=if l.length>24 then 3 else jf (jH8 l) l.length
def lval (l:List Li):List Li:=if jAs l=0 then l else []
def zT (l:List Li) (n:Int):Nat:=(l.takeWhile fun x=>decide (x.nd<n)).length
def lat (l:List Li) (n:Int):Option Li:=l.find? fun x=>x.nd==n
def jNJ (x:Li) (ok:Bool):Li:=⟨x.nd,(2*x.bi+(if ok then 1 else 0))%65536,min (x.ct+1) 16⟩
def JD (l:List Li) (n:Int) (ok:Bool):List Li:=
 if n<0\/n>250 then lval l else
 match lat (lval l) n with
 |some x=>(lval l).set (zT (lval l) n) (jNJ x ok)
 |none=>if (lval l).length=24 then lval l else (lval l).take (zT (lval l) n)++jNJ ⟨n,0,0⟩ ok::(lval l).drop (zT (lval l) n)
def JE (l:List Li) (n:Int):List Li:=(lval l).filter fun x=>!(x.nd==n)
def pop:Nat->Nat->Int
 |0,_=>0
 |k+1,b=>if b=0 then 0 else ((b%2:Nat):Int)+pop k (b / 2)
def ones (b:Int):Int:=pop 64 b.toNat
def cdiv (a b:Int):Int:=-((-a) / b)
def kM (l:List Li) (n:Int):Int:=match lat (lval l) n with
 |some x=>if ones x.bi=0 then 255 else cdiv (10*x.ct) (ones x.bi)
 |none=>255
def fin (r:Ro):Bool:=decide (r.cost>=0)&&decide (r.cost<=200)
def usable (r:Ro):Bool:=okN r.dest&&!(decide (r.sq<0)||decide (r.sq>65535))&&((fin r&&(r.sq%2==0))||(r.cost==255))
def Jy (r:Ro):Bool:=!usable r||(fin r&&!okN r.nx)||(!fin r&&!(r.nx==255))
def jCN (l:List Ro) (i:Nat):Int:=match l[i]? with
 |none=>0
 |some x=>if Jy x=true then 2 else if 0<i/\(match l[i-1]? with|some y=>decide (x.dest<=y.dest)|none=>false)=true then 14 else 0
def lim (n:Int):Int:=clamp n 0 250
def Ze (self:Int) (r:Ro):Bool:=if r.dest=self then !((r.cost==0)&&(r.nx==self))else (r.cost==0)||(r.nx==self)
def jHg (self:Int):Ro:=⟨self,0,0,self⟩
def jDv (self:Int):List Ro:=[jHg (lim self)]
def KR (t:List Ro) (self:Int):Int:=
 if t.length>24 then 3 else if okN self=false then 2 else if jf (jCN t) t.length≠0 then jf (jCN t) t.length
 else if (t.any fun r=>r.dest==self)=false then 8 else if t.any (Ze self)=true then 4 else 0
def ZR (t:List Ro) (self:Int):List Ro:=if KR t (lim self)=0 then t else jDv self
def better (a b:Ro):Bool:=decide (a.sq>b.sq)||((a.sq==b.sq)&&decide (a.cost<b.cost))
def rat (t:List Ro) (d:Int):Option Ro:=t.find? fun x=>x.dest==d
def rpos (t:List Ro) (d:Int):Nat:=(t.takeWhile fun x=>decide (x.dest<d)).length
def jB6 (t:List Ro) (self:Int):List Ro:=match rat (ZR t self) (lim self)with
 |some r=>if r.sq<65534 then (ZR t self).set (rpos (ZR t self) (lim self)) ⟨r.dest,r.sq+2,r.cost,r.nx⟩else ZR t self
 |none=>ZR t self
def jBL (fr cost:Int) (a:Ro):Ro:=if fin a=true/\a.cost+cost<=200 then ⟨a.dest,a.sq,a.cost+cost,fr⟩else ⟨a.dest,a.sq,255,255⟩
def jr (t:List Ro) (fr:Int) (r:Ro):List Ro:=match rat t r.dest with
 |some o=>if (if fin r then better r o else (o.nx==fr)&&decide (o.sq<r.sq))then t.set (rpos t r.dest) r else t
 |none=>if fin r=true/\t.length<24 then t.take (rpos t r.dest)++r::t.drop (rpos t r.dest)else t
def J2 (self fr cost:Int) (t:List Ro) (a:Ro):List Ro:=if usable a=false\/a.dest=lim self then t else jr t fr (jBL fr cost a)
def jBR (t:List Ro) (self fr cost:Int) (adv:List Ro):List Ro:=
 if okN fr=false\/fr=lim self\/cost<1\/cost>200 then ZR t self else adv.foldl (J2 self fr cost) (ZR t self)
def jMY (t:List Ro) (self next:Int):List Ro:=
 (ZR t self).map fun r=>if okN next=true/\r.nx=next/\r.dest≠lim self then ⟨r.dest,r.sq+1,255,255⟩else r
def zy (t:List Ro) (d:Int):Int×Bool:=match rat t d with
 |some r=>if fin r then (r.nx,true)else (0,false)
 |none=>(0,false)
def u8 (n:Int):UInt8:=UInt8.ofNat (n%256).toNat
def jFy (r:Ro):By:=[u8 r.dest,u8 (r.sq / 256),u8 r.sq,u8 r.cost]
def jD0 (t:List Ro):By:=(((t.filter usable).take 24).map jFy).flatten
def jB5 (s:By):Ro:=⟨((s.getD 0 0).toNat:Int),(((s.getD 1 0).toNat*256+(s.getD 2 0).toNat:Nat):Int),((s.getD 3 0).toNat:Int),255⟩
def JZ (s:By):Nat->List Ro
 |0=>[]
 |n+1=>JZ s n++[jB5 (s.drop (4*n))]
def jEd (l:List Ro) (i:Nat):Int:=match l[i]? with
 |none=>0
 |some x=>if usable x=false then 2 else if 0<i/\(match l[i-1]? with|some y=>decide (x.dest<=y.dest)|none=>false)=true then 14 else 0
def jAp (s:By):List Ro×Int:=
 if s.length%4≠0 then ([],5)else if s.length>96 then ([],3)
 else if jf (jEd (JZ s (s.length / 4))) (s.length / 4)≠0 then ([],jf (jEd (JZ s (s.length / 4))) (s.length / 4))else (JZ s (s.length / 4),0)
def jHJ {α:Type} (dr ur:α->Bool) (q:List α) (x:α):List α×Bool:=
 if ur x=false then (if (q.take 16).length=16 then (q.take 16,false)else (q.take 16++[x],true))
 else if (q.take 16).length=16 then (match lastIdx dr (q.take 16)with
  |none=>(q.take 16,false)
  |some i=>(ins ur ((q.take 16).eraseIdx i) x,true))
 else (ins ur (q.take 16) x,true)
def sur (s:Sn):Bool:=s.f.ur
def sdr (s:Sn):Bool:=!s.f.ur&&decide (s.tr<=0)
def jDf (q:List Sn) (f:Fr):List Sn×Bool:=jHJ sdr sur q ⟨f,0,0⟩
def jm (s:Sn):Int:=min (max s.tr 0) 7+1
def ZU (q:List Sn) (i:Nat) (ok:Bool):List Sn×Bool:=match (q.take 16)[i]? with
 |none=>(q.take 16,false)
 |some s=>if ok then ((q.take 16).eraseIdx i,false)else if jm s=8 then ((q.take 16).eraseIdx i,true)
  else ((q.take 16).set i ⟨s.f,jm s,if s.f.ur then 0 else min (jm s) 4⟩,false)
def zS (s:Sn):Sn:=if s.wt>0 then ⟨s.f,s.tr,s.wt-1⟩else s
def ZL (q:List Sn):List Sn:=(q.take 16).map zS
def last {α:Type} (n:Nat) (l:List α):List α:=l.drop (l.length-n)
def ZA (l:List Pr) (p:Pr):List Pr×Bool:=if p∈last 32 l then (last 32 l,false)else (last 32 (last 32 l++[p]),true)
def bur (s:Ma):Bool:=s.f.ur
def bdr (s:Ma):Bool:=!s.f.ur
def jB1 (q:List Ma) (f:Fr) (now:Int):List Ma×Bool:=jHJ bdr bur q ⟨f,tick now⟩
def bold (now life:Int) (m:Ma):Bool:=decide (tick now-tick m.si>tick life)
def jAn (l:List Ma) (now life:Int):List Ma:=(l.take 16).filter fun m=>!bold now life m
def J8 (to now life:Int) (s:Fr×List Ma×Bool) (m:Ma):Fr×List Ma×Bool:=
 if bold now life m then s else if !s.2.2&&(m.f.dst==to)then (m.f,s.2.1,true)else (s.1,s.2.1++[m],s.2.2)
def Js (l:List Ma) (to now life:Int):Fr×List Ma×Bool:=(l.take 16).foldl (J8 to now life) (fr0,[],false)
def fits (i c n:Int):Bool:=if i≠c-1 then n==64 else if c=1 then decide (n<=64)else if c=16 then decide (n>=1)&&decide (n<=40)else decide (n>=1)&&decide (n<=64)
def b8 (s:By) (i:Nat):Int:=((s.getD i 0).toNat:Int)
def jDa (s:By):Int:=if s.length<3 then 5 else if b8 s 2<1\/b8 s 2>16\/b8 s 1>=b8 s 2\/fits (b8 s 1) (b8 s 2) ((s.length:Int)-3)=false then 4 else 0
def jE4 (p:Pt) (i:Nat):Bool:=if p.hv.getD i false then fits i p.ct ((p.da.getD i []).length:Int)else decide (p.da.getD i []=[])
def jE6 (p:Pt):Bool:=decide (p.id<0)||decide (p.id>255)||decide (p.ct<2)||decide (p.ct>16)||decide (p.si<0)||decide (p.si>jw)||!((p.hv.length:Int)==p.ct)||!((p.da.length:Int)==p.ct)
def jJr (l:List Bool):Nat:=l.countP id
def JU (p:Pt):Bool:=!jE6 p&&(List.range p.hv.length).all (jE4 p)&&decide (0<jJr p.hv)&&decide ((jJr p.hv:Int)<p.ct)
def pis (s i:Int) (p:Pt):Bool:=(p.so==s)&&(p.id==i)
def Z0 (l:List Pt) (s i:Int):Option Nat:=l.findIdx? (pis s i)
def ZE (out:List Pt) (p:Pt):List Pt:=if JU p&&(Z0 out p.so p.id).isNone then out++[p]else out
def Ja (l:List Pt):List Pt:=last 8 (l.foldl ZE [])
def jAr (l:List Pt) (now life:Int):List Pt:=(Ja l).filter fun p=>decide (tick now-p.si<=tick life)
def jq (s id c now:Int):Pt:=⟨s,id,c,tick now,List.replicate c.toNat false,List.replicate c.toNat []⟩
def kZ (p:Pt) (i:Nat) (d:By):Pt:=if p.hv.getD i false then p else ⟨p.so,p.id,p.ct,p.si,p.hv.set i true,p.da.set i d⟩
def pz:Pt:=⟨0,0,0,0,[],[]⟩
def JX (l:List Pt) (s id c:Int):List Pt×Option Nat:=match Z0 l s id with
 |some a=>if (l.getD a pz).ct=c then (l,some a)else (l.eraseIdx a,none)
 |none=>(l,none)
def Zj (l:List Pt):List Pt:=if l.length=8 then l.eraseIdx 0 else l
def jED (o:List Pt×Option Nat) (s id c now:Int):List Pt×Nat:=match o.2 with
 |some a=>(o.1,a)
 |none=>(Zj o.1++[jq s id c now],(Zj o.1).length)
structure PA where
 l:List Pt
 t:By
 ok:Bool
 e:Int
def jPh (o:List Pt×Nat) (i:Nat) (d:By):PA:=
 if (kZ (o.1.getD o.2 pz) i d).hv.all id then ⟨o.1.eraseIdx o.2,(kZ (o.1.getD o.2 pz) i d).da.flatten,true,0⟩else ⟨o.1.set o.2 (kZ (o.1.getD o.2 pz) i d),[],false,0⟩
def jDb (l:List Pt) (s now:Int) (x:By):PA:=
 if jDa x≠0 then ⟨[],[],false,jDa x⟩
 else if b8 x 2=1 then ⟨(JX (Ja l) s (b8 x 0) 1).1,x.drop 3,true,0⟩
 else jPh (jED (JX (Ja l) s (b8 x 0) (b8 x 2)) s (b8 x 0) (b8 x 2) now) (b8 x 1).toNat (x.drop 3)
def child (l:List Int) (c:Int):List Int:=if c∈l then l else l.takeWhile (fun x=>decide (x<c))++c::l.dropWhile (fun x=>decide (x<c))
def kids (addr:Int) (l:List Int):List Int:=(l.filter fun c=>okN c&&!(c==addr)).foldl child []
def order (n:Nd):Nd:=
 {addr:=clamp n.addr 0 250,poll:=if n.poll<1 then 0 else max n.poll 4,
  parent:=if okN n.parent=false\/n.parent=clamp n.addr 0 250 then 255 else n.parent,
  table:=if KR n.table (clamp n.addr 0 250)=0 then n.table else [jHg (clamp n.addr 0 250)],
  links:=lval n.links,out:=n.out.take 16,children:=kids (clamp n.addr 0 250) n.children,boxes:=n.boxes.take 16,seen:=last 32 n.seen,
  parts:=n.parts,inbox:=n.inbox.take 256,seq:=if n.seq<0\/n.seq>65535 then 0 else n.seq,lost:=clamp n.lost 0 jw }
def lose (n:Nd):Nd:={ n with lost:=min (n.lost+1) jw }
def queue (n:Nd) (f:Fr):Nd×Bool:=
 let r:=jDf n.out f
 (if r.2=false\/r.1.length=n.out.length then lose { n with out:=r.1 } else { n with out:=r.1 },r.2)
def box (n:Nd) (f:Fr) (now:Int):Nd:=
 let r:=jB1 n.boxes f now
 if r.2=false\/r.1.length=n.boxes.length then lose { n with boxes:=r.1 } else { n with boxes:=r.1 }
def deliver (n:Nd) (d:De):Nd:=if n.inbox.length>=256 then lose n else { n with inbox:=n.inbox++[d] }
def new (addr poll:Int):Nd:=order ⟨addr,poll,255,[],[],[],[],[],[],[],[],0,0⟩
def awake (n:Nd) (now:Int):Bool:=((order n).poll==0)||((order n).parent==255)||decide (0<(order n).parts.length)||decide (tick now%(order n).poll<3)
def number (n:Nd):Int:=match rat n.table n.addr with
 |some r=>r.sq
 |none=>0
def waits (n:Nd) (k:Int):Bool:=n.out.any fun x=>x.f.kd==k
def stale (x:Sn):Bool:=(x.f.kd==2)&&!(x.f.dst==255)&&decide (x.tr>0)
def asleep (n:Nd) (now:Int):Nd:=((n.out.filter stale).map (·.f)).foldl (fun n f=>box n f now) { n with out:=n.out.filter fun x=>!stale x }
def ZG (n:Nd):Fr:=⟨1,n.addr,255,n.addr,255,number n,0,false,jD0 n.table⟩
def jB7 (n:Nd):Fr:=⟨3,n.addr,n.parent,n.addr,n.parent,number n,0,true,[]⟩
def bumped (n:Nd):Nd:={ n with table:=jB6 n.table n.addr }
def zP (n:Nd):Nd:=if waits n 1=false/\n.out.length<16 then (queue (bumped n) (ZG (bumped n))).1 else bumped n
def poll (n:Nd):Nd:=if waits n 3=false then (queue (bumped n) (jB7 (bumped n))).1 else bumped n
def Zb (n:Nd) (now:Int):Nd:=
 let s:=order n
 let a:=asleep { s with out:=ZL s.out,boxes:=jAn s.boxes (tick now) 120,parts:=jAr s.parts (tick now) 120 } (tick now)
 let b:=if a.poll=0/\tick now%8=a.addr%8 then zP a else a
 if b.poll>0/\b.parent≠255/\tick now%b.poll=0 then poll b else b
def hop (n:Nd) (ta:Int):Int×Bool:=if n.poll>0 then (n.parent,!(n.parent==255))else zy n.table ta
def Ji (n:Nd) (c:Int):Bool:=decide (c∈n.children)&&(zy n.table c).2&&((zy n.table c).1==c)
def J7 (now:Int):Nat->Nd->Nat->Nd×Fr×Bool
 |0,n,_=>(n,fr0,false)
 |k+1,n,i=>match n.out[i]? with
  |none=>(n,fr0,false)
  |some x=>
   if x.wt>0 then J7 now k n (i+1)
   else if x.f.kd≠2\/x.f.dst≠255 then (n,x.f,true)
   else if n.poll=0/\Ji n x.f.ta=true then J7 now k (box { n with out:=n.out.eraseIdx i } { x.f with dst:=x.f.ta } now) i
   else if (hop n x.f.ta).2 then (n,{ x.f with dst:=(hop n x.f.ta).1 },true)
   else if (ZU n.out i false).2 then J7 now k (lose { n with out:=(ZU n.out i false).1 }) i
   else J7 now k { n with out:=(ZU n.out i false).1 } (i+1)
def talk (n:Nd) (now:Int):Nd×Fr×Bool:=J7 (tick now) 17 (order n) 0
def giveUp (n:Nd) (to:Int):Nd:=
 if okN to=false then lose n
 else { lose n with table:=jMY n.table n.addr to,links:=JE n.links to,children:=n.children.filter fun c=>!(c==to),parent:=if n.parent=to then 255 else n.parent }
def hits (f:Fr) (x:Sn):Bool:=(x.f.kd==f.kd)&&(x.f.so==f.so)&&(x.f.sq==f.sq)
def result (n:Nd) (f:Fr) (ok:Bool):Nd:=
 let s:=order n
 match s.out.findIdx? (hits f)with
 |none=>s
 |some i=>
  let a:={ s with out:=(ZU s.out i ok).1 }
  let b:=if okN f.dst then { a with links:=JD a.links f.dst ok } else a
  if (ZU s.out i ok).2 then giveUp b f.dst else b
def jT (n:Nd) (f:Fr):Nd:=
 let a:={ n with links:=JD n.links f.fr true }
 if (jAp f.da).2≠0 then a
 else
  let b:={ a with table:=jBR a.table a.addr f.fr (kM a.links f.fr) (jAp f.da).1 }
  if b.poll>0/\b.parent=255/\(zy (jAp f.da).1 0).2=true then { b with parent:=f.fr } else b
def drain (fr now:Int):Nat->Nd->Nd
 |0,n=>n
 |k+1,n=>
  let r:=Js n.boxes fr now 120
  if r.2.2 then drain fr now k (queue { n with boxes:=r.2.1 } { r.1 with fr:=n.addr }).1 else { n with boxes:=r.2.1 }
def polled (n:Nd) (f:Fr) (now:Int):Nd:=
 drain f.fr now 17 { n with children:=child n.children f.fr,table:=jBR n.table n.addr f.fr 10 [⟨f.fr,f.sq,0,0⟩] }
def received (n:Nd) (f:Fr) (now:Int):Nd:=
 let r:=ZA n.seen ⟨f.so,f.sq⟩
 let a:={ n with seen:=r.1 }
 if r.2=false then a
 else if f.ta=a.addr then
  let p:=jDb a.parts f.so now f.da
  if p.e≠0 then a else if p.ok then deliver { a with parts:=p.l } ⟨f.so,p.t⟩else { a with parts:=p.l }
 else if a.poll>0\/f.hp=15 then lose a
 else (queue a { f with fr:=a.addr,dst:=255,hp:=f.hp+1 }).1
def hear (n:Nd) (now:Int) (f:Fr):Nd:=
 let s:=order n
 if Kv f≠0\/f.fr=s.addr\/(f.dst≠s.addr/\f.dst≠255)then s
 else if f.kd=1 then jT s f
 else if f.kd=3/\f.dst=s.addr/\s.poll=0 then polled s f (tick now)
 else if f.kd=2/\f.dst=s.addr then received s f (tick now)
 else s
theorem Jo {f:Nat->Int} {k:Nat} (h:jf f k=0) (h2:f k=0):jf f (k+1)=0:=by simp[jf,h,h2]
theorem jDE {f : Nat -> Int} {k : Nat} (h : jf f k ≠ 0) : ∀ {n : Nat}, k <= n -> jf f n = jf f k
  | 0, hn => by obtain rfl : k = 0 := by omega
                rfl
  | n + 1, hn => by
    by_cases hk : k = n + 1
    · rw [hk]
    · have := jDE h (n := n) (by omega)
      show (if jf f n ≠ 0 then jf f n else f n) = _;rw [this, if_pos h]
theorem Ku {f:Nat->Int} {k n:Nat} (h:jf f k=0) (h2:f k≠0) (hk:k<n):jf f n=f k:=by
 have h3:jf f (k+1)=f k:=by simp[jf,h]
 rw[jDE (k:=k+1) (by rw[h3];exact h2) hk,h3]
theorem zX {f:Nat->Int}:∀ {n:Nat},jf f n=0->∀k,k<n->f k=0
 |0,_,k,hk=>by omega
 |n+1,h,k,hk=>by
  unfold jf at h
  split at h
  ·rename_i h2;exact absurd h h2
  ·rename_i h2
   by_cases e:k=n
   ·rw [e];exact h
   ·exact zX (n:=n) (by simpa using h2) k (by omega)
theorem jAf {f:Nat->Int}:∀ {n:Nat},(∀ k,k<n->f k=0)->jf f n=0
 |0,_=>rfl
 |n+1,h=>Jo (jAf fun k hk=>h k (by omega)) (h n (by omega))
section
variable {α : Type} {key : α -> Int}
def Asc (key:α->Int) (l:List α):Prop:=l.Pairwise fun a b=>key a<key b
theorem Asc.nil:Asc key []:=List.Pairwise.nil
theorem jHE {l:List α} (h:∀i a b,l[i]? =some a->l[i+1]? =some b->key a<key b):Asc key l:=by
 induction l with
 |nil=>exact Asc.nil
 |cons x l ih=>
  have ih':=ih fun i a b ha hb=>h (i+1) a b (by simpa using ha) (by simpa using hb)
  refine List.Pairwise.cons ?_ ih';cases l with
  |nil=>intro b hb;cases hb
  |cons y l=>
   have hxy:key x<key y:=h 0 x y I I;intro b hb;rcases List.mem_cons.1 hb with rfl|hb
   ·exact hxy
   ·have:=(List.pairwise_cons.1 ih').1 b hb;exact Int.lt_trans hxy this
theorem Asc.lt {l:List α} (h:Asc key l) {i j:Nat} {a b:α} (hij:i<j) (ha:l[i]? =some a) (hb:l[j]? =some b):key a<key b:=by
 obtain ⟨hi,rfl⟩:=List.getElem?_eq_some_iff.1 ha;obtain ⟨hj,rfl⟩:=List.getElem?_eq_some_iff.1 hb;exact List.pairwise_iff_getElem.1 h i j hi hj hij
structure Split (key:α->Int) (l:List α) (n:Int) (A C:List α):Prop where
 eq:l=A++C
 lo:∀a∈A,key a<n
 tw:l.takeWhile (fun x=>decide (key x<n))=A
 dw:l.dropWhile (fun x=>decide (key x<n))=C
 hi:(l.find? (fun x=>key x==n)=none/\∀c∈C,n<key c)\/∃x D,C=x::D/\key x=n/\l.find? (fun x=>key x==n)=some x/\∀c∈D,n<key c
theorem jCa {p:α->Bool}:∀ {A C:List α},(∀ a∈A,p a=true)->(∀ c,C.head? =some c->p c=false)->(A++C).takeWhile p=A/\(A++C).dropWhile p=C
 |[],[],_,_=>⟨rfl,rfl⟩
 |[],c::C,_,h=>by simp[List.takeWhile_cons,List.dropWhile_cons,h c rfl]
 |a::A,C,h,h2=>by
  have ih:=jCa (A:=A) (C:=C) (fun x hx=>h x (List.mem_cons_of_mem _ hx)) h2
  simp[List.takeWhile_cons,List.dropWhile_cons,h a (List.mem_cons_self ..),ih.1,ih.2]
theorem Asc.split {l:List α} (h:Asc key l) (n:Int):∃A C,Split key l n A C:=by
 induction l with
 |nil=>exact ⟨[],[],⟨rfl,(fun a ha=>by cases ha),rfl,rfl,.inl ⟨rfl,fun c hc=>by cases hc⟩⟩⟩
 |cons x l ih=>
  obtain ⟨h1,h2⟩:=List.pairwise_cons.1 h
  by_cases hx:key x<n
  ·obtain ⟨A,C,s⟩:=ih h2;refine ⟨x::A,C,⟨by rw[s.eq];rfl,?_,?_,?_,?_⟩⟩
   ·intro a ha;rcases List.mem_cons.1 ha with rfl|ha
    ·exact hx
    ·exact s.lo a ha
   ·simp [List.takeWhile_cons,hx,s.tw]
   ·simp [List.dropWhile_cons,hx,s.dw]
   ·have hne:(key x==n)=false:=by simp;omega
    rw[List.find?_cons_of_neg (by simp[hne])];exact s.hi
  ·refine ⟨[],x::l,⟨rfl,(fun a ha=>by cases ha),by simp[List.takeWhile_cons,hx],by simp[List.dropWhile_cons,hx],?_⟩⟩
   by_cases he:key x=n
   ·refine .inr ⟨x,l,rfl,he,by rw[List.find?_cons_of_pos (by simp[he])],fun c hc=>by have:=h1 c hc;omega⟩
   ·refine .inl ⟨?_,fun c hc=>?_⟩
    ·rw [List.find?_eq_none];intro c hc;rcases List.mem_cons.1 hc with rfl|hc
     ·simpa using he
     ·have:=h1 c hc
      simp;omega
    ·rcases List.mem_cons.1 hc with rfl|hc
     ·omega
     ·have:=h1 c hc;omega
theorem jLv {l:List α} {n:Int} {i:Nat} (hi:i<=l.length) (h1:∀k a,k<i->l[k]? =some a->key a<n) (h2:∀a,l[i]? =some a->n<=key a):(l.takeWhile (fun x=>decide (key x<n))).length=i:=by
 have e:l=l.take i++l.drop i:=(List.take_append_drop i l).symm;have:=jCa (p:=fun x=>decide (key x<n)) (A:=l.take i) (C:=l.drop i) (fun a ha=>by
  obtain ⟨k,hk⟩:=List.getElem?_of_mem ha;rw[List.getElem?_take]at hk
  split at hk
  ·exact decide_eq_true (h1 k a (by assumption) hk)
  ·cases hk) (fun c hc=>by
  rw[List.head?_drop]at hc;exact decide_eq_false (by have:=h2 c hc;omega))
 rw[<- e]at this;rw[this.1];simp;omega
theorem set_mid {A C:List α} {x y:α} {i:Nat} (h:A.length=i):(A++x::C).set i y=A++y::C:=by
 subst h;simp
theorem jFN {A C:List α} {x:α} {i:Nat} (h:A.length=i):(A++x::C)[i]? =some x:=by
 subst h;simp
theorem Asc.ins {A C:List α} {n:Int} (h:Asc key (A++C)) (hA:∀a∈A,key a<n) (hC:∀c∈C,n<key c) {x:α} (hx:key x=n):Asc key (A++x::C):=by
 obtain ⟨h1,h2,h3⟩:=List.pairwise_append.1 h;refine List.pairwise_append.2 ⟨h1,List.Pairwise.cons (fun c hc=>by rw[hx];exact hC c hc) h2,fun a ha b hb=>?_⟩;rcases List.mem_cons.1 hb with rfl|hb
 ·rw [hx];exact hA a ha
 ·exact h3 a ha b hb
theorem yw {l:List α} (f:α->α) (hf:∀a,key (f a)=key a) (h:Asc key l):Asc key (l.map f):=by
 unfold Asc;rw[List.pairwise_map];exact h.imp fun {a b} hab=>by rw[hf,hf];exact hab
theorem Asc.filter {l:List α} (p:α->Bool) (h:Asc key l):Asc key (l.filter p):=List.Pairwise.filter p h
end
theorem jGg {l:List Li} {i:Nat} {x:Li} (hx:l[i]? =some x) (h:jH8 l i=0):zD x=false/\∀y,0<i->l[i-1]? =some y->y.nd<x.nd:=by
 unfold jH8 at h;rw[hx]at h;simp only at h
 by_cases h1:zD x=true
 ·rw [if_pos h1]at h;exact absurd h (by decide)
 ·rw [if_neg h1]at h;refine ⟨by simpa using h1,fun y hi hy=>?_⟩;rw[hy]at h
  by_cases h3:x.nd<=y.nd
  ·rw [if_pos ⟨hi,decide_eq_true h3⟩]at h;exact absurd h (by decide)
  ·exact Int.not_le.1 h3
theorem KC {l:List Li} (h:jAs l=0):l.length<=24/\(∀ x∈l,zD x=false)/\Asc (·.nd) l:=by
 unfold jAs at h
 split at h
 ·cases h
 ·rename_i h1
  have h2:=zX h;refine ⟨by omega,fun x hx=>?_,jHE fun i a b ha hb=>?_⟩
  ·obtain ⟨i,hi⟩:=List.getElem?_of_mem hx;exact (jGg hi (h2 i (List.getElem?_eq_some_iff.1 hi).1)).1
  ·exact (jGg hb (h2 (i+1) (List.getElem?_eq_some_iff.1 hb).1)).2 a (by omega) (by simpa using ha)
theorem jH7 {l:List Li} (h1:l.length<=24) (h2:∀x∈l,zD x=false) (h3:Asc (·.nd) l):jAs l=0:=by
 unfold jAs;rw[if_neg (by omega)];refine jAf fun k hk=>?_
 obtain ⟨x,hx⟩:=jG hk;unfold jH8;rw[hx];simp only;rw[if_neg (by rw[h2 x (List.mem_of_getElem? hx)];decide),if_neg]
 rintro ⟨hk0,hh⟩
 obtain ⟨y,hy⟩:=jG (l:=l) (j:=k-1) (by omega);rw[hy]at hh;have:=h3.lt (i:=k-1) (j:=k) (by omega) hy hx;have hh:=of_decide_eq_true hh;omega
theorem ku (l:List Li):jAs (lval l)=0:=by
 unfold lval
 split
 ·assumption
 ·rfl
theorem jJ5 (l:List Li):lval (lval l)=lval l:=by
 rw[lval,if_pos (ku l)]
theorem Zw (l:List Li):(lval l).length<=24:=(KC (ku l)).1
theorem KA (l:List Li):Asc (·.nd) (lval l):=(KC (ku l)).2.2
theorem jAz {l:List Ro} {i:Nat} {x:Ro} (hx:l[i]? =some x) (h:jCN l i=0):Jy x=false/\∀y,0<i->l[i-1]? =some y->y.dest<x.dest:=by
 unfold jCN at h;rw[hx]at h;simp only at h
 by_cases h1:Jy x=true
 ·rw [if_pos h1]at h;exact absurd h (by decide)
 ·rw [if_neg h1]at h;refine ⟨by simpa using h1,fun y hi hy=>?_⟩;rw[hy]at h
  by_cases h3:x.dest<=y.dest
  ·rw [if_pos ⟨hi,decide_eq_true h3⟩]at h;exact absurd h (by decide)
  ·exact Int.not_le.1 h3
structure Tab (me:Int) (t:List Ro):Prop where
 len:t.length<=24
 ok:okN me=true
 rng:∀r∈t,Jy r=false
 asc:Asc (·.dest) t
 own:(t.any fun r=>r.dest==me)=true
 form:∀r∈t,Ze me r=false
theorem jJm {t:List Ro} {self:Int} (h:KR t self=0):Tab self t:=by
 unfold KR at h
 split at h
 ·cases h
 rename_i h1
 split at h
 ·cases h
 rename_i h2
 split at h
 ·rename_i h3;exact absurd h h3
 rename_i h3
 split at h
 ·cases h
 rename_i h4
 split at h
 ·cases h
 rename_i h5
 have h3:jf (jCN t) t.length=0:=by simpa using h3
 have h3':=zX h3;refine ⟨by omega,by simpa using h2,fun x hx=>?_,jHE fun i a b ha hb=>?_,by simpa using h4,fun r hr=>?_⟩
 ·obtain ⟨i,hi⟩:=List.getElem?_of_mem hx;exact (jAz hi (h3' i (List.getElem?_eq_some_iff.1 hi).1)).1
 ·exact (jAz hb (h3' (i+1) (List.getElem?_eq_some_iff.1 hb).1)).2 a (by omega) (by simpa using ha)
 ·rw [<- Bool.not_eq_true];intro h6;exact h5 (List.any_eq_true.2 ⟨r,hr,h6⟩)
theorem Tab.chk {t:List Ro} {self:Int} (h:Tab self t):KR t self=0:=by
 unfold KR;have h0:jf (jCN t) t.length=0:=by
  refine jAf fun k hk=>?_
  obtain ⟨x,hx⟩:=jG hk;unfold jCN;rw[hx];simp only;rw[if_neg (by rw[h.rng x (List.mem_of_getElem? hx)];decide),if_neg]
  rintro ⟨hk0,hh⟩
  obtain ⟨y,hy⟩:=jG (l:=t) (j:=k-1) (by omega);rw[hy]at hh;have:=h.asc.lt (i:=k-1) (j:=k) (by omega) hy hx;have hh:=of_decide_eq_true hh;omega
 rw[if_neg (by have:=h.len;omega),if_neg (by rw[h.ok];decide),if_neg (by simp[h0]),if_neg (by rw[h.own];decide),if_neg];intro h6;obtain ⟨r,hr,h7⟩:=List.any_eq_true.1 h6;rw[h.form r hr]at h7;cases h7
theorem jJ7 (n:Int):okN (lim n)=true:=by unfold okN lim clamp;simp;omega
theorem jEL {n:Int} (h:okN n=true):lim n=n:=by unfold okN at h;unfold lim clamp;simp at h;omega
theorem jJd {s:Int} (h:okN s=true):Tab s [jHg s]:=by
 have h':=h;simp only[okN,Bool.and_eq_true,decide_eq_true_eq]at h';refine ⟨by simp,h,fun r hr=>?_,?_,by simp[jHg],fun r hr=>?_⟩
 ·rw [List.mem_singleton]at hr;subst hr
  simp[Jy,usable,fin,jHg,h]
 ·simp [Asc]
 ·rw [List.mem_singleton]at hr;subst hr
  simp[Ze,jHg]
theorem ze (t:List Ro) (self:Int):Tab (lim self) (ZR t self):=by
 unfold ZR
 split
 ·rename_i h;exact jJm h
 ·exact jJd (jJ7 self)
theorem Tab.get {t:List Ro} {self:Int} (h:Tab self t):∃r,rat t self=some r/\r.dest=self/\r.cost=0/\r.nx=self:=by
 obtain ⟨r,hr,he⟩:=List.any_eq_true.1 h.own;obtain ⟨x,hx⟩:∃x,rat t self=some x:=by
  cases hf:rat t self with
  |some x=>exact ⟨x,rfl⟩
  |none=>exact absurd he (by simpa using List.find?_eq_none.1 hf r hr)
 have hxd:x.dest=self:=by simpa using List.find?_some hx
 have hform:=h.form x (List.mem_of_find?_eq_some hx);rw[Ze,if_pos hxd]at hform;simp only[Bool.not_eq_false',Bool.and_eq_true,beq_iff_eq]at hform;exact ⟨x,hx,hxd,hform.1,hform.2⟩
section
variable {α : Type}
theorem lastIdx_none {p:α->Bool}:∀ {l:List α},lastIdx p l=none->∀a∈l,p a=false
 |[],_,a,ha=>by cases ha
 |x::l,h,a,ha=>by
  unfold lastIdx at h
  split at h
  ·cases h
  ·rename_i h1
   split at h
   ·cases h
   ·rename_i h2
    rcases List.mem_cons.1 ha with rfl|ha
    ·simpa using h2
    ·exact lastIdx_none h1 a ha
theorem zG {p:α->Bool}:∀ {l:List α} {i:Nat},lastIdx p l=some i->∃a,l[i]? =some a/\p a=true/\∀j b,i<j->l[j]? =some b->p b=false
 |[],i,h=>by cases h
 |x::l,i,h=>by
  unfold lastIdx at h
  split at h
  ·rename_i k h1
   cases h;obtain ⟨a,ha,hp,hj⟩:=zG h1;refine ⟨a,by simpa using ha,hp,fun j b hij hb=>?_⟩;obtain ⟨j,rfl⟩:∃m,j=m+1:=⟨j-1,by omega⟩;exact hj j b (by omega) (by simpa using hb)
  ·rename_i h1
   split at h
   ·rename_i h2
    cases h;refine ⟨x,rfl,h2,fun j b hij hb=>?_⟩;obtain ⟨j,rfl⟩:∃m,j=m+1:=⟨j-1,by omega⟩;exact lastIdx_none h1 b (List.mem_of_getElem? (by simpa using hb))
   ·cases h
theorem jAC {p:α->Bool} {l:List α} {i:Nat} {a:α} (ha:l[i]? =some a) (hp:p a=true) (hj:∀j b,i<j->l[j]? =some b->p b=false):lastIdx p l=some i:=by
 cases h:lastIdx p l with
 |none=>rw[lastIdx_none h a (List.mem_of_getElem? ha)]at hp;cases hp
 |some k=>
  obtain ⟨b,hb,hpb,hk⟩:=zG h;rcases Nat.lt_trichotomy i k with hik|rfl|hik
  ·rw [hj k b hik hb]at hpb;cases hpb
  ·rfl
  ·rw [hk i a hik ha]at hp;cases hp
theorem Z4 {p:α->Bool} {l:List α} (h:∀a∈l,p a=false):lastIdx p l=none:=by
 cases h1:lastIdx p l with
 |none=>rfl
 |some k=>
  obtain ⟨b,hb,hpb,hk⟩:=zG h1;rw[h b (List.mem_of_getElem? hb)]at hpb;cases hpb
theorem jKP {p:α->Bool} {l:List α} {i:Nat} (hi:i<=l.length) (h1:∀k a,k<i->l[k]? =some a->p a=true) (h2:∀a,l[i]? =some a->p a=false):l.takeWhile p=l.take i/\l.dropWhile p=l.drop i:=by
 have e:l=l.take i++l.drop i:=(List.take_append_drop i l).symm;have:=jCa (p:=p) (A:=l.take i) (C:=l.drop i) (fun a ha=>by
  obtain ⟨k,hk⟩:=List.getElem?_of_mem ha;rw[List.getElem?_take]at hk
  split at hk
  ·exact h1 k a (by assumption) hk
  ·cases hk) (fun c hc=>by
  rw[List.head?_drop]at hc;exact h2 c hc)
 rwa[<- e]at this
theorem jGi {p:α->Bool} {l:List α} {i:Nat} {x:α} (hi:i<=l.length) (h1:∀k a,k<i->l[k]? =some a->p a=true) (h2:∀a,l[i]? =some a->p a=false):ins p l x=l.take i++x::l.drop i:=by
 obtain ⟨e1,e2⟩:=jKP hi h1 h2;rw[ins,e1,e2]
end
section
variable {α : Type} {key : α -> Int}
theorem Asc.pos {l:List α} (h:Asc key l) {n:Int} {x:α} (hf:l.find? (fun x=>key x==n)=some x):l[(l.takeWhile (fun x=>decide (key x<n))).length]? =some x/\key x=n/\(l.takeWhile (fun x=>decide (key x<n))).length<l.length:=by
 obtain ⟨A,C,s⟩:=h.split n;rcases s.hi with ⟨h1,_⟩|⟨y,D,rfl,hy,h2,_⟩
 ·rw [h1]at hf;cases hf
 ·rw [h2]at hf;cases hf;rw[s.tw];refine ⟨?_,hy,?_⟩
  ·rw [s.eq];exact jFN I
  ·rw [s.eq];simp
theorem yu {l:List α} (h:Asc key l) {n:Int} (hf:l.find? (fun x=>key x==n)=none):∀x,l[(l.takeWhile (fun x=>decide (key x<n))).length]? =some x->¬key x=n:=by
 intro x hx hk;have:=List.find?_eq_none.1 hf x (List.mem_of_getElem? hx)
 simp[hk]at this
theorem jSF (l:List α) (p:α->Bool):(l.takeWhile p).length<=l.length:=(List.takeWhile_prefix p).length_le
theorem ZV {p:α->Bool} {l:List α} {i:Nat} {x:α} (hx:l[i]? =some x) (hp:p x=true) (hno:∀j a,j<i->l[j]? =some a->p a=false):l.find? p=some x:=by
 refine jRt hx (fun a ha=>?_) hp;obtain ⟨j,hj⟩:=List.getElem?_of_mem ha;rw[List.getElem?_take]at hj
 split at hj
 ·exact hno j a (by assumption) hj
 ·cases hj
theorem Asc.jGF {l:List α} (h:Asc key l) {n:Int} {i:Nat} {x:α} (hx:l[i]? =some x) (hk:key x=n):(l.takeWhile (fun x=>decide (key x<n))).length=i/\l.find? (fun x=>key x==n)=some x:=by
 have hi:i<l.length:=(List.getElem?_eq_some_iff.1 hx).1;refine ⟨jLv (by omega) (fun k a hk' ha=>?_) (fun a ha=>by rw[hx]at ha;cases ha;omega),ZV hx (by simp[hk]) fun j a hj ha=>?_⟩
 ·have:=h.lt hk' ha hx;omega
 ·have:=h.lt hj ha hx
  simp;omega
end
theorem jH4 (l:List Li) (n:Int):zT l n<=l.length:=jSF _ _
theorem jML (l:List Ro) (n:Int):rpos l n<=l.length:=jSF _ _
theorem jJ6 {l:List Li} {n:Int} {ok:Bool} {x:Li} (hr:¬(n<0\/n>250)) (hx:(lval l)[zT (lval l) n]? =some x) (hn:x.nd=n):JD l n ok=(lval l).set (zT (lval l) n) (jNJ x ok):=by
 have:=((KA l).jGF hx hn).2;unfold JD lat;rw[if_neg hr,this]
theorem jNR {l:List Li} {n:Int} (h:∀x,(lval l)[zT (lval l) n]? =some x->¬x.nd=n):lat (lval l) n=none:=by
 cases hf:lat (lval l) n with
 |none=>rfl
 |some x=>exact absurd ((KA l).pos hf).2.1 (h x ((KA l).pos hf).1)
theorem jEK {l:List Li} {n:Int} {ok:Bool} (hr:¬(n<0\/n>250)) (h:lat (lval l) n=none) (h2:(lval l).length=24):JD l n ok=lval l:=by
 unfold JD;rw[if_neg hr,h];simp[h2]
theorem jGc {l:List Li} {n:Int} {ok:Bool} (hr:¬(n<0\/n>250)) (h:lat (lval l) n=none) (h2:¬(lval l).length=24):JD l n ok=(lval l).take (zT (lval l) n)++jNJ ⟨n,0,0⟩ ok::(lval l).drop (zT (lval l) n):=by
 unfold JD;rw[if_neg hr,h];simp[h2]
theorem jGb {l:List Li} {n:Int} {ok:Bool} (hr:n<0\/n>250):JD l n ok=lval l:=by unfold JD;rw[if_pos hr]
theorem jNK {l rest:List Li} {n:Int} {ok:Bool} {k:Nat} {x:Li} (hr:¬(n<0\/n>250)) (hrest:rest=JE l n) (hx:(lat (lval l) n).getD ⟨n,0,0⟩=x) (hf:¬(lat (lval l) n=none/\(lval l).length=24))
  (hk:k<=rest.length) (h1:∀j a,j<k->rest[j]? =some a->a.nd<n) (h2:∀a,rest[k]? =some a->n<=a.nd):JD l n ok=rest.take k++jNJ x ok::rest.drop k:=by
 obtain ⟨A,C,s⟩:=(KA l).split n;have hA:A.filter (fun x=>!(x.nd==n))=A:=List.filter_eq_self.2 fun a ha=>by have:=s.lo a ha;simp;omega
 have htw:=jKP (p:=fun x=>decide (x.nd<n)) hk (fun j a hj ha=>decide_eq_true (h1 j a hj ha)) (fun a ha=>decide_eq_false (by have:=h2 a ha;omega));have hl:zT (lval l) n=A.length:=by unfold zT;rw[s.tw]
 unfold JE at hrest;rw[s.eq,List.filter_append,hA]at hrest;rcases s.hi with ⟨h3,h4⟩|⟨y,D,rfl,hy,h3,h4⟩
 ·have hC:C.filter (fun x=>!(x.nd==n))=C:=List.filter_eq_self.2 fun a ha=>by have:=h4 a ha;simp;omega
  rw[hC]at hrest;have hs:=jCa (p:=fun x=>decide (x.nd<n)) (A:=A) (C:=C) (fun a ha=>decide_eq_true (s.lo a ha)) (fun c hc=>decide_eq_false (by have:=h4 c (List.mem_of_mem_head? hc);omega));rw[<- hrest,htw.1,htw.2]at hs;have hlat:lat (lval l) n=none:=h3;rw[hlat]at hx hf;rw[jGc hr hlat (fun h=>hf ⟨rfl,h⟩),hs.1,hs.2,hl,s.eq];subst hx
  simp
 ·have hC:(y::D).filter (fun x=>!(x.nd==n))=D:=by
   rw[List.filter_cons_of_neg (by simp[hy])];exact List.filter_eq_self.2 fun a ha=>by have:=h4 a ha;simp;omega
  rw[hC]at hrest;have hs:=jCa (p:=fun x=>decide (x.nd<n)) (A:=A) (C:=D) (fun a ha=>decide_eq_true (s.lo a ha)) (fun c hc=>decide_eq_false (by have:=h4 c (List.mem_of_mem_head? hc);omega));rw[<- hrest,htw.1,htw.2]at hs;have hlat:lat (lval l) n=some y:=h3;rw[hlat]at hx;simp only[Option.getD_some]at hx;subst hx;rw[jJ6 hr (x:=y) (by rw[hl,s.eq];exact jFN I) hy,hs.1,hs.2,hl,s.eq];exact set_mid I
theorem jLH {l:List Li} {n:Int} {x:Li} (hx:(lval l)[zT (lval l) n]? =some x) (hn:x.nd=n):JE l n=(lval l).eraseIdx (zT (lval l) n):=by
 obtain ⟨A,C,s⟩:=(KA l).split n;have hl:zT (lval l) n=A.length:=by unfold zT;rw[s.tw]
 have hA:A.filter (fun x=>!(x.nd==n))=A:=List.filter_eq_self.2 fun a ha=>by have:=s.lo a ha;simp;omega
 rcases s.hi with ⟨h3,h4⟩|⟨y,D,rfl,hy,h3,h4⟩
 ·have:=((KA l).jGF hx hn).2;rw[h3]at this;cases this
 ·have hC:(y::D).filter (fun x=>!(x.nd==n))=D:=by
   rw[List.filter_cons_of_neg (by simp[hy])];exact List.filter_eq_self.2 fun a ha=>by have:=h4 a ha;simp;omega
  unfold JE;rw[hl,s.eq,List.filter_append,hA,hC]
  simp[List.eraseIdx_append_of_length_le]
theorem jLG {l:List Li} {n:Int} (h:lat (lval l) n=none):JE l n=lval l:=
 List.filter_eq_self.2 fun a ha=>by
  have:=List.find?_eq_none.1 h a ha
  simpa using this
theorem kL {x:Li} (h:zD x=false):0<=x.nd/\x.nd<=250/\0<=x.ct/\x.ct<=16/\0<=x.bi/\x.bi<65536:=by
 simp only[zD,Bool.or_eq_false_iff,decide_eq_false_iff_not]at h;obtain ⟨⟨⟨⟨⟨h1,h2⟩,h3⟩,h4⟩,h5⟩,h6⟩:=h;refine ⟨by omega,by omega,by omega,by omega,by omega,?_⟩;have h7:(2:Int) ^ x.ct.toNat<=2 ^ 16:=by
  have:(2:Nat) ^ x.ct.toNat<=2 ^ 16:=Nat.pow_le_pow_right (by decide) (by omega)
  exact_mod_cast this
 have h8:(2:Int) ^ 16=65536:=by decide
 omega
theorem jPf {fr cost:Int} {a:Ro} (hc:1<=cost/\cost<=200) (ha:usable a=true):fin (jBL fr cost a)=(fin a&&decide (a.cost+cost<=200)):=by
 unfold jBL
 split
 ·rename_i h
  obtain ⟨h1,h2⟩:=h;have h1':=h1;simp only[fin,Bool.and_eq_true,decide_eq_true_eq]at h1';simp only[h1,fin,Bool.true_and];rw[Bool.eq_iff_iff];simp only[Bool.and_eq_true,decide_eq_true_eq];omega
 ·rename_i h
  have:(fin a&&decide (a.cost+cost<=200))=false:=by
   rw[<- Bool.not_eq_true];intro h2;simp only[Bool.and_eq_true,decide_eq_true_eq]at h2;exact h h2
  rw[this];simp[fin]
theorem jCo (fr cost:Int) (a:Ro):(jBL fr cost a).dest=a.dest:=by unfold jBL;split<;>rfl
theorem jDy {t:List Ro} {fr:Int} {r:Ro} (h:Asc (·.dest) t):Asc (·.dest) (jr t fr r):=by
 unfold jr
 split
 ·rename_i o ho
  have hm:Asc (·.dest) (t.set (rpos t r.dest) r):=by
   obtain ⟨A,C,s⟩:=h.split r.dest;rcases s.hi with ⟨h1,_⟩|⟨y,D,rfl,hy,h2,h3⟩
   ·exact absurd ho (by unfold rat;rw[h1];simp)
   ·have hl:rpos t r.dest=A.length:=by unfold rpos;rw[s.tw]
    rw[hl,s.eq,set_mid rfl];have h':=h;rw[s.eq]at h';obtain ⟨p1,p2,p3⟩:=List.pairwise_append.1 h';exact Asc.ins (n:=r.dest) (List.pairwise_append.2 ⟨p1,(List.pairwise_cons.1 p2).2,fun a ha b hb=>p3 a ha b (List.mem_cons_of_mem _ hb)⟩) s.lo h3 I
  cases (if fin r=true then better r o else (o.nx==fr)&&decide (o.sq<r.sq))<;>simp[h,hm]
 ·rename_i ho
  split
  ·obtain ⟨A,C,s⟩:=h.split r.dest;rcases s.hi with ⟨h1,h2⟩|⟨y,D,rfl,hy,h2,h3⟩
   ·have hl:rpos t r.dest=A.length:=by unfold rpos;rw[s.tw]
    have h':=h;rw[s.eq]at h';rw[hl,s.eq];simp only[List.take_left,List.drop_left];exact Asc.ins h' s.lo h2 I
   ·exact absurd ho (by unfold rat;rw[h2];simp)
  ·exact h
theorem jDx {t:List Ro} {fr:Int} {r:Ro} (h:t.length<=24):(jr t fr r).length<=24:=by
 unfold jr
 split
 ·cases (if fin r=true then better r _ else _)<;>simp<;>omega
 ·split
  ·have:=jML t r.dest;simp;omega
  ·exact h
theorem jMK {t:List Ro} {self fr cost:Int} {a:Ro} (h:Asc (·.dest) t):Asc (·.dest) (J2 self fr cost t a):=by
 unfold J2;split
 ·exact h
 ·exact jDy h
theorem jMJ {t:List Ro} {self fr cost:Int} {a:Ro} (h:t.length<=24):(J2 self fr cost t a).length<=24:=by
 unfold J2;split
 ·exact h
 ·exact jDx h
theorem jCb {self fr cost:Int}:∀ {adv t:List Ro},Asc (·.dest) t->t.length<=24->Asc (·.dest) (adv.foldl (J2 self fr cost) t)/\(adv.foldl (J2 self fr cost) t).length<=24
 |[],t,h,hl=>⟨h,hl⟩
 |a::adv,t,h,hl=>jCb (adv:=adv) (jMK h) (jMJ hl)
theorem Kt {α β:Type} (f:β->α->β) (b:β) {l:List α} {k:Nat} {x:α} (hx:l[k]? =some x):(l.take (k+1)).foldl f b=f ((l.take k).foldl f b) x:=by
 rw[jE hx,List.foldl_append];rfl
theorem jEz (t:List Ro):((t.map jFy).flatten).length=4*t.length:=by
 induction t with
 |nil=>rfl
 |cons x t ih=>simp only[List.map_cons,List.flatten_cons,List.length_append,ih,List.length_cons];simp[jFy];omega
theorem jFx (t:List Ro) (x:Ro):jD0 (t++[x])=if usable x=true/\(jD0 t).length<96 then jD0 t++jFy x else jD0 t:=by
 have h1:(jD0 t).length=4*min 24 (t.filter usable).length:=by unfold jD0;rw[jEz,List.length_take]
 unfold jD0 at h1 ⊢;rw[List.filter_append]
 by_cases hu:usable x=true
 ·rw [List.filter_cons_of_pos hu,List.filter_nil]
  split
  ·rename_i h2
   rw[List.take_of_length_le (by simp;omega),List.take_of_length_le (by omega)]
   simp
  ·rename_i h2
   have h3:24<=(t.filter usable).length:=by
    have:¬(4*min 24 (t.filter usable).length<96):=fun h=>h2 ⟨hu,by rw[h1];exact h⟩
    omega
   rw[List.take_append_of_le_length h3]
 ·rw [List.filter_cons_of_neg hu,List.filter_nil,List.append_nil,if_neg (fun h=>hu h.1)]
theorem Zf (s:By):∀n,(JZ s n).length=n
 |0=>rfl
 |n+1=>by simp[JZ,Zf s n]
theorem Zg (s:By):∀ {n k:Nat},k<n->(JZ s n)[k]? =some (jB5 (s.drop (4*k)))
 |0,k,h=>by omega
 |n+1,k,h=>by
  unfold JZ
  by_cases hk:k<n
  ·rw [List.getElem?_append_left (by rw[Zf];exact hk)];exact Zg s hk
  ·have:k=n:=by omega
   subst this;rw[List.getElem?_append_right (by rw[Zf];omega),Zf];simp
theorem jG8 (l:List Ma) (to now life:Int):Js l to now life=match (jAn l now life).findIdx? (fun m=>m.f.dst==to)with
  |some i=>(((jAn l now life).getD i ⟨fr0,0⟩).f,(jAn l now life).eraseIdx i,true)
  |none=>(fr0,jAn l now life,false):=by
 unfold Js jAn;generalize l.take 16=L
 have key:∀(L pre:List Ma),(∀ m∈pre,(m.f.dst==to)=false)->L.foldl (J8 to now life) (fr0,pre,false)=
   match (L.filter fun m=>!bold now life m).findIdx? (fun m=>m.f.dst==to)with
   |some i=>(((L.filter fun m=>!bold now life m).getD i ⟨fr0,0⟩).f,pre++(L.filter fun m=>!bold now life m).eraseIdx i,true)
   |none=>(fr0,pre++(L.filter fun m=>!bold now life m),false):=by
  have keyT:∀(L:List Ma) (f:Fr) (pre:List Ma),L.foldl (J8 to now life) (f,pre,true)=(f,pre++L.filter (fun m=>!bold now life m),true):=by
   intro L
   induction L with
   |nil=>intro f pre;simp
   |cons m L ih=>
    intro f pre;rw[List.foldl_cons]
    by_cases hb:bold now life m=true
    ·rw [show J8 to now life (f,pre,true) m=(f,pre,true)from by simp[J8,hb],ih,List.filter_cons_of_neg (by simp[hb])]
    ·rw [show J8 to now life (f,pre,true) m=(f,pre++[m],true)from by simp[J8,hb],ih,List.filter_cons_of_pos (by simp[hb])]
     simp
  intro L
  induction L with
  |nil=>intro pre _;simp
  |cons m L ih=>
   intro pre hpre;rw[List.foldl_cons]
   by_cases hb:bold now life m=true
   ·rw [show J8 to now life (fr0,pre,false) m=(fr0,pre,false)from by simp[J8,hb],ih pre hpre,List.filter_cons_of_neg (by simp[hb])]
   ·rw [List.filter_cons_of_pos (by simp[hb])]
    by_cases ht:(m.f.dst==to)=true
    ·rw [show J8 to now life (fr0,pre,false) m=(m.f,pre,true)from by simp only[J8,hb,ht];rfl,keyT];rw[List.findIdx?_cons,if_pos ht]
     simp
    ·have ht':(m.f.dst==to)=false:=by simpa using ht
     rw[show J8 to now life (fr0,pre,false) m=(fr0,pre++[m],false)from by simp only[J8,hb,ht'];rfl,ih (pre++[m]) (fun x hx=>by
      rcases List.mem_append.1 hx with hx|hx
      ·exact hpre x hx
      ·rw [List.mem_singleton]at hx;subst hx;exact ht')]
     rw[List.findIdx?_cons,if_neg ht];cases (L.filter fun m=>!bold now life m).findIdx? (fun m=>m.f.dst==to)with
     |none=>simp
     |some i=>simp
 simpa using key L [] (fun m hm=>by cases hm)
theorem jBD (l:List Ma) (now life:Int):(jAn l now life).length<=16:=Nat.le_trans (List.length_filter_le _ _) (by simp;omega)
theorem jDR (l:List Ma) (to now life:Int):(Js l to now life).2.1.length<=16/\((Js l to now life).2.2=true->(Js l to now life).2.1.length<l.length):=by
 have hb:=jBD l now life;have hb2:(jAn l now life).length<=l.length:=Nat.le_trans (List.length_filter_le _ _) (by simp;omega);rw[jG8]
 split
 ·rename_i i hi
  have hlt:i<(jAn l now life).length:=(List.findIdx?_eq_some_iff_getElem.1 hi).1;have hel:((jAn l now life).eraseIdx i).length=(jAn l now life).length-1:=List.length_eraseIdx_of_lt hlt;exact ⟨by simp only[hel];omega,fun _=>by simp only[hel];omega⟩
 ·exact ⟨hb,fun h=>by cases h⟩
theorem jMm (l:List Bool):jJr l<=l.length:=List.countP_le_length
theorem jGH {l:List Bool} {k:Nat} {b:Bool} (hb:l[k]? =some b):jJr (l.take (k+1))=jJr (l.take k)+(if b then 1 else 0):=by
 rw[jE hb,jJr,List.countP_append];cases b<;>rfl
theorem jJN {l:List Bool} (h:l.all id=true):jJr l=l.length:=by
 rw[List.all_eq_true]at h;exact List.countP_eq_length.2 h
theorem Jk {p:Pt} (h:JU p=true):jE6 p=false:=by
 simp only[JU,Bool.and_eq_true,Bool.not_eq_true']at h;exact h.1.1.1
structure Head (p:Pt):Prop where
 id0:0<=p.id
 id1:p.id<=255
 ct0:2<=p.ct
 ct1:p.ct<=16
 si0:0<=p.si
 si1:p.si<=jw
 hv:(p.hv.length:Int)=p.ct
 da:(p.da.length:Int)=p.ct
theorem zf {p:Pt} (h:jE6 p=false):Head p:=by
 simp only[jE6,Bool.or_eq_false_iff,decide_eq_false_iff_not,Bool.not_eq_false',beq_iff_eq]at h;obtain ⟨⟨⟨⟨⟨⟨⟨h1,h2⟩,h3⟩,h4⟩,h5⟩,h6⟩,h7⟩,h8⟩:=h;exact ⟨by omega,by omega,by omega,by omega,by omega,by omega,h7,h8⟩
theorem jK0 {p:Pt} (h:JU p=true):p.hv.all id=false:=by
 rw[<- Bool.not_eq_true];intro h2;have hh:=zf (Jk h);have:=jJN h2;simp only[JU,Bool.and_eq_true,decide_eq_true_eq]at h;have:=hh.hv;omega
theorem jFK {α:Type} (n:Nat) (l:List α):(last n l).length<=n:=by unfold last;simp;omega
theorem jP2 {α:Type} {n:Nat} {l:List α} {a:α} (h:a∈last n l):a∈l:=List.mem_of_mem_drop h
theorem jBr:∀ {l out:List Pt},(∀ p∈out,JU p=true)->∀p∈l.foldl ZE out,JU p=true
 |[],out,h,p,hp=>h p hp
 |x::l,out,h,p,hp=>by
  refine jBr (l:=l) (out:=ZE out x) (fun q hq=>?_) p hp;unfold ZE at hq
  split at hq
  ·rename_i hc
   simp only[Bool.and_eq_true]at hc;rcases List.mem_append.1 hq with hq|hq
   ·exact h q hq
   ·rw [List.mem_singleton]at hq;subst hq;exact hc.1
  ·exact h q hq
theorem Jm {l:List Pt}:∀p∈Ja l,JU p=true:=fun p hp=>jBr (fun p hp=>by cases hp) p (jP2 hp)
theorem ZT (l:List Pt):(Ja l).length<=8:=jFK 8 _
theorem jEA:∀(l out:List Pt),(l.foldl ZE out).length<=out.length+l.length
 |[],out=>by simp
 |x::l,out=>by
  have:=jEA l (ZE out x);have h2:(ZE out x).length<=out.length+1:=by unfold ZE;split<;>simp
  simp only[List.foldl_cons,List.length_cons];omega
theorem jPo {l:List Pt} {s i:Int} {a:Nat} (h:Z0 l s i=some a):a<l.length:=(List.findIdx?_eq_some_iff_getElem.1 h).1
def jCD (l:List Pt):Prop:=∀p∈l,Head p/\p.hv.all id=false
theorem jBs (l:List Pt):jCD (Ja l):=fun p hp=>⟨zf (Jk (Jm p hp)),jK0 (Jm p hp)⟩
theorem jCD.erase {l:List Pt} (h:jCD l) (i:Nat):jCD (l.eraseIdx i):=fun p hp=>h p (List.mem_of_mem_eraseIdx hp)
theorem jHw {l:List Pt} (h:jCD l) (s id c:Int):jCD (JX l s id c).1:=by
 unfold JX
 split
 ·split
  ·exact h
  ·exact h.erase _
 ·exact h
theorem Ki {l:List Pt} (h:l.length<=8) (s id c:Int):(JX l s id c).1.length<=8:=by
 unfold JX
 split
 ·split
  ·exact h
  ·exact Nat.le_trans (List.length_eraseIdx_le _ _) h
 ·exact h
theorem jPp {l:List Pt} {s id c:Int} {a:Nat} (h:(JX l s id c).2=some a):(JX l s id c).1=l/\a<l.length/\(l.getD a pz).ct=c:=by
 unfold JX at h ⊢
 split at h
 ·rename_i b hb
  split at h
  ·rename_i hc
   cases h;rw[if_pos hc];exact ⟨rfl,jPo hb,hc⟩
  ·cases h
 ·cases h
theorem jHx {s id c now:Int} (h1:0<=id) (h2:id<=255) (h3:2<=c) (h4:c<=16):Head (jq s id c now):=by
 refine ⟨h1,h2,h3,h4,?_,?_,?_,?_⟩<;>simp only[jq,tick,clamp,jw,List.length_replicate]<;>omega
theorem jK2 {s i c now:Int} (h3:2<=c):(jq s i c now).hv.all id=false:=by
 obtain ⟨k,hk⟩:∃k,c.toNat=k+1:=⟨c.toNat-1,by omega⟩
 simp[jq,hk,List.replicate_succ]
theorem jA2 {l:List Pt} (h:l.length<=8):(Zj l).length<=7:=by
 unfold Zj
 split
 ·rw [List.length_eraseIdx_of_lt (by omega)];omega
 ·omega
theorem jGJ {l:List Pt} {s id c now:Int} (hf:jCD l) (hl:l.length<=8) (h1:0<=id) (h2:id<=255) (h3:2<=c) (h4:c<=16):
  jCD (jED (JX l s id c) s id c now).1/\(jED (JX l s id c) s id c now).1.length<=8/\(jED (JX l s id c) s id c now).2<(jED (JX l s id c) s id c now).1.length/\((jED (JX l s id c) s id c now).1.getD (jED (JX l s id c) s id c now).2 pz).ct=c:=by
 have hd:=jHw hf s id c;have hdl:=Ki hl s id c;cases h:(JX l s id c).2 with
 |some a=>
  obtain ⟨e1,e2,e3⟩:=jPp h;unfold jED;rw[h];simp only;rw[e1];exact ⟨hf,hl,e2,e3⟩
 |none=>
  unfold jED;rw[h];simp only;have hr:=jA2 hdl;refine ⟨fun p hp=>?_,by simp;omega,by simp,?_⟩
  ·rcases List.mem_append.1 hp with hp|hp
   ·unfold Zj at hp
    split at hp
    ·exact hd.erase 0 p hp
    ·exact hd p hp
   ·rw [List.mem_singleton]at hp;subst hp;exact ⟨jHx h1 h2 h3 h4,jK2 h3⟩
  ·rw [List.getD_eq_getElem?_getD,List.getElem?_append_right (Nat.le_refl _)]
   simp[jq]
theorem jJs {p:Pt} {i:Nat} {d:By} (h:p.hv.getD i false=true):kZ p i d=p:=by unfold kZ;rw[if_pos h]
theorem jMj {o:List Pt×Nat} {i:Nat} {d:By} {p:Pt} (hp:o.1[o.2]? =some p) (h:p.hv.getD i false=true) (ha:p.hv.all id=false):jPh o i d=⟨o.1,[],false,0⟩:=by
 have hg:o.1.getD o.2 pz=p:=by rw[List.getD_eq_getElem?_getD,hp];rfl
 unfold jPh;rw[hg,jJs h,ha];simp only[Bool.false_eq_true,if_false]
 congr 1
 obtain ⟨hl,rfl⟩:=List.getElem?_eq_some_iff.1 hp;exact List.set_getElem_self hl
theorem jC0 {x:By} (h:jDa x=0):3<=x.length/\1<=b8 x 2/\b8 x 2<=16/\0<=b8 x 1/\b8 x 1<b8 x 2/\fits (b8 x 1) (b8 x 2) ((x.length:Int)-3)=true/\0<=b8 x 0/\b8 x 0<=255:=by
 unfold jDa at h
 split at h
 ·cases h
 ·rename_i h1
  split at h
  ·cases h
  ·rename_i h2
   have hb:∀i,0<=b8 x i/\b8 x i<=255:=fun i=>by unfold b8;have:=(x.getD i 0).toNat_lt;omega
   have h3:fits (b8 x 1) (b8 x 2) ((x.length:Int)-3)=true:=by
    cases hf:fits (b8 x 1) (b8 x 2) ((x.length:Int)-3)with
    |true=>rfl
    |false=>exact absurd (.inr (.inr (.inr hf))) h2
   exact ⟨by omega,by omega,by omega,(hb 1).1,by omega,h3,(hb 0).1,(hb 0).2⟩
theorem kQ {l:List Int} (h:Asc id l) (c:Int):Asc id (child l c)/\∀x,x∈child l c↔x=c\/x∈l:=by
 unfold child
 split
 ·rename_i hc
  exact ⟨h,fun x=>⟨.inr,fun hx=>hx.elim (fun e=>e▸hc) _root_.id⟩⟩
 ·rename_i hc
  obtain ⟨A,C,s⟩:=h.split c;have e1:l.takeWhile (fun x=>decide (x<c))=A:=s.tw;have e2:l.dropWhile (fun x=>decide (x<c))=C:=s.dw;rw[e1,e2];have h':=h;rw[s.eq]at h';rcases s.hi with ⟨_,h2⟩|⟨y,D,rfl,hy,_,_⟩
  ·refine ⟨Asc.ins h' s.lo h2 rfl,fun x=>?_⟩;rw[s.eq];simp only[List.mem_append,List.mem_cons]
   constructor
   ·rintro (h|h|h)
    ·exact .inr (.inl h)
    ·exact .inl h
    ·exact .inr (.inr h)
   ·rintro (h|h|h)
    ·exact .inr (.inl h)
    ·exact .inl h
    ·exact .inr (.inr h)
  ·exact absurd (by rw[s.eq];simp;right;left;exact hy.symm) hc
theorem jAK:∀ {l acc:List Int},Asc id acc->Asc id (l.foldl child acc)/\∀x,x∈l.foldl child acc↔x∈l\/x∈acc
 |[],acc,h=>⟨h,fun x=>by simp⟩
 |c::l,acc,h=>by
  obtain ⟨h1,h2⟩:=kQ h c;obtain ⟨h3,h4⟩:=jAK (l:=l) h1;refine ⟨h3,fun x=>?_⟩;rw[List.foldl_cons,h4,h2];simp only[List.mem_cons]
  constructor
  ·rintro (h|h|h)
   ·exact .inl (.inr h)
   ·exact .inl (.inl h)
   ·exact .inr h
  ·rintro ((h|h)|h)
   ·exact .inr (.inl h)
   ·exact .inl h
   ·exact .inr (.inr h)
theorem jJM:∀ {l m:List Int},Asc id l->Asc id m->(∀ x,x∈l↔x∈m)->l=m
 |[],[],_,_,_=>rfl
 |[],b::m,_,_,h=>by have:=(h b).2 (List.mem_cons_self ..);cases this
 |a::l,[],_,_,h=>by have:=(h a).1 (List.mem_cons_self ..);cases this
 |a::l,b::m,h1,h2,h=>by
  obtain ⟨p1,p2⟩:=List.pairwise_cons.1 h1;obtain ⟨q1,q2⟩:=List.pairwise_cons.1 h2;have hab:a=b:=by
   rcases List.mem_cons.1 ((h a).1 (List.mem_cons_self ..))with e|e
   ·exact e
   ·rcases List.mem_cons.1 ((h b).2 (List.mem_cons_self ..))with e2|e2
    ·exact e2.symm
    ·have:=q1 a e;have:=p1 b e2;simp only[_root_.id]at *;omega
  subst hab
  congr 1
  refine jJM p2 q2 fun x=>?_
  constructor
  ·intro hx;rcases List.mem_cons.1 ((h x).1 (List.mem_cons_of_mem _ hx))with e|e
   ·have:=p1 x hx;simp only[_root_.id]at *;omega
   ·exact e
  ·intro hx;rcases List.mem_cons.1 ((h x).2 (List.mem_cons_of_mem _ hx))with e|e
   ·have:=q1 x hx;simp only[_root_.id]at *;omega
   ·exact e
theorem jCT (a:Int) (l:List Int):Asc id (kids a l)/\∀x,x∈kids a l↔x∈l/\okN x=true/\x≠a:=by
 obtain ⟨h1,h2⟩:=jAK (l:=l.filter fun c=>okN c&&!(c==a)) (acc:=[]) List.Pairwise.nil;refine ⟨h1,fun x=>?_⟩;show x∈(l.filter fun c=>okN c&&!(c==a)).foldl child []↔_;rw[h2]
 simp[List.mem_filter]
theorem Asc.nodup {l:List Int} (h:Asc id l):l.Nodup:=h.imp fun {a b} hab=>by simp only[_root_.id]at hab;omega
theorem jHF {l:List Int} (h:Asc id l) (hb:∀x∈l,okN x=true):l.length<=251:=by
 have key:∀(l:List Int) (lo:Int),Asc id l->(∀ x∈l,lo<=x/\x<=250)->(l.length:Int)<=max 0 (251-lo):=by
  intro l
  induction l with
  |nil=>intro lo _ _;simp;omega
  |cons a l ih=>
   intro lo h hb;obtain ⟨p1,p2⟩:=List.pairwise_cons.1 h;have h1:=hb a (List.mem_cons_self ..);have:=ih (a+1) p2 fun x hx=>by have:=p1 x hx;have:=hb x (List.mem_cons_of_mem _ hx);simp only[_root_.id]at *;omega
   simp only[List.length_cons];omega
 have:=key l 0 h fun x hx=>by have:=hb x hx;simp only[okN,Bool.and_eq_true,decide_eq_true_eq]at this;omega
 omega
theorem jCP {α:Type} {dr ur:α->Bool} {q:List α} {x:α}:(jHJ dr ur q x).1.length<=16:=by
 have h16:(q.take 16).length<=16:=by simp;omega
 have hins:∀(l:List α),(ins ur l x).length=l.length+1:=fun l=>by
  have:=congrArg List.length (List.takeWhile_append_dropWhile (p:=ur) (l:=l));simp only[List.length_append]at this;simp only[ins,List.length_append,List.length_cons];omega
 unfold jHJ
 split
 ·split
  ·exact h16
  ·simp only[List.length_append,List.length_singleton];omega
 ·split
  ·rename_i h
   split
   ·exact h16
   ·rename_i i hi
    obtain ⟨a,ha,_⟩:=zG hi;have hlt:=(List.getElem?_eq_some_iff.1 ha).1;rw[hins,List.length_eraseIdx_of_lt hlt];omega
  ·rw [hins];omega
end Nd
namespace Nd
open Go Go.GX
abbrev frC (f:Fr):List Value:=[.int .i64 f.kd,.int .i64 f.fr,.int .i64 f.dst,.int .i64 f.so,.int .i64 f.ta,.int .i64 f.sq,.int .i64 f.hp,.bool f.ur,str f.da]
abbrev roC (r:Ro):List Value:=[.int .i64 r.dest,.int .i64 r.sq,.int .i64 r.cost,.int .i64 r.nx]
abbrev liC (x:Li):List Value:=[.int .i64 x.nd,.int .i64 x.bi,.int .i64 x.ct]
abbrev snC (s:Sn):List Value:=[.int .i64 s.f.kd,.int .i64 s.f.fr,.int .i64 s.f.dst,.int .i64 s.f.so,.int .i64 s.f.ta,.int .i64 s.f.sq,.int .i64 s.f.hp,.bool s.f.ur,str s.f.da,.int .i64 s.tr,.int .i64 s.wt]
abbrev maC (m:Ma):List Value:=[.int .i64 m.f.kd,.int .i64 m.f.fr,.int .i64 m.f.dst,.int .i64 m.f.so,.int .i64 m.f.ta,.int .i64 m.f.sq,.int .i64 m.f.hp,.bool m.f.ur,str m.f.da,.int .i64 m.si]
abbrev prC (p:Pr):List Value:=[.int .i64 p.so,.int .i64 p.sq]
abbrev deC (d:De):List Value:=[.int .i64 d.so,str d.te]
abbrev bC (b:Bool):List Value:=[.bool b]
abbrev sC (s:By):List Value:=[str s]
structure PtV where
 vh:Value
 vd:Value
 pt:Pt
abbrev ptC (p:PtV):List Value:=[.int .i64 p.pt.so,.int .i64 p.pt.id,.int .i64 p.pt.ct,.int .i64 p.pt.si,p.vh,p.vd]
theorem jP (a:Ro):(roC a).length=4:=rfl
theorem jd (a:Li):(liC a).length=3:=rfl
theorem jU (a:Sn):(snC a).length=11:=rfl
theorem j4 (a:Ma):(maC a).length=10:=rfl
theorem J9 (a:Pr):(prC a).length=2:=rfl
theorem jAh (a:De):(deC a).length=2:=rfl
theorem jBF (a:Bool):(bC a).length=1:=rfl
theorem jCg (a:By):(sC a).length=1:=rfl
theorem jY (a:PtV):(ptC a).length=6:=rfl
theorem jEw (a:Ro):Ju (roC a)=true:=rfl
theorem jBc (a:Li):Ju (liC a)=true:=rfl
theorem KS (a:Sn):Ju (snC a)=true:=rfl
theorem jBa (a:Ma):Ju (maC a)=true:=rfl
theorem jMi (a:Pr):Ju (prC a)=true:=rfl
theorem jNu (a:De):Ju (deC a)=true:=rfl
theorem jPC (a:Bool):Ju (bC a)=true:=rfl
theorem jMD (a:By):Ju (sC a)=true:=rfl
section
variable {α : Type} {E : α -> List Value} {sz : Nat}
theorem jJ (hE:∀a,(E a).length=sz) {l:List α} {j:Nat} {a:α} (ha:l[j]? =some a) {i:Nat} {u:Value} (hu:(E a)[i]? =some u):(cellsOf E l)[j*sz+i]? =some u:=jD hE ha i u hu
theorem j6 (hE:∀a,(E a).length=sz) {l:List α} {j:Nat} {a b:α} (ha:l[j]? =some a) {i:Nat} {us:List Value} (hb:(E a).take i++us++(E a).drop (i+us.length)=E b) (hi:i+us.length<=sz):
  (cellsOf E l).take (j*sz+i)++us++(cellsOf E l).drop (j*sz+i+us.length)=cellsOf E (l.set j b):=by
 obtain ⟨hj,rfl⟩:=List.getElem?_eq_some_iff.1 ha;have e:l=l.take j++l[j]::l.drop (j+1):=by rw[List.getElem_cons_drop,List.take_append_drop]
 have hl:(l.take j).length=j:=by simp;omega
 have e2:l.set j b=l.take j++b::l.drop (j+1):=by
  conv=>lhs;rw[e]
  exact Nd.set_mid hl
 have hc:cellsOf E l=cellsOf E (l.take j)++(E l[j]++cellsOf E (l.drop (j+1))):=by
  conv=>lhs;rw[e]
  rw[jL];rfl
 have hcl:(cellsOf E (l.take j)).length=j*sz:=by rw[jA hE,hl]
 rw[hc,e2,jL];have h1:(cellsOf E (l.take j)++(E l[j]++cellsOf E (l.drop (j+1)))).take (j*sz+i)=cellsOf E (l.take j)++(E l[j]).take i:=by
  rw[List.take_append,List.take_of_length_le (by omega),hcl,Nat.add_sub_cancel_left,List.take_append_of_le_length (by rw[hE];omega)]
 have h2:(cellsOf E (l.take j)++(E l[j]++cellsOf E (l.drop (j+1)))).drop (j*sz+i+us.length)=(E l[j]).drop (i+us.length)++cellsOf E (l.drop (j+1)):=by
  rw[List.drop_append,List.drop_eq_nil_of_le (by omega),hcl,List.nil_append,show j*sz+i+us.length-j*sz=i+us.length by omega,List.drop_append_of_le_length (by rw[hE];exact hi)]
 rw[h1,h2];have:cellsOf E (b::l.drop (j+1))=E b++cellsOf E (l.drop (j+1)):=rfl;rw[this,<- hb]
 simp[List.append_assoc]
theorem JR (hE:∀a,(E a).length=sz) {l:List α} {j:Nat} {a b:α} (ha:l[j]? =some a) {i:Nat} {u:Value} (hb:(E a).set i u=E b) (hi:i<sz):(cellsOf E l).set (j*sz+i) u=cellsOf E (l.set j b):=by
 have hjl:j*sz+i<(cellsOf E l).length:=by
  have hj:=(List.getElem?_eq_some_iff.1 ha).1;rw[jA hE];have:(j+1)*sz<=l.length*sz:=Nat.mul_le_mul_right _ hj;rw[Nat.add_mul]at this;omega
 have key:=j6 hE ha (i:=i) (us:=[u]) (b:=b) (by
  rw[<- hb,List.set_eq_take_append_cons_drop,if_pos (by rw[hE];exact hi)];simp) (by simp;omega)
 rw[<- key,List.set_eq_take_append_cons_drop,if_pos hjl];simp
end
end Nd
namespace Go.GX
structure Hold (R:Prop):Prop where
 h:R
theorem zh {R G:Prop} (k:R) (t:Hold R->G:=by (intro k;(first|(refine yH ?_;first|refine QT I I ?_|refine yj I I (by first|omega|(simp;done)|(simp;omega)) ?_|(refine qm ?_;first|refine qZ 0 I I I I ?_|refine qZ 1 I I I I ?_|refine qZ 2 I I I I ?_|refine qZ 3 I I I I ?_|refine qZ 4 I I I I ?_|refine qZ 5 I I I I ?_|refine qZ 6 I I I I ?_)|(refine qb ?_;first|refine qV 0 I I I I I ?_|refine qV 1 I I I I I ?_|refine qV 2 I I I I I ?_|refine qV 3 I I I I I ?_|refine qV 4 I I I I I ?_|refine qV 5 I I I I I ?_|refine qV 6 I I I I I ?_)|refine HL.build I I ?_|refine HL.field I I ?_|(refine HL.box I I ?_;exact k.1)|(refine HL.alloc I I ?_;exact k.1)|refine HL.skip I I ?_|refine Qy I ?_)|refine HL.nil ?_|refine HR.ctl I ?_|refine HR.region ?_|refine Qj I ?_|refine QY I ?_|fail);(repeat' (first|(refine yH ?_;first|refine QT I I ?_|refine yj I I (by first|omega|(simp;done)|(simp;omega)) ?_|(refine qm ?_;first|refine qZ 0 I I I I ?_|refine qZ 1 I I I I ?_|refine qZ 2 I I I I ?_|refine qZ 3 I I I I ?_|refine qZ 4 I I I I ?_|refine qZ 5 I I I I ?_|refine qZ 6 I I I I ?_)|(refine qb ?_;first|refine qV 0 I I I I I ?_|refine qV 1 I I I I I ?_|refine qV 2 I I I I I ?_|refine qV 3 I I I I I ?_|refine qV 4 I I I I I ?_|refine qV 5 I I I I I ?_|refine qV 6 I I I I I ?_)|refine HL.build I I ?_|refine HL.field I I ?_|(refine HL.box I I ?_;exact k.1)|(refine HL.alloc I I ?_;exact k.1)|refine HL.skip I I ?_|refine Qy I ?_)|refine HL.nil ?_|refine HR.ctl I ?_|refine HR.region ?_|refine Qj I ?_|refine QY I ?_|exact k.1)))):G:=t ⟨k⟩
theorem zn {R G:Prop} (k:R) (t:Hold R->G:=by (intro k;(first|(refine yH ?_;first|refine QT I I ?_|refine yj I I (by first|omega|(simp;done)|(simp;omega)) ?_|(refine qm ?_;first|refine qZ 0 I I I I ?_|refine qZ 1 I I I I ?_|refine qZ 2 I I I I ?_|refine qZ 3 I I I I ?_|refine qZ 4 I I I I ?_|refine qZ 5 I I I I ?_|refine qZ 6 I I I I ?_)|(refine qb ?_;first|refine qV 0 I I I I I ?_|refine qV 1 I I I I I ?_|refine qV 2 I I I I I ?_|refine qV 3 I I I I I ?_|refine qV 4 I I I I I ?_|refine qV 5 I I I I I ?_|refine qV 6 I I I I I ?_)|refine HL.build I I ?_|refine HL.field I I ?_|(refine HL.box I I ?_;exact k.1)|(refine HL.alloc I I ?_;exact k.1)|refine HL.skip I I ?_|refine Qy I ?_)|refine HL.nil ?_|fail);(repeat' (first|(refine yH ?_;first|refine QT I I ?_|refine yj I I (by first|omega|(simp;done)|(simp;omega)) ?_|(refine qm ?_;first|refine qZ 0 I I I I ?_|refine qZ 1 I I I I ?_|refine qZ 2 I I I I ?_|refine qZ 3 I I I I ?_|refine qZ 4 I I I I ?_|refine qZ 5 I I I I ?_|refine qZ 6 I I I I ?_)|(refine qb ?_;first|refine qV 0 I I I I I ?_|refine qV 1 I I I I I ?_|refine qV 2 I I I I I ?_|refine qV 3 I I I I I ?_|refine qV 4 I I I I I ?_|refine qV 5 I I I I I ?_|refine qV 6 I I I I I ?_)|refine HL.build I I ?_|refine HL.field I I ?_|(refine HL.box I I ?_;exact k.1)|(refine HL.alloc I I ?_;exact k.1)|refine HL.skip I I ?_|refine Qy I ?_)|refine HL.nil ?_|exact k.1)))):G:=t ⟨k⟩
theorem zq {R G:Prop} (k:R) (t:Hold R->G:=by (intro k;(first|(refine YV ?_;first|refine YT I I ?_|refine YA I I (by first|omega|(simp;done)|(simp;omega)) ?_|(refine yV ?_;first|refine Qx 0 I I I I ?_|refine Qx 1 I I I I ?_|refine Qx 2 I I I I ?_|refine Qx 3 I I I I ?_|refine Qx 4 I I I I ?_|refine Qx 5 I I I I ?_|refine Qx 6 I I I I ?_)|refine JL.build I I ?_|refine JL.field I I ?_|refine JL.skip I I ?_)|refine HQ.nil ?_|fail);(repeat' (first|(refine YV ?_;first|refine YT I I ?_|refine YA I I (by first|omega|(simp;done)|(simp;omega)) ?_|(refine yV ?_;first|refine Qx 0 I I I I ?_|refine Qx 1 I I I I ?_|refine Qx 2 I I I I ?_|refine Qx 3 I I I I ?_|refine Qx 4 I I I I ?_|refine Qx 5 I I I I ?_|refine Qx 6 I I I I ?_)|refine JL.build I I ?_|refine JL.field I I ?_|refine JL.skip I I ?_)|refine HQ.nil ?_|exact k.1)))):G:=t ⟨k⟩
theorem zd {R G:Prop} (k:R) (t:Hold R->G:=by (intro k;(first|refine QM I I I ?_|refine QK I I I (by first|omega|(simp;done)|(simp;omega)) ?_|refine Qo 0 I I I I I ?_|refine Qo 1 I I I I I ?_|refine Qo 2 I I I I I ?_|refine Qo 3 I I I I I ?_|refine Qo 4 I I I I I ?_|refine Qo 5 I I I I I ?_|refine Qo 6 I I I I I ?_|refine HD.build I I I ?_|refine HD.skip I I I ?_|refine YG I I I ?_|fail);(repeat' (first|refine QM I I I ?_|refine QK I I I (by first|omega|(simp;done)|(simp;omega)) ?_|refine Qo 0 I I I I I ?_|refine Qo 1 I I I I I ?_|refine Qo 2 I I I I I ?_|refine Qo 3 I I I I I ?_|refine Qo 4 I I I I I ?_|refine Qo 5 I I I I I ?_|refine Qo 6 I I I I I ?_|refine HD.build I I I ?_|refine HD.skip I I I ?_|refine YG I I I ?_|exact k.1)))):G:=t ⟨k⟩
structure Hold2 (e:Bool) (R S:Prop):Prop where
 a:R
 b:S
structure HoldJ (j:Nat) (R:Prop):Prop where
 h:R
section
variable {P : Program} {N : Nat} {ops : List Oper} {l : List Oper} {o : Oper} {σ : Store} {B : Base} {H : List Chunk} {K : Act -> World -> Prop} {C : World -> Prop} {KQ : Act -> Prop} {tj te n dp : Nat} {b e : Bool} {rest : List Oper} {ty : TypeId} {pos : String} {af : Array Edge} {gd : Option (Nat × Bool)}
theorem zandL
  (hg:gslot ops o=some (tj,true)) (hl:look σ tj=some (.bool b)) (hn:Z5 tj (o::l)=some n)
  (hd:(o::l).drop n=⟨some dp,.pick (.tmp tj) (.tmp te) (.const (.bool false)),ty,pos,af,gd⟩::rest)
  (hgd:JK ops gd σ=some true) (hte:look σ te=none) (hok:jCA N ops tj true n σ (o::l)=true) (hdp:ZQ N (some dp)=true)
  (k:Hold2 e (b=true->HL P N ops ((o::l).take n) ((tj,.bool true)::σ) B H (fun a' w'=>Sat B H w'/\Agr N ((te,.bool e)::(tj,.bool true)::σ) a')) (HL P N ops rest ((dp,.bool (b&&e))::σ) B H K)):HL P N ops (o::l) σ B H K:=
 HL.andB hg hl hn hd hgd hte hok hdp k.a k.b
theorem zorL
  (hg:gslot ops o=some (tj,false)) (hl:look σ tj=some (.bool b)) (hn:Z5 tj (o::l)=some n)
  (hd:(o::l).drop n=⟨some dp,.pick (.tmp tj) (.const (.bool true)) (.tmp te),ty,pos,af,gd⟩::rest)
  (hgd:JK ops gd σ=some true) (hte:look σ te=none) (hok:jCA N ops tj false n σ (o::l)=true) (hdp:ZQ N (some dp)=true)
  (k:Hold2 e (b=false->HL P N ops ((o::l).take n) ((tj,.bool false)::σ) B H (fun a' w'=>Sat B H w'/\Agr N ((te,.bool e)::(tj,.bool false)::σ) a')) (HL P N ops rest ((dp,.bool (b||e))::σ) B H K)):HL P N ops (o::l) σ B H K:=
 HL.orB hg hl hn hd hgd hte hok hdp k.a k.b
theorem zandQ
  (hg:gslot ops o=some (tj,true)) (hl:look σ tj=some (.bool b)) (hn:Z5 tj (o::l)=some n)
  (hd:(o::l).drop n=⟨some dp,.pick (.tmp tj) (.tmp te) (.const (.bool false)),ty,pos,af,gd⟩::rest)
  (hgd:JK ops gd σ=some true) (hte:look σ te=none) (hok:jCA N ops tj true n σ (o::l)=true) (hdp:ZQ N (some dp)=true)
  (k:Hold2 e (b=true->JL P N C ops ((o::l).take n) ((tj,.bool true)::σ) (fun a'=>Agr N ((te,.bool e)::(tj,.bool true)::σ) a')) (JL P N C ops rest ((dp,.bool (b&&e))::σ) KQ)):JL P N C ops (o::l) σ KQ:=
 Yc hg hl hn hd hgd hte hok hdp k.a k.b
theorem zorQ
  (hg:gslot ops o=some (tj,false)) (hl:look σ tj=some (.bool b)) (hn:Z5 tj (o::l)=some n)
  (hd:(o::l).drop n=⟨some dp,.pick (.tmp tj) (.const (.bool true)) (.tmp te),ty,pos,af,gd⟩::rest)
  (hgd:JK ops gd σ=some true) (hte:look σ te=none) (hok:jCA N ops tj false n σ (o::l)=true) (hdp:ZQ N (some dp)=true)
  (k:Hold2 e (b=false->JL P N C ops ((o::l).take n) ((tj,.bool false)::σ) (fun a'=>Agr N ((te,.bool e)::(tj,.bool false)::σ) a')) (JL P N C ops rest ((dp,.bool (b||e))::σ) KQ)):JL P N C ops (o::l) σ KQ:=
 Yn hg hl hn hd hgd hte hok hdp k.a k.b
theorem zb {e:Bool} {R S G:Prop} (k:R) (l:S) (t:Hold2 e R S->G:=by (intro k;first|exact zandL I I I I I I I I k|exact zorL I I I I I I I I k|exact zandQ I I I I I I I I k|exact zorQ I I I I I I I I k)):G:=t ⟨k,l⟩
theorem zc {G:Prop} (t:True->G:=by (intro _;first|exact Ym I I Ent.refl|exact YB I I)):G:=t trivial
theorem zi {b c:Bool} {Q:Prop} (h:b=c->Q):b=c->Q:=h
end
section
variable {P : Program} {N d n i : Nat} {ops : List Oper} {L : Array Bool} {σ : Store} {B : Base} {H F : List Chunk} {K : Act -> World -> Prop} {ty : TypeId} {pos : String} {af : Array Edge} {gd : Option (Nat × Bool)} {op : Op} {v u : Value}
theorem zaE (hf:((Region.noSelect ops.toArray&&Region.free .any ops.toArray L i)&&(Region.ready .any ops.toArray L).contains i)=true) (ho:ops[i]? =some ⟨some d,op,ty,pos,af,gd⟩) (hs:stat N ops ⟨some d,op,ty,pos,af,gd⟩ σ=true) (he:jLr P σ op=some v)
  (k:HoldJ i (HA P N ops n (L.setIfInBounds i true) ((d,v)::σ) B H F K)):HA P N ops (n+1) L σ B H F K:=HA.ev i hf ho hs he k.h
theorem zaC {c:Prop} (hf:((Region.noSelect ops.toArray&&Region.free .any ops.toArray L i)&&(Region.ready .any ops.toArray L).contains i)=true) (ho:ops[i]? =some ⟨some d,op,ty,pos,af,gd⟩) (hs:stat N ops ⟨some d,op,ty,pos,af,gd⟩ σ=true) (he:evC P σ op=some (v,c)) (hc:c)
  (k:HoldJ i (HA P N ops n (L.setIfInBounds i true) ((d,v)::σ) B H F K)):HA P N ops (n+1) L σ B H F K:=HA.evc i hf ho hs he hc k.h
theorem zaB {t:TypeId} {td:TypeDesc} {x:Operand} {b j:Nat} {T:TypeId} {cs:List Value} (c:Nat) (hf:((Region.noSelect ops.toArray&&Region.free .any ops.toArray L i)&&(Region.ready .any ops.toArray L).contains i)=true) (ho:ops[i]? =some ⟨some d,.load t x,ty,pos,af,gd⟩) (hx:lookO σ x=some (.pointer (some ⟨b,j,none⟩))) (hi:J5 F c=some (jS b cs T)) (hs:stat N ops ⟨some d,.load t x,ty,pos,af,gd⟩ σ=true) (hT:P.underlying t=some td) (hp:zK td=true) (hu:jJz cs j=some u)
  (k:HoldJ i (HA P N ops n (L.setIfInBounds i true) ((d,u)::σ) B H F K)):HA P N ops (n+1) L σ B H F K:=Y0 i c hf ho hx hi hs hT hp hu k.h
theorem zaR {t:TypeId} {td:TypeDesc} {x:Operand} {b o m:Nat} {T:TypeId} {cs us:List Value} (c:Nat) (hf:((Region.noSelect ops.toArray&&Region.free .any ops.toArray L i)&&(Region.ready .any ops.toArray L).contains i)=true) (ho:ops[i]? =some ⟨some d,.load t x,ty,pos,af,gd⟩) (hx:lookO σ x=some (.pointer (some ⟨b,o,none⟩))) (hi:J5 F c=some (jS b cs T)) (hs:stat N ops ⟨some d,.load t x,ty,pos,af,gd⟩ σ=true) (hT:P.underlying t=some td) (hr:td.isRow=true) (hm:(P.info? t).map (·.size)=some m) (hu:jLp cs o m=some us)
  (k:HoldJ i (HA P N ops n (L.setIfInBounds i true) ((d,.agg ⟨us⟩)::σ) B H F K)):HA P N ops (n+1) L σ B H F K:=Yz i c hf ho hx hi hs hT hr hm hu k.h
theorem zaU {t:TypeId} {ps:List (Nat×Operand)} {us:List Value} (hf:((Region.noSelect ops.toArray&&Region.free .any ops.toArray L i)&&(Region.ready .any ops.toArray L).contains i)=true) (ho:ops[i]? =some ⟨some d,.build t ps.toArray,ty,pos,af,gd⟩) (hs:stat N ops ⟨some d,.build t ps.toArray,ty,pos,af,gd⟩ σ=true) (hb:jB0 P σ t ps=some us)
  (k:HoldJ i (HA P N ops n (L.setIfInBounds i true) ((d,.agg ⟨us⟩)::σ) B H F K)):HA P N ops (n+1) L σ B H F K:=HA.build i hf ho hs hb k.h
theorem za {R G:Prop} (j:Nat) (k:R) (t:HoldJ j R->G:=by (intro k;first|exact zaE (by kernel_rfl) I I I k|exact zaC (by kernel_rfl) I I I (by first|omega|(simp;done)|(simp;omega)) k|exact zaB 0 (by kernel_rfl) I I I I I I I k|exact zaB 1 (by kernel_rfl) I I I I I I I k|exact zaB 2 (by kernel_rfl) I I I I I I I k|exact zaB 3 (by kernel_rfl) I I I I I I I k|exact zaB 4 (by kernel_rfl) I I I I I I I k|exact zaB 5 (by kernel_rfl) I I I I I I I k|exact zaB 6 (by kernel_rfl) I I I I I I I k|exact zaR 0 (by kernel_rfl) I I I I I I I I k|exact zaR 1 (by kernel_rfl) I I I I I I I I k|exact zaR 2 (by kernel_rfl) I I I I I I I I k|exact zaR 3 (by kernel_rfl) I I I I I I I I k|exact zaR 4 (by kernel_rfl) I I I I I I I I k|exact zaR 5 (by kernel_rfl) I I I I I I I I k|exact zaR 6 (by kernel_rfl) I I I I I I I I k|exact zaU (by kernel_rfl) I I I k)):G:=t ⟨k⟩
end
section
variable {P : Program} {f : FuncId} {N : Nat} {k : List Item} {σ : Store} {B : Base} {H : List Chunk} {R : Ending -> World -> Prop}
theorem zE {fn:Func} {c:Code} {args:Array Value} {w:World} (hf:P.funcs[f]? =some fn) (hb:fn.body=some c) (σ':Store) (h:HR P f fn.ntmps [.code c] σ' (base w) [] R) (hN:args.size<=fn.ntmps:=by exact Nat.le_of_ble_eq_true I) (hs:Sub σ' (args.toList.zipIdx.map fun (v,i)=>(i,v)):=by repeat' (first|exact trivial|refine ⟨rfl,?_⟩)):Calls P f args w R:=jQY hf hb hN (HR.sub hs h)
theorem zR {fn:Func} {l:List ResultVar} {v:Value} (hf:P.funcs[f]? =some fn) (hl:fn.results=l.toArray:=by exact rfl) (hr:∀w,Sat B H w->jPF P w σ l [v]:=by exact fun _ _=>⟨I,trivial⟩) (hR:∀w,Sat B H w->R (.returned (ZJ [v])) w:=by exact fun w' hw=>⟨rfl,hw.jF⟩):HR P f N (.code .ret::k) σ B H R:=HR.ret hf hl [v] hr hR
end
theorem zF {P : Program} {g : FuncId} {fn : Func} {c : Code} (h : P.funcs[g]? = some fn) (hb : fn.body = some c) (hd : (fn.name == "runtime.NumGoroutine") = false := by decide) : IsFn P g := ⟨⟨_, _, h, hb, hd⟩⟩
end Go.GX
namespace Go.Proofs.YtgfdoognildoeaaGreat
open Go.GX Go.RowKit
attribute [local irreducible] Calls Run JH JL zU HR HL HD jS jM ZN Rd jg Jf
open Nd
theorem fn61:IsFn Tryz.prog 61:=zF Tryz.func61 I
theorem jTP:IsFn Tryz.prog 131:=zF Tryz.func131 I
theorem jQL:IsFn Tryz.prog 133:=zF Tryz.func133 I
theorem jRo:IsFn Tryz.prog 134:=zF Tryz.func134 I
theorem jRm:IsFn Tryz.prog 137:=zF Tryz.func137 I
theorem fn59:IsFn Tryz.prog 59:=zF Tryz.func59 I
theorem jTM:IsFn Tryz.prog 138:=zF Tryz.func138 I
theorem jTL:IsFn Tryz.prog 139:=zF Tryz.func139 I
theorem j3:Tryz.prog.follows .mixedOrders=true:=by kernel_rfl
theorem j5:Elem Tryz.prog 22 3 1 8:=⟨rfl,⟨_,_,rfl,rfl,rfl,rfl,rfl⟩,by decide⟩
theorem jZ:Elem Tryz.prog 55 94 4 32:=⟨rfl,⟨_,_,rfl,rfl,rfl,rfl,rfl⟩,by decide⟩
theorem JG:Elem Tryz.prog 56 162 3 24:=⟨rfl,⟨_,_,rfl,rfl,rfl,rfl,rfl⟩,by decide⟩
theorem jy:Elem Tryz.prog 57 131 11 96:=⟨rfl,⟨_,_,rfl,rfl,rfl,rfl,rfl⟩,by decide⟩
theorem JB:Elem Tryz.prog 58 166 10 88:=⟨rfl,⟨_,_,rfl,rfl,rfl,rfl,rfl⟩,by decide⟩
theorem Zm:Elem Tryz.prog 59 171 2 16:=⟨rfl,⟨_,_,rfl,rfl,rfl,rfl,rfl⟩,by decide⟩
theorem jAb:Elem Tryz.prog 46 65 2 24:=⟨rfl,⟨_,_,rfl,rfl,rfl,rfl,rfl⟩,by decide⟩
theorem J4:Elem Tryz.prog 81 4 1 1:=⟨rfl,⟨_,_,rfl,rfl,rfl,rfl,rfl⟩,by decide⟩
theorem ZB:Elem Tryz.prog 152 9 1 16:=⟨rfl,⟨_,_,rfl,rfl,rfl,rfl,rfl⟩,by decide⟩
theorem jX:Elem Tryz.prog 60 173 6 80:=⟨rfl,⟨_,_,rfl,rfl,rfl,rfl,rfl⟩,by decide⟩
theorem jAi (l:List Ro) (v:Value) (w:World) (hv:Sl w v (cellsOf roC l) l.length) (hl:l.length<=1000):
  Calls Tryz.prog 61 #[v] w fun e w'=>∃v',e= .returned v'/\Sat (base w) [jM v' 94 4 l.length (cellsOf roC l)] w':=by
 obtain ⟨a,c,rfl,_⟩:=hv.2;refine zE Tryz.func61 I [(0,.slice a l.length c)] (zh ?_);refine QW I I I I (zh ?_);refine HR.cond I (fun h=>?_) (fun h=>?_)
 ·have ha:a=none:=by simpa using h
  have hz:l=[]:=by
   subst ha;rcases hv.1 with ⟨_,h0,_⟩|⟨b,off,cap,he,_⟩
   ·exact List.eq_nil_of_length_eq_zero h0
   ·cases he
  subst hz;refine zh ?_;refine HR.J6 94 4 (HR.ret Tryz.func61 I [_] (fun _ _=>⟨I,trivial⟩) ?_)
  exact fun w' hw=>⟨.slice none 0 0,rfl,hw⟩
 ·refine zh ?_;refine qh jZ I ?_;intro v1;refine zh ?_;refine qJ 0 I jZ (qA hv) I I I (jA jP _) (jR jEw _) (by omega) (by omega) ?_;intro v2;refine zh ?_;refine HR.ret Tryz.func61 I [_] (fun _ _=>⟨I,trivial⟩) ?_
  exact fun w' hw=>⟨v2,rfl,qC (Nat.zero_add _) (List.nil_append _) w' hw⟩
theorem jDL (l:List Li) (v:Value) (w:World) (hv:Sl w v (cellsOf liC l) l.length) (hl:l.length<=1000):
  Calls Tryz.prog 131 #[v] w fun e w'=>∃v',e= .returned v'/\Sat (base w) [jM v' 162 3 l.length (cellsOf liC l)] w':=by
 obtain ⟨a,c,rfl,_⟩:=hv.2;refine zE Tryz.func131 I [(0,.slice a l.length c)] (zh ?_);refine QW I I I I (zh ?_);refine HR.cond I (fun h=>?_) (fun h=>?_)
 ·have ha:a=none:=by simpa using h
  have hz:l=[]:=by
   subst ha;rcases hv.1 with ⟨_,h0,_⟩|⟨b,off,cap,he,_⟩
   ·exact List.eq_nil_of_length_eq_zero h0
   ·cases he
  subst hz;refine zh ?_;refine HR.J6 162 3 (HR.ret Tryz.func131 I [_] (fun _ _=>⟨I,trivial⟩) ?_)
  exact fun w' hw=>⟨.slice none 0 0,rfl,hw⟩
 ·refine zh ?_;refine qh JG I ?_;intro v1;refine zh ?_;refine qJ 0 I JG (qA hv) I I I (jA jd _) (jR jBc _) (by omega) (by omega) ?_;intro v2;refine zh ?_;refine HR.ret Tryz.func131 I [_] (fun _ _=>⟨I,trivial⟩) ?_
  exact fun w' hw=>⟨v2,rfl,qC (Nat.zero_add _) (List.nil_append _) w' hw⟩
theorem KJ (l:List Sn) (v:Value) (w:World) (hv:Sl w v (cellsOf snC l) l.length) (hl:l.length<=1000):
  Calls Tryz.prog 133 #[v] w fun e w'=>∃v',e= .returned v'/\Sat (base w) [jM v' 131 11 l.length (cellsOf snC l)] w':=by
 obtain ⟨a,c,rfl,_⟩:=hv.2;refine zE Tryz.func133 I [(0,.slice a l.length c)] (zh ?_);refine QW I I I I (zh ?_);refine HR.cond I (fun h=>?_) (fun h=>?_)
 ·have ha:a=none:=by simpa using h
  have hz:l=[]:=by
   subst ha;rcases hv.1 with ⟨_,h0,_⟩|⟨b,off,cap,he,_⟩
   ·exact List.eq_nil_of_length_eq_zero h0
   ·cases he
  subst hz;refine zh ?_;refine HR.J6 131 11 (HR.ret Tryz.func133 I [_] (fun _ _=>⟨I,trivial⟩) ?_)
  exact fun w' hw=>⟨.slice none 0 0,rfl,hw⟩
 ·refine zh ?_;refine qh jy I ?_;intro v1;refine zh ?_;refine qJ 0 I jy (qA hv) I I I (jA jU _) (jR KS _) (by omega) (by omega) ?_;intro v2;refine zh ?_;refine HR.ret Tryz.func133 I [_] (fun _ _=>⟨I,trivial⟩) ?_
  exact fun w' hw=>⟨v2,rfl,qC (Nat.zero_add _) (List.nil_append _) w' hw⟩
theorem jAk (l:List Ma) (v:Value) (w:World) (hv:Sl w v (cellsOf maC l) l.length) (hl:l.length<=1000):
  Calls Tryz.prog 134 #[v] w fun e w'=>∃v',e= .returned v'/\Sat (base w) [jM v' 166 10 l.length (cellsOf maC l)] w':=by
 obtain ⟨a,c,rfl,_⟩:=hv.2;refine zE Tryz.func134 I [(0,.slice a l.length c)] (zh ?_);refine QW I I I I (zh ?_);refine HR.cond I (fun h=>?_) (fun h=>?_)
 ·have ha:a=none:=by simpa using h
  have hz:l=[]:=by
   subst ha;rcases hv.1 with ⟨_,h0,_⟩|⟨b,off,cap,he,_⟩
   ·exact List.eq_nil_of_length_eq_zero h0
   ·cases he
  subst hz;refine zh ?_;refine HR.J6 166 10 (HR.ret Tryz.func134 I [_] (fun _ _=>⟨I,trivial⟩) ?_)
  exact fun w' hw=>⟨.slice none 0 0,rfl,hw⟩
 ·refine zh ?_;refine qh JB I ?_;intro v1;refine zh ?_;refine qJ 0 I JB (qA hv) I I I (jA j4 _) (jR jBa _) (by omega) (by omega) ?_;intro v2;refine zh ?_;refine HR.ret Tryz.func134 I [_] (fun _ _=>⟨I,trivial⟩) ?_
  exact fun w' hw=>⟨v2,rfl,qC (Nat.zero_add _) (List.nil_append _) w' hw⟩
theorem jAj (l:List Pr) (v:Value) (w:World) (hv:Sl w v (cellsOf prC l) l.length) (hl:l.length<=1000):
  Calls Tryz.prog 137 #[v] w fun e w'=>∃v',e= .returned v'/\Sat (base w) [jM v' 171 2 l.length (cellsOf prC l)] w':=by
 obtain ⟨a,c,rfl,_⟩:=hv.2;refine zE Tryz.func137 I [(0,.slice a l.length c)] (zh ?_);refine QW I I I I (zh ?_);refine HR.cond I (fun h=>?_) (fun h=>?_)
 ·have ha:a=none:=by simpa using h
  have hz:l=[]:=by
   subst ha;rcases hv.1 with ⟨_,h0,_⟩|⟨b,off,cap,he,_⟩
   ·exact List.eq_nil_of_length_eq_zero h0
   ·cases he
  subst hz;refine zh ?_;refine HR.J6 171 2 (HR.ret Tryz.func137 I [_] (fun _ _=>⟨I,trivial⟩) ?_)
  exact fun w' hw=>⟨.slice none 0 0,rfl,hw⟩
 ·refine zh ?_;refine qh Zm I ?_;intro v1;refine zh ?_;refine qJ 0 I Zm (qA hv) I I I (jA J9 _) (jR jMi _) (by omega) (by omega) ?_;intro v2;refine zh ?_;refine HR.ret Tryz.func137 I [_] (fun _ _=>⟨I,trivial⟩) ?_
  exact fun w' hw=>⟨v2,rfl,qC (Nat.zero_add _) (List.nil_append _) w' hw⟩
theorem jDM (l:List De) (v:Value) (w:World) (hv:Sl w v (cellsOf deC l) l.length) (hl:l.length<=1000):
  Calls Tryz.prog 59 #[v] w fun e w'=>∃v',e= .returned v'/\Sat (base w) [jM v' 65 2 l.length (cellsOf deC l)] w':=by
 obtain ⟨a,c,rfl,_⟩:=hv.2;refine zE Tryz.func59 I [(0,.slice a l.length c)] (zh ?_);refine QW I I I I (zh ?_);refine HR.cond I (fun h=>?_) (fun h=>?_)
 ·have ha:a=none:=by simpa using h
  have hz:l=[]:=by
   subst ha;rcases hv.1 with ⟨_,h0,_⟩|⟨b,off,cap,he,_⟩
   ·exact List.eq_nil_of_length_eq_zero h0
   ·cases he
  subst hz;refine zh ?_;refine HR.J6 65 2 (HR.ret Tryz.func59 I [_] (fun _ _=>⟨I,trivial⟩) ?_)
  exact fun w' hw=>⟨.slice none 0 0,rfl,hw⟩
 ·refine zh ?_;refine qh jAb I ?_;intro v1;refine zh ?_;refine qJ 0 I jAb (qA hv) I I I (jA jAh _) (jR jNu _) (by omega) (by omega) ?_;intro v2;refine zh ?_;refine HR.ret Tryz.func59 I [_] (fun _ _=>⟨I,trivial⟩) ?_
  exact fun w' hw=>⟨v2,rfl,qC (Nat.zero_add _) (List.nil_append _) w' hw⟩
theorem jEf (l:List Bool) (v:Value) (w:World) (hv:Sl w v (cellsOf bC l) l.length) (hl:l.length<=140737488355328):
  Calls Tryz.prog 138 #[v] w fun e w'=>∃v',e= .returned v'/\Sat (base w) [jM v' 4 1 l.length (cellsOf bC l)] w':=by
 obtain ⟨a,c,rfl,_⟩:=hv.2;refine zE Tryz.func138 I [(0,.slice a l.length c)] (zh ?_);refine QW I I I I (zh ?_);refine HR.cond I (fun h=>?_) (fun h=>?_)
 ·have ha:a=none:=by simpa using h
  have hz:l=[]:=by
   subst ha;rcases hv.1 with ⟨_,h0,_⟩|⟨b,off,cap,he,_⟩
   ·exact List.eq_nil_of_length_eq_zero h0
   ·cases he
  subst hz;refine zh ?_;refine HR.J6 4 1 (HR.ret Tryz.func138 I [_] (fun _ _=>⟨I,trivial⟩) ?_)
  exact fun w' hw=>⟨.slice none 0 0,rfl,hw⟩
 ·refine zh ?_;refine qh J4 I ?_;intro v1;refine zh ?_;refine qJ 0 I J4 (qA hv) I I I (jA jBF _) (jR jPC _) (by omega) (by omega) ?_;intro v2;refine zh ?_;refine HR.ret Tryz.func138 I [_] (fun _ _=>⟨I,trivial⟩) ?_
  exact fun w' hw=>⟨v2,rfl,qC (Nat.zero_add _) (List.nil_append _) w' hw⟩
theorem jEe (l:List By) (v:Value) (w:World) (hv:Sl w v (cellsOf sC l) l.length) (hl:l.length<=8796093022208):
  Calls Tryz.prog 139 #[v] w fun e w'=>∃v',e= .returned v'/\Sat (base w) [jM v' 9 1 l.length (cellsOf sC l)] w':=by
 obtain ⟨a,c,rfl,_⟩:=hv.2;refine zE Tryz.func139 I [(0,.slice a l.length c)] (zh ?_);refine QW I I I I (zh ?_);refine HR.cond I (fun h=>?_) (fun h=>?_)
 ·have ha:a=none:=by simpa using h
  have hz:l=[]:=by
   subst ha;rcases hv.1 with ⟨_,h0,_⟩|⟨b,off,cap,he,_⟩
   ·exact List.eq_nil_of_length_eq_zero h0
   ·cases he
  subst hz;refine zh ?_;refine HR.J6 9 1 (HR.ret Tryz.func139 I [_] (fun _ _=>⟨I,trivial⟩) ?_)
  exact fun w' hw=>⟨.slice none 0 0,rfl,hw⟩
 ·refine zh ?_;refine qh ZB I ?_;intro v1;refine zh ?_;refine qJ 0 I ZB (qA hv) I I I (jA jCg _) (jR jMD _) (by omega) (by omega) ?_;intro v2;refine zh ?_;refine HR.ret Tryz.func139 I [_] (fun _ _=>⟨I,trivial⟩) ?_
  exact fun w' hw=>⟨v2,rfl,qC (Nat.zero_add _) (List.nil_append _) w' hw⟩
end Go.Proofs.YtgfdoognildoeaaGreat
