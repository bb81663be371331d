/- A part of the proof: contracts of the program's functions. Conditions: none. -/
import Derived.Carry
import Derived.Deep.MidRow
import Derived.Deep.Quiet
import Derived.Laws.IdiomRangeMap
import Derived.Laws.MakeOwn
import Derived.Laws.StructEq
import Derived.Laws.Tables
import Derived.Lib.AppendStr
import Derived.Lib.AppendZerosOnto
import Derived.Lib.OthersKept
import Derived.Lib.Overlaps
import Derived.Lib.OwnBridge
import Derived.Lib.SlicesCompact
import Derived.MapKept
import Derived.Orders
import Derived.OrdersHeld
import Derived.Scope
import Derived.Sort.Grow
import Derived.StillTail
import Derived.Test.YtgfdoognildoeaaGreatProg
import Derived.Test.YtgfdoognildoeaaGreatShelf
import Derived.WalkKit
import Derived.WalkLawsBesides
import Derived.WalkSpells
import Derived.Test.YtgfdoognildoeaaGreatQB1
import Derived.Test.YtgfdoognildoeaaGreatQB2
import Derived.Test.YtgfdoognildoeaaGreatQB3
import Derived.Test.YtgfdoognildoeaaGreatQB4
import Derived.Test.YtgfdoognildoeaaGreatQB5
import Derived.Test.YtgfdoognildoeaaGreatQB6
import Derived.Test.YtgfdoognildoeaaGreatQB7
import Derived.Test.YtgfdoognildoeaaGreatQB8
set_option linter.unusedVariables false
set_option linter.unusedSectionVars false
set_option linter.unusedSimpArgs false
set_option maxRecDepth 100000
set_option maxHeartbeats 4000000
namespace Go.Proofs.YtgfdoognildoeaaGreat
open Go.GX Go.RowKit
attribute [local irreducible] Calls Run jg jh JU HR HL HD jU jK Jc Rd jL jd
open Nd
theorem jRB:IsFn Tryz.prog 135:=⟨⟨_,_,Tryz.func135,rfl,by decide⟩⟩
theorem fn136:IsFn Tryz.prog 136:=⟨⟨_,_,Tryz.func136,rfl,by decide⟩⟩
theorem fn114:IsFn Tryz.prog 114:=⟨⟨_,_,Tryz.func114,rfl,by decide⟩⟩
theorem jQE:IsFn Tryz.prog 49:=⟨⟨_,_,Tryz.func49,rfl,by decide⟩⟩
theorem fn171:IsFn Tryz.prog 171:=⟨⟨_,_,Tryz.func171,rfl,by decide⟩⟩
theorem jSe:IsFn Tryz.prog 172:=⟨⟨_,_,Tryz.func172,rfl,by decide⟩⟩
theorem jB5 (v:Value) (n:Nat) (zs:List Int) (w:World) (hv:Vw w v 3 1 n (cellsOf iC zs)) (hn:n≤1000000):
  Calls Tryz.prog 135 #[v] w fun e w'=>∃x:Unit,e= .returned (.tuple #[])∧True∧Sat ⟨w,Zi [jK v 3 1 n (cellsOf iC zs)]⟩ [jK v 3 1 n (cellsOf iC (Tf.srt zs))] w':=by
 have hl:zs.length=n:=by have:=hv.1;rw[jC KH]at this;omega
 have stay:n=0→(∃ p cap,v= .slice p 0 cap)→Calls Tryz.prog 135 #[v] w fun e w'=>∃x:Unit,e= .returned (.tuple #[])∧True∧Sat ⟨w,Zi [jK v 3 1 n (cellsOf iC zs)]⟩ [jK v 3 1 n (cellsOf iC (Tf.srt zs))] w':=by
  intro h0 hp
  obtain ⟨p,cap,rfl⟩:=hp
  have hz:zs=[]:=List.eq_nil_of_length_eq_zero (by omega)
  subst hz
  refine (Tryz.slices_Sort_int_none p cap w).mono ?_
  rintro e w' ⟨rfl,rfl⟩
  exact ⟨(),rfl,trivial,by simpa[Tf.srt]using Sat.jLL hv⟩
 rcases hv.2 with ⟨rfl,h0⟩|⟨g,off,cap,cur,rfl,_⟩
 ·exact stay h0 ⟨none,0,rfl⟩
 ·have hv':Vw w (.slice (some ⟨g,off,none⟩) n cap) 3 1 n (zs.map (Value.int .i64)):=by rw[← Jt];exact hv
  obtain ⟨h1,h2,h3⟩:=hv'.holds
  have:=Tryz.slices_Sort_int g off cap zs w h3 h1 (by omega)
  rw[hl]at this
  refine this.mono ?_
  rintro e w' ⟨rfl,q,os,rfl⟩
  exact ⟨(),rfl,trivial,Sat.jP8 (enc:=Value.int .i64) (zs:=zs) (ys:=Tf.srt zs) hv (by rw[(List.mergeSort_perm _ _).length_eq];exact hl)⟩
theorem jF3 (v:Value) (n:Nat) (zs:List Int) (w:World) (hv:Vw w v 3 1 n (cellsOf iC zs)) (hn:n≤1000000):
  Calls Tryz.prog 136 #[v] w fun e w'=>∃x:Value,e= .returned x∧True∧Sat ⟨w,Zi [jK v 3 1 n (cellsOf iC zs)]⟩ [jK x 3 1 (Lib.compact zs).length (cellsOf iC (Lib.compact zs))] w':=by
 have hl:zs.length=n:=by have:=hv.1;rw[jC KH]at this;omega
 have stay:n=0→(∃ p cap,v= .slice p 0 cap)→Calls Tryz.prog 136 #[v] w fun e w'=>∃x:Value,e= .returned x∧True∧Sat ⟨w,Zi [jK v 3 1 n (cellsOf iC zs)]⟩ [jK x 3 1 (Lib.compact zs).length (cellsOf iC (Lib.compact zs))] w':=by
  intro h0 hp
  obtain ⟨p,cap,rfl⟩:=hp
  have hz:zs=[]:=List.eq_nil_of_length_eq_zero (by omega)
  subst hz
  subst h0
  refine (Tryz.slices_Compact_int_empty p cap w).mono ?_
  rintro e w' ⟨rfl,rfl⟩
  exact ⟨_,rfl,trivial,Sat.jLL hv⟩
 rcases hv.2 with ⟨rfl,h0⟩|⟨g,off,cap,cur,rfl,_,hcap,_⟩
 ·exact stay h0 ⟨none,0,rfl⟩
 ·by_cases h0:n=0
  ·exact stay h0 ⟨_,cap,by rw[h0]⟩
  have hv':Vw w (.slice (some ⟨g,off,none⟩) n cap) 3 1 n (zs.map (Value.int .i64)):=by rw[← Jt];exact hv
  obtain ⟨h1',h2,h3⟩:=hv'.holds
  have hcl:(Lib.compact zs).length≤n:=by rw[← hl];exact Lib.compact_length_le zs
  have:=Tryz.slices_Compact_int g off cap zs w h3 (by omega) (by omega)
  rw[hl]at this
  refine this.mono ?_
  rintro e w' ⟨rfl,q,rfl⟩
  exact ⟨_,rfl,trivial,Sat.jS2 (Sat.jQc (enc:=Value.int .i64) (q:=q) (zs:=zs) (ys:=Lib.compact zs++List.replicate (n-(Lib.compact zs).length) 0) hv (by simp;omega)) hcl (by simp)⟩
theorem jPZ (l:List Int) (p:Int) (v:Value) (w:World) (hv:Sl w v (cellsOf iC l) l.length) (hl:l.length≤1000000):
  Calls Tryz.prog 114 #[v,.int .i64 p] w fun e w'=>e= .returned (.int .i64 (fidx (fun x=>decide (x=p)) l))∧Below w.heap.size w w':=by
 refine jB Tryz.func114 I (Nat.le_of_ble_eq_true I) ?_
 refine HR.sub (σ':=[(0,v),(1,.int .i64 p)]) ⟨I,I,trivial⟩ ?_
 repeat' (first|refine zh ?_|refine HL.j4 (Rd.arg hv) I I I ?_|intro (bk:Nat))
 refine HR.loop (ι:=Nat) (fun k=>k≤l.length∧∀j b,j<k→l[j]? =some b→decide (b=p)=false) (fun k=>[(0,v),(1,.int .i64 p),(7,.int .i64 (l.length:Int)),(8,.int .i64 (k:Int))]) (fun _=>[]) (fun k=>l.length-k) 0 ⟨Nat.zero_le _,fun j b hj=>absurd hj (Nat.not_lt_zero _)⟩ ⟨I,I,I,I,trivial⟩ Ent.refl ?_
 rintro k ⟨hk,hno⟩ ih
 repeat' (first|refine zh ?_|intro (bk:Nat))
 refine HR.cond I (fun h2=>?_) (fun h2=>?_)
 ·have hlt:k<l.length:=by have:=of_decide_eq_true h2;omega
  obtain ⟨x,hx⟩:=jH hlt
  repeat' (first|refine zh ?_|refine HL.jw (Rd.arg hv) Jg k I I I I hlt ?_|refine HL.jY (Rd.arg hv) I I I I (jV hx) ?_|intro (bk:Nat))
  refine HR.cond I (fun h3=>?_) (fun h3=>?_)
  ·have h3:p=x:=eq_of_beq h3
   repeat' (first|refine zh ?_|intro (bk:Nat))
   refine HR.ret Tryz.func114 I [_] (fun _ _=>⟨I,trivial⟩) ?_
   rw[Zq hx (decide_eq_true h3.symm) hno]
   exact fun w' hw=>⟨rfl,hw.jE⟩
  ·have h3:decide (x=p)=false:=by
    refine decide_eq_false fun e=>?_
    subst e
    simp at h3
   repeat' (first|refine zh ?_|intro (bk:Nat))
   refine ih (k+1) _ _ ⟨hlt,fun j b hj hb=>?_⟩ (by omega) ⟨I,I,I,I,trivial⟩ Ent.refl
   by_cases e:j=k
   ·subst e;rw[hx]at hb;cases hb;exact h3
   ·exact hno j b (by omega) hb
 ·have hke:k=l.length:=by have:=of_decide_eq_false h2;omega
  subst hke
  rw[zK hno]
  repeat' (first|refine zh ?_|intro (bk:Nat))
  refine HR.ret Tryz.func114 I [_] (fun _ _=>⟨I,trivial⟩) ?_
  exact fun w' hw=>⟨rfl,hw.jE⟩
theorem jPw (l:List Int) (p:Int):l.any (fun x=>decide (x=p))=decide (p∈l):=by
 by_cases h:p∈l
 ·rw [decide_eq_true h,List.any_eq_true];exact ⟨p,h,by simp⟩
 ·rw [decide_eq_false h,← Bool.not_eq_true,List.any_eq_true]
  rintro ⟨x,hx,e⟩
  exact h (of_decide_eq_true e▸hx)
theorem ZP (l:List Int) (p:Int) (v:Value) (w:World) (hv:Sl w v (cellsOf iC l) l.length) (hl:l.length≤1000000):
  Calls Tryz.prog 49 #[v,.int .i64 p] w fun e w'=>e= .returned (.bool (decide (p∈l)))∧Below w.heap.size w w':=by
 rw[← jPw,← jBz]
 refine jB Tryz.func49 I (Nat.le_of_ble_eq_true I) ?_
 refine HR.sub (σ':=[(0,v),(1,.int .i64 p)]) ⟨I,I,trivial⟩ ?_
 repeat' (first|refine zh ?_|refine HL.jN fn114 I I (fun w hw=>jPZ l p v w ((Rd.arg hv).at hw) hl) ?_|intro (bk:Nat))
 refine HR.ret Tryz.func49 I [_] (fun _ _=>⟨I,trivial⟩) ?_
 exact fun w' hw=>⟨rfl,hw.jE⟩
theorem jMx (bt:Nat) (to c:Int) (w:World) (hb:Sl w (.slice (some ⟨bt,0,none⟩) 1 1) [.int .i64 to] 1):Calls Tryz.prog 172 #[.int .i64 c,.pointer (some ⟨bt,0,none⟩)] w fun e w'=>e= .returned (.bool (c==to))∧Below w.heap.size w w':=by
 refine jB Tryz.func172 I (Nat.le_of_ble_eq_true I) ?_
 refine HR.sub (σ':=[(0,.int .i64 c),(1,.pointer (some ⟨bt,0,none⟩))]) ⟨I,I,trivial⟩ ?_
 repeat' (first|refine zh ?_|refine HL.jY (j:=0) (Rd.arg hb) I I I I I ?_|intro (bk:Nat))
 refine HR.ret Tryz.func172 I [_] (fun _ _=>⟨I,trivial⟩) ?_
 exact fun w' hw=>⟨rfl,hw.jE⟩
theorem kF {l:List Int} {p:Int→Bool} {k:Nat} {x:Int} (hx:l[k]? =some x):(l.take (k+1)).filter p=if p x=true then (l.take k).filter p++[x]else (l.take k).filter p:=by
 obtain ⟨hk,rfl⟩:=List.getElem?_eq_some_iff.1 hx
 rw[List.take_succ_eq_append_getElem hk,List.filter_append]
 by_cases h:p l[k]=true
 ·simp [h]
 ·simp [h]
theorem jRH {α:Type} {p:α→Bool} {l:List α} (h:fidx p l= -1):∀a∈l,p a=false:=by
 rcases Jr p l with ⟨_,_,h2⟩|⟨k,b,e,_⟩
 ·exact h2
 ·omega
theorem jNG (l:List Int) (to:Int) (bt:Nat) (v:Value) (B0:Base) (w:World) (hw0:Sat B0 [jK v 3 1 l.length (cellsOf iC l),jU bt [.int .i64 to] 3] w) (hl:l.length≤1000000):
  Calls Tryz.prog 171 #[v,.func (.func 172) #[] #[.pointer (some ⟨bt,0,none⟩)]] w fun e w'=>∃r:Value,e= .returned r∧True∧Sat ⟨w,Zi [jK v 3 1 l.length (cellsOf iC l),jU bt [.int .i64 to] 3]⟩ [jK r 3 1 (l.filter fun c=>!(c==to)).length (cellsOf iC (l.filter fun c=>!(c==to))),jU bt [.int .i64 to] 3] w':=by
 refine ji [jK v 3 1 l.length (cellsOf iC l),jU bt [.int .i64 to] 3] (hw0) Tryz.func171 I (Nat.le_of_ble_eq_true I) ?_
 refine HR.sub (σ':=[(0,v),(1,.func (.func 172) #[] #[.pointer (some ⟨bt,0,none⟩)])]) ⟨I,I,trivial⟩ ?_
 repeat' (first|refine zh ?_|refine HL.jN fn227 I I (fun w1 hw1=>jHM l (fun c=>c==to) 172 [.pointer (some ⟨bt,0,none⟩)] v w1 jSe (fun a ha w2 hb=>jMx bt to a w2 (((Rd.blk (n:=1) 1 rfl).at hw1).ext hb)) ((Rd.own 0 rfl).at hw1) hl) ?_|intro (bk:Nat))
 refine HR.cond I (fun h=>?_) (fun h=>?_)
 ·have h:fidx (fun c=>c==to) l= -1:=eq_of_beq h
  have e:(l.filter fun c=>!(c==to))=l:=List.filter_eq_self.2 fun a ha=>by have:=jRH h a ha;simpa using this
  rw[e]
  repeat' (first|refine zh ?_|intro (bk:Nat))
  refine HR.ret Tryz.func171 I [_] (fun _ _=>⟨I,trivial⟩) ?_
  exact fun w' hw=>⟨v,rfl,trivial,hw⟩
 have h:¬fidx (fun c=>c==to) l= -1:=fun e=>by rw[e]at h;exact absurd h (by decide)
 rcases Jr (fun c=>c==to) l with ⟨h2,_⟩|⟨i0,a0,e0,_,ha0,hp0,hno0⟩
 ·exact absurd h2 h
 have hp0:(a0==to)=true:=hp0
 rw[e0]
 have hi0:i0<l.length:=(List.getElem?_eq_some_iff.1 ha0).1
 have ht0:(l.take (i0+1)).filter (fun c=>!(c==to))=l.take i0:=by
  rw[kF ha0,if_neg (by simp[hp0])]
  refine List.filter_eq_self.2 fun a ha=>?_
  obtain ⟨j,hj,rfl⟩:=List.getElem_of_mem ha
  rw[List.length_take]at hj
  have:=hno0 j _ (by omega) (List.getElem?_eq_getElem (by omega))
  rw[List.getElem_take]
  simpa using this
 refine HR.row 0 I (by omega) fun g off c hv hnc hcm=>?_
 have hcm:c≤9223372036854775807:=hcm
 repeat' (first|refine zh ?_|intro (bk:Nat))
 obtain ⟨F,hF⟩:∃F:Nat→Nat,F=fun k=>((l.take k).filter fun c=>!(c==to)).length:=⟨_,rfl⟩
 have hF0:F (i0+1)=i0:=by rw[hF];show ((l.take (i0+1)).filter _).length=i0;rw[ht0,List.length_take];omega
 refine HR.loop (ι:=Nat×List Int) (fun x=>x.1≤l.length∧x.2.length=l.length∧F x.1<x.1∧x.2.take (F x.1)=(l.take x.1).filter (fun c=>!(c==to))∧x.2.drop x.1=l.drop x.1) (fun x=>[(0,v),(1,.func (.func 172) #[] #[.pointer (some ⟨bt,0,none⟩)]),(5,.int .i64 (F x.1:Int)),(6,.int .i64 (x.1:Int))]) (fun x=>[jK v 3 1 l.length (cellsOf iC x.2),jU bt [.int .i64 to] 3]) (fun x=>l.length-x.1) (i0+1,l) ⟨by show i0+1≤_;omega,rfl,by show F (i0+1)<i0+1;omega,by show l.take (F (i0+1))=_;rw[hF0,ht0],rfl⟩ (by rw[hF0];exact ⟨I,I,I,I,trivial⟩) Ent.refl ?_
 rintro ⟨k,X⟩ ⟨hk,hX,hFk,hT,hD⟩ ih
 have hk:k≤l.length:=hk
 have hX:X.length=l.length:=hX
 have hFk:F k<k:=hFk
 have hT:X.take (F k)=(l.take k).filter (fun c=>!(c==to)):=hT
 have hD:X.drop k=l.drop k:=hD
 have hTl:F k=((l.take k).filter fun c=>!(c==to)).length:=by rw[hF]
 repeat' (first|refine zh ?_|refine HL.j4 (Rd.own 0 I) I I I ?_|intro (bk:Nat))
 refine HR.cond I (fun h2=>?_) (fun h2=>?_)
 ·have hlt:k<l.length:=by have:=of_decide_eq_true h2;omega
  obtain ⟨x,hx⟩:=jH hlt
  have hxX:X[k]? =some x:=by
   have e1:(X.drop k)[0]? =X[k]? :=by rw[List.getElem?_drop];rfl
   have e2:(l.drop k)[0]? =l[k]? :=by rw[List.getElem?_drop];rfl
   rw[← e1,hD,e2,hx]
  have hnext:=kF (p:=fun c=>!(c==to)) hx
  have hD1:X.drop (k+1)=l.drop (k+1):=by
   rw[← List.drop_drop,← List.drop_drop,hD]
  repeat' (first|refine zh ?_|refine HL.jw (Rd.own 0 I) Jg k I I I I hlt ?_|refine HL.jY (Rd.own 0 I) I I I I (jV hxX) ?_|refine HL.jEi (caps:=[.pointer (some ⟨bt,0,none⟩)]) jSe I I I (fun w1 hw1=>jMx bt to x w1 ((Rd.blk (n:=1) 1 rfl).at hw1)) ?_|intro (bk:Nat))
  refine HR.cond I (fun h3=>?_) (fun h3=>?_)
  ·have h3:(!(x==to))=true:=h3
   rw[if_pos h3]at hnext
   have hF1:F (k+1)=F k+1:=by rw[hTl,hF];show ((l.take (k+1)).filter _).length=_;rw[hnext,List.length_append];rfl
   repeat' (first|refine zh ?_|refine HL.jw (Rd.own 0 I) Jg (F k) I I I I (by omega) ?_|refine HL.KD (j:=F k*1) 0 I I I I I I I (by rw[jC KH];omega) ?_|intro (bk:Nat))
   refine ih (k+1,X.set (F k) x) _ _ ⟨hlt,?_,?_,?_,?_⟩ (by show l.length-(k+1)<l.length-k;omega) ?_ (Ent.JM I ?_)
   ·show (X.set (F k) x).length=_;rw[List.length_set];exact hX
   ·show F (k+1)<k+1;omega
   ·show (X.set (F k) x).take (F (k+1))=(l.take (k+1)).filter _
    rw[hnext,← hT,hF1,List.take_succ_eq_append_getElem (by rw[List.length_set];omega),List.take_set_of_le (by omega),List.getElem_set_self]
   ·show (X.set (F k) x).drop (k+1)=_
    rw[List.drop_set_of_lt (by omega),hD1]
   ·show Sub [_,_,(5,Value.int .i64 (F (k+1):Int)),_] _
    rw[hF1]
    exact ⟨I,I,I,I,trivial⟩
   ·obtain ⟨y,hy⟩:=jH (l:=X) (j:=F k) (by omega)
    exact J2 (i:=0) KH hy I (by decide)
  ·have h3:(!(x==to))=false:=h3
   rw[if_neg (by rw[h3];decide)]at hnext
   have hF1:F (k+1)=F k:=by rw[hTl,hF];show ((l.take (k+1)).filter _).length=_;rw[hnext]
   repeat' (first|refine zh ?_|intro (bk:Nat))
   refine ih (k+1,X) _ _ ⟨hlt,hX,by show F (k+1)<k+1;omega,by show X.take (F (k+1))=(l.take (k+1)).filter _;rw[hF1,hnext,hT],hD1⟩ (by show l.length-(k+1)<l.length-k;omega) ?_ Ent.refl
   show Sub [_,_,(5,Value.int .i64 (F (k+1):Int)),_] _
   rw[hF1]
   exact ⟨I,I,I,I,trivial⟩
 ·have hke:k=l.length:=by have:=of_decide_eq_false h2;omega
  subst hke
  subst hv
  rw[List.take_length]at hT hTl
  repeat' (first|refine zh ?_|refine HL.cut (sz:=1) (F l.length) l.length c I I I I (.inr ⟨_,_,rfl,rfl⟩) (.inl ⟨rfl,rfl,rfl⟩) (.inl ⟨rfl,rfl⟩) (by omega) hnc (Nat.le_refl _) ?_|intro (bk:Nat))
  refine HL.jCx (ZJ (by omega)) ?_
  refine HL.jJS (F l.length) 0 I I I I I I (by decide) I (by omega) ?_
  repeat' (first|refine zh ?_|refine HL.cut (sz:=1) 0 (F l.length) c I I I I (.inl ⟨rfl,rfl⟩) (.inr ⟨_,_,rfl,rfl⟩) (.inl ⟨rfl,rfl⟩) (by omega) (by omega) (Nat.le_refl _) ?_|intro (bk:Nat))
  refine HR.ret Tryz.func171 I [_] (fun _ _=>⟨I,trivial⟩) ?_
  refine fun w' hw=>⟨_,rfl,trivial,?_⟩
  have hc0:cutV 1 (some ⟨g,off,none⟩) 0 (F l.length) c= .slice (some ⟨g,off,none⟩) (l.filter fun c=>!(c==to)).length c:=by
   rw[ZJ (by omega),← hTl];simp
  rw[hc0]
  refine Sat.cutK hw (by omega) ?_
  rw[← hTl,← hT,List.take_append_of_le_length (by simp[jC KH];omega),List.take_take,Nat.min_self,JW KH]
end Go.Proofs.YtgfdoognildoeaaGreat
namespace Go.Proofs.YtgfdoognildoeaaGreat
open Go.GX Go.RowKit
attribute [local irreducible] Calls Run jg jh JU HR HL HD jU jK Jc Rd jL jd
open Nd
theorem jSX:IsFn Tryz.prog 211:=⟨⟨_,_,Tryz.func211,rfl,by decide⟩⟩
theorem jSY:IsFn Tryz.prog 210:=⟨⟨_,_,Tryz.func210,rfl,by decide⟩⟩
theorem fn265:IsFn Tryz.prog 265:=⟨⟨_,_,Tryz.func265,rfl,by decide⟩⟩
theorem fn159:IsFn Tryz.prog 159:=⟨⟨_,_,Tryz.func159,rfl,by decide⟩⟩
theorem fn156:IsFn Tryz.prog 156:=⟨⟨_,_,Tryz.func156,rfl,by decide⟩⟩
theorem jB6 (b:Nat) (V:NV) (n:Nd) (now:Int) (B:Base) (w:World) (hw:Sat B (stH b V n now) w) (hl:n.table.length≤1000):
  Calls Tryz.prog 211 #[ptr b] w fun e w'=>∃_x:Unit,e= .returned (.int .i64 (number n))∧True∧Sat ⟨w,Zi (stH b V n now)⟩ (stH b V n now) w':=by
 refine ji (stH b V n now) (hw) Tryz.func211 I (Nat.le_of_ble_eq_true I) ?_
 refine HR.sub (σ':=[(0,ptr b)]) ⟨I,trivial⟩ ?_
 repeat' (first|refine zh ?_|intro (bk:Nat))
 refine HR.loop (ι:=Nat) (fun k=>k≤n.table.length∧∀j a,j<k→n.table[j]? =some a→(a.dest==n.addr)=false) (fun k=>[(0,ptr b),(9,sv V.ta n.table.length),(10,.int .i64 (n.table.length:Int)),(11,.int .i64 (k:Int))]) (fun _=>stH b V n now) (fun k=>n.table.length-k) 0 ⟨Nat.zero_le _,fun j a hj=>by omega⟩ ⟨I,I,I,I,trivial⟩ Ent.refl ?_
 rintro k ⟨hk,hg⟩ ih
 repeat' (first|refine zh ?_|intro (bk:Nat))
 refine HR.cond I (fun h2=>?_) (fun h2=>?_)
 ·have hlt:k<n.table.length:=by have:=of_decide_eq_true h2;omega
  obtain ⟨x,hx⟩:=jH hlt
  repeat' (first|refine zh ?_|refine HL.jw (Rd.own 1 I) JE k I I I I hlt ?_|refine HL.JB (Rd.own 1 I) I I I I (by simp) I (jF jW hx) ?_|intro (bk:Nat))
  refine HR.jo JZ (by kernel_rfl) ?_
  repeat' (first|refine zq ?_|apply zb ?_ ?_|exact zc|(refine zi fun hb=>?_;try simp at hb))
  refine HR.cond I (fun h3=>?_) (fun h3=>?_)
  ·have h3:(x.dest==n.addr)=true:=h3
   have hf:rat n.table n.addr=some x:=K6 hx h3 hg
   repeat' (first|refine zh ?_|intro (bk:Nat))
   refine HR.ret Tryz.func211 I [_] (fun _ _=>⟨I,trivial⟩) ?_
   exact fun w' hw=>⟨(),by rw[number,hf];rfl,trivial,hw.pick [1,2,3,4,5,6,7,8,9,10] I rfl⟩
  ·have h3:(x.dest==n.addr)=false:=h3
   repeat' (first|refine zh ?_|intro (bk:Nat))
   refine ih (k+1) _ _ ⟨hlt,fun j a hj ha=>?_⟩ (by omega) ⟨I,I,I,I,trivial⟩ (Ent.pick [1,2,3,4,5,6,7,8,9,10] I I)
   by_cases hjk:j=k
   ·subst hjk;rw[hx]at ha;cases ha;exact h3
   ·exact hg j a (by omega) ha
 ·have hke:k=n.table.length:=by have:=of_decide_eq_false h2;omega
  subst hke
  have hf:rat n.table n.addr=none:=List.find?_eq_none.2 fun a ha=>by
   obtain ⟨j,hj⟩:=List.getElem?_of_mem ha
   have:=hg j a (List.getElem?_eq_some_iff.1 hj).1 hj
   simp[this]
  repeat' (first|refine zh ?_|intro (bk:Nat))
  refine HR.ret Tryz.func211 I [_] (fun _ _=>⟨I,trivial⟩) ?_
  exact fun w' hw=>⟨(),by rw[number,hf];rfl,trivial,hw⟩
theorem jGT (bt:Nat) (k:Int) (x:Sn) (w:World) (hb:Sl w (.slice (some ⟨bt,0,none⟩) 1 1) [.int .i64 k] 1):Calls Tryz.prog 265 #[.agg ⟨snC x⟩,.pointer (some ⟨bt,0,none⟩)] w fun e w'=>e= .returned (.bool (x.f.kd==k))∧Below w.heap.size w w':=by
 refine jB Tryz.func265 I (Nat.le_of_ble_eq_true I) ?_
 refine HR.sub (σ':=[(0,.agg ⟨snC x⟩),(1,.pointer (some ⟨bt,0,none⟩))]) ⟨I,I,trivial⟩ ?_
 repeat' (first|refine zh ?_|refine HL.jY (j:=0) (Rd.arg hb) I I I I I ?_|intro (bk:Nat))
 refine HR.ret Tryz.func265 I [_] (fun _ _=>⟨I,trivial⟩) ?_
 exact fun w' hw=>⟨rfl,hw.jE⟩
theorem jDB (b:Nat) (V:NV) (n:Nd) (now k:Int) (B:Base) (w:World) (hw:Sat B (stH b V n now) w) (hl:n.out.length≤1000):
  Calls Tryz.prog 210 #[ptr b,.int .i64 k] w fun e w'=>∃_x:Unit,e= .returned (.bool (waits n k))∧True∧Sat ⟨w,Zi (stH b V n now)⟩ (stH b V n now) w':=by
 refine ji (stH b V n now) (hw) Tryz.func210 I (Nat.le_of_ble_eq_true I) ?_
 refine HR.sub (σ':=[(0,ptr b),(1,.int .i64 k)]) ⟨I,I,trivial⟩ ?_
 repeat' (first|refine zh ?_|refine HL.mkF (g:=265) (caps:=[_]) I I ?_|refine HL.jN fn264 I I (fun w1 hw1=>jHU n.out (fun x=>x.f.kd==k) 265 [.pointer (some ⟨bk,0,none⟩)] (sv V.ou n.out.length) w1 fn265 (fun a ha w2 hb=>jGT bk k a w2 (((Rd.blk (n:=1) 0 rfl).at hw1).ext hb)) ((Rd.own 4 rfl).at hw1) (by omega)) ?_|intro (bk:Nat))
 refine HR.ret Tryz.func210 I [_] (fun _ _=>⟨I,trivial⟩) ?_
 exact fun w' hw=>⟨(),rfl,trivial,hw.pick [1,2,3,4,5,6,7,8,9,10] I rfl⟩
theorem jNi (b:Nat) (V:NV) (n:Nd) (now:Int) (f:Fr) (B:Base) (w:World) (hw:Sat B (stH b V n now) w) (hl:n.table.length≤1000):
  Calls Tryz.prog 159 #[ptr b,.agg ⟨frC f⟩] w fun e w'=>∃_x:Unit,e= .returned (.tuple ⟨[.int .i64 (hop n f.ta).1,.bool (hop n f.ta).2]⟩)∧True∧Sat ⟨w,Zi (stH b V n now)⟩ (stH b V n now) w':=by
 refine ji (stH b V n now) (hw) Tryz.func159 I (Nat.le_of_ble_eq_true I) ?_
 refine HR.sub (σ':=[(0,ptr b),(1,.agg ⟨frC f⟩)]) ⟨I,I,trivial⟩ ?_
 repeat' (first|refine zh ?_|intro (bk:Nat))
 refine HR.cond I (fun h=>?_) (fun h=>?_)
 ·have h:n.poll>0:=of_decide_eq_true h
  have e:hop n f.ta=(n.parent,!(n.parent==255)):=by unfold hop;rw[if_pos h]
  rw[e]
  repeat' (first|refine zh ?_|intro (bk:Nat))
  refine HR.jo JZ (by kernel_rfl) ?_
  repeat' (first|refine zq ?_|apply zb ?_ ?_|exact zc|(refine zi fun hb=>?_;try simp at hb))
  refine HR.ret Tryz.func159 I [_,_] (fun _ _=>⟨I,I,trivial⟩) ?_
  exact fun w' hw=>⟨(),rfl,trivial,hw.pick [1,2,3,4,5,6,7,8,9,10] I rfl⟩
 ·have h:¬n.poll>0:=of_decide_eq_false h
  have e:hop n f.ta=KF n.table f.ta:=by unfold hop;rw[if_neg h]
  rw[e]
  repeat' (first|refine zh ?_|intro (bk:Nat))
  refine HR.j3 [(0,true),(1,true),(2,true),(3,true),(4,true),(5,true),(6,true),(7,false),(8,true),(9,true),(10,true),(11,true)] [0,1] I I JZ (by kernel_rfl) ?_
  repeat' (first|refine zd ?_|fail)
  refine HD.one I ?_
  refine HL.jN fn50 I I (fun w1 hw1=>jBn n.table f.ta _ w1 ((Rd.own 2 rfl).at hw1) hl) ?_
  refine HL.back [0,1] I I ?_
  repeat' (first|refine zd ?_|fail)
  refine HD.nil ?_
  repeat' (first|refine zh ?_|intro (bk:Nat))
  refine HR.ret Tryz.func159 I [_,_] (fun _ _=>⟨I,I,trivial⟩) ?_
  exact fun w' hw=>⟨(),rfl,trivial,hw.pick [1,2,3,4,5,6,7,8,9,10] I rfl⟩
theorem jJd (b:Nat) (V:NV) (n:Nd) (now c:Int) (B:Base) (w:World) (hw:Sat B (stH b V n now) w) (hl:n.table.length≤1000) (hc:n.children.length≤1000):
  Calls Tryz.prog 156 #[ptr b,.int .i64 c] w fun e w'=>∃_x:Unit,e= .returned (.bool (ZE n c))∧True∧Sat ⟨w,Zi (stH b V n now)⟩ (stH b V n now) w':=by
 refine ji (stH b V n now) (hw) Tryz.func156 I (Nat.le_of_ble_eq_true I) ?_
 refine HR.sub (σ':=[(0,ptr b),(1,.int .i64 c)]) ⟨I,I,trivial⟩ ?_
 repeat' (first|refine zh ?_|refine HL.jN fn50 I I (fun w1 hw1=>jBn n.table c _ w1 ((Rd.own 1 rfl).at hw1) hl) ?_|refine HL.jN jQE I I (fun w1 hw1=>ZP n.children c _ w1 ((Rd.own 4 rfl).at hw1) (by omega)) ?_|apply zb ?_ ?_|exact zc|(refine zi fun hb=>?_;try simp at hb)|intro (bk:Nat))
 refine HR.ret Tryz.func156 I [_] (fun _ _=>⟨I,trivial⟩) ?_
 exact fun w' hw=>⟨(),rfl,trivial,hw⟩
end Go.Proofs.YtgfdoognildoeaaGreat
namespace Go.Proofs.YtgfdoognildoeaaGreat
open Go.GX Go.RowKit
attribute [local irreducible] Calls Run jg jh JU HR HL HD jU jK Jc Rd jL jd
open Nd
theorem fn154:IsFn Tryz.prog 154:=⟨⟨_,_,Tryz.func154,rfl,by decide⟩⟩
theorem fn155:IsFn Tryz.prog 155:=⟨⟨_,_,Tryz.func155,rfl,by decide⟩⟩
theorem jNb {n:Nd} (h:Ord n):n.table.length≤24:=h.table.len
theorem jDu {n:Nd} (h:Ord n):Ord (bumped n):=(Zh (Good.refl h)).ord
theorem jGb (b:Nat) (V:NV) (n:Nd) (now:Int) (B:Base) (w:World) (hw:Sat B (stH b V n now) w) (ho:Ord n):
  Calls Tryz.prog 154 #[ptr b] w fun e w'=>∃x:SV×SV,e= .returned (.tuple ⟨[]⟩)∧True∧Sat ⟨w,Zi (stH b V n now)⟩ (stH b { V with ta:=x.1,ou:=x.2 } (ZQ n) now) w':=by
 have h24:=jNb ho
 have hm:=jDu ho
 have hm24:=jNb hm
 have hm16:=hm.out
 refine ji (stH b V n now) (hw) Tryz.func154 I (Nat.le_of_ble_eq_true I) ?_
 refine HR.sub (σ':=[(0,ptr b)]) ⟨I,trivial⟩ ?_
 repeat' (first|refine zh ?_|intro (bk:Nat))
 refine HR.Jm [(0,true),(1,true),(2,true),(3,true),(4,true),(5,true),(6,true),(7,true),(8,true),(9,true),(10,true),(11,false),(12,true),(13,true),(14,true)] 15 [0] I I JZ (by kernel_rfl) ?_
 repeat' (first|refine zd ?_|fail)
 refine HD.one I ?_
 refine HL.JN jSZ I I (fun w1 hw1=>jFD n.table n.addr _ w1 ((Rd.own 1 rfl).at hw1) (by omega)) ?_
 intro v1
 refine HL.shape 0 I fun a c hv=>?_
 subst hv
 refine HL.back [1] I I ?_
 repeat' (first|refine zd ?_|fail)
 refine HD.last I ?_
 repeat' (first|refine zn ?_|intro (bk:Nat))
 obtain ⟨V1,hV1⟩:∃V1:NV,V1={ V with ta:=(a,c) }:=⟨_,rfl⟩
 obtain ⟨m,hmm⟩:∃m:Nd,m=bumped n:=⟨_,rfl⟩
 refine HR.ent (H':=stH b { V with ta:=(a,c) } (bumped n) now) (Ent.pick [1,0,3,4,5,6,7,8,9,10] I I) ?_
 have hbe:ZQ n=if waits (bumped n) 1=false∧(bumped n).out.length<16 then (queue (bumped n) (jCp (bumped n))).1 else bumped n:=rfl
 have hVe:∀x:SV,({ V with ta:=(a,c),ou:=x }:NV)={ V1 with ou:=x }:=by intro x;rw[hV1]
 rw[hbe]
 rw[← hmm]at hm hm24 hm16 ⊢
 rw[← hV1]
 repeat' (first|refine zh ?_|intro (bk:Nat))
 refine HL.Jo (r:=fun _:Unit=> .bool (waits m 1)) (Q:=fun _=>True) (G0:=stH b V1 m now) (H0:=[]) (G:=fun _=>stH b V1 m now) jSY I I I (fun w1 hw1=>jDB b V1 m now 1 _ w1 hw1 (by omega)) ?_
 intro _ _
 repeat' (first|refine zh ?_|apply zb ?_ ?_|exact zc|(refine zi fun hb=>?_;try simp at hb)|intro (bk:Nat))
 refine HR.cond I (fun h=>?_) (fun h=>?_)
 ·have h:(!waits m 1&&decide ((m.out.length:Int)<16))=true:=h
  have h2:waits m 1=false∧(m.out.length:Int)<16:=by simpa using h
  rw[if_pos ⟨h2.1,by omega⟩]
  repeat' (first|refine zh ?_|intro (bk:Nat))
  refine HR.Jm [(0,true),(1,true),(2,true),(3,true),(4,true),(5,true),(6,true),(7,true),(8,true),(9,true),(10,true),(11,true),(13,true),(14,true),(15,true),(16,true),(17,true),(12,false),(18,false),(19,true)] 20 [0] I I JZ (by kernel_rfl) ?_
  repeat' (first|refine zd ?_|fail)
  refine HD.one I ?_
  refine HL.Jo (r:=fun _:Unit=> .int .i64 (number m)) (Q:=fun _=>True) (G0:=stH b V1 m now) (H0:=[]) (G:=fun _=>stH b V1 m now) jSX I I I (fun w1 hw1=>jB6 b V1 m now _ w1 hw1 (by omega)) ?_
  intro _ _
  refine HL.back [0] I I ?_
  refine HD.one I ?_
  refine HL.jN fn212 I I (fun w1 hw1=>jNt m.table _ w1 ((Rd.own 1 rfl).at hw1) (by omega)) ?_
  refine HL.back [0] I I ?_
  repeat' (first|refine zd ?_|fail)
  refine HD.last I ?_
  refine HL.Jo (r:=fun _:SV=> .bool (queue m (jCp m)).2) (Q:=fun _=>True) (G0:=stH b V1 m now) (H0:=[]) (G:=fun x=>stH b { V1 with ou:=x } (queue m (jCp m)).1 now) jM8 I I I (fun w1 hw1=>Zy b V1 m now (jCp m) _ w1 hw1 hm) ?_
  intro x _
  repeat' (first|refine zh ?_|intro (bk:Nat))
  refine HR.fin Tryz.func154 I [] (fun _ _=>trivial) ?_
  exact fun w' hw=>⟨((a,c),x),rfl,trivial,by rw[hVe];exact hw⟩
 ·have h:(!waits m 1&&decide ((m.out.length:Int)<16))=false:=h
  have h2:¬(waits m 1=false∧(m.out.length:Int)<16):=by simpa using h
  rw[if_neg fun e=>h2 ⟨e.1,by omega⟩]
  repeat' (first|refine zh ?_|intro (bk:Nat))
  refine HR.fin Tryz.func154 I [] (fun _ _=>trivial) ?_
  exact fun w' hw=>⟨((a,c),V.ou),rfl,trivial,by rw[hVe,hV1];rw[hV1]at hw;exact hw⟩
theorem jLD (b:Nat) (V:NV) (n:Nd) (now:Int) (B:Base) (w:World) (hw:Sat B (stH b V n now) w) (ho:Ord n):
  Calls Tryz.prog 155 #[ptr b] w fun e w'=>∃x:SV×SV,e= .returned (.tuple ⟨[]⟩)∧True∧Sat ⟨w,Zi (stH b V n now)⟩ (stH b { V with ta:=x.1,ou:=x.2 } (poll n) now) w':=by
 have h24:=jNb ho
 have hm:=jDu ho
 have hm24:=jNb hm
 have hm16:=hm.out
 refine ji (stH b V n now) (hw) Tryz.func155 I (Nat.le_of_ble_eq_true I) ?_
 refine HR.sub (σ':=[(0,ptr b)]) ⟨I,trivial⟩ ?_
 repeat' (first|refine zh ?_|intro (bk:Nat))
 refine HR.Jm [(0,true),(1,true),(2,true),(3,true),(4,true),(5,true),(6,true),(7,true),(8,true),(9,true),(10,true),(11,false),(12,true),(13,true),(14,true)] 15 [0] I I JZ (by kernel_rfl) ?_
 repeat' (first|refine zd ?_|fail)
 refine HD.one I ?_
 refine HL.JN jSZ I I (fun w1 hw1=>jFD n.table n.addr _ w1 ((Rd.own 1 rfl).at hw1) (by omega)) ?_
 intro v1
 refine HL.shape 0 I fun a c hv=>?_
 subst hv
 refine HL.back [1] I I ?_
 repeat' (first|refine zd ?_|fail)
 refine HD.last I ?_
 repeat' (first|refine zn ?_|intro (bk:Nat))
 obtain ⟨V1,hV1⟩:∃V1:NV,V1={ V with ta:=(a,c) }:=⟨_,rfl⟩
 obtain ⟨m,hmm⟩:∃m:Nd,m=bumped n:=⟨_,rfl⟩
 refine HR.ent (H':=stH b { V with ta:=(a,c) } (bumped n) now) (Ent.pick [1,0,3,4,5,6,7,8,9,10] I I) ?_
 have hbe:poll n=if waits (bumped n) 3=false then (queue (bumped n) (jLt (bumped n))).1 else bumped n:=rfl
 have hVe:∀x:SV,({ V with ta:=(a,c),ou:=x }:NV)={ V1 with ou:=x }:=by intro x;rw[hV1]
 rw[hbe]
 rw[← hmm]at hm hm24 hm16 ⊢
 rw[← hV1]
 repeat' (first|refine zh ?_|intro (bk:Nat))
 refine HL.Jo (r:=fun _:Unit=> .bool (waits m 3)) (Q:=fun _=>True) (G0:=stH b V1 m now) (H0:=[]) (G:=fun _=>stH b V1 m now) jSY I I I (fun w1 hw1=>jDB b V1 m now 3 _ w1 hw1 (by omega)) ?_
 intro _ _
 repeat' (first|refine zh ?_|intro (bk:Nat))
 refine HR.cond I (fun h=>?_) (fun h=>?_)
 ·have h2:waits m 3=false:=by simpa using h
  rw[if_pos h2]
  repeat' (first|refine zh ?_|intro (bk:Nat))
  refine HR.Jm [(0,true),(1,true),(2,true),(3,true),(4,true),(5,true),(6,true),(7,true),(8,true),(9,true),(10,true),(11,true),(12,true),(13,true),(14,true),(15,true),(16,true),(17,true),(18,true),(19,true),(20,true),(21,true),(22,false),(23,true)] 24 [0] I I JZ (by kernel_rfl) ?_
  repeat' (first|refine zd ?_|fail)
  refine HD.one I ?_
  refine HL.Jo (r:=fun _:Unit=> .int .i64 (number m)) (Q:=fun _=>True) (G0:=stH b V1 m now) (H0:=[]) (G:=fun _=>stH b V1 m now) jSX I I I (fun w1 hw1=>jB6 b V1 m now _ w1 hw1 (by omega)) ?_
  intro _ _
  refine HL.back [0] I I ?_
  repeat' (first|refine zd ?_|fail)
  refine HD.last I ?_
  refine HL.Jo (r:=fun _:SV=> .bool (queue m (jLt m)).2) (Q:=fun _=>True) (G0:=stH b V1 m now) (H0:=[]) (G:=fun x=>stH b { V1 with ou:=x } (queue m (jLt m)).1 now) jM8 I I I (fun w1 hw1=>Zy b V1 m now (jLt m) _ w1 hw1 hm) ?_
  intro x _
  repeat' (first|refine zh ?_|intro (bk:Nat))
  refine HR.fin Tryz.func155 I [] (fun _ _=>trivial) ?_
  exact fun w' hw=>⟨((a,c),x),rfl,trivial,by rw[hVe];exact hw⟩
 ·have h2:¬waits m 3=false:=by simpa using h
  rw[if_neg h2]
  repeat' (first|refine zh ?_|intro (bk:Nat))
  refine HR.fin Tryz.func155 I [] (fun _ _=>trivial) ?_
  exact fun w' hw=>⟨((a,c),V.ou),rfl,trivial,by rw[hVe,hV1];rw[hV1]at hw;exact hw⟩
end Go.Proofs.YtgfdoognildoeaaGreat
namespace Go.Proofs.YtgfdoognildoeaaGreat
open Go.GX Go.RowKit
attribute [local irreducible] Calls Run jg jh JU HR HL HD jU jK Jc Rd jL jd
open Nd
theorem fn153:IsFn Tryz.prog 153:=⟨⟨_,_,Tryz.func153,rfl,by decide⟩⟩
theorem jND:Elem Tryz.prog 84 75 9 80:=⟨rfl,⟨_,_,rfl,rfl,rfl,rfl,rfl⟩,by decide⟩
theorem jQ2 (a:Fr):(frC a).length=9:=rfl
theorem jPv {l:List Sn} {k:Nat} {x:Sn} (hx:l[k]? =some x):
  ((l.take (k+1)).filter stale).map (·.f)=(if stale x=true then ((l.take k).filter stale).map (·.f)++[x.f]else ((l.take k).filter stale).map (·.f))∧((l.take (k+1)).filter fun x=>!stale x)=if stale x=true then (l.take k).filter (fun x=>!stale x)else (l.take k).filter (fun x=>!stale x)++[x]:=by
 obtain ⟨hk,rfl⟩:=List.getElem?_eq_some_iff.1 hx
 rw[List.take_succ_eq_append_getElem hk,List.filter_append,List.filter_append]
 by_cases h:stale l[k]=true
 ·simp [h]
 ·simp [h]
theorem jKS {α β:Type} {g:β→α→β} {z:β} {l:List α} {k:Nat} {x:α} (hx:l[k]? =some x):(l.take (k+1)).foldl g z=g ((l.take k).foldl g z) x:=by
 obtain ⟨hk,rfl⟩:=List.getElem?_eq_some_iff.1 hx
 rw[List.take_succ_eq_append_getElem hk,List.foldl_append]
 rfl
theorem jGc (b:Nat) (V:NV) (n:Nd) (now:Int) (B:Base) (w:World) (hw:Sat B (stH b V n now) w) (ho:Ord n):
  Calls Tryz.prog 153 #[ptr b] w fun e w'=>∃x:SV×SV,e= .returned (.tuple ⟨[]⟩)∧True∧Sat ⟨w,Zi (stH b V n now)⟩ (stH b { V with ou:=x.1,bo:=x.2 } (asleep n now) now) w':=by
 have h16:=ho.out
 obtain ⟨bk2,hbk2⟩:∃g:Nat→List Fr,g=fun k=>((n.out.take k).filter stale).map (·.f):=⟨_,rfl⟩
 obtain ⟨rs,hrs⟩:∃g:Nat→List Sn,g=fun k=>(n.out.take k).filter fun x=>!stale x:=⟨_,rfl⟩
 have hbl:∀k,(bk2 k).length≤16:=fun k=>by
  rw[hbk2];show ((((n.out.take k).filter stale).map (·.f))).length≤16
  rw[List.length_map]
  exact Nat.le_trans (List.length_filter_le _ _) (by rw[List.length_take];omega)
 have hrl:∀k,(rs k).length≤16:=fun k=>by
  rw[hrs];exact Nat.le_trans (List.length_filter_le _ _) (by rw[List.length_take];omega)
 refine ji (stH b V n now) (hw) Tryz.func153 I (Nat.le_of_ble_eq_true I) ?_
 refine HR.sub (σ':=[(0,ptr b)]) ⟨I,trivial⟩ ?_
 repeat' (first|refine zh ?_|intro (bk:Nat))
 refine HR.zY 75 9 ?_
 refine HR.zY 131 11 ?_
 refine HR.loop (ι:=Nat×Value×Value) (fun x=>x.1≤n.out.length) (fun x=>[(0,ptr b),(2,x.2.1),(3,x.2.2),(12,sv V.ou n.out.length),(13,.int .i64 (n.out.length:Int)),(14,.int .i64 (x.1:Int))]) (fun x=>jK x.2.1 131 11 (rs x.1).length (cellsOf snC (rs x.1))::jK x.2.2 75 9 (bk2 x.1).length (cellsOf frC (bk2 x.1))::stH b V n now) (fun x=>n.out.length-x.1) (0,.slice none 0 0,.slice none 0 0) (Nat.zero_le _) ⟨I,I,I,I,I,I,trivial⟩ (by rw[hbk2,hrs];exact Ent.refl) ?_
 rintro ⟨k,u,v⟩ hk ih
 have hk:k≤n.out.length:=hk
 repeat' (first|refine zh ?_|intro (bk:Nat))
 refine HR.cond I (fun h2=>?_) (fun h2=>?_)
 ·have hlt:k<n.out.length:=by have:=of_decide_eq_true h2;omega
  obtain ⟨x,hx⟩:=jH hlt
  have hb1:(bk2 (k,u,v).fst).length≤16:=hbl k
  have hr1:(rs (k,u,v).fst).length≤16:=hrl k
  obtain ⟨e1,e2⟩:=jPv hx
  have e1:bk2 (k+1)=if stale x=true then bk2 k++[x.f]else bk2 k:=by rw[hbk2];exact e1
  have e2:rs (k+1)=if stale x=true then rs k else rs k++[x]:=by rw[hrs];exact e2
  repeat' (first|refine zh ?_|refine HL.jw (Rd.own 5 I) Ja k I I I I hlt ?_|refine HL.JB (Rd.own 5 I) I I I I (by simp) I (jF je hx) ?_|apply zb ?_ ?_|exact zc|(refine zi fun hb=>?_;try simp at hb)|intro (bk:Nat))
  refine HR.cond I (fun h3=>?_) (fun h3=>?_)
  ·have h3:stale x=true:=h3
   rw[if_pos h3]at e1 e2
   repeat' (first|refine zh ?_|intro (bk:Nat))
   refine HL.jk jND I I I I I (by decide) (by decide) ?_
   intro va
   refine HL.zD 3 I jND (Rd.own 0 I) I I I I (jJ I) (by omega) (by omega) ?_
   intro v2
   repeat' (first|refine zh ?_|intro (bk:Nat))
   refine ih (k+1,u,v2) _ _ hlt (by show n.out.length-(k+1)<n.out.length-k;omega) ⟨I,I,I,I,I,I,trivial⟩ ?_
   show Ent _ _ (jK u 131 11 (rs (k+1)).length (cellsOf snC (rs (k+1)))::jK v2 75 9 (bk2 (k+1)).length (cellsOf frC (bk2 (k+1)))::stH b V n now)
   rw[e1,e2,List.length_append,jM]
   exact Ent.pick [2,3,4,5,6,7,8,9,10,11,12,13] I I
  ·have h3:stale x=false:=h3
   rw[if_neg (by rw[h3];decide)]at e1 e2
   repeat' (first|refine zh ?_|intro (bk:Nat))
   refine HL.jk Ja I I I I I (by decide) (by decide) ?_
   intro va
   refine HL.zD 2 I Ja (Rd.own 0 I) I I I I (jJ I) (by omega) (by omega) ?_
   intro v2
   repeat' (first|refine zh ?_|intro (bk:Nat))
   refine ih (k+1,v2,v) _ _ hlt (by show n.out.length-(k+1)<n.out.length-k;omega) ⟨I,I,I,I,I,I,trivial⟩ ?_
   show Ent _ _ (jK v2 131 11 (rs (k+1)).length (cellsOf snC (rs (k+1)))::jK v 75 9 (bk2 (k+1)).length (cellsOf frC (bk2 (k+1)))::stH b V n now)
   rw[e1,e2,List.length_append,jM]
   exact Ent.pick [2,3,4,5,6,7,8,9,10,11,12,13] I I
 ·have hke:k=n.out.length:=by have:=of_decide_eq_false h2;omega
  subst hke
  have hL:=hbl n.out.length
  have hR:=hrl n.out.length
  obtain ⟨bl,hbe⟩:∃bl,bl=bk2 n.out.length:=⟨_,rfl⟩
  obtain ⟨rl,hre⟩:∃rl,rl=rs n.out.length:=⟨_,rfl⟩
  have hsp:asleep n now=bl.foldl (fun n f=>box n f now) { n with out:=rl }:=by
   rw[hbe,hre,hbk2,hrs];show _=((((n.out.take n.out.length).filter stale).map (·.f))).foldl _ { n with out:=(n.out.take n.out.length).filter fun x=>!stale x }
   rw[List.take_length];rfl
  rw[hsp]
  refine HR.ent (H':=jK u 131 11 rl.length (cellsOf snC rl)::jK v 75 9 bl.length (cellsOf frC bl)::stH b V n now) (Ent.of_eq (by rw[hbe,hre])) ?_
  rw[← hbe]at hL
  rw[← hre]at hR
  repeat' (first|refine zh ?_|intro (bk:Nat))
  refine HL.shape 0 I fun a c hv=>?_
  subst hv
  repeat' (first|refine zh ?_|refine HL.j4 (Rd.own 1 I) I I I ?_|intro (bk:Nat))
  have hm:=ho.jAb hR
  obtain ⟨m,hmm⟩:∃m:Nd,m={ n with out:=rl }:=⟨_,rfl⟩
  refine HR.ent (H':=jK v 75 9 bl.length (cellsOf frC bl)::stH b { V with ou:=(a,c) } { n with out:=rl } now) (Ent.pick [1,2,3,4,0,6,7,8,9,10,11] I I) ?_
  rw[← hmm]at hm ⊢
  have hgo:∀k,Ord ((bl.take k).foldl (fun n f=>box n f now) m):=fun k=>(jBL now _ (Good.refl hm)).ord
  refine HR.loop (ι:=Nat×SV) (fun x=>x.1≤bl.length) (fun x=>[(0,ptr b),(48,v),(49,.int .i64 (bl.length:Int)),(50,.int .i64 (x.1:Int))]) (fun x=>jK v 75 9 bl.length (cellsOf frC bl)::stH b { V with ou:=(a,c),bo:=x.2 } ((bl.take x.1).foldl (fun n f=>box n f now) m) now) (fun x=>bl.length-x.1) (0,V.bo) (Nat.zero_le _) ⟨I,I,I,I,trivial⟩ Ent.refl ?_
  rintro ⟨k,y⟩ hk ih
  have hk:k≤bl.length:=hk
  repeat' (first|refine zh ?_|intro (bk:Nat))
  refine HR.cond I (fun h2=>?_) (fun h2=>?_)
  ·have hlt:k<bl.length:=by have:=of_decide_eq_true h2;omega
   obtain ⟨x,hx⟩:=jH hlt
   repeat' (first|refine zh ?_|refine HL.jw (Rd.own 0 I) jND k I I I I hlt ?_|refine HL.JB (Rd.own 0 I) I I I I (by simp) I (jF jQ2 hx) ?_|intro (bk:Nat))
   refine HL.ent (H':=stH b { V with ou:=(a,c),bo:=y } ((bl.take k).foldl (fun n f=>box n f now) m) now++[jK v 75 9 bl.length (cellsOf frC bl)]) (Ent.pick [2,3,4,5,6,7,8,9,10,11,1] I I) ?_
   refine HL.Jo (r:=fun _:SV=> .tuple ⟨[]⟩) (Q:=fun _=>True) (G0:=stH b { V with ou:=(a,c),bo:=y } ((bl.take k).foldl (fun n f=>box n f now) m) now) (H0:=[jK v 75 9 bl.length (cellsOf frC bl)]) (G:=fun z=>stH b { V with ou:=(a,c),bo:=z } (box ((bl.take k).foldl (fun n f=>box n f now) m) x now) now) jSf I I I (fun w1 hw1=>jHp b { V with ou:=(a,c),bo:=y } _ now x _ w1 (hw1.pick [0,1,2,3,4,5,6,7,8,9] I I) (hgo k)) ?_
   intro z _
   repeat' (first|refine zh ?_|intro (bk:Nat))
   refine ih (k+1,z) _ _ hlt (by show bl.length-(k+1)<bl.length-k;omega) ⟨I,I,I,I,trivial⟩ ?_
   show Ent _ _ (jK v 75 9 bl.length (cellsOf frC bl)::stH b { V with ou:=(a,c),bo:=z } ((bl.take (k+1)).foldl (fun n f=>box n f now) m) now)
   rw[jKS hx]
   exact Ent.pick [10,0,1,2,3,4,5,6,7,8,9] I I
  ·have hke:k=bl.length:=by have:=of_decide_eq_false h2;omega
   subst hke
   repeat' (first|refine zh ?_|intro (bk:Nat))
   refine HR.fin Tryz.func153 I [] (fun _ _=>trivial) ?_
   refine fun w' hw=>⟨((a,c),y),rfl,trivial,?_⟩
   have w1:Sat _ (jK v 75 9 bl.length (cellsOf frC bl)::stH b { V with ou:=(a,c),bo:=y } ((bl.take bl.length).foldl (fun n f=>box n f now) m) now) w':=hw
   rw[List.take_length]at w1
   exact w1.pick [1,2,3,4,5,6,7,8,9,10] I I
end Go.Proofs.YtgfdoognildoeaaGreat
namespace Go.Proofs.YtgfdoognildoeaaGreat
open Go.GX Go.RowKit
attribute [local irreducible] Calls Run jg jh JU HR HL HD jU jK Jc Rd jL jd
open Nd
theorem jSn:IsFn Tryz.prog 132:=⟨⟨_,_,Tryz.func132,rfl,by decide⟩⟩
theorem jQ8:IsFn Tryz.prog 167:=⟨⟨_,_,Tryz.func167,rfl,by decide⟩⟩
theorem jQ7:IsFn Tryz.prog 168:=⟨⟨_,_,Tryz.func168,rfl,by decide⟩⟩
theorem fn92:IsFn Tryz.prog 92:=⟨⟨_,_,Tryz.func92,rfl,by decide⟩⟩
theorem fn170:IsFn Tryz.prog 170:=⟨⟨_,_,Tryz.func170,rfl,by decide⟩⟩
theorem fn271:IsFn Tryz.prog 271:=⟨⟨_,_,Tryz.func271,rfl,by decide⟩⟩
theorem fn218:IsFn Tryz.prog 218:=⟨⟨_,_,Tryz.func218,rfl,by decide⟩⟩
theorem jDh {l:List Li} {k:Nat} {x:Li} (hx:l[k]? =some x) (h:zS x=true):jHK l k=2:=by unfold jHK;rw[hx];simp only;rw[if_pos h]
theorem jDi {l:List Li} {k:Nat} {x y:Li} (hx:l[k]? =some x) (h:zS x=false) (h0:0<k) (hy:l[k-1]? =some y) (hle:x.nd≤y.nd):jHK l k=14:=by
 unfold jHK;rw[hx];simp only;rw[if_neg (by rw[h];decide),if_pos ⟨h0,by rw[hy];exact decide_eq_true hle⟩]
theorem jMg {l:List Li} {k:Nat} {x:Li} (hx:l[k]? =some x) (h:zS x=false) (h2:∀y,0<k→l[k-1]? =some y→¬x.nd≤y.nd):jHK l k=0:=by
 unfold jHK;rw[hx];simp only
 rw[if_neg (by rw[h];decide),if_neg]
 rintro ⟨h0,hh⟩
 cases hy:l[k-1]? with
 |none=>rw[hy]at hh;cases hh
 |some y=>rw[hy]at hh;exact h2 y h0 hy (of_decide_eq_true hh)
theorem jEY {l:List Li} {k:Nat} (h:l.length≤24) (h1:jf (jHK l) k=0) (h2:jHK l k≠0) (hk:k<l.length):jA4 l=jHK l k:=by
 unfold jA4;rw[if_neg (by omega),Ki h1 h2 hk]
theorem jQe {c:Int} (h0:0≤c) (h1:c≤16):(2:Int) ^ c.toNat≤65536:=by
 have h2:(2:Nat) ^ c.toNat≤2 ^ 16:=Nat.pow_le_pow_right (by decide) (by omega)
 have h3:((2 ^ c.toNat:Nat):Int)=(2:Int) ^ c.toNat:=by rw[Int.natCast_pow];rfl
 rw[← h3]
 exact Int.ofNat_le.2 h2
theorem shl1 {c:Int} (h0:0≤c) (h1:c≤16):IntKind.i64.wrap (1*2 ^ (min c.toNat IntKind.i64.bits))=2 ^ c.toNat:=by
 have h2:=jQe h0 h1
 have h3:(0:Int)≤2 ^ c.toNat:=Int.le_of_lt (Int.pow_pos (by decide))
 rw[show min c.toNat IntKind.i64.bits=c.toNat by simp only[IntKind.bits];omega,Int.one_mul]
 exact J5 (k:= .i64) (by simp only[GX.fits];omega)
theorem jDg (l:List Li) (v:Value) (w:World) (hv:Sl w v (cellsOf liC l) l.length) (hl:l.length≤1000):
  Calls Tryz.prog 132 #[v] w fun e w'=>e= .returned (.int .i64 (jA4 l))∧Below w.heap.size w w':=by
 refine jB Tryz.func132 I (Nat.le_of_ble_eq_true I) ?_
 refine HR.sub (σ':=[(0,v)]) ⟨I,trivial⟩ ?_
 repeat' (first|refine zh ?_|refine HL.j4 (Rd.arg hv) I I I ?_|apply zb ?_ ?_|exact zc|(refine zi fun hb=>?_;try simp at hb)|intro (bk:Nat))
 refine HR.cond I (fun h=>?_) (fun h=>?_)
 ·have h:l.length>24:=by have:=of_decide_eq_true h;omega
  repeat' (first|refine zh ?_|apply zb ?_ ?_|exact zc|(refine zi fun hb=>?_;try simp at hb)|intro (bk:Nat))
  refine HR.ret Tryz.func132 I [_] (fun _ _=>⟨I,trivial⟩) ?_
  exact fun w' hw=>⟨by rw[jA4,if_pos h];rfl,hw.jE⟩
 have h:l.length≤24:=by have:=of_decide_eq_false h;omega
 repeat' (first|refine zh ?_|refine HL.j4 (Rd.arg hv) I I I ?_|apply zb ?_ ?_|exact zc|(refine zi fun hb=>?_;try simp at hb)|intro (bk:Nat))
 refine HR.loop (ι:=Nat) (fun k=>k≤l.length∧jf (jHK l) k=0) (fun k=>[(0,v),(8,v),(9,.int .i64 (l.length:Int)),(10,.int .i64 (k:Int))]) (fun _=>[]) (fun k=>l.length-k) 0 ⟨Nat.zero_le _,rfl⟩ ⟨I,I,I,I,trivial⟩ Ent.refl ?_
 rintro k ⟨hk,hg⟩ ih
 repeat' (first|refine zh ?_|apply zb ?_ ?_|exact zc|(refine zi fun hb=>?_;try simp at hb)|intro (bk:Nat))
 refine HR.cond I (fun h2=>?_) (fun h2=>?_)
 ·have hlt:k<l.length:=by have:=of_decide_eq_true h2;omega
  obtain ⟨x,hx⟩:=jH hlt
  repeat' (first|refine zh ?_|refine HL.jw (Rd.arg hv) zo k I I I I hlt ?_|refine HL.JB (Rd.arg hv) I I I I (by simp) I (jF JC hx) ?_|intro (bk:Nat))
  refine HR.jo JZ (by kernel_rfl) ?_
  repeat' (first|refine zq ?_|refine HQ.wI (2 ^ x.ct.toNat) I I I I (.inr I) (fun _=>by omega) (shl1 (by omega) (by omega)) ?_|apply zb ?_ ?_|exact zc|(refine zi fun hb=>?_;try simp at hb))
  refine HR.cond I (fun h3=>?_) (fun h3=>?_)
  ·have h3:zS x=true:=h3
   repeat' (first|refine zh ?_|apply zb ?_ ?_|exact zc|(refine zi fun hb=>?_;try simp at hb)|intro (bk:Nat))
   refine HR.ret Tryz.func132 I [_] (fun _ _=>⟨I,trivial⟩) ?_
   refine fun w' hw=>⟨?_,hw.jE⟩
   have e:=jDh hx h3
   rw[jEY h hg (by rw[e];decide) hlt,e];rfl
  have h3:zS x=false:=h3
  obtain ⟨y,hy⟩:=jH (l:=l) (j:=k-1) (by omega)
  repeat' (first|refine zh ?_|apply zb ?_ ?_|exact zc|(refine zi fun hb=>?_;try simp at hb)|intro (bk:Nat))
  refine HR.jo JZ (by kernel_rfl) ?_
  repeat' (first|refine zq ?_|refine HQ.jw (Rd.arg hv) zo (k-1) I I I (by omega) (by omega) ?_|refine HQ.Jf (Rd.arg hv) (by rw[jC JC];omega) I I I I I I ?_|refine HQ.jY (Rd.arg hv) I I I I (jR JC hy (i:=0) I) ?_|apply zb ?_ ?_|exact zc|(refine zi fun hb=>?_;try simp at hb))
  refine HR.cond I (fun h4=>?_) (fun h4=>?_)
  ·have h4:(decide ((k:Int)>0)&&decide (x.nd≤y.nd))=true:=h4
   simp only[Bool.and_eq_true,decide_eq_true_eq]at h4
   repeat' (first|refine zh ?_|apply zb ?_ ?_|exact zc|(refine zi fun hb=>?_;try simp at hb)|intro (bk:Nat))
   refine HR.ret Tryz.func132 I [_] (fun _ _=>⟨I,trivial⟩) ?_
   refine fun w' hw=>⟨?_,hw.jE⟩
   have e:=jDi hx h3 (by omega) hy h4.2
   rw[jEY h hg (by rw[e];decide) hlt,e];rfl
  ·have h4:(decide ((k:Int)>0)&&decide (x.nd≤y.nd))=false:=h4
   repeat' (first|refine zh ?_|apply zb ?_ ?_|exact zc|(refine zi fun hb=>?_;try simp at hb)|intro (bk:Nat))
   refine ih (k+1) _ _ ⟨hlt,zP hg (jMg hx h3 fun y' h0 hy' hle=>?_)⟩ (by omega) ⟨I,I,I,I,trivial⟩ (Ent.pick [] I I)
   rw[hy]at hy'
   cases hy'
   rw[decide_eq_true (show (k:Int)>0 by omega),decide_eq_true hle]at h4
   cases h4
 ·have hke:k=l.length:=by have:=of_decide_eq_false h2;omega
  subst hke
  repeat' (first|refine zh ?_|apply zb ?_ ?_|exact zc|(refine zi fun hb=>?_;try simp at hb)|intro (bk:Nat))
  refine HR.ret Tryz.func132 I [_] (fun _ _=>⟨I,trivial⟩) ?_
  exact fun w' hw=>⟨by rw[jA4,if_neg (by omega),hg];rfl,hw.jE⟩
end Go.Proofs.YtgfdoognildoeaaGreat
namespace Go.Proofs.YtgfdoognildoeaaGreat
open Go.GX Go.RowKit
attribute [local irreducible] Calls Run jg jh JU HR HL HD jU jK Jc Rd jL jd
open Nd
theorem jLK (n:Int) (w:World) (h:-1099511627776≤n∧n≤1099511627776):Calls Tryz.prog 301 #[.int .i64 n] w fun e w'=>e= .returned (.int .i64 n)∧Below w.heap.size w w':=by
 refine jB Tryz.func301 I (Nat.le_of_ble_eq_true I) ?_
 refine HR.sub (σ':=[(0,.int .i64 n)]) ⟨I,trivial⟩ ?_
 repeat' (first|refine zh ?_|apply zb ?_ ?_|exact zc|(refine zi fun hb=>?_;try simp at hb)|intro (bk:Nat))
 refine HR.ret Tryz.func301 I [_] (fun _ _=>⟨I,trivial⟩) ?_
 refine fun w' hw=>⟨?_,hw.jE⟩
 simp only[Zv]
 congr 2
 split<;>split<;>omega
theorem jPp (a b:Int) (w:World) (ha:0≤a∧a≤1000000) (hb:0<b∧b≤1000000):Calls Tryz.prog 272 #[.int .i64 a,.int .i64 b] w fun e w'=>e= .returned (.int .i64 (cdiv a b))∧Below w.heap.size w w':=by
 refine jB Tryz.func272 I (Nat.le_of_ble_eq_true I) ?_
 refine HR.sub (σ':=[(0,.int .i64 a),(1,.int .i64 b)]) ⟨I,I,trivial⟩ ?_
 repeat' (first|refine zh ?_|refine HL.jN jSQ I I (fun w _=>jLK a w (by omega)) ?_|refine HL.jN jSQ I I (fun w _=>jLK b w (by omega)) ?_|apply zb ?_ ?_|exact zc|(refine zi fun hb=>?_;try simp at hb)|intro (bk:Nat))
 refine HR.jCu 13 false I (by simp;omega) ?_
 have q1:0≤a / b:=Int.ediv_nonneg ha.1 (by omega)
 have q2:a / b≤a:=Int.ediv_le_self _ ha.1
 repeat' (first|refine zh ?_|apply zb ?_ ?_|exact zc|(refine zi fun hb=>?_;try simp at hb)|intro (bk:Nat))
 have e1:decide (a<0)=false:=decide_eq_false (by omega)
 have e2:decide (b<0)=false:=decide_eq_false (by omega)
 refine HR.cond I (fun h=>?_) (fun h=>?_)
 ·have h:((a%b != 0)&&(decide (a<0)==decide (b<0)))=true:=h
  rw[e1,e2]at h
  have h:a%b≠0:=by simpa using h
  repeat' (first|refine zh ?_|apply zb ?_ ?_|exact zc|(refine zi fun hb=>?_;try simp at hb)|intro (bk:Nat))
  refine HR.ret Tryz.func272 I [_] (fun _ _=>⟨I,trivial⟩) ?_
  exact fun w' hw=>⟨by rw[jF5 ha.1 hb.1,if_pos h];rfl,hw.jE⟩
 ·have h:((a%b != 0)&&(decide (a<0)==decide (b<0)))=false:=h
  rw[e1,e2]at h
  have h:¬a%b≠0:=by simpa using h
  repeat' (first|refine zh ?_|apply zb ?_ ?_|exact zc|(refine zi fun hb=>?_;try simp at hb)|intro (bk:Nat))
  refine HR.ret Tryz.func272 I [_] (fun _ _=>⟨I,trivial⟩) ?_
  exact fun w' hw=>⟨by rw[jF5 ha.1 hb.1,if_neg h];rfl,hw.jE⟩
theorem jBH (l:List Li) (v:Value) (w:World) (hv:Sl w v (cellsOf liC l) l.length) (hl:l.length≤1000):
  Calls Tryz.prog 167 #[v] w fun e w'=>∃v',e= .returned v'∧Sat (base w) [jK v' 162 3 (lval l).length (cellsOf liC (lval l))] w':=by
 refine jB Tryz.func167 I (Nat.le_of_ble_eq_true I) ?_
 refine HR.sub (σ':=[(0,v)]) ⟨I,trivial⟩ ?_
 repeat' (first|refine zh ?_|refine HL.jN jSn I I (fun w hw=>jDg l v w ((Rd.arg hv).at hw) hl) ?_|apply zb ?_ ?_|exact zc|(refine zi fun hb=>?_;try simp at hb)|intro (bk:Nat))
 refine HR.cond I (fun h=>?_) (fun h=>?_)
 ·have h:¬jA4 l=0:=by simpa using h
  repeat' (first|refine zh ?_|apply zb ?_ ?_|exact zc|(refine zi fun hb=>?_;try simp at hb)|intro (bk:Nat))
  refine HR.zY 162 3 ?_
  refine HR.ret Tryz.func167 I [_] (fun _ _=>⟨I,trivial⟩) ?_
  exact fun w' hw=>⟨.slice none 0 0,rfl,by rw[lval,if_neg h];exact hw⟩
 ·have h:jA4 l=0:=by simpa using h
  have h24:=(Kz h).1
  repeat' (first|refine zh ?_|refine HL.j4 (Rd.arg hv) I I I ?_|apply zb ?_ ?_|exact zc|(refine zi fun hb=>?_;try simp at hb)|intro (bk:Nat))
  refine HL.kX l.length l.length zo I I I I I I (Nat.le_refl _) (show 24*l.length≤_ by omega) (by omega) ?_
  intro v1
  repeat' (first|refine zh ?_|refine HL.copyV l.length 0 I (Rd.arg hv) I I I I I (jC JC _) (fun u hu=>jT jEW _ u (List.mem_of_mem_take hu)) (Nat.min_self _) ?_|apply zb ?_ ?_|exact zc|(refine zi fun hb=>?_;try simp at hb)|intro (bk:Nat))
  refine HR.ret Tryz.func167 I [_] (fun _ _=>⟨I,trivial⟩) ?_
  refine fun w' hw=>⟨v1,rfl,Ent.JM ?_ ?_ w' hw⟩
  ·rw [lval,if_pos h]
  ·rw [lval,if_pos h,List.take_of_length_le (by rw[jC JC];exact Nat.le_refl _),List.drop_eq_nil_of_le (by rw[jX];exact Nat.le_refl _),List.append_nil]
theorem jCW (l:List Li) (n:Int) (v:Value) (w:World) (hv:Sl w v (cellsOf liC l) l.length) (hl:l.length≤1000):
  Calls Tryz.prog 168 #[v,.int .i64 n] w fun e w'=>e= .returned (.tuple ⟨[.int .i64 (ZH l n:Int),.bool (jMd l n)]⟩)∧Below w.heap.size w w':=by
 refine jB Tryz.func168 I (Nat.le_of_ble_eq_true I) ?_
 refine HR.sub (σ':=[(0,v),(1,.int .i64 n)]) ⟨I,I,trivial⟩ ?_
 repeat' (first|refine zh ?_|apply zb ?_ ?_|exact zc|(refine zi fun hb=>?_;try simp at hb)|intro (bk:Nat))
 refine HR.loop (ι:=Nat) (fun k=>k≤l.length∧∀j a,j<k→l[j]? =some a→a.nd<n) (fun k=>[(0,v),(1,.int .i64 n),(6,.int .i64 (k:Int))]) (fun _=>[]) (fun k=>l.length-k) 0 ⟨Nat.zero_le _,fun j a hj=>by omega⟩ ⟨I,I,I,trivial⟩ Ent.refl ?_
 rintro k ⟨hk,hg⟩ ih
 repeat' (first|refine zh ?_|refine HL.j4 (Rd.arg hv) I I I ?_|refine HL.jw (Rd.arg hv) zo k I I I I (by omega) ?_|refine HL.Jf (Rd.arg hv) (by rw[jC JC];omega) I I I I I I ?_|refine HL.jY (Rd.arg hv) I I I I (jR JC (zm (by omega) li0) (i:=0) I) ?_|apply zb ?_ ?_|exact zc|(refine zi fun hb=>?_;try simp at hb)|intro (bk:Nat))
 refine HR.cond I (fun h2=>?_) (fun h2=>?_)
 ·have h2:(decide ((k:Int)<l.length)&&decide ((l.getD k li0).nd<n))=true:=h2
  simp only[Bool.and_eq_true,decide_eq_true_eq]at h2
  have hlt:k<l.length:=by omega
  repeat' (first|refine zh ?_|apply zb ?_ ?_|exact zc|(refine zi fun hb=>?_;try simp at hb)|intro (bk:Nat))
  refine ih (k+1) _ _ ⟨hlt,fun j a hj ha=>?_⟩ (by omega) ⟨I,I,I,trivial⟩ (Ent.pick [] I I)
  by_cases hjk:j=k
  ·subst hjk
   rw[zm hlt li0]at ha
   cases ha;exact h2.2
  ·exact hg j a (by omega) ha
 ·have h2:(decide ((k:Int)<l.length)&&decide ((l.getD k li0).nd<n))=false:=h2
  have hp:ZH l n=k:=jQp hk hg fun a ha=>by
   have hlt:=(List.getElem?_eq_some_iff.1 ha).1
   rw[zm hlt li0]at ha
   cases ha
   rw[decide_eq_true (show (k:Int)<l.length by omega),Bool.true_and,decide_eq_false_iff_not]at h2
   omega
  repeat' (first|refine zh ?_|apply zb ?_ ?_|exact zc|(refine zi fun hb=>?_;try simp at hb)|intro (bk:Nat))
  refine HR.jo JZ (by kernel_rfl) ?_
  repeat' (first|refine zq ?_|refine HQ.j4 (Rd.arg hv) I I I ?_|refine HQ.jw (Rd.arg hv) zo k I I I I (by omega) ?_|refine HQ.Jf (Rd.arg hv) (by rw[jC JC];omega) I I I I I I ?_|refine HQ.jY (Rd.arg hv) I I I I (jR JC (zm (by omega) li0) (i:=0) I) ?_|apply zb ?_ ?_|exact zc|(refine zi fun hb=>?_;try simp at hb))
  refine HR.ret Tryz.func168 I [_,_] (fun _ _=>⟨I,I,trivial⟩) ?_
  refine fun w' hw=>⟨?_,hw.jE⟩
  have hh:jMd l n=(decide ((k:Int)<l.length)&&((l.getD k li0).nd==n)):=by
   unfold jMd
   rw[hp]
   by_cases hlt:k<l.length
   ·rw [zm hlt li0,decide_eq_true (show (k:Int)<l.length by omega)];rfl
   ·rw [List.getElem?_eq_none (by omega),decide_eq_false (show ¬(k:Int)<l.length by omega)];rfl
  rw[hh,hp];rfl
theorem jHH (l:List Li) (n:Int) (v:Value) (w:World) (hv:Sl w v (cellsOf liC l) l.length) (hl:l.length≤1000):
  Calls Tryz.prog 170 #[v,.int .i64 n] w fun e w'=>∃v',e= .returned v'∧Sat (base w) [jK v' 162 3 (kY l n).length (cellsOf liC (kY l n))] w':=by
 have hlen:=jAp l
 refine jB Tryz.func170 I (Nat.le_of_ble_eq_true I) ?_
 refine HR.sub (σ':=[(0,v),(1,.int .i64 n)]) ⟨I,I,trivial⟩ ?_
 repeat' (first|refine zh ?_|refine HL.JN jQ8 I I (fun w hw=>jBH l v w ((Rd.arg hv).at hw) hl) ?_|intro (bk:Nat))
 intro v1
 repeat' (first|refine zh ?_|refine HL.jN jQ7 I I (fun w hw=>jCW (lval l) n v1 w ((Rd.own 0 rfl).at hw) (by omega)) ?_|intro (bk:Nat))
 refine HR.cond I (fun h=>?_) (fun h=>?_)
 ·obtain ⟨x,hx,hn⟩:=jCV h
  have hlt:=(List.getElem?_eq_some_iff.1 hx).1
  repeat' (first|refine zh ?_|intro (bk:Nat))
  refine HL.Jo (r:=fun r:Value=>r) (Q:=fun _=>True) (G0:=[jK v1 162 3 (lval l).length (cellsOf liC (lval l))]) (H0:=[]) (G:=fun r=>[jK r 162 3 ((lval l).eraseIdx (ZH (lval l) n)).length (cellsOf liC ((lval l).eraseIdx (ZH (lval l) n)))]) fn226 I I I (fun w hw=>jNF (lval l) (ZH (lval l) n) v1 _ w hw hlt (by omega)) ?_
  intro r _
  repeat' (first|refine zh ?_|intro (bk:Nat))
  refine HR.ret Tryz.func170 I [_] (fun _ _=>⟨I,trivial⟩) ?_
  exact fun w' hw=>⟨r,rfl,by rw[jKJ hx hn];exact hw⟩
 ·have hno:=jMh (jBJ h)
  repeat' (first|refine zh ?_|intro (bk:Nat))
  refine HR.ret Tryz.func170 I [_] (fun _ _=>⟨I,trivial⟩) ?_
  exact fun w' hw=>⟨v1,rfl,by rw[jKH hno];exact hw⟩
theorem jNe (l:List Li) (n:Int) (v:Value) (w:World) (hv:Sl w v (cellsOf liC l) l.length) (hl:l.length≤1000):
  Calls Tryz.prog 271 #[v,.int .i64 n] w fun e w'=>e= .returned (.tuple ⟨[.int .i64 (succ l n).1,.int .i64 (succ l n).2]⟩)∧Below w.heap.size w w':=by
 have hlen:=jAp l
 refine jB Tryz.func271 I (Nat.le_of_ble_eq_true I) ?_
 refine HR.sub (σ':=[(0,v),(1,.int .i64 n)]) ⟨I,I,trivial⟩ ?_
 repeat' (first|refine zh ?_|refine HL.JN jQ8 I I (fun w hw=>jBH l v w ((Rd.arg hv).at hw) hl) ?_|intro (bk:Nat))
 intro v1
 repeat' (first|refine zh ?_|refine HL.jN jQ7 I I (fun w hw=>jCW (lval l) n v1 w ((Rd.own 0 rfl).at hw) (by omega)) ?_|intro (bk:Nat))
 refine HR.cond I (fun h=>?_) (fun h=>?_)
 ·have h:jMd (lval l) n=false:=by simpa using h
  have hno:=jMh (jBJ h)
  repeat' (first|refine zh ?_|intro (bk:Nat))
  refine HR.ret Tryz.func271 I [_,_] (fun _ _=>⟨I,I,trivial⟩) ?_
  exact fun w' hw=>⟨by rw[succ,hno];rfl,hw.jE⟩
 ·have h:jMd (lval l) n=true:=by simpa using h
  obtain ⟨x,hx,hn⟩:=jCV h
  have hlt:=(List.getElem?_eq_some_iff.1 hx).1
  have hat:lat (lval l) n=some x:=((Kw l).jH2 hx hn).2
  have hr:=jAq (jEV (List.mem_of_getElem? hx))
  have hp:=jH3 64 x.bi.toNat
  have hb64:x.bi.toNat<2 ^ 64:=by
   have:(2:Nat) ^ 64=18446744073709551616:=by decide
   omega
  repeat' (first|refine zh ?_|refine HL.jw (Rd.own 0 I) zo (ZH (lval l) n) I I I I hlt ?_|refine HL.Jf (Rd.own 0 I) (by rw[jC JC];omega) I I I I I I ?_|refine HL.jY (Rd.own 0 I) I I I I (jR JC hx (i:=1) I) ?_|intro (bk:Nat))
  refine HR.jSC (α:=Nat) (β:=Nat) (γ:=Nat) (fun a b f=>b<65536∧b<2 ^ f∧(a:Int)+pop f b=pop 64 x.bi.toNat) (fun a b f=>[(6,v1),(7,.int .i64 (ZH (lval l) n:Int)),(9,.int .i64 (a:Int)),(10,.int .i64 (b:Int))]) (fun _ _ _=>[jK v1 162 3 (lval l).length (cellsOf liC (lval l))]) (fun a b f=>b) 0 x.bi.toNat 64 ⟨by omega,hb64,by simp⟩ ⟨rfl,rfl,rfl,by show some _=some _;congr 2;omega,trivial⟩ Ent.refl ?_
  rintro a b f ⟨hb5,hb,hab⟩ ih
  have hpf:=jH3 f b
  repeat' (first|refine zh ?_|intro (bk:Nat))
  refine HR.cond I (fun h2=>?_) (fun h2=>?_)
  ·have hb0:0<b:=by have:=of_decide_eq_true h2;omega
   obtain ⟨f',rfl,hb',hps⟩:=jN2 hb0 hb
   repeat' (first|refine zh ?_|intro (bk:Nat))
   refine ih (a+b%2) (b / 2) f' _ _ ⟨by omega,hb',?_⟩ (by omega) ⟨I,I,I,I,trivial⟩ Ent.refl
   rw[← hab,hps];omega
  ·have hb0:b=0:=by have:=of_decide_eq_false h2;omega
   subst hb0
   rw[jN1]at hab
   repeat' (first|refine zh ?_|intro (bk:Nat))
   refine HR.jo JZ (by kernel_rfl) ?_
   repeat' (first|refine zq ?_|refine HQ.jw (Rd.own 0 I) zo (ZH (lval l) n) I I I I hlt ?_|refine HQ.Jf (Rd.own 0 I) (by rw[jC JC];omega) I I I I I I ?_|refine HQ.jY (Rd.own 0 I) I I I I (jR JC hx (i:=2) I) ?_|apply zb ?_ ?_|exact zc|(refine zi fun hb=>?_;try simp at hb))
   refine HR.ret Tryz.func271 I [_,_] (fun _ _=>⟨I,I,trivial⟩) ?_
   refine fun w' hw=>⟨?_,hw.jE⟩
   rw[succ,hat]
   simp only[ones,← hab,Int.add_zero]
   rfl
theorem jMf (l:List Li) (n:Int) (v:Value) (w:World) (hv:Sl w v (cellsOf liC l) l.length) (hl:l.length≤1000):
  Calls Tryz.prog 218 #[v,.int .i64 n] w fun e w'=>e= .returned (.int .i64 (jEX l n))∧Below w.heap.size w w':=by
 have hs:0≤(succ l n).1∧(succ l n).1≤64∧0≤(succ l n).2∧(succ l n).2≤16:=by
  unfold succ
  cases hf:lat (lval l) n with
  |none=>simp
  |some x=>
   have hr:=jAq (jEV (jQr hf).1)
   have:=jQk x.bi
   exact ⟨this.1,this.2,hr.2.2.1,hr.2.2.2.1⟩
 refine jB Tryz.func218 I (Nat.le_of_ble_eq_true I) ?_
 refine HR.sub (σ':=[(0,v),(1,.int .i64 n)]) ⟨I,I,trivial⟩ ?_
 repeat' (first|refine zh ?_|refine HL.jN fn271 I I (fun w hw=>jNe l n v w ((Rd.arg hv).at hw) hl) ?_|intro (bk:Nat))
 refine HR.cond I (fun h=>?_) (fun h=>?_)
 ·have h:(succ l n).1=0:=eq_of_beq h
  repeat' (first|refine zh ?_|intro (bk:Nat))
  refine HR.ret Tryz.func218 I [_] (fun _ _=>⟨I,trivial⟩) ?_
  exact fun w' hw=>⟨by rw[jDf,if_pos h];rfl,hw.jE⟩
 ·have h:¬(succ l n).1=0:=by simpa using h
  repeat' (first|refine zh ?_|refine HL.jN fn272 I I (fun w _=>jPp _ _ w (by omega) (by omega)) ?_|intro (bk:Nat))
  refine HR.ret Tryz.func218 I [_] (fun _ _=>⟨I,trivial⟩) ?_
  exact fun w' hw=>⟨by rw[jDf,if_neg h];rfl,hw.jE⟩
end Go.Proofs.YtgfdoognildoeaaGreat
namespace Go.Proofs.YtgfdoognildoeaaGreat
open Go.GX Go.RowKit
attribute [local irreducible] Calls Run jg jh JU HR HL HD jU jK Jc Rd jL jd
open Nd
structure Place (l:List Li) (n:Int) (ok:Bool) (L:List Li) (i:Nat) (x:Li):Prop where
 get:L[i]? =some x
 len:L.length≤25
 b0:0≤x.bi
 b1:x.bi<65536
 c0:0≤x.ct
 c1:x.ct≤16
 eq:ZW l n ok=L.set i (jPQ x ok)
theorem Place.old {l:List Li} {n:Int} {ok:Bool} {x:Li} (hr:¬(n<0∨n>250)) (hx:(lval l)[ZH (lval l) n]? =some x) (hn:x.nd=n):Place l n ok (lval l) (ZH (lval l) n) x:=by
 have h:=jAq (jEV (List.mem_of_getElem? hx))
 have h2:=jAp l
 exact ⟨hx,by omega,h.2.2.2.2.1,h.2.2.2.2.2,h.2.2.1,h.2.2.2.1,jPR hr hx hn⟩
theorem Place.new {l:List Li} {n:Int} {ok:Bool} (hr:¬(n<0∨n>250)) (h:lat (lval l) n=none) (h2:¬(lval l).length=24):Place l n ok ((lval l).take (ZH (lval l) n)++⟨n,0,0⟩::(lval l).drop (ZH (lval l) n)) (ZH (lval l) n) ⟨n,0,0⟩:=by
 have h3:=jAp l
 have h4:=jHD (lval l) n
 have hl:((lval l).take (ZH (lval l) n)).length=ZH (lval l) n:=by simp;omega
 refine ⟨jHP hl,by simp;omega,by simp,by simp,by simp,by simp,?_⟩
 rw[jMb hr h h2,set_mid hl]
theorem jFg (l:List Li) (n:Int) (ok:Bool) (v:Value) (w:World) (hv:Sl w v (cellsOf liC l) l.length) (hl:l.length≤1000):
  Calls Tryz.prog 92 #[v,.int .i64 n,.bool ok] w fun e w'=>∃v',e= .returned v'∧Sat (base w) [jK v' 162 3 (ZW l n ok).length (cellsOf liC (ZW l n ok))] w':=by
 have hlen:=jAp l
 have hple:=jHD (lval l) n
 refine jB Tryz.func92 I (Nat.le_of_ble_eq_true I) ?_
 refine HR.sub (σ':=[(0,v),(1,.int .i64 n),(2,.bool ok)]) ⟨I,I,I,trivial⟩ ?_
 repeat' (first|refine zh ?_|refine HL.JN jQ8 I I (fun w hw=>jBH l v w ((Rd.arg hv).at hw) hl) ?_|intro (bk:Nat))
 intro v1
 repeat' (first|refine zh ?_|apply zb ?_ ?_|exact zc|(refine zi fun hb=>?_;try simp at hb)|intro (bk:Nat))
 refine HR.cond I (fun h=>?_) (fun h=>?_)
 ·have h:(decide (n<0)||decide (n>250))=true:=h
  simp only[Bool.or_eq_true,decide_eq_true_eq]at h
  repeat' (first|refine zh ?_|apply zb ?_ ?_|exact zc|(refine zi fun hb=>?_;try simp at hb)|intro (bk:Nat))
  refine HR.ret Tryz.func92 I [_] (fun _ _=>⟨I,trivial⟩) ?_
  exact fun w' hw=>⟨v1,rfl,by rw[jMa h];exact hw⟩
 have h:(decide (n<0)||decide (n>250))=false:=h
 have hr:¬(n<0∨n>250):=by simp only[Bool.or_eq_false_iff,decide_eq_false_iff_not]at h;omega
 repeat' (first|refine zh ?_|refine HL.jN jQ7 I I (fun w hw=>jCW (lval l) n v1 w ((Rd.own 0 rfl).at hw) (by omega)) ?_|intro (bk:Nat))
 refine HR.join (ι:=Value×List Li×Li) (fun i=>Place l n ok i.2.1 (ZH (lval l) n) i.2.2) (fun i=>[(1,.int .i64 n),(2,.bool ok),(7,i.1),(8,.int .i64 (ZH (lval l) n:Int))]) (fun i=>[jK i.1 162 3 i.2.1.length (cellsOf liC i.2.1)]) ?_ (fun hj=>?_)
 ·rintro ⟨r,L,x⟩ hp
  obtain ⟨hget,hL,hb0,hb1,hc0,hc1,heq⟩:=hp
  simp only at hget hL hb0 hb1 hc0 hc1 heq
  have hlt:=(List.getElem?_eq_some_iff.1 hget).1
  have hbit:0≤(if ok then (1:Int)else 0)∧(if ok then (1:Int)else 0)≤1:=by cases ok<;>simp
  repeat' (first|refine zh ?_|intro (bk:Nat))
  refine HR.join (ι:=Unit) (fun _=>True) (fun _=>[(7,r),(8,.int .i64 (ZH (lval l) n:Int)),(10,.int .i64 (if ok then 1 else 0))]) (fun _=>[jK r 162 3 L.length (cellsOf liC L)]) ?_ (fun hj2=>?_)
  ·intro _ _
   obtain ⟨bit,hbe⟩:∃bit,bit=(if ok then (1:Int)else 0):=⟨_,rfl⟩
   rw[← hbe]at hbit ⊢
   repeat' (first|refine zh ?_|refine HL.jw (Rd.own 0 I) zo (ZH (lval l) n) I I I I hlt ?_|refine HL.Jf (Rd.own 0 I) (by rw[jC JC];omega) I I I I I I ?_|refine HL.jY (Rd.own 0 I) I I I I (jR JC hget (i:=1) I) ?_|refine HL.KD (j:=ZH (lval l) n*3+1) 0 I I I I I I I (by rw[jC JC];omega) ?_|intro (bk:Nat))
   refine HL.ent (Ent.JM (xs':=cellsOf liC (L.set (ZH (lval l) n) ⟨x.nd,(2*x.bi+bit)%65536,x.ct⟩)) I (J2 (i:=1) JC hget I (by decide))) ?_
   have hget2:(L.set (ZH (lval l) n) ⟨x.nd,(2*x.bi+bit)%65536,x.ct⟩)[ZH (lval l) n]? =some ⟨x.nd,(2*x.bi+bit)%65536,x.ct⟩:=by simp[hlt]
   have hl2:(L.set (ZH (lval l) n) ⟨x.nd,(2*x.bi+bit)%65536,x.ct⟩).length=L.length:=List.length_set
   repeat' (first|refine zh ?_|refine HL.jw (Rd.own 0 I) zo (ZH (lval l) n) I I I I hlt ?_|refine HL.Jf (Rd.own 0 I) (by rw[jC JC,hl2];omega) I I I I I I ?_|refine HL.jY (Rd.own 0 I) I I I I (jR JC hget2 (i:=2) I) ?_|refine HL.KD (j:=ZH (lval l) n*3+2) 0 I I I I I I I (by rw[jC JC,hl2];omega) ?_|intro (bk:Nat))
   refine HR.ent (Ent.JM (xs':=cellsOf liC ((L.set (ZH (lval l) n) ⟨x.nd,(2*x.bi+bit)%65536,x.ct⟩).set (ZH (lval l) n) (jPQ x ok))) I (J2 (i:=2) JC hget2 ?_ (by decide))) ?_
   ·simp only[jPQ,← hbe]
    rw[show min (x.ct+1) 16=(if (16:Int)<x.ct+1 then 16 else x.ct+1) by split<;>omega]
    rfl
   repeat' (first|refine zh ?_|intro (bk:Nat))
   refine HR.ret Tryz.func92 I [_] (fun _ _=>⟨I,trivial⟩) ?_
   refine fun w' hw=>⟨r,rfl,Ent.JM ?_ ?_ w' hw⟩
   ·rw [heq];simp
   ·rw [heq,List.set_set]
  ·refine HR.cond I (fun h3=>?_) (fun h3=>?_)
   ·subst h3
    refine HR.region ?_
    repeat' (first|refine zn ?_|apply zb ?_ ?_|exact zc|(refine zi fun hb=>?_;try simp at hb)|intro (bk:Nat))
    exact hj2 () _ _ trivial ⟨I,I,I,trivial⟩ Ent.refl
   ·subst h3
    refine HR.skip ?_
    exact hj2 () _ _ trivial ⟨I,I,I,trivial⟩ Ent.refl
 refine HR.cond I (fun h2=>?_) (fun h2=>?_)
 ·have h2:jMd (lval l) n=false:=by simpa using h2
  have hno:=jMh (jBJ h2)
  repeat' (first|refine zh ?_|refine HL.j4 (Rd.own 0 I) I I I ?_|intro (bk:Nat))
  refine HR.cond I (fun h3=>?_) (fun h3=>?_)
  ·have h3:(lval l).length=24:=by have:=eq_of_beq h3;omega
   repeat' (first|refine zh ?_|intro (bk:Nat))
   refine HR.ret Tryz.func92 I [_] (fun _ _=>⟨I,trivial⟩) ?_
   exact fun w' hw=>⟨v1,rfl,by rw[jKF hr hno h3];exact hw⟩
  ·have h3:¬(lval l).length=24:=by
    have h3:(((lval l).length:Int)==24)=false:=h3
    simp at h3;omega
   refine HR.skip ?_
   refine HR.region ?_
   repeat' (first|refine zn ?_|refine HL.build I I ?_|refine HL.jk zo I I I I I (by decide) (by decide) ?_|apply zb ?_ ?_|exact zc|(refine zi fun hb=>?_;try simp at hb)|intro (bk:Nat))
   intro va
   refine HL.Jo (r:=fun r:Value=>r) (Q:=fun _=>True) (G0:=[jK va 162 3 1 (liC ⟨n,0,0⟩),jK v1 162 3 (lval l).length (cellsOf liC (lval l))]) (H0:=[]) (G:=fun r=>[jK r 162 3 ((lval l).take (ZH (lval l) n)++⟨n,0,0⟩::(lval l).drop (ZH (lval l) n)).length (cellsOf liC ((lval l).take (ZH (lval l) n)++⟨n,0,0⟩::(lval l).drop (ZH (lval l) n)))]) fn169 I I I (fun w hw=>jMo (lval l) ⟨n,0,0⟩ (ZH (lval l) n) v1 va _ w hw hple (by omega)) ?_
   intro r _
   repeat' (first|refine zn ?_|apply zb ?_ ?_|exact zc|(refine zi fun hb=>?_;try simp at hb)|intro (bk:Nat))
   exact hj (r,_,_) _ _ (Place.new hr hno h3) ⟨I,I,I,I,trivial⟩ Ent.refl
 ·have h2:jMd (lval l) n=true:=by simpa using h2
  obtain ⟨x,hx,hn⟩:=jCV h2
  refine HR.skip ?_
  exact hj (v1,lval l,x) _ _ (Place.old hr hx hn) ⟨I,I,I,I,trivial⟩ Ent.refl
end Go.Proofs.YtgfdoognildoeaaGreat
namespace Go.Proofs.YtgfdoognildoeaaGreat
open Go.GX Go.RowKit
attribute [local irreducible] Calls Run jg jh JU HR HL HD jU jK Jc Rd jL jd
open Nd
theorem fn201:IsFn Tryz.prog 201:=⟨⟨_,_,Tryz.func201,rfl,by decide⟩⟩
theorem fn144:IsFn Tryz.prog 144:=⟨⟨_,_,Tryz.func144,rfl,by decide⟩⟩
theorem jJo (n:Int) (w:World) (hn:0≤n∧n≤16):Calls Tryz.prog 201 #[.int .i64 n] w fun e w'=>e= .returned (.int .i64 (2 ^ n.toNat))∧Below w.heap.size w w':=by
 obtain ⟨m,rfl⟩:∃m:Nat,n=m:=⟨n.toNat,by omega⟩
 refine jB Tryz.func201 I (Nat.le_of_ble_eq_true I) ?_
 refine HR.sub (σ':=[(0,.int .i64 (m:Int))]) ⟨I,trivial⟩ ?_
 repeat' (first|refine zh ?_|apply zb ?_ ?_|exact zc|(refine zi fun hb=>?_;try simp at hb)|intro (bk:Nat))
 refine HR.loop (ι:=Nat) (fun k=>k≤m) (fun k=>[(0,.int .i64 (m:Int)),(3,.int .i64 ((2 ^ k:Nat):Int)),(4,.int .i64 (k:Int))]) (fun _=>[]) (fun k=>m-k) 0 (Nat.zero_le _) ⟨I,I,I,trivial⟩ Ent.refl ?_
 intro k hk ih
 have h2:2 ^ k≤2 ^ 16:=Nat.pow_le_pow_right (by decide) (by omega)
 have h16:2 ^ 16=65536:=by decide
 rw[h16]at h2
 obtain ⟨p,hpe⟩:∃p,p=2 ^ k:=⟨_,rfl⟩
 rw[← hpe]at h2 ⊢
 repeat' (first|refine zh ?_|apply zb ?_ ?_|exact zc|(refine zi fun hb=>?_;try simp at hb)|intro (bk:Nat))
 refine HR.cond I (fun h=>?_) (fun h=>?_)
 ·have hlt:k<m:=by have:=of_decide_eq_true h;omega
  repeat' (first|refine zh ?_|apply zb ?_ ?_|exact zc|(refine zi fun hb=>?_;try simp at hb)|intro (bk:Nat))
  refine HR.ZB 3 (v':= .int .i64 ((2 ^ (k+1):Nat):Int)) I (show Value.int .i64 (2*(p:Int))=_ by rw[Nat.pow_succ,← hpe];congr 1;omega) ?_
  exact ih (k+1) _ _ hlt (by omega) ⟨I,I,I,trivial⟩ Ent.refl
 ·have hke:k=m:=by have:=of_decide_eq_false h;omega
  subst hke
  repeat' (first|refine zh ?_|apply zb ?_ ?_|exact zc|(refine zi fun hb=>?_;try simp at hb)|intro (bk:Nat))
  refine HR.ret Tryz.func201 I [_] (fun _ _=>⟨I,trivial⟩) ?_
  refine fun w' hw=>⟨?_,hw.jE⟩
  rw[hpe]
  simp only[Zv,Int.toNat_natCast,Int.natCast_pow]
  rfl
theorem jFL (l:List Li) (v:Value) (w:World) (hv:Sl w v (cellsOf liC l) l.length) (hl:l.length≤1000):
  Calls Tryz.prog 144 #[v] w fun e w'=>e= .returned (.int .i64 (jA4 l))∧Below w.heap.size w w':=by
 refine jB Tryz.func144 I (Nat.le_of_ble_eq_true I) ?_
 refine HR.sub (σ':=[(0,v)]) ⟨I,trivial⟩ ?_
 repeat' (first|refine zh ?_|refine HL.j4 (Rd.arg hv) I I I ?_|apply zb ?_ ?_|exact zc|(refine zi fun hb=>?_;try simp at hb)|intro (bk:Nat))
 refine HR.cond I (fun h=>?_) (fun h=>?_)
 ·have h:l.length>24:=by have:=of_decide_eq_true h;omega
  repeat' (first|refine zh ?_|apply zb ?_ ?_|exact zc|(refine zi fun hb=>?_;try simp at hb)|intro (bk:Nat))
  refine HR.ret Tryz.func144 I [_] (fun _ _=>⟨I,trivial⟩) ?_
  exact fun w' hw=>⟨by rw[jA4,if_pos h];rfl,hw.jE⟩
 have h:l.length≤24:=by have:=of_decide_eq_false h;omega
 repeat' (first|refine zh ?_|apply zb ?_ ?_|exact zc|(refine zi fun hb=>?_;try simp at hb)|intro (bk:Nat))
 refine HR.loop (ι:=Nat) (fun k=>k≤l.length∧jf (jHK l) k=0) (fun k=>[(0,v),(3,.int .i64 (k:Int))]) (fun _=>[]) (fun k=>l.length-k) 0 ⟨Nat.zero_le _,rfl⟩ ⟨I,I,trivial⟩ Ent.refl ?_
 rintro k ⟨hk,hg⟩ ih
 repeat' (first|refine zh ?_|refine HL.j4 (Rd.arg hv) I I I ?_|apply zb ?_ ?_|exact zc|(refine zi fun hb=>?_;try simp at hb)|intro (bk:Nat))
 refine HR.cond I (fun h2=>?_) (fun h2=>?_)
 ·have hlt:k<l.length:=by have:=of_decide_eq_true h2;omega
  obtain ⟨x,hx⟩:=jH hlt
  repeat' (first|refine zh ?_|refine HL.jw (Rd.arg hv) zo k I I I I hlt ?_|refine HL.JB (Rd.arg hv) I I I I (by simp) I (jF JC hx) ?_|intro (bk:Nat))
  refine HR.jo JZ (by kernel_rfl) ?_
  repeat' (first|refine zq ?_|refine HQ.jN fn201 I I (fun w _=>jJo x.ct w (by omega)) ?_|apply zb ?_ ?_|exact zc|(refine zi fun hb=>?_;try simp at hb))
  refine HR.cond I (fun h3=>?_) (fun h3=>?_)
  ·have h3:zS x=true:=h3
   repeat' (first|refine zh ?_|apply zb ?_ ?_|exact zc|(refine zi fun hb=>?_;try simp at hb)|intro (bk:Nat))
   refine HR.ret Tryz.func144 I [_] (fun _ _=>⟨I,trivial⟩) ?_
   refine fun w' hw=>⟨?_,hw.jE⟩
   have e:=jDh hx h3
   rw[jEY h hg (by rw[e];decide) hlt,e];rfl
  have h3:zS x=false:=h3
  obtain ⟨y,hy⟩:=jH (l:=l) (j:=k-1) (by omega)
  repeat' (first|refine zh ?_|apply zb ?_ ?_|exact zc|(refine zi fun hb=>?_;try simp at hb)|intro (bk:Nat))
  refine HR.jo JZ (by kernel_rfl) ?_
  repeat' (first|refine zq ?_|refine HQ.jw (Rd.arg hv) zo (k-1) I I I (by omega) (by omega) ?_|refine HQ.Jf (Rd.arg hv) (by rw[jC JC];omega) I I I I I I ?_|refine HQ.jY (Rd.arg hv) I I I I (jR JC hy (i:=0) I) ?_|apply zb ?_ ?_|exact zc|(refine zi fun hb=>?_;try simp at hb))
  refine HR.cond I (fun h4=>?_) (fun h4=>?_)
  ·have h4:(decide ((k:Int)>0)&&decide (y.nd≥x.nd))=true:=h4
   simp only[Bool.and_eq_true,decide_eq_true_eq]at h4
   repeat' (first|refine zh ?_|apply zb ?_ ?_|exact zc|(refine zi fun hb=>?_;try simp at hb)|intro (bk:Nat))
   refine HR.ret Tryz.func144 I [_] (fun _ _=>⟨I,trivial⟩) ?_
   refine fun w' hw=>⟨?_,hw.jE⟩
   have e:=jDi hx h3 (by omega) hy h4.2
   rw[jEY h hg (by rw[e];decide) hlt,e];rfl
  ·have h4:(decide ((k:Int)>0)&&decide (y.nd≥x.nd))=false:=h4
   repeat' (first|refine zh ?_|apply zb ?_ ?_|exact zc|(refine zi fun hb=>?_;try simp at hb)|intro (bk:Nat))
   refine ih (k+1) _ _ ⟨hlt,zP hg (jMg hx h3 fun y' h0 hy' hle=>?_)⟩ (by omega) ⟨I,I,trivial⟩ (Ent.pick [] I I)
   rw[hy]at hy'
   cases hy'
   rw[decide_eq_true (show (k:Int)>0 by omega),decide_eq_true (show y.nd≥x.nd from hle)]at h4
   cases h4
 ·have hke:k=l.length:=by have:=of_decide_eq_false h2;omega
  subst hke
  repeat' (first|refine zh ?_|apply zb ?_ ?_|exact zc|(refine zi fun hb=>?_;try simp at hb)|intro (bk:Nat))
  refine HR.ret Tryz.func144 I [_] (fun _ _=>⟨I,trivial⟩) ?_
  exact fun w' hw=>⟨by rw[jA4,if_neg (by omega),hg];rfl,hw.jE⟩
end Go.Proofs.YtgfdoognildoeaaGreat
namespace Go.Proofs.YtgfdoognildoeaaGreat
open Go.GX Go.RowKit
attribute [local irreducible] Calls Run jg jh JU HR HL HD jU jK Jc Rd jL jd
open Nd
theorem jFy {f:Fr} (k1:((f.kd==1)||(f.kd==4))=true) (k3:(f.kd==3)=false):jEg f=(((f.fr != f.dst)&&(f.dst==255))&&(f.ta==255)):=by
 unfold jEg;rw[k1,k3];simp[bne,Bool.and_assoc]
theorem jKX {f:Fr} (k1:((f.kd==1)||(f.kd==4))=false) (k3:(f.kd==3)=true):jEg f=(((f.fr != f.dst)&&decide (f.da=[]))&&(f.dst != 255)):=by
 unfold jEg;rw[k1,k3];simp[bne,Bool.and_assoc]
theorem jKY {f:Fr} (k1:((f.kd==1)||(f.kd==4))=false) (k3:(f.kd==3)=false):jEg f=(f.fr != f.dst):=by
 unfold jEg;rw[k1,k3];simp[bne]
theorem jJJ {f:Fr} (h1:¬(f.kd<1∨f.kd>4)) (h2:jBa f=false) (h3:¬f.da.length>109) (h4:jEg f=false):jC3 f=4:=by
 unfold jC3;rw[if_neg h1,if_neg (by rw[h2];decide),if_neg h3,if_pos h4]
theorem jJK {f:Fr} (h1:¬(f.kd<1∨f.kd>4)) (h2:jBa f=false) (h3:¬f.da.length>109) (h4:jEg f=true):jC3 f=0:=by
 unfold jC3;rw[if_neg h1,if_neg (by rw[h2];decide),if_neg h3,if_neg (by rw[h4];decide)]
theorem jKZ (f:Fr) (w:World) (hd:f.da.length≤9223372036854775807):Calls Tryz.prog 162 #[.agg ⟨frC f⟩] w fun e w'=>e= .returned (.int .i64 (jC3 f))∧Below w.heap.size w w':=by
 refine jB Tryz.func162 I (Nat.le_of_ble_eq_true I) ?_
 refine HR.sub (σ':=[(0,.agg ⟨frC f⟩)]) ⟨I,trivial⟩ ?_
 repeat' (first|refine zh ?_|apply zb ?_ ?_|exact zc|(refine zi fun hb=>?_;try simp at hb)|intro (bk:Nat))
 refine HR.cond I (fun h=>?_) (fun h=>?_)
 ·have h:(decide (f.kd<1)||decide (f.kd>4))=true:=h
  simp only[Bool.or_eq_true,decide_eq_true_eq]at h
  repeat' (first|refine zh ?_|apply zb ?_ ?_|exact zc|(refine zi fun hb=>?_;try simp at hb)|intro (bk:Nat))
  refine HR.ret Tryz.func162 I [_] (fun _ _=>⟨I,trivial⟩) ?_
  exact fun w' hw=>⟨by rw[jC3,if_pos h];rfl,hw.jE⟩
 have h:(decide (f.kd<1)||decide (f.kd>4))=false:=h
 have hk:¬(f.kd<1∨f.kd>4):=by simp only[Bool.or_eq_false_iff,decide_eq_false_iff_not]at h;omega
 repeat' (first|refine zh ?_|refine HL.jN jSW I I (fun w _=>jFu _ w) ?_|refine HL.jN fn215 I I (fun w _=>jJZ _ w) ?_|apply zb ?_ ?_|exact zc|(refine zi fun hb=>?_;try simp at hb)|intro (bk:Nat))
 refine HR.cond I (fun h2=>?_) (fun h2=>?_)
 ·have h2:jBa f=true:=h2
  repeat' (first|refine zh ?_|apply zb ?_ ?_|exact zc|(refine zi fun hb=>?_;try simp at hb)|intro (bk:Nat))
  refine HR.ret Tryz.func162 I [_] (fun _ _=>⟨I,trivial⟩) ?_
  exact fun w' hw=>⟨by rw[jC3,if_neg hk,if_pos h2];rfl,hw.jE⟩
 have h2:jBa f=false:=h2
 repeat' (first|refine zh ?_|apply zb ?_ ?_|exact zc|(refine zi fun hb=>?_;try simp at hb)|intro (bk:Nat))
 refine HR.cond I (fun h3=>?_) (fun h3=>?_)
 ·have h3:f.da.length>109:=by have:=of_decide_eq_true h3;omega
  repeat' (first|refine zh ?_|apply zb ?_ ?_|exact zc|(refine zi fun hb=>?_;try simp at hb)|intro (bk:Nat))
  refine HR.ret Tryz.func162 I [_] (fun _ _=>⟨I,trivial⟩) ?_
  exact fun w' hw=>⟨by rw[jC3,if_neg hk,if_neg (by rw[h2];decide),if_pos h3];rfl,hw.jE⟩
 have h3:¬f.da.length>109:=by have:=of_decide_eq_false h3;omega
 repeat' (first|refine zh ?_|apply zb ?_ ?_|exact zc|(refine zi fun hb=>?_;try simp at hb)|intro (bk:Nat))
 refine HR.cond I (fun h4=>?_) (fun h4=>?_)
 ·have h4:(f.kd==1)=true:=h4
  have e:f.kd=1:=by simpa using h4
  have hf:=jFy (f:=f) (by simp[e]) (by simp[e])
  repeat' (first|refine zh ?_|apply zb ?_ ?_|exact zc|(refine zi fun hb=>?_;try simp at hb)|intro (bk:Nat))
  refine HR.cond I (fun h5=>?_) (fun h5=>?_)
  ·have h5:(!(((f.fr != f.dst)&&(f.dst==255))&&(f.ta==255)))=true:=h5
   rw[← hf]at h5
   repeat' (first|refine zh ?_|apply zb ?_ ?_|exact zc|(refine zi fun hb=>?_;try simp at hb)|intro (bk:Nat))
   refine HR.ret Tryz.func162 I [_] (fun _ _=>⟨I,trivial⟩) ?_
   exact fun w' hw=>⟨by rw[jJJ hk h2 h3 (by simpa using h5)];rfl,hw.jE⟩
  ·have h5:(!(((f.fr != f.dst)&&(f.dst==255))&&(f.ta==255)))=false:=h5
   rw[← hf]at h5
   repeat' (first|refine zh ?_|apply zb ?_ ?_|exact zc|(refine zi fun hb=>?_;try simp at hb)|intro (bk:Nat))
   refine HR.ret Tryz.func162 I [_] (fun _ _=>⟨I,trivial⟩) ?_
   exact fun w' hw=>⟨by rw[jJK hk h2 h3 (by simpa using h5)];rfl,hw.jE⟩
 have h4:(f.kd==1)=false:=h4
 repeat' (first|refine zh ?_|apply zb ?_ ?_|exact zc|(refine zi fun hb=>?_;try simp at hb)|intro (bk:Nat))
 refine HR.cond I (fun h6=>?_) (fun h6=>?_)
 ·have h6:(f.kd==4)=true:=h6
  have e:f.kd=4:=by simpa using h6
  have hf:=jFy (f:=f) (by simp[e]) (by simp[e])
  repeat' (first|refine zh ?_|apply zb ?_ ?_|exact zc|(refine zi fun hb=>?_;try simp at hb)|intro (bk:Nat))
  refine HR.cond I (fun h5=>?_) (fun h5=>?_)
  ·have h5:(!(((f.fr != f.dst)&&(f.dst==255))&&(f.ta==255)))=true:=h5
   rw[← hf]at h5
   repeat' (first|refine zh ?_|apply zb ?_ ?_|exact zc|(refine zi fun hb=>?_;try simp at hb)|intro (bk:Nat))
   refine HR.ret Tryz.func162 I [_] (fun _ _=>⟨I,trivial⟩) ?_
   exact fun w' hw=>⟨by rw[jJJ hk h2 h3 (by simpa using h5)];rfl,hw.jE⟩
  ·have h5:(!(((f.fr != f.dst)&&(f.dst==255))&&(f.ta==255)))=false:=h5
   rw[← hf]at h5
   repeat' (first|refine zh ?_|apply zb ?_ ?_|exact zc|(refine zi fun hb=>?_;try simp at hb)|intro (bk:Nat))
   refine HR.ret Tryz.func162 I [_] (fun _ _=>⟨I,trivial⟩) ?_
   exact fun w' hw=>⟨by rw[jJK hk h2 h3 (by simpa using h5)];rfl,hw.jE⟩
 have h6:(f.kd==4)=false:=h6
 repeat' (first|refine zh ?_|apply zb ?_ ?_|exact zc|(refine zi fun hb=>?_;try simp at hb)|intro (bk:Nat))
 refine HR.cond I (fun h7=>?_) (fun h7=>?_)
 ·have h7:(f.kd==3)=true:=h7
  have hf:=jKX (f:=f) (by rw[h4,h6];rfl) h7
  repeat' (first|refine zh ?_|apply zb ?_ ?_|exact zc|(refine zi fun hb=>?_;try simp at hb)|intro (bk:Nat))
  refine HR.cond I (fun h5=>?_) (fun h5=>?_)
  ·have h5:(!(((f.fr != f.dst)&&(f.da==[]))&&(f.dst != 255)))=true:=h5
   rw[show (f.da==[])=decide (f.da=[]) by cases f.da<;>rfl,← hf]at h5
   repeat' (first|refine zh ?_|apply zb ?_ ?_|exact zc|(refine zi fun hb=>?_;try simp at hb)|intro (bk:Nat))
   refine HR.ret Tryz.func162 I [_] (fun _ _=>⟨I,trivial⟩) ?_
   exact fun w' hw=>⟨by rw[jJJ hk h2 h3 (by simpa using h5)];rfl,hw.jE⟩
  ·have h5:(!(((f.fr != f.dst)&&(f.da==[]))&&(f.dst != 255)))=false:=h5
   rw[show (f.da==[])=decide (f.da=[]) by cases f.da<;>rfl,← hf]at h5
   repeat' (first|refine zh ?_|apply zb ?_ ?_|exact zc|(refine zi fun hb=>?_;try simp at hb)|intro (bk:Nat))
   refine HR.ret Tryz.func162 I [_] (fun _ _=>⟨I,trivial⟩) ?_
   exact fun w' hw=>⟨by rw[jJK hk h2 h3 (by simpa using h5)];rfl,hw.jE⟩
 ·have h7:(f.kd==3)=false:=h7
  have hf:=jKY (f:=f) (by rw[h4,h6];rfl) h7
  repeat' (first|refine zh ?_|apply zb ?_ ?_|exact zc|(refine zi fun hb=>?_;try simp at hb)|intro (bk:Nat))
  refine HR.cond I (fun h5=>?_) (fun h5=>?_)
  ·have h5:(!(f.fr != f.dst))=true:=h5
   rw[← hf]at h5
   repeat' (first|refine zh ?_|apply zb ?_ ?_|exact zc|(refine zi fun hb=>?_;try simp at hb)|intro (bk:Nat))
   refine HR.ret Tryz.func162 I [_] (fun _ _=>⟨I,trivial⟩) ?_
   exact fun w' hw=>⟨by rw[jJJ hk h2 h3 (by simpa using h5)];rfl,hw.jE⟩
  ·have h5:(!(f.fr != f.dst))=false:=h5
   rw[← hf]at h5
   repeat' (first|refine zh ?_|apply zb ?_ ?_|exact zc|(refine zi fun hb=>?_;try simp at hb)|intro (bk:Nat))
   refine HR.ret Tryz.func162 I [_] (fun _ _=>⟨I,trivial⟩) ?_
   exact fun w' hw=>⟨by rw[jJK hk h2 h3 (by simpa using h5)];rfl,hw.jE⟩
end Go.Proofs.YtgfdoognildoeaaGreat
namespace Go.Proofs.YtgfdoognildoeaaGreat
open Go.GX Go.RowKit
attribute [local irreducible] Calls Run jg jh JU HR HL HD jU jK Jc Rd jL jd
open Nd
theorem fn72:IsFn Tryz.prog 72:=⟨⟨_,_,Tryz.func72,rfl,by decide⟩⟩
theorem fn75:IsFn Tryz.prog 75:=⟨⟨_,_,Tryz.func75,rfl,by decide⟩⟩
theorem fn73:IsFn Tryz.prog 73:=⟨⟨_,_,Tryz.func73,rfl,by decide⟩⟩
theorem fn74:IsFn Tryz.prog 74:=⟨⟨_,_,Tryz.func74,rfl,by decide⟩⟩
theorem jJi (a b:List Li) (va vb:Value) (w:World) (ha:Sl w va (cellsOf liC a) a.length) (hb:Sl w vb (cellsOf liC b) b.length) (hla:a.length≤1000000):
  Calls Tryz.prog 72 #[va,vb] w fun e' w'=>e'= .returned (.bool (decide (a=b)))∧Below w.heap.size w w':=by
 refine jB Tryz.func72 I (Nat.le_of_ble_eq_true I) ?_
 refine HR.sub (σ':=[(0,va),(1,vb)]) ⟨I,I,trivial⟩ ?_
 repeat' (first|refine zh ?_|refine HL.j4 (Rd.arg ha) I I I ?_|refine HL.j4 (Rd.arg hb) I I I ?_|apply zb ?_ ?_|exact zc|(refine zi fun hb=>?_;try simp at hb)|intro (bk:Nat))
 refine HR.cond I (fun h1=>?_) (fun h1=>?_)
 ·repeat' (first|refine zh ?_|apply zb ?_ ?_|exact zc|(refine zi fun hb=>?_;try simp at hb)|intro (bk:Nat))
  refine HR.ret Tryz.func72 I [_] (fun _ _=>⟨I,trivial⟩) ?_
  have:a≠b:=by rintro rfl;simp at h1
  exact fun w' hw=>⟨by simp[this,Zv],hw.jE⟩
 have hl:a.length=b.length:=by have h1':((a.length:Int) != (b.length:Int))=false:=h1;simp at h1';omega
 repeat' (first|refine zh ?_|apply zb ?_ ?_|exact zc|(refine zi fun hb=>?_;try simp at hb)|intro (bk:Nat))
 refine HR.loop (ι:=Nat) (fun k=>k≤a.length∧a.take k=b.take k) (fun k=>[(0,va),(1,vb),(5,.int .i64 (k:Int))]) (fun _=>[]) (fun k=>a.length-k) 0 ⟨Nat.zero_le _,by simp⟩ ⟨I,I,I,trivial⟩ Ent.refl ?_
 rintro k ⟨hk,hg⟩ ih
 repeat' (first|refine zh ?_|refine HL.j4 (Rd.arg ha) I I I ?_|apply zb ?_ ?_|exact zc|(refine zi fun hb=>?_;try simp at hb)|intro (bk:Nat))
 refine HR.cond I (fun h2=>?_) (fun h2=>?_)
 ·have hlt:k<a.length:=by have:=of_decide_eq_true h2;omega
  obtain ⟨x,hx⟩:=jH hlt
  obtain ⟨y,hy⟩:=jH (show k<b.length by omega)
  repeat' (first|refine zh ?_|apply zb ?_ ?_|exact zc|(refine zi fun hb=>?_;try simp at hb)|intro (bk:Nat))
  refine HR.jo JZ (by kernel_rfl) ?_
  repeat' (first|refine zq ?_|refine HQ.jw (Rd.arg ha) zo k I I I I hlt ?_|refine HQ.jw (Rd.arg hb) zo k I I I I (by omega) ?_|refine HQ.JB (Rd.arg ha) I I I I (by simp) I (jF JC hx) ?_|refine HQ.JB (Rd.arg hb) I I I I (by simp) I (jF JC hy) ?_|refine jh.neS I (by kernel_rfl) (by kernel_rfl) I I I ?_|apply zb ?_ ?_|exact zc|(refine zi fun hb=>?_;try simp at hb))
  refine HR.cond I (fun h3=>?_) (fun h3=>?_)
  ·repeat' (first|refine zh ?_|apply zb ?_ ?_|exact zc|(refine zi fun hb=>?_;try simp at hb)|intro (bk:Nat))
   refine HR.ret Tryz.func72 I [_] (fun _ _=>⟨I,trivial⟩) ?_
   have:a≠b:=by rintro rfl;rw[hx]at hy;cases hy;simp at h3
   exact fun w' hw=>⟨by simp[this,Zv],hw.jE⟩
  ·repeat' (first|refine zh ?_|apply zb ?_ ?_|exact zc|(refine zi fun hb=>?_;try simp at hb)|intro (bk:Nat))
   refine ih (k+1) _ _ ⟨hlt,?_⟩ (by omega) ⟨I,I,I,trivial⟩ Ent.refl
   rw[jG hx,jG hy,hg]
   have hxy:x=y:=by
    obtain ⟨a1,a2,a3⟩:=x
    obtain ⟨b1,b2,b3⟩:=y
    simp at h3
    simp[h3]
   rw[hxy]
 ·have hke:k=a.length:=by have:=of_decide_eq_false h2;omega
  subst hke
  repeat' (first|refine zh ?_|apply zb ?_ ?_|exact zc|(refine zi fun hb=>?_;try simp at hb)|intro (bk:Nat))
  refine HR.ret Tryz.func72 I [_] (fun _ _=>⟨I,trivial⟩) ?_
  have:a=b:=by rw[← List.take_length (l:=a),hg,hl,List.take_length]
  exact fun w' hw=>⟨by simp[this,Zv],hw.jE⟩
theorem jJg (a b:List Pr) (va vb:Value) (w:World) (ha:Sl w va (cellsOf prC a) a.length) (hb:Sl w vb (cellsOf prC b) b.length) (hla:a.length≤1000000):
  Calls Tryz.prog 75 #[va,vb] w fun e' w'=>e'= .returned (.bool (decide (a=b)))∧Below w.heap.size w w':=by
 refine jB Tryz.func75 I (Nat.le_of_ble_eq_true I) ?_
 refine HR.sub (σ':=[(0,va),(1,vb)]) ⟨I,I,trivial⟩ ?_
 repeat' (first|refine zh ?_|refine HL.j4 (Rd.arg ha) I I I ?_|refine HL.j4 (Rd.arg hb) I I I ?_|apply zb ?_ ?_|exact zc|(refine zi fun hb=>?_;try simp at hb)|intro (bk:Nat))
 refine HR.cond I (fun h1=>?_) (fun h1=>?_)
 ·repeat' (first|refine zh ?_|apply zb ?_ ?_|exact zc|(refine zi fun hb=>?_;try simp at hb)|intro (bk:Nat))
  refine HR.ret Tryz.func75 I [_] (fun _ _=>⟨I,trivial⟩) ?_
  have:a≠b:=by rintro rfl;simp at h1
  exact fun w' hw=>⟨by simp[this,Zv],hw.jE⟩
 have hl:a.length=b.length:=by have h1':((a.length:Int) != (b.length:Int))=false:=h1;simp at h1';omega
 repeat' (first|refine zh ?_|apply zb ?_ ?_|exact zc|(refine zi fun hb=>?_;try simp at hb)|intro (bk:Nat))
 refine HR.loop (ι:=Nat) (fun k=>k≤a.length∧a.take k=b.take k) (fun k=>[(0,va),(1,vb),(5,.int .i64 (k:Int))]) (fun _=>[]) (fun k=>a.length-k) 0 ⟨Nat.zero_le _,by simp⟩ ⟨I,I,I,trivial⟩ Ent.refl ?_
 rintro k ⟨hk,hg⟩ ih
 repeat' (first|refine zh ?_|refine HL.j4 (Rd.arg ha) I I I ?_|apply zb ?_ ?_|exact zc|(refine zi fun hb=>?_;try simp at hb)|intro (bk:Nat))
 refine HR.cond I (fun h2=>?_) (fun h2=>?_)
 ·have hlt:k<a.length:=by have:=of_decide_eq_true h2;omega
  obtain ⟨x,hx⟩:=jH hlt
  obtain ⟨y,hy⟩:=jH (show k<b.length by omega)
  repeat' (first|refine zh ?_|apply zb ?_ ?_|exact zc|(refine zi fun hb=>?_;try simp at hb)|intro (bk:Nat))
  refine HR.jo JZ (by kernel_rfl) ?_
  repeat' (first|refine zq ?_|refine HQ.jw (Rd.arg ha) jAy k I I I I hlt ?_|refine HQ.jw (Rd.arg hb) jAy k I I I I (by omega) ?_|refine HQ.JB (Rd.arg ha) I I I I (by simp) I (jF Zf hx) ?_|refine HQ.JB (Rd.arg hb) I I I I (by simp) I (jF Zf hy) ?_|refine jh.neS I (by kernel_rfl) (by kernel_rfl) I I I ?_|apply zb ?_ ?_|exact zc|(refine zi fun hb=>?_;try simp at hb))
  refine HR.cond I (fun h3=>?_) (fun h3=>?_)
  ·repeat' (first|refine zh ?_|apply zb ?_ ?_|exact zc|(refine zi fun hb=>?_;try simp at hb)|intro (bk:Nat))
   refine HR.ret Tryz.func75 I [_] (fun _ _=>⟨I,trivial⟩) ?_
   have:a≠b:=by rintro rfl;rw[hx]at hy;cases hy;simp at h3
   exact fun w' hw=>⟨by simp[this,Zv],hw.jE⟩
  ·repeat' (first|refine zh ?_|apply zb ?_ ?_|exact zc|(refine zi fun hb=>?_;try simp at hb)|intro (bk:Nat))
   refine ih (k+1) _ _ ⟨hlt,?_⟩ (by omega) ⟨I,I,I,trivial⟩ Ent.refl
   rw[jG hx,jG hy,hg]
   have hxy:x=y:=by
    obtain ⟨a1,a2⟩:=x
    obtain ⟨b1,b2⟩:=y
    simp at h3
    simp[h3]
   rw[hxy]
 ·have hke:k=a.length:=by have:=of_decide_eq_false h2;omega
  subst hke
  repeat' (first|refine zh ?_|apply zb ?_ ?_|exact zc|(refine zi fun hb=>?_;try simp at hb)|intro (bk:Nat))
  refine HR.ret Tryz.func75 I [_] (fun _ _=>⟨I,trivial⟩) ?_
  have:a=b:=by rw[← List.take_length (l:=a),hg,hl,List.take_length]
  exact fun w' hw=>⟨by simp[this,Zv],hw.jE⟩
theorem jJf (a b:List Sn) (va vb:Value) (w:World) (ha:Sl w va (cellsOf snC a) a.length) (hb:Sl w vb (cellsOf snC b) b.length) (hla:a.length≤1000000):
  Calls Tryz.prog 73 #[va,vb] w fun e' w'=>e'= .returned (.bool (decide (a=b)))∧Below w.heap.size w w':=by
 refine jB Tryz.func73 I (Nat.le_of_ble_eq_true I) ?_
 refine HR.sub (σ':=[(0,va),(1,vb)]) ⟨I,I,trivial⟩ ?_
 repeat' (first|refine zh ?_|refine HL.j4 (Rd.arg ha) I I I ?_|refine HL.j4 (Rd.arg hb) I I I ?_|apply zb ?_ ?_|exact zc|(refine zi fun hb=>?_;try simp at hb)|intro (bk:Nat))
 refine HR.cond I (fun h1=>?_) (fun h1=>?_)
 ·repeat' (first|refine zh ?_|apply zb ?_ ?_|exact zc|(refine zi fun hb=>?_;try simp at hb)|intro (bk:Nat))
  refine HR.ret Tryz.func73 I [_] (fun _ _=>⟨I,trivial⟩) ?_
  have:a≠b:=by rintro rfl;simp at h1
  exact fun w' hw=>⟨by simp[this,Zv],hw.jE⟩
 have hl:a.length=b.length:=by have h1':((a.length:Int) != (b.length:Int))=false:=h1;simp at h1';omega
 repeat' (first|refine zh ?_|apply zb ?_ ?_|exact zc|(refine zi fun hb=>?_;try simp at hb)|intro (bk:Nat))
 refine HR.loop (ι:=Nat) (fun k=>k≤a.length∧a.take k=b.take k) (fun k=>[(0,va),(1,vb),(5,.int .i64 (k:Int))]) (fun _=>[]) (fun k=>a.length-k) 0 ⟨Nat.zero_le _,by simp⟩ ⟨I,I,I,trivial⟩ Ent.refl ?_
 rintro k ⟨hk,hg⟩ ih
 repeat' (first|refine zh ?_|refine HL.j4 (Rd.arg ha) I I I ?_|apply zb ?_ ?_|exact zc|(refine zi fun hb=>?_;try simp at hb)|intro (bk:Nat))
 refine HR.cond I (fun h2=>?_) (fun h2=>?_)
 ·have hlt:k<a.length:=by have:=of_decide_eq_true h2;omega
  obtain ⟨x,hx⟩:=jH hlt
  obtain ⟨y,hy⟩:=jH (show k<b.length by omega)
  repeat' (first|refine zh ?_|apply zb ?_ ?_|exact zc|(refine zi fun hb=>?_;try simp at hb)|intro (bk:Nat))
  refine HR.jo JZ (by kernel_rfl) ?_
  repeat' (first|refine zq ?_|refine HQ.jw (Rd.arg ha) Ja k I I I I hlt ?_|refine HQ.jw (Rd.arg hb) Ja k I I I I (by omega) ?_|refine HQ.JB (Rd.arg ha) I I I I (by simp) I (jF je hx) ?_|refine HQ.JB (Rd.arg hb) I I I I (by simp) I (jF je hy) ?_|refine jh.neS2 I (by kernel_rfl) (by kernel_rfl) I I I ?_|apply zb ?_ ?_|exact zc|(refine zi fun hb=>?_;try simp at hb))
  refine HR.cond I (fun h3=>?_) (fun h3=>?_)
  ·repeat' (first|refine zh ?_|apply zb ?_ ?_|exact zc|(refine zi fun hb=>?_;try simp at hb)|intro (bk:Nat))
   refine HR.ret Tryz.func73 I [_] (fun _ _=>⟨I,trivial⟩) ?_
   have:a≠b:=by rintro rfl;rw[hx]at hy;cases hy;simp at h3
   exact fun w' hw=>⟨by simp[this,Zv],hw.jE⟩
  ·repeat' (first|refine zh ?_|apply zb ?_ ?_|exact zc|(refine zi fun hb=>?_;try simp at hb)|intro (bk:Nat))
   refine ih (k+1) _ _ ⟨hlt,?_⟩ (by omega) ⟨I,I,I,trivial⟩ Ent.refl
   rw[jG hx,jG hy,hg]
   have hxy:x=y:=by
    obtain ⟨⟨a1,a2,a3,a4,a5,a6,a7,a8,a9⟩,a10,a11⟩:=x
    obtain ⟨⟨b1,b2,b3,b4,b5,b6,b7,b8,b9⟩,b10,b11⟩:=y
    simp at h3
    simp[h3]
   rw[hxy]
 ·have hke:k=a.length:=by have:=of_decide_eq_false h2;omega
  subst hke
  repeat' (first|refine zh ?_|apply zb ?_ ?_|exact zc|(refine zi fun hb=>?_;try simp at hb)|intro (bk:Nat))
  refine HR.ret Tryz.func73 I [_] (fun _ _=>⟨I,trivial⟩) ?_
  have:a=b:=by rw[← List.take_length (l:=a),hg,hl,List.take_length]
  exact fun w' hw=>⟨by simp[this,Zv],hw.jE⟩
theorem jJh (a b:List Ma) (va vb:Value) (w:World) (ha:Sl w va (cellsOf maC a) a.length) (hb:Sl w vb (cellsOf maC b) b.length) (hla:a.length≤1000000):
  Calls Tryz.prog 74 #[va,vb] w fun e' w'=>e'= .returned (.bool (decide (a=b)))∧Below w.heap.size w w':=by
 refine jB Tryz.func74 I (Nat.le_of_ble_eq_true I) ?_
 refine HR.sub (σ':=[(0,va),(1,vb)]) ⟨I,I,trivial⟩ ?_
 repeat' (first|refine zh ?_|refine HL.j4 (Rd.arg ha) I I I ?_|refine HL.j4 (Rd.arg hb) I I I ?_|apply zb ?_ ?_|exact zc|(refine zi fun hb=>?_;try simp at hb)|intro (bk:Nat))
 refine HR.cond I (fun h1=>?_) (fun h1=>?_)
 ·repeat' (first|refine zh ?_|apply zb ?_ ?_|exact zc|(refine zi fun hb=>?_;try simp at hb)|intro (bk:Nat))
  refine HR.ret Tryz.func74 I [_] (fun _ _=>⟨I,trivial⟩) ?_
  have:a≠b:=by rintro rfl;simp at h1
  exact fun w' hw=>⟨by simp[this,Zv],hw.jE⟩
 have hl:a.length=b.length:=by have h1':((a.length:Int) != (b.length:Int))=false:=h1;simp at h1';omega
 repeat' (first|refine zh ?_|apply zb ?_ ?_|exact zc|(refine zi fun hb=>?_;try simp at hb)|intro (bk:Nat))
 refine HR.loop (ι:=Nat) (fun k=>k≤a.length∧a.take k=b.take k) (fun k=>[(0,va),(1,vb),(5,.int .i64 (k:Int))]) (fun _=>[]) (fun k=>a.length-k) 0 ⟨Nat.zero_le _,by simp⟩ ⟨I,I,I,trivial⟩ Ent.refl ?_
 rintro k ⟨hk,hg⟩ ih
 repeat' (first|refine zh ?_|refine HL.j4 (Rd.arg ha) I I I ?_|apply zb ?_ ?_|exact zc|(refine zi fun hb=>?_;try simp at hb)|intro (bk:Nat))
 refine HR.cond I (fun h2=>?_) (fun h2=>?_)
 ·have hlt:k<a.length:=by have:=of_decide_eq_true h2;omega
  obtain ⟨x,hx⟩:=jH hlt
  obtain ⟨y,hy⟩:=jH (show k<b.length by omega)
  repeat' (first|refine zh ?_|apply zb ?_ ?_|exact zc|(refine zi fun hb=>?_;try simp at hb)|intro (bk:Nat))
  refine HR.jo JZ (by kernel_rfl) ?_
  repeat' (first|refine zq ?_|refine HQ.jw (Rd.arg ha) zV k I I I I hlt ?_|refine HQ.jw (Rd.arg hb) zV k I I I I (by omega) ?_|refine HQ.JB (Rd.arg ha) I I I I (by simp) I (jF Jw hx) ?_|refine HQ.JB (Rd.arg hb) I I I I (by simp) I (jF Jw hy) ?_|refine jh.neS2 I (by kernel_rfl) (by kernel_rfl) I I I ?_|apply zb ?_ ?_|exact zc|(refine zi fun hb=>?_;try simp at hb))
  refine HR.cond I (fun h3=>?_) (fun h3=>?_)
  ·repeat' (first|refine zh ?_|apply zb ?_ ?_|exact zc|(refine zi fun hb=>?_;try simp at hb)|intro (bk:Nat))
   refine HR.ret Tryz.func74 I [_] (fun _ _=>⟨I,trivial⟩) ?_
   have:a≠b:=by rintro rfl;rw[hx]at hy;cases hy;simp at h3
   exact fun w' hw=>⟨by simp[this,Zv],hw.jE⟩
  ·repeat' (first|refine zh ?_|apply zb ?_ ?_|exact zc|(refine zi fun hb=>?_;try simp at hb)|intro (bk:Nat))
   refine ih (k+1) _ _ ⟨hlt,?_⟩ (by omega) ⟨I,I,I,trivial⟩ Ent.refl
   rw[jG hx,jG hy,hg]
   have hxy:x=y:=by
    obtain ⟨⟨a1,a2,a3,a4,a5,a6,a7,a8,a9⟩,a10⟩:=x
    obtain ⟨⟨b1,b2,b3,b4,b5,b6,b7,b8,b9⟩,b10⟩:=y
    simp at h3
    simp[h3]
   rw[hxy]
 ·have hke:k=a.length:=by have:=of_decide_eq_false h2;omega
  subst hke
  repeat' (first|refine zh ?_|apply zb ?_ ?_|exact zc|(refine zi fun hb=>?_;try simp at hb)|intro (bk:Nat))
  refine HR.ret Tryz.func74 I [_] (fun _ _=>⟨I,trivial⟩) ?_
  have:a=b:=by rw[← List.take_length (l:=a),hg,hl,List.take_length]
  exact fun w' hw=>⟨by simp[this,Zv],hw.jE⟩
end Go.Proofs.YtgfdoognildoeaaGreat
