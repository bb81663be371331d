/- A part of the proof: contracts of the program's functions. Conditions: none. -/
import Derived.Carry
import Derived.Deep.MidRow
import Derived.Deep.Quiet
import Derived.Laws.IdiomRangeMap
import Derived.Laws.MakeOwn
import Derived.Laws.StructEq
import Derived.Laws.Tables
import Derived.Lib.AppendStr
import Derived.Lib.AppendZerosOnto
import Derived.Lib.OthersKept
import Derived.Lib.Overlaps
import Derived.Lib.OwnBridge
import Derived.Lib.SlicesCompact
import Derived.MapKept
import Derived.Orders
import Derived.OrdersHeld
import Derived.Scope
import Derived.Sort.Grow
import Derived.StillTail
import Derived.Test.YtgfdoognildoeaaGreatProg
import Derived.WalkKit
import Derived.WalkLawsBesides
import Derived.WalkSpells
import Derived.Test.YtgfdoognildoeaaGreatQB1
import Derived.Test.YtgfdoognildoeaaGreatQB2
import Derived.Test.YtgfdoognildoeaaGreatQB3
import Derived.Test.YtgfdoognildoeaaGreatQB4
import Derived.Test.YtgfdoognildoeaaGreatQB5
import Derived.Test.YtgfdoognildoeaaGreatQB6
set_option linter.unusedVariables false
set_option linter.unusedSectionVars false
set_option linter.unusedSimpArgs false
set_option maxRecDepth 100000
set_option maxHeartbeats 4000000
namespace Go.Proofs.YtgfdoognildoeaaGreat
open Go.GX Go.RowKit
attribute [local irreducible] Calls Run jg jh JU HR HL HD jU jK Jc Rd jL jd
open Nd
theorem fn88:IsFn Tryz.prog 88:=⟨⟨_,_,Tryz.func88,rfl,by decide⟩⟩
theorem fn267:IsFn Tryz.prog 267:=⟨⟨_,_,Tryz.func267,rfl,by decide⟩⟩
theorem fn273:IsFn Tryz.prog 273:=⟨⟨_,_,Tryz.func273,rfl,by decide⟩⟩
theorem fn227:IsFn Tryz.prog 227:=⟨⟨_,_,Tryz.func227,rfl,by decide⟩⟩
theorem fn264:IsFn Tryz.prog 264:=⟨⟨_,_,Tryz.func264,rfl,by decide⟩⟩
theorem fn219:IsFn Tryz.prog 219:=⟨⟨_,_,Tryz.func219,rfl,by decide⟩⟩
def fidx {α:Type} (p:α→Bool) (l:List α):Int:=match l.findIdx? p with
 |some i=>(i:Int)
 |none=>-1
theorem Jr {α:Type} (p:α→Bool) (l:List α):(fidx p l= -1∧l.findIdx? p=none∧∀a∈l,p a=false)∨∃(i:Nat) (a:α),fidx p l=(i:Int)∧l.findIdx? p=some i∧l[i]? =some a∧p a=true∧∀j b,j<i→l[j]? =some b→p b=false:=by
 unfold fidx
 cases h:l.findIdx? p with
 |none=>exact .inl ⟨rfl,rfl,fun a ha=>by have:=List.findIdx?_eq_none_iff.1 h a ha;simpa using this⟩
 |some i=>
  obtain ⟨h1,h2,h3⟩:=List.findIdx?_eq_some_iff_getElem.1 h
  refine .inr ⟨i,l[i],rfl,rfl,List.getElem?_eq_getElem h1,h2,fun j b hj hb=>?_⟩
  obtain ⟨hjl,rfl⟩:=List.getElem?_eq_some_iff.1 hb
  have:=h3 j hj
  simpa using this
theorem Zq {α:Type} {p:α→Bool} {l:List α} {i:Nat} {a:α} (ha:l[i]? =some a) (hp:p a=true) (hno:∀j b,j<i→l[j]? =some b→p b=false):fidx p l=(i:Int):=by
 rcases Jr p l with ⟨_,_,h⟩|⟨k,b,e,_,hb,hpb,hk⟩
 ·rw [h a (List.mem_of_getElem? ha)]at hp;cases hp
 ·rw [e]
  rcases Nat.lt_trichotomy k i with h|h|h
  ·rw [hno k b h hb]at hpb;cases hpb
  ·rw [h]
  ·rw [hk i a h ha]at hp;cases hp
theorem zK {α:Type} {p:α→Bool} {l:List α} (hno:∀j b,j<l.length→l[j]? =some b→p b=false):fidx p l= -1:=by
 rcases Jr p l with ⟨h,_⟩|⟨k,b,e,_,hb,hpb,hk⟩
 ·exact h
 ·rw [hno k b (List.getElem?_eq_some_iff.1 hb).1 hb]at hpb;cases hpb
theorem jBz {α:Type} (p:α→Bool) (l:List α):decide (fidx p l≥0)=l.any p:=by
 rcases Jr p l with ⟨h,_,h2⟩|⟨k,b,e,_,hb,hpb,hk⟩
 ·rw [h,decide_eq_false (by decide)]
  symm
  rw[← Bool.not_eq_true,List.any_eq_true]
  rintro ⟨a,ha,hp⟩
  rw[h2 a ha]at hp;cases hp
 ·rw [e,decide_eq_true (by omega)]
  exact (List.any_eq_true.2 ⟨b,List.mem_of_getElem? hb,hpb⟩).symm
def jQN (P:Program) (g:FuncId) (caps:List Value) {α:Type} (E:α→Value) (p:α→Bool) (l:List α) (w:World):Prop:=
 ∀a∈l,∀w',Below w.heap.size w w'→Calls P g ((E a::caps).toArray) w' fun e w''=>e= .returned (.bool (p a))∧Below w'.heap.size w' w''
theorem jBY (l:List Sn) (p:Sn→Bool) (g:FuncId) (caps:List Value) (v:Value) (w:World) (hg:IsFn Tryz.prog g) (hp:jQN Tryz.prog g caps (fun a=> .agg ⟨snC a⟩) p l w) (hv:Sl w v (cellsOf snC l) l.length) (hl:l.length≤1000000):
  Calls Tryz.prog 88 #[v,.func (.func g) #[] caps.toArray] w fun e w'=>e= .returned (.int .i64 (fidx p l))∧Below w.heap.size w w':=by
 refine jB Tryz.func88 I (Nat.le_of_ble_eq_true I) ?_
 refine HR.sub (σ':=[(0,v),(1,.func (.func g) #[] caps.toArray)]) ⟨I,I,trivial⟩ ?_
 repeat' (first|refine zh ?_|refine HL.j4 (Rd.arg hv) I I I ?_|intro (bk:Nat))
 refine HR.loop (ι:=Nat) (fun k=>k≤l.length∧∀j b,j<k→l[j]? =some b→p b=false) (fun k=>[(0,v),(1,.func (.func g) #[] caps.toArray),(7,.int .i64 (l.length:Int)),(8,.int .i64 (k:Int))]) (fun _=>[]) (fun k=>l.length-k) 0 ⟨Nat.zero_le _,fun j b hj=>absurd hj (Nat.not_lt_zero _)⟩ ⟨I,I,I,I,trivial⟩ Ent.refl ?_
 rintro k ⟨hk,hno⟩ ih
 repeat' (first|refine zh ?_|intro (bk:Nat))
 refine HR.cond I (fun h2=>?_) (fun h2=>?_)
 ·have hlt:k<l.length:=by have:=of_decide_eq_true h2;omega
  obtain ⟨x,hx⟩:=jH hlt
  repeat' (first|refine zh ?_|refine HL.jw (Rd.arg hv) Ja k I I I I hlt ?_|refine HL.JB (Rd.arg hv) I I I I (by simp) I (jF je hx) ?_|refine HL.jEi (caps:=caps) hg I I I (fun w' hw=>hp x (List.mem_of_getElem? hx) w' hw.jE) ?_|intro (bk:Nat))
  refine HR.cond I (fun h3=>?_) (fun h3=>?_)
  ·have h3:p x=true:=h3
   repeat' (first|refine zh ?_|intro (bk:Nat))
   refine HR.ret Tryz.func88 I [_] (fun _ _=>⟨I,trivial⟩) ?_
   rw[Zq hx h3 hno]
   exact fun w' hw=>⟨rfl,hw.jE⟩
  ·have h3:p x=false:=h3
   repeat' (first|refine zh ?_|intro (bk:Nat))
   refine ih (k+1) _ _ ⟨hlt,fun j b hj hb=>?_⟩ (by omega) ⟨I,I,I,I,trivial⟩ Ent.refl
   by_cases e:j=k
   ·subst e;rw[hx]at hb;cases hb;exact h3
   ·exact hno j b (by omega) hb
 ·have hke:k=l.length:=by have:=of_decide_eq_false h2;omega
  subst hke
  rw[zK hno]
  repeat' (first|refine zh ?_|intro (bk:Nat))
  refine HR.ret Tryz.func88 I [_] (fun _ _=>⟨I,trivial⟩) ?_
  exact fun w' hw=>⟨rfl,hw.jE⟩
theorem jHU (l:List Sn) (p:Sn→Bool) (g:FuncId) (caps:List Value) (v:Value) (w:World) (hg:IsFn Tryz.prog g) (hp:jQN Tryz.prog g caps (fun a=> .agg ⟨snC a⟩) p l w) (hv:Sl w v (cellsOf snC l) l.length) (hl:l.length≤1000000):
  Calls Tryz.prog 264 #[v,.func (.func g) #[] caps.toArray] w fun e w'=>e= .returned (.bool (l.any p))∧Below w.heap.size w w':=by
 rw[← jBz]
 refine jB Tryz.func264 I (Nat.le_of_ble_eq_true I) ?_
 refine HR.sub (σ':=[(0,v),(1,.func (.func g) #[] caps.toArray)]) ⟨I,I,trivial⟩ ?_
 repeat' (first|refine zh ?_|intro (bk:Nat))
 refine HL.jN fn88 I I (fun w' hw=>jBY l p g caps v w' hg (fun a ha w2 hb=>hp a ha w2 (GX.Below.seq hw.jE hb)) ((Rd.arg hv).at hw) hl) ?_
 repeat' (first|refine zh ?_|intro (bk:Nat))
 refine HR.ret Tryz.func264 I [_] (fun _ _=>⟨I,trivial⟩) ?_
 exact fun w' hw=>⟨rfl,hw.jE⟩
theorem jFo (l:List Ma) (p:Ma→Bool) (g:FuncId) (caps:List Value) (v:Value) (w:World) (hg:IsFn Tryz.prog g) (hp:jQN Tryz.prog g caps (fun a=> .agg ⟨maC a⟩) p l w) (hv:Sl w v (cellsOf maC l) l.length) (hl:l.length≤1000000):
  Calls Tryz.prog 267 #[v,.func (.func g) #[] caps.toArray] w fun e w'=>e= .returned (.int .i64 (fidx p l))∧Below w.heap.size w w':=by
 refine jB Tryz.func267 I (Nat.le_of_ble_eq_true I) ?_
 refine HR.sub (σ':=[(0,v),(1,.func (.func g) #[] caps.toArray)]) ⟨I,I,trivial⟩ ?_
 repeat' (first|refine zh ?_|refine HL.j4 (Rd.arg hv) I I I ?_|intro (bk:Nat))
 refine HR.loop (ι:=Nat) (fun k=>k≤l.length∧∀j b,j<k→l[j]? =some b→p b=false) (fun k=>[(0,v),(1,.func (.func g) #[] caps.toArray),(7,.int .i64 (l.length:Int)),(8,.int .i64 (k:Int))]) (fun _=>[]) (fun k=>l.length-k) 0 ⟨Nat.zero_le _,fun j b hj=>absurd hj (Nat.not_lt_zero _)⟩ ⟨I,I,I,I,trivial⟩ Ent.refl ?_
 rintro k ⟨hk,hno⟩ ih
 repeat' (first|refine zh ?_|intro (bk:Nat))
 refine HR.cond I (fun h2=>?_) (fun h2=>?_)
 ·have hlt:k<l.length:=by have:=of_decide_eq_true h2;omega
  obtain ⟨x,hx⟩:=jH hlt
  repeat' (first|refine zh ?_|refine HL.jw (Rd.arg hv) zV k I I I I hlt ?_|refine HL.JB (Rd.arg hv) I I I I (by simp) I (jF Jw hx) ?_|refine HL.jEi (caps:=caps) hg I I I (fun w' hw=>hp x (List.mem_of_getElem? hx) w' hw.jE) ?_|intro (bk:Nat))
  refine HR.cond I (fun h3=>?_) (fun h3=>?_)
  ·have h3:p x=true:=h3
   repeat' (first|refine zh ?_|intro (bk:Nat))
   refine HR.ret Tryz.func267 I [_] (fun _ _=>⟨I,trivial⟩) ?_
   rw[Zq hx h3 hno]
   exact fun w' hw=>⟨rfl,hw.jE⟩
  ·have h3:p x=false:=h3
   repeat' (first|refine zh ?_|intro (bk:Nat))
   refine ih (k+1) _ _ ⟨hlt,fun j b hj hb=>?_⟩ (by omega) ⟨I,I,I,I,trivial⟩ Ent.refl
   by_cases e:j=k
   ·subst e;rw[hx]at hb;cases hb;exact h3
   ·exact hno j b (by omega) hb
 ·have hke:k=l.length:=by have:=of_decide_eq_false h2;omega
  subst hke
  rw[zK hno]
  repeat' (first|refine zh ?_|intro (bk:Nat))
  refine HR.ret Tryz.func267 I [_] (fun _ _=>⟨I,trivial⟩) ?_
  exact fun w' hw=>⟨rfl,hw.jE⟩
theorem jFm (l:List Ro) (p:Ro→Bool) (g:FuncId) (caps:List Value) (v:Value) (w:World) (hg:IsFn Tryz.prog g) (hp:jQN Tryz.prog g caps (fun a=> .agg ⟨roC a⟩) p l w) (hv:Sl w v (cellsOf roC l) l.length) (hl:l.length≤1000000):
  Calls Tryz.prog 273 #[v,.func (.func g) #[] caps.toArray] w fun e w'=>e= .returned (.int .i64 (fidx p l))∧Below w.heap.size w w':=by
 refine jB Tryz.func273 I (Nat.le_of_ble_eq_true I) ?_
 refine HR.sub (σ':=[(0,v),(1,.func (.func g) #[] caps.toArray)]) ⟨I,I,trivial⟩ ?_
 repeat' (first|refine zh ?_|refine HL.j4 (Rd.arg hv) I I I ?_|intro (bk:Nat))
 refine HR.loop (ι:=Nat) (fun k=>k≤l.length∧∀j b,j<k→l[j]? =some b→p b=false) (fun k=>[(0,v),(1,.func (.func g) #[] caps.toArray),(7,.int .i64 (l.length:Int)),(8,.int .i64 (k:Int))]) (fun _=>[]) (fun k=>l.length-k) 0 ⟨Nat.zero_le _,fun j b hj=>absurd hj (Nat.not_lt_zero _)⟩ ⟨I,I,I,I,trivial⟩ Ent.refl ?_
 rintro k ⟨hk,hno⟩ ih
 repeat' (first|refine zh ?_|intro (bk:Nat))
 refine HR.cond I (fun h2=>?_) (fun h2=>?_)
 ·have hlt:k<l.length:=by have:=of_decide_eq_true h2;omega
  obtain ⟨x,hx⟩:=jH hlt
  repeat' (first|refine zh ?_|refine HL.jw (Rd.arg hv) JE k I I I I hlt ?_|refine HL.JB (Rd.arg hv) I I I I (by simp) I (jF jW hx) ?_|refine HL.jEi (caps:=caps) hg I I I (fun w' hw=>hp x (List.mem_of_getElem? hx) w' hw.jE) ?_|intro (bk:Nat))
  refine HR.cond I (fun h3=>?_) (fun h3=>?_)
  ·have h3:p x=true:=h3
   repeat' (first|refine zh ?_|intro (bk:Nat))
   refine HR.ret Tryz.func273 I [_] (fun _ _=>⟨I,trivial⟩) ?_
   rw[Zq hx h3 hno]
   exact fun w' hw=>⟨rfl,hw.jE⟩
  ·have h3:p x=false:=h3
   repeat' (first|refine zh ?_|intro (bk:Nat))
   refine ih (k+1) _ _ ⟨hlt,fun j b hj hb=>?_⟩ (by omega) ⟨I,I,I,I,trivial⟩ Ent.refl
   by_cases e:j=k
   ·subst e;rw[hx]at hb;cases hb;exact h3
   ·exact hno j b (by omega) hb
 ·have hke:k=l.length:=by have:=of_decide_eq_false h2;omega
  subst hke
  rw[zK hno]
  repeat' (first|refine zh ?_|intro (bk:Nat))
  refine HR.ret Tryz.func273 I [_] (fun _ _=>⟨I,trivial⟩) ?_
  exact fun w' hw=>⟨rfl,hw.jE⟩
theorem jHV (l:List Ro) (p:Ro→Bool) (g:FuncId) (caps:List Value) (v:Value) (w:World) (hg:IsFn Tryz.prog g) (hp:jQN Tryz.prog g caps (fun a=> .agg ⟨roC a⟩) p l w) (hv:Sl w v (cellsOf roC l) l.length) (hl:l.length≤1000000):
  Calls Tryz.prog 219 #[v,.func (.func g) #[] caps.toArray] w fun e w'=>e= .returned (.bool (l.any p))∧Below w.heap.size w w':=by
 rw[← jBz]
 refine jB Tryz.func219 I (Nat.le_of_ble_eq_true I) ?_
 refine HR.sub (σ':=[(0,v),(1,.func (.func g) #[] caps.toArray)]) ⟨I,I,trivial⟩ ?_
 repeat' (first|refine zh ?_|intro (bk:Nat))
 refine HL.jN fn273 I I (fun w' hw=>jFm l p g caps v w' hg (fun a ha w2 hb=>hp a ha w2 (GX.Below.seq hw.jE hb)) ((Rd.arg hv).at hw) hl) ?_
 repeat' (first|refine zh ?_|intro (bk:Nat))
 refine HR.ret Tryz.func219 I [_] (fun _ _=>⟨I,trivial⟩) ?_
 exact fun w' hw=>⟨rfl,hw.jE⟩
theorem jHM (l:List Int) (p:Int→Bool) (g:FuncId) (caps:List Value) (v:Value) (w:World) (hg:IsFn Tryz.prog g) (hp:jQN Tryz.prog g caps (fun a=> .int .i64 a) p l w) (hv:Sl w v (cellsOf iC l) l.length) (hl:l.length≤1000000):
  Calls Tryz.prog 227 #[v,.func (.func g) #[] caps.toArray] w fun e w'=>e= .returned (.int .i64 (fidx p l))∧Below w.heap.size w w':=by
 refine jB Tryz.func227 I (Nat.le_of_ble_eq_true I) ?_
 refine HR.sub (σ':=[(0,v),(1,.func (.func g) #[] caps.toArray)]) ⟨I,I,trivial⟩ ?_
 repeat' (first|refine zh ?_|refine HL.j4 (Rd.arg hv) I I I ?_|intro (bk:Nat))
 refine HR.loop (ι:=Nat) (fun k=>k≤l.length∧∀j b,j<k→l[j]? =some b→p b=false) (fun k=>[(0,v),(1,.func (.func g) #[] caps.toArray),(7,.int .i64 (l.length:Int)),(8,.int .i64 (k:Int))]) (fun _=>[]) (fun k=>l.length-k) 0 ⟨Nat.zero_le _,fun j b hj=>absurd hj (Nat.not_lt_zero _)⟩ ⟨I,I,I,I,trivial⟩ Ent.refl ?_
 rintro k ⟨hk,hno⟩ ih
 repeat' (first|refine zh ?_|intro (bk:Nat))
 refine HR.cond I (fun h2=>?_) (fun h2=>?_)
 ·have hlt:k<l.length:=by have:=of_decide_eq_true h2;omega
  obtain ⟨x,hx⟩:=jH hlt
  repeat' (first|refine zh ?_|refine HL.jw (Rd.arg hv) Jg k I I I I hlt ?_|refine HL.jY (Rd.arg hv) I I I I (jV hx) ?_|refine HL.jEi (caps:=caps) hg I I I (fun w' hw=>hp x (List.mem_of_getElem? hx) w' hw.jE) ?_|intro (bk:Nat))
  refine HR.cond I (fun h3=>?_) (fun h3=>?_)
  ·have h3:p x=true:=h3
   repeat' (first|refine zh ?_|intro (bk:Nat))
   refine HR.ret Tryz.func227 I [_] (fun _ _=>⟨I,trivial⟩) ?_
   rw[Zq hx h3 hno]
   exact fun w' hw=>⟨rfl,hw.jE⟩
  ·have h3:p x=false:=h3
   repeat' (first|refine zh ?_|intro (bk:Nat))
   refine ih (k+1) _ _ ⟨hlt,fun j b hj hb=>?_⟩ (by omega) ⟨I,I,I,I,trivial⟩ Ent.refl
   by_cases e:j=k
   ·subst e;rw[hx]at hb;cases hb;exact h3
   ·exact hno j b (by omega) hb
 ·have hke:k=l.length:=by have:=of_decide_eq_false h2;omega
  subst hke
  rw[zK hno]
  repeat' (first|refine zh ?_|intro (bk:Nat))
  refine HR.ret Tryz.func227 I [_] (fun _ _=>⟨I,trivial⟩) ?_
  exact fun w' hw=>⟨rfl,hw.jE⟩
end Go.Proofs.YtgfdoognildoeaaGreat
namespace Go.Proofs.YtgfdoognildoeaaGreat
open Go.GX Go.RowKit
attribute [local irreducible] Calls Run jg jh JU HR HL HD jU jK Jc Rd jL jd
open Nd
theorem jQ6:IsFn Tryz.prog 205:=⟨⟨_,_,Tryz.func205,rfl,by decide⟩⟩
theorem jSb:IsFn Tryz.prog 206:=⟨⟨_,_,Tryz.func206,rfl,by decide⟩⟩
theorem fn213:IsFn Tryz.prog 213:=⟨⟨_,_,Tryz.func213,rfl,by decide⟩⟩
theorem fn268:IsFn Tryz.prog 268:=⟨⟨_,_,Tryz.func268,rfl,by decide⟩⟩
theorem jSU:IsFn Tryz.prog 221:=⟨⟨_,_,Tryz.func221,rfl,by decide⟩⟩
theorem fn151:IsFn Tryz.prog 151:=⟨⟨_,_,Tryz.func151,rfl,by decide⟩⟩
def ma0:Ma:=⟨fr0,0⟩
theorem jAa (n:Int):0≤tick n∧tick n≤1099511627776:=by
 have e:(1099511627776:Int)=JY:=rfl
 unfold tick clamp;rw[← e];omega
theorem jER (l:List Ma) (v:Value) (w0 w:World) (hv:Sl w0 v (cellsOf maC l) l.length):
  Calls Tryz.prog 205 #[v] w fun e w'=>∃v',e= .returned v'∧Sl w0 v' (cellsOf maC (l.take 16)) (l.take 16).length∧Sat (base w) [] w':=by
 obtain ⟨hsl,ad,c,rfl,hc⟩:=hv
 have h0:min 16 l.length≤l.length:=Nat.min_le_right _ _
 refine jB Tryz.func205 I (Nat.le_of_ble_eq_true I) ?_
 refine HR.sub (σ':=[(0,.slice ad l.length c)]) ⟨I,trivial⟩ ?_
 repeat' (first|refine zh ?_|intro (bk:Nat))
 refine HL.ZB 8 (v':= .int .i64 ((min 16 l.length:Nat):Int)) I (by rw[jQo]) ?_
 refine HL.ZB 9 (v':= .int .i64 ((min 16 l.length:Nat):Int)) I (by rw[jQo]) ?_
 repeat' (first|refine zh ?_|refine HL.cut (sz:=10) 0 (min 16 l.length) (min 16 l.length) I I I I (.inl ⟨rfl,rfl⟩) (.inr ⟨_,_,rfl,rfl⟩) (.inr ⟨_,_,rfl,rfl⟩) (Nat.zero_le _) (Nat.le_refl _) (by omega) ?_|intro (bk:Nat))
 refine HR.ret Tryz.func205 I [_] (fun _ _=>⟨I,trivial⟩) ?_
 refine fun w' hw=>⟨_,rfl,?_,hw⟩
 have hlen:(l.take 16).length=min 16 l.length:=List.length_take
 rw[hlen]
 show Sl w0 (cutV 10 ad 0 (min 16 l.length) (min 16 l.length)) _ _
 refine ⟨?_,_,_,rfl,by simp⟩
 rcases hsl with ⟨h1,h2,h3⟩|⟨b,off,cap,he,h1⟩
 ·have hz:l=[]:=List.eq_nil_of_length_eq_zero h2
  subst hz
  refine .inl ⟨?_,rfl,rfl⟩
  rcases h1 with h1|⟨a,c',h1⟩
  ·cases h1;exact .inl I
  ·cases h1;exact .inr ⟨_,_,rfl⟩
 ·cases he
  refine .inr ⟨b,off,min 16 l.length,?_,fun j u hu=>?_⟩
  ·unfold cutV
   simp only[Nat.zero_mul,Nat.sub_zero,Option.map_some]
   congr 1
   split<;>rfl
  ·refine h1 j u ?_
   have e:cellsOf maC (l.take 16)=(cellsOf maC l).take (16*10):=(JW Jw 16 l).symm
   rw[e]at hu
   rw[List.getElem?_take]at hu
   split at hu
   ·exact hu
   ·cases hu
theorem jBW (m:Ma) (now life:Int) (w:World):Calls Tryz.prog 206 #[.agg ⟨maC m⟩,.int .i64 now,.int .i64 life] w fun e w'=>e= .returned (.bool (bold now life m))∧Below w.heap.size w w':=by
 have t1:=jAa now
 have t2:=jAa m.si
 have t3:=jAa life
 refine jB Tryz.func206 I (Nat.le_of_ble_eq_true I) ?_
 refine HR.sub (σ':=[(0,.agg ⟨maC m⟩),(1,.int .i64 now),(2,.int .i64 life)]) ⟨I,I,I,trivial⟩ ?_
 repeat' (first|refine zh ?_|intro (bk:Nat))
 refine HR.j3 [(0,true),(2,true),(3,true),(6,true),(1,false),(4,false),(5,true),(7,false),(8,true),(9,true)] [0] I I JZ (by kernel_rfl) ?_
 repeat' (first|refine zd ?_|refine HD.jN [0] I I jQ5 I I I (fun w _=>jHA _ w) ?_|refine HD.field I I I ?_)
 refine HD.nil ?_
 repeat' (first|refine zh ?_|intro (bk:Nat))
 refine HR.ret Tryz.func206 I [_] (fun _ _=>⟨I,trivial⟩) ?_
 exact fun w' hw=>⟨rfl,hw.jE⟩
theorem jMP (m:Ma) (w:World):Calls Tryz.prog 268 #[.agg ⟨maC m⟩] w fun e w'=>e= .returned (.bool (bdr m))∧Below w.heap.size w w':=by
 refine jB Tryz.func268 I (Nat.le_of_ble_eq_true I) ?_
 refine HR.sub (σ':=[(0,.agg ⟨maC m⟩)]) ⟨I,trivial⟩ ?_
 repeat' (first|refine zh ?_|intro (bk:Nat))
 refine HR.ret Tryz.func268 I [_] (fun _ _=>⟨I,trivial⟩) ?_
 exact fun w' hw=>⟨rfl,hw.jE⟩
theorem jKj {q:List Ma} {f:Fr} {now:Int} (h:f.ur=false):jGB q f now=if (q.take 16).length=16 then (q.take 16,false)else (q.take 16++[⟨f,tick now⟩],true):=by unfold jGB jGw;rw[if_pos (show bur ⟨f,tick now⟩=false from h)]
def jGA (T:List Ma) (x:Ma):List Ma×Bool:=if T.length=16 then (match lastIdx bdr T with
  |none=>(T,false)
  |some i=>(ins bur (T.eraseIdx i) x,true))else (ins bur T x,true)
theorem jHZ {q:List Ma} {f:Fr} {now:Int} (h:f.ur=true):jGB q f now=jGA (q.take 16) ⟨f,tick now⟩:=by unfold jGB jGw;rw[if_neg (show ¬bur ⟨f,tick now⟩=false by rw[show bur ⟨f,tick now⟩=f.ur from rfl,h];decide)];rfl
theorem jKm {T:List Ma} {x:Ma} (h:T.length≤15):jGA T x=(ins bur T x,true):=if_neg (by omega)
theorem jKn {T:List Ma} {x:Ma} (h:T.length=16) (h2:∀a∈T,bdr a=false):jGA T x=(T,false):=by unfold jGA;rw[if_pos h,Zp h2]
theorem jKk {T:List Ma} {x:Ma} {i:Nat} {a:Ma} (h:T.length=16) (ha:T[i]? =some a) (hp:bdr a=true) (hj:∀j b,i<j→T[j]? =some b→bdr b=false):jGA T x=(ins bur (T.eraseIdx i) x,true):=by unfold jGA;rw[if_pos h,K3 ha hp hj]
theorem jPt (l:List Ma) (f:Fr) (now:Int) (v:Value) (w:World) (hv:Sl w v (cellsOf maC l) l.length) (hl:l.length≤1000):
  Calls Tryz.prog 213 #[v,.agg ⟨frC f⟩,.int .i64 now] w fun e w'=>∃v',e= .returned (.tuple ⟨[v',.bool (jGB l f now).2]⟩)∧True∧Sat (base w) [jK v' 166 10 (jGB l f now).1.length (cellsOf maC (jGB l f now).1)] w':=by
 have h16:(l.take 16).length≤16:=by simp;omega
 have hcl:∀T:List Ma,(cellsOf maC T).length=T.length*10:=jC Jw
 refine jB Tryz.func213 I (Nat.le_of_ble_eq_true I) ?_
 refine HR.sub (σ':=[(0,v),(1,.agg ⟨frC f⟩),(2,.int .i64 now)]) ⟨I,I,I,trivial⟩ ?_
 repeat' (first|refine zh ?_|intro (bk:Nat))
 refine HR.join (ι:=Nat) (fun _=>True) (fun b=>[(0,v),(4,.pointer (some ⟨bk,0,none⟩)),(8,.pointer (some ⟨b,0,none⟩))]) (fun b=>[jU b (maC ⟨f,tick now⟩) 166,jU bk (frC f) 75]) (fun b8 _=>?_) (fun hj=>?_)
 ·obtain ⟨x,hx⟩:∃x:Ma,x=⟨f,tick now⟩:=⟨_,rfl⟩
  have hxu:x.f.ur=f.ur:=by rw[hx]
  rw[← hx]
  repeat' (first|refine zh ?_|intro (bk:Nat))
  refine HL.JD (r:=fun v':Value=>v') (Q:=fun v'=>Sl w v' (cellsOf maC (l.take 16)) (l.take 16).length) (G:=fun _=>[]) jQ6 I I (fun w1 _=>jER l v w w1 hv) ?_
  intro vb hvb
  repeat' (first|refine zh ?_|refine HL.JN jRC I I (fun w1 hw1=>jAU (l.take 16) vb w1 ((Rd.arg hvb).at hw1) (by omega)) ?_|intro (bk:Nat))
  intro v1
  repeat' (first|refine zh ?_|intro (bk:Nat))
  refine HR.cond I (fun h0=>?_) (fun h0=>?_)
  ·have h0:f.ur=false:=by have h0:(!f.ur)=true:=h0;simpa using h0
   rw[jKj h0,← hx]
   obtain ⟨T,hT⟩:∃T,T=l.take 16:=⟨_,rfl⟩
   rw[← hT]at h16 ⊢
   repeat' (first|refine zh ?_|refine HL.j4 (Rd.own 0 I) I I I ?_|intro (bk:Nat))
   refine HR.cond I (fun h2=>?_) (fun h2=>?_)
   ·have h2:T.length=16:=by have h2:((T.length:Int)==16)=true:=h2;simp at h2;omega
    rw[if_pos h2]
    repeat' (first|refine zh ?_|intro (bk:Nat))
    refine HR.ret Tryz.func213 I [_,_] (fun _ _=>⟨I,I,trivial⟩) ?_
    exact fun w' hw=>⟨v1,rfl,trivial,hw.pick [0] I rfl⟩
   ·have h2:T.length≤15:=jNz h16 h2
    rw[if_neg (by omega)]
    repeat' (first|refine zh ?_|refine HL.jk zV I I I I I (by decide) (by decide) ?_|intro (bk:Nat))
    intro va
    repeat' (first|refine zh ?_|refine HL.zD 1 I zV (Rd.own 0 I) I I I I (jJ I) (by omega) (by omega) ?_|intro (bk:Nat))
    intro v2
    repeat' (first|refine zh ?_|intro (bk:Nat))
    refine HR.ret Tryz.func213 I [_,_] (fun _ _=>⟨I,I,trivial⟩) ?_
    refine fun w' hw=>⟨v2,rfl,trivial,Ent.JM (by simp) ?_ w' (hw.pick [1] I rfl)⟩
    rw[jM];rfl
  have h0:f.ur=true:=by have h0:(!f.ur)=false:=h0;simpa using h0
  rw[jHZ h0,← hx]
  obtain ⟨T,hT⟩:∃T,T=l.take 16:=⟨_,rfl⟩
  rw[← hT]at h16 ⊢
  repeat' (first|refine zh ?_|refine HL.j4 (Rd.own 0 I) I I I ?_|intro (bk:Nat))
  refine HR.join (ι:=Value×List Ma) (fun i=>i.2.length≤15∧jGA T x=(ins bur i.2 x,true)) (fun i=>[(8,.pointer (some ⟨b8,0,none⟩)),(9,i.1)]) (fun i=>[jK i.1 166 10 i.2.length (cellsOf maC i.2),jU b8 (maC x) 166]) (fun i=>?_) (fun hj=>?_)
  ·obtain ⟨u,L⟩:=i
   rintro ⟨hL,e⟩
   have hL:L.length≤15:=hL
   have e:jGA T x=(ins bur L x,true):=e
   rw[e]
   repeat' (first|refine zh ?_|refine HL.jN fn267 I I (fun w1 hw1=>jFo L bdr 268 [] u w1 fn268 (fun a _ w2 _=>jMP a w2) ((Rd.own 0 rfl).at hw1) (by omega)) ?_|intro (bk:Nat))
   refine HR.join (ι:=Nat) (fun i=>i≤L.length∧ins bur L x=L.take i++x::L.drop i) (fun i=>[(8,.pointer (some ⟨b8,0,none⟩)),(9,u),(11,.int .i64 (i:Int))]) (fun i=>[jK u 166 10 L.length (cellsOf maC L),jU b8 (maC x) 166]) (fun i=>?_) (fun hj2=>?_)
   ·rintro ⟨hi,hins⟩
    rw[hins]
    repeat' (first|refine zh ?_|refine HL.jk zV I I I I I (by decide) (by decide) ?_|intro (bk:Nat))
    intro va
    repeat' (first|refine zh ?_|refine HL.jQH fn269 I I (fun w hw=>jMn L x i u va _ w (hw.pick [0,1] I I) hi (by omega)) ?_|intro (bk:Nat))
    intro r
    repeat' (first|refine zh ?_|intro (bk:Nat))
    refine HR.ret Tryz.func213 I [_,_] (fun _ _=>⟨I,I,trivial⟩) ?_
    exact fun w' hw=>⟨r,rfl,trivial,hw.pick [0] I rfl⟩
   ·rcases Jr bdr L with ⟨e1,_,e2⟩|⟨i,y,e1,_,hy,hpy,hno⟩
    ·rw [e1]
     refine HR.JA I ?_
     refine HR.region ?_
     repeat' (first|refine zn ?_|refine HL.j4 (Rd.own 0 I) I I I ?_|apply zb ?_ ?_|exact zc|(refine zi fun hb=>?_;try simp at hb)|intro (bk:Nat))
     refine hj2 L.length _ _ ⟨Nat.le_refl _,jJE (Nat.le_refl _) (fun k a _ ha=>?_) (fun a ha=>?_)⟩ ⟨I,I,I,trivial⟩ Ent.refl
     ·have:=e2 a (List.mem_of_getElem? ha)
      unfold bdr at this;unfold bur;simpa using this
     ·have:=(List.getElem?_eq_some_iff.1 ha).1;omega
    ·rw [e1]
     refine HR.jy I ?_
     refine HR.skip ?_
     refine hj2 i _ _ ⟨Nat.le_of_lt (List.getElem?_eq_some_iff.1 hy).1,jJE (Nat.le_of_lt (List.getElem?_eq_some_iff.1 hy).1) (fun k a hk ha=>?_) (fun a ha=>?_)⟩ ⟨I,I,I,trivial⟩ Ent.refl
     ·have:=hno k a hk ha
      unfold bdr at this;unfold bur;simpa using this
     ·rw [hy]at ha;cases ha
      unfold bdr at hpy;unfold bur;simpa using hpy
  ·refine HR.cond I (fun h2=>?_) (fun h2=>?_)
   ·have h2:T.length=16:=by have h2:((T.length:Int)==16)=true:=h2;simp at h2;omega
    repeat' (first|refine zh ?_|refine HL.j4 (Rd.own 0 I) I I I ?_|intro (bk:Nat))
    refine HR.loop (ι:=Nat) (fun a=>a≤16∧∀j y,a≤j→T[j]? =some y→bdr y=false) (fun a=>[(8,.pointer (some ⟨b8,0,none⟩)),(9,v1),(10,.int .i64 ((a:Int)-1))]) (fun _=>[jK v1 166 10 T.length (cellsOf maC T),jU b8 (maC x) 166]) (fun a=>a) 16 ⟨Nat.le_refl _,fun j y hj hy=>by have:=(List.getElem?_eq_some_iff.1 hy).1;omega⟩ ⟨rfl,rfl,by show some (Value.int IntKind.i64 ((T.length:Int)-1))=_;rw[h2],trivial⟩ (Ent.pick [0,1] I I) ?_
    rintro a ⟨ha,hg⟩ ih
    repeat' (first|refine zh ?_|refine HL.jw (Rd.own 0 I) zV (a-1) I I I (by omega) (by omega) ?_|refine HL.JL 0 (Rd.own 0 I) (by rw[hcl];omega) I I I I I I I ?_|refine HL.JL 7 (Rd.own 0 I) (by rw[hcl];omega) I I I I I I I ?_|refine HL.jY (Rd.own 0 I) I I I I (jR Jw (zm (by omega) ma0) (i:=7) I) ?_|apply zb ?_ ?_|exact zc|(refine zi fun hb=>?_;try simp at hb)|intro (bk:Nat))
    refine HR.cond I (fun h3=>?_) (fun h3=>?_)
    ·have h3:(decide ((a:Int)-1≥0)&&(T.getD (a-1) ma0).f.ur)=true:=h3
     simp only[Bool.and_eq_true,decide_eq_true_eq]at h3
     repeat' (first|refine zh ?_|intro (bk:Nat))
     refine ih (a-1) _ _ ⟨by omega,fun j y hj hy=>?_⟩ (by omega) ⟨rfl,rfl,by show some (Value.int IntKind.i64 _)=some (Value.int IntKind.i64 _);congr 2;omega,trivial⟩ Ent.refl
     by_cases e:j=a-1
     ·subst e;rw[zm (by omega) ma0]at hy;cases hy
      unfold bdr;rw[h3.2];rfl
     ·exact hg j y (by omega) hy
    ·have h3:(decide ((a:Int)-1≥0)&&(T.getD (a-1) ma0).f.ur)=false:=h3
     rcases Nat.eq_zero_or_pos a with ha0|ha0
     ·subst ha0
      rw[jKn h2 fun y hy=>by
       obtain ⟨j,hj⟩:=List.getElem?_of_mem hy
       exact hg j y (Nat.zero_le _) hj]
      repeat' (first|refine zh ?_|intro (bk:Nat))
      refine HR.ret Tryz.func213 I [_,_] (fun _ _=>⟨I,I,trivial⟩) ?_
      exact fun w' hw=>⟨v1,rfl,trivial,hw.pick [0] I rfl⟩
     ·obtain ⟨m,rfl⟩:∃m,a=m+1:=⟨a-1,by omega⟩
      rw[decide_eq_true (by omega),Bool.true_and,Nat.add_sub_cancel]at h3
      have hml:m<T.length:=by omega
      have hd:bdr (T.getD m ma0)=true:=by unfold bdr;rw[h3];rfl
      have e:=jKk (x:=x) h2 (zm hml ma0) hd (fun j b hj hb=>hg j b (by omega) hb)
      refine HR.ZB 10 (v':= .int .i64 (m:Int)) I (by congr 1;omega) ?_
      repeat' (first|refine zh ?_|intro (bk:Nat))
      refine HL.jPq fn266 I I (fun w hw=>jNE T m v1 _ w (hw.pick [0] I I) hml (by omega)) ?_
      intro r
      repeat' (first|refine zn ?_|apply zb ?_ ?_|exact zc|(refine zi fun hb=>?_;try simp at hb)|intro (bk:Nat))
      exact hj (r,T.eraseIdx m) _ _ ⟨by show (T.eraseIdx m).length≤15;rw[List.length_eraseIdx_of_lt hml];omega,e⟩ ⟨I,I,trivial⟩ Ent.refl
   ·have h2:T.length≤15:=jNz h16 h2
    refine HR.skip ?_
    exact hj (v1,T) _ _ ⟨h2,jKm h2⟩ ⟨I,I,trivial⟩ (Ent.pick [0,1] I I)
 ·refine HR.kM [0] I I JZ ?_
  refine za 0 ?_
  refine za 1 ?_
  refine HA.two 2 4 (by kernel_rfl) I I ?_ ?_
  ·refine HL.jN jQ5 I I (fun w _=>jHA now w) ?_
   refine HL.jm [0] I I ?_
   refine za 3 ?_
   refine HA.one 4 (by kernel_rfl) I ?_
   refine HL.alloc I I ?_
   intro b8
   refine HL.jm [1] I I ?_
   refine HA.one 5 (by kernel_rfl) I ?_
   repeat' (first|refine zn ?_|intro (bk:Nat))
   refine HL.jm [1] I I ?_
   refine HA.done (by kernel_rfl) ?_
   exact hj b8 _ _ trivial ⟨I,I,I,trivial⟩ Ent.refl
  ·refine HL.alloc I I ?_
   intro b8
   refine HL.jm [1] I I ?_
   refine HA.one 2 (by kernel_rfl) I ?_
   refine HL.jN jQ5 I I (fun w _=>jHA now w) ?_
   refine HL.jm [1] I I ?_
   refine za 3 ?_
   refine HA.one 5 (by kernel_rfl) I ?_
   repeat' (first|refine zn ?_|intro (bk:Nat))
   refine HL.jm [1] I I ?_
   refine HA.done (by kernel_rfl) ?_
   exact hj b8 _ _ trivial ⟨I,I,I,trivial⟩ Ent.refl
end Go.Proofs.YtgfdoognildoeaaGreat
namespace Go.Proofs.YtgfdoognildoeaaGreat
open Go.GX Go.RowKit
attribute [local irreducible] Calls Run jg jh JU HR HL HD jU jK Jc Rd jL jd
open Nd
theorem jFx {α:Type} (p:α→Bool) {l:List α} {k:Nat} {x:α} (hx:l[k]? =some x):(l.take (k+1)).filter p=if p x=true then (l.take k).filter p++[x]else (l.take k).filter p:=by
 rw[jG hx,List.filter_append]
 split
 ·rename_i h;rw[List.filter_cons_of_pos h];rfl
 ·rename_i h;rw[List.filter_cons_of_neg h];simp
theorem jPu (l:List Ma) (now life:Int) (v:Value) (w:World) (hv:Sl w v (cellsOf maC l) l.length) (hl:l.length≤1000):
  Calls Tryz.prog 151 #[v,.int .i64 now,.int .i64 life] w fun e w'=>∃v',e= .returned v'∧Sat (base w) [jK v' 166 10 (jCv l now life).length (cellsOf maC (jCv l now life))] w':=by
 have h16:(l.take 16).length≤16:=by simp;omega
 unfold jCv
 refine jB Tryz.func151 I (Nat.le_of_ble_eq_true I) ?_
 refine HR.sub (σ':=[(0,v),(1,.int .i64 now),(2,.int .i64 life)]) ⟨I,I,I,trivial⟩ ?_
 repeat' (first|refine zh ?_|intro (bk:Nat))
 refine HL.JD (r:=fun v':Value=>v') (Q:=fun v'=>Sl w v' (cellsOf maC (l.take 16)) (l.take 16).length) (G:=fun _=>[]) jQ6 I I (fun w1 _=>jER l v w w1 hv) ?_
 intro vb hvb
 obtain ⟨T,hT⟩:∃T,T=l.take 16:=⟨_,rfl⟩
 rw[← hT]at h16 hvb ⊢
 repeat' (first|refine zh ?_|refine HL.j4 (Rd.arg hvb) I I I ?_|intro (bk:Nat))
 refine HR.zY 166 10 ?_
 refine HR.Kc (α:=Nat) (β:=Value) (fun k o=>k≤T.length) (fun k o=>[(1,.int .i64 now),(2,.int .i64 life),(7,o),(11,vb),(12,.int .i64 (T.length:Int)),(13,.int .i64 (k:Int))]) (fun k o=>[jK o 166 10 ((T.take k).filter fun m=>!bold now life m).length (cellsOf maC ((T.take k).filter fun m=>!bold now life m))]) (fun k _=>T.length-k) 0 (.slice none 0 0) (Nat.zero_le _) ⟨I,I,I,I,I,I,trivial⟩ (Ent.pick [0] I I) ?_
 rintro k o hk ih
 have hfl:((T.take k).filter fun m=>!bold now life m).length≤16:=Nat.le_trans (List.length_filter_le _ _) (by simp;omega)
 repeat' (first|refine zh ?_|intro (bk:Nat))
 refine HR.cond I (fun h2=>?_) (fun h2=>?_)
 ·have hlt:k<T.length:=by have:=of_decide_eq_true h2;omega
  obtain ⟨x,hx⟩:=jH hlt
  have hft:=jFx (fun m=>!bold now life m) hx
  repeat' (first|refine zh ?_|refine HL.jw (Rd.arg hvb) zV k I I I I hlt ?_|refine HL.JB (Rd.arg hvb) I I I I (by simp) I (jF Jw hx) ?_|refine HL.jN jSb I I (fun w _=>jBW x now life w) ?_|intro (bk:Nat))
  refine HR.cond I (fun h3=>?_) (fun h3=>?_)
  ·have h3:(!bold now life x)=true:=h3
   rw[if_pos h3]at hft
   repeat' (first|refine zh ?_|refine HL.jk zV I I I I I (by decide) (by decide) ?_|intro (bk:Nat))
   intro va
   repeat' (first|refine zh ?_|refine HL.zD 2 I zV (Rd.own 0 I) I I I I (jJ I) (by omega) (by omega) ?_|intro (bk:Nat))
   intro o2
   repeat' (first|refine zh ?_|intro (bk:Nat))
   refine ih (k+1) o2 _ _ hlt (by omega) ⟨I,I,I,I,I,I,trivial⟩ (Ent.trans (Ent.pick [2] I I) (Ent.JM ?_ ?_))
   ·rw [hft];simp
   ·rw [hft,jM];rfl
  ·have h3:(!bold now life x)=false:=h3
   rw[if_neg (by rw[h3];decide)]at hft
   repeat' (first|refine zh ?_|intro (bk:Nat))
   refine ih (k+1) o _ _ hlt (by omega) ⟨I,I,I,I,I,I,trivial⟩ (Ent.trans (Ent.pick [1] I I) (Ent.JM ?_ ?_))
   ·rw [hft]
   ·rw [hft]
 ·have hke:k=T.length:=by have:=of_decide_eq_false h2;omega
  subst hke
  rw[List.take_length]
  repeat' (first|refine zh ?_|intro (bk:Nat))
  refine HR.ret Tryz.func151 I [_] (fun _ _=>⟨I,trivial⟩) ?_
  exact fun w' hw=>⟨o,rfl,hw⟩
theorem jDv (to now life:Int):∀(l:List Ma) (s:Fr×List Ma×Bool),(l.foldl (zL to now life) s).2.1.length≤s.2.1.length+l.length
 |[],s=>by simp
 |m::l,s=>by
  have h1:(zL to now life s m).2.1.length≤s.2.1.length+1:=by
   unfold zL;split
   ·omega
   ·split<;>simp
  have:=jDv to now life l (zL to now life s m)
  simp only[List.foldl_cons,List.length_cons]
  omega
theorem jF8 (l:List Ma) (to now life:Int) (v:Value) (w:World) (hv:Sl w v (cellsOf maC l) l.length) (hl:l.length≤1000):
  Calls Tryz.prog 221 #[v,.int .i64 to,.int .i64 now,.int .i64 life] w fun e w'=>∃v',e= .returned (.tuple ⟨[.agg ⟨frC (ZY l to now life).1⟩,v',.bool (ZY l to now life).2.2]⟩)∧True∧Sat (base w) [jK v' 166 10 (ZY l to now life).2.1.length (cellsOf maC (ZY l to now life).2.1)] w':=by
 have h16:(l.take 16).length≤16:=by simp;omega
 unfold ZY
 refine jB Tryz.func221 I (Nat.le_of_ble_eq_true I) ?_
 refine HR.sub (σ':=[(0,v),(1,.int .i64 to),(2,.int .i64 now),(3,.int .i64 life)]) ⟨I,I,I,I,trivial⟩ ?_
 refine HR.ctl I ?_
 refine HR.region ?_
 refine HL.alloc I I ?_
 intro b8
 repeat' (first|refine zh ?_|intro (bk:Nat))
 refine HL.JD (r:=fun v':Value=>v') (Q:=fun v'=>Sl w v' (cellsOf maC (l.take 16)) (l.take 16).length) (G:=fun _=>[]) jQ6 I I (fun w1 _=>jER l v w w1 hv) ?_
 intro vb hvb
 obtain ⟨T,hT⟩:∃T,T=l.take 16:=⟨_,rfl⟩
 rw[← hT]at h16 hvb ⊢
 repeat' (first|refine zh ?_|refine HL.j4 (Rd.arg hvb) I I I ?_|intro (bk:Nat))
 refine HR.zY 166 10 ?_
 obtain ⟨S,hS⟩:∃S:Nat→Fr×List Ma×Bool,S=fun k=>(T.take k).foldl (zL to now life) (fr0,[],false):=⟨_,rfl⟩
 refine HR.Kc (α:=Nat) (β:=Value) (fun k o=>k≤T.length) (fun k o=>[(1,.int .i64 to),(2,.int .i64 now),(3,.int .i64 life),(8,.pointer (some ⟨b8,0,none⟩)),(11,o),(12,.pointer (some ⟨bk,0,none⟩)),(13,.bool (S k).2.2),(17,vb),(18,.int .i64 (T.length:Int)),(19,.int .i64 (k:Int))]) (fun k o=>[jK o 166 10 (S k).2.1.length (cellsOf maC (S k).2.1),jU bk (frC (S k).1) 75,jU b8 (frC fr0) 75]) (fun k _=>T.length-k) 0 (.slice none 0 0) (Nat.zero_le _) ⟨rfl,rfl,rfl,rfl,rfl,rfl,by rw[hS];rfl,rfl,rfl,rfl,trivial⟩ (by rw[hS];exact Ent.pick [0,1,2] I I) ?_
 rintro k o hk ih
 have hSl:(S k).2.1.length≤16:=by
  rw[hS]
  have:=jDv to now life (T.take k) (fr0,[],false)
  simp at this ⊢;omega
 repeat' (first|refine zh ?_|intro (bk:Nat))
 refine HR.cond I (fun h2=>?_) (fun h2=>?_)
 ·have hlt:k<T.length:=by have:=of_decide_eq_true h2;omega
  obtain ⟨x,hx⟩:=jH hlt
  have hst:S (k+1)=zL to now life (S k) x:=by rw[hS];exact jCY _ _ hx
  repeat' (first|refine zh ?_|refine HL.jw (Rd.arg hvb) zV k I I I I hlt ?_|refine HL.JB (Rd.arg hvb) I I I I (by simp) I (jF Jw hx) ?_|refine HL.jN jSb I I (fun w _=>jBW x now life w) ?_|intro (bk:Nat))
  refine HR.cond I (fun h3=>?_) (fun h3=>?_)
  ·have h3:bold now life x=true:=h3
   have hst:S (k+1)=S k:=by rw[hst];unfold zL;rw[if_pos h3]
   repeat' (first|refine zh ?_|intro (bk:Nat))
   refine ih (k+1) o _ _ hlt (by omega) ⟨rfl,rfl,rfl,rfl,rfl,rfl,by rw[hst];rfl,rfl,rfl,rfl,trivial⟩ ?_
   rw[hst];exact Ent.pick [1,2,3] I I
  have h3:¬bold now life x=true:=by have h3:bold now life x=false:=h3;rw[h3];decide
  repeat' (first|refine zh ?_|apply zb ?_ ?_|exact zc|(refine zi fun hb=>?_;try simp at hb)|intro (bk:Nat))
  refine HR.cond I (fun h4=>?_) (fun h4=>?_)
  ·have h4:(!(S k).2.2&&(x.f.dst==to))=true:=h4
   have hst:S (k+1)=(x.f,(S k).2.1,true):=by rw[hst];unfold zL;rw[if_neg h3,if_pos h4]
   repeat' (first|refine zh ?_|intro (bk:Nat))
   refine ih (k+1) o _ _ hlt (by omega) ⟨rfl,rfl,rfl,rfl,rfl,rfl,by rw[hst];rfl,rfl,rfl,rfl,trivial⟩ ?_
   rw[hst];exact Ent.pick [1,2,3] I I
  ·have h4:(!(S k).2.2&&(x.f.dst==to))=false:=h4
   have hst:S (k+1)=((S k).1,(S k).2.1++[x],(S k).2.2):=by rw[hst];unfold zL;rw[if_neg h3,if_neg (by rw[h4];decide)]
   repeat' (first|refine zh ?_|refine HL.jk zV I I I I I (by decide) (by decide) ?_|intro (bk:Nat))
   intro va
   repeat' (first|refine zh ?_|refine HL.zD 2 I zV (Rd.own 0 I) I I I I (jJ I) (by omega) (by omega) ?_|intro (bk:Nat))
   intro o2
   repeat' (first|refine zh ?_|intro (bk:Nat))
   refine ih (k+1) o2 _ _ hlt (by omega) ⟨rfl,rfl,rfl,rfl,rfl,rfl,by rw[hst];rfl,rfl,rfl,rfl,trivial⟩ ?_
   rw[hst]
   refine Ent.trans (Ent.pick [2,3,4] I I) (Ent.JM (by simp) ?_)
   rw[jM];rfl
 ·have hke:k=T.length:=by have:=of_decide_eq_false h2;omega
  subst hke
  have hfin:T.foldl (zL to now life) (fr0,[],false)=S T.length:=by rw[hS];simp
  rw[hfin]
  repeat' (first|refine zh ?_|intro (bk:Nat))
  refine HR.ret Tryz.func221 I [_,_,_] (fun w hw=>⟨⟨_,rfl,jP hw 2 I I I I rfl⟩,rfl,rfl,trivial⟩) ?_
  exact fun w' hw=>⟨o,rfl,trivial,hw.pick [0] I rfl⟩
end Go.Proofs.YtgfdoognildoeaaGreat
namespace Go.Proofs.YtgfdoognildoeaaGreat
open Go.GX Go.RowKit
attribute [local irreducible] Calls Run jg jh JU HR HL HD jU jK Jc Rd jL jd
open Nd
section
variable {α : Type}
def lidx (p:α→Bool) (l:List α):Int:=match lastIdx p l with
 |some i=>(i:Int)
 |none=>-1
theorem jPS (p:α→Bool) (l:List α):lidx p (l.take 0)= -1:=by rw[List.take_zero];rfl
theorem jMc {p:α→Bool} {l:List α} {k:Nat} {x:α} (hx:l[k]? =some x):lidx p (l.take (k+1))=if p x=true then (k:Int)else lidx p (l.take k):=by
 have hk:=(List.getElem?_eq_some_iff.1 hx).1
 have hg:∀j,j<k+1→(l.take (k+1))[j]? =l[j]? :=fun j hj=>by rw[List.getElem?_take_of_lt hj]
 have hg':∀j b,(l.take (k+1))[j]? =some b→j<k+1∧l[j]? =some b:=fun j b h=>by
  rw[List.getElem?_take]at h
  split at h
  ·exact ⟨by assumption,h⟩
  ·cases h
 split
 ·rename_i hp
  unfold lidx
  rw[K3 (i:=k) (a:=x) (by rw[hg k (by omega)];exact hx) hp (fun j b hj hb=>by have:=(hg' j b hb).1;omega)]
 ·rename_i hp
  have hp:p x=false:=by simpa using hp
  unfold lidx
  cases h:lastIdx p (l.take k)with
  |none=>
   have:=lastIdx_none h
   rw[Zp]
   intro a ha
   rw[jG hx]at ha
   rcases List.mem_append.1 ha with ha|ha
   ·exact this a ha
   ·rw [List.mem_singleton]at ha;subst ha;exact hp
  |some i=>
   obtain ⟨a,h1,h2,h3⟩:=zT h
   have hik:i<k:=by have:=(List.getElem?_eq_some_iff.1 h1).1;simp at this;omega
   rw[List.getElem?_take_of_lt hik]at h1
   rw[K3 (i:=i) (a:=a) (by rw[hg i (by omega)];exact h1) h2]
   intro j b hj hb
   obtain ⟨g1,g2⟩:=hg' j b hb
   by_cases e:j=k
   ·subst e;rw[hx]at g2;cases g2;exact hp
   ·exact h3 j b hj (by rw[List.getElem?_take_of_lt (by omega)];exact g2)
theorem jHG (p:α→Bool) (l:List α):-1≤lidx p l∧lidx p l<(l.length:Int):=by
 unfold lidx
 cases h:lastIdx p l with
 |none=>simp;omega
 |some i=>
  obtain ⟨a,h1,_⟩:=zT h
  have:=(List.getElem?_eq_some_iff.1 h1).1
  simp;omega
theorem jLh {dr ur:α→Bool} {q:List α} {x:α} (h:(q.take 16).length=16) (h2:ur x=false∨lidx dr (q.take 16)<0):jGw dr ur q x=(q.take 16,false):=by
 unfold jGw
 cases hu:ur x
 ·rw [if_pos rfl,if_pos h]
 ·rw [if_neg (show ¬true=false by decide),if_pos h]
  rcases h2 with h2|h2
  ·rw [hu]at h2;cases h2
  ·unfold lidx at h2
   cases hl:lastIdx dr (q.take 16)with
   |none=>rfl
   |some i=>rw[hl]at h2;simp only at h2;omega
def room (dr:α→Bool) (T:List α):List α:=if T.length=16 then T.eraseIdx (lidx dr T).toNat else T
theorem jQa {dr ur:α→Bool} {q:List α} {x:α} (h:¬((q.take 16).length=16∧(ur x=false∨lidx dr (q.take 16)<0))):jGw dr ur q x=(if ur x=false then room dr (q.take 16)++[x]else ins ur (room dr (q.take 16)) x,true):=by
 unfold jGw room
 cases hu:ur x
 ·rw [hu]at h
  rw[if_pos rfl,if_pos rfl,if_neg (fun e=>h ⟨e,.inl rfl⟩),if_neg (fun e=>h ⟨e,.inl rfl⟩)]
 ·rw [if_neg (show ¬true=false by decide),if_neg (show ¬true=false by decide)]
  by_cases hl:(q.take 16).length=16
  ·rw [if_pos hl,if_pos hl]
   have h2:¬lidx dr (q.take 16)<0:=fun e=>h ⟨hl,.inr e⟩
   unfold lidx at h2 ⊢
   cases hi:lastIdx dr (q.take 16)with
   |none=>rw[hi]at h2;exact absurd (by decide) h2
   |some i=>simp
  ·rw [if_neg hl,if_neg hl]
theorem jNq {dr:α→Bool} {T:List α} (h:T.length≤16) (h2:¬(T.length=16∧lidx dr T<0)):(room dr T).length≤15:=by
 unfold room
 split
 ·rename_i h3
  have:=jHG dr T
  rw[List.length_eraseIdx_of_lt (by omega)];omega
 ·omega
end
theorem jJy (l:List Sn) (f:Fr) (v:Value) (w:World) (hv:Sl w v (cellsOf snC l) l.length) (hl:l.length≤1000):
  Calls Tryz.prog 182 #[v,.agg ⟨frC f⟩] w fun e w'=>∃v',e= .returned (.tuple ⟨[v',.bool (jC1 l f).2]⟩)∧True∧Sat (base w) [jK v' 131 11 (jC1 l f).1.length (cellsOf snC (jC1 l f).1)] w':=by
 have h16:(l.take 16).length≤16:=by simp;omega
 have hcl:∀T:List Sn,(cellsOf snC T).length=T.length*11:=jC je
 have hspec:(jC1 l f)=jGw sdr sur l ⟨f,0,0⟩:=rfl
 rw[hspec]
 have hux:sur ⟨f,0,0⟩=f.ur:=rfl
 obtain ⟨x,hx⟩:∃x:Sn,x=⟨f,0,0⟩:=⟨_,rfl⟩
 rw[← hx]at hux ⊢
 refine jB Tryz.func182 I (Nat.le_of_ble_eq_true I) ?_
 refine HR.sub (σ':=[(0,v),(1,.agg ⟨frC f⟩)]) ⟨I,I,trivial⟩ ?_
 repeat' (first|refine zh ?_|refine HL.JN fn175 I I (fun w hw=>jFH l v w ((Rd.arg hv).at hw) hl) ?_|intro (bk:Nat))
 intro v1
 obtain ⟨T,hT⟩:∃T,T=l.take 16:=⟨_,rfl⟩
 have hfull:=jLh (dr:=sdr) (ur:=sur) (q:=l) (x:=x)
 have hgo:=jQa (dr:=sdr) (ur:=sur) (q:=l) (x:=x)
 rw[← hT]at h16 hfull hgo ⊢
 repeat' (first|refine zh ?_|intro (bk:Nat))
 refine HR.loop (ι:=Nat) (fun k=>k≤T.length) (fun k=>[(0,v),(3,.pointer (some ⟨bk,0,none⟩)),(6,v1),(7,.int .i64 (lidx sdr (T.take k))),(8,.int .i64 (k:Int))]) (fun _=>[jK v1 131 11 T.length (cellsOf snC T),jU bk (frC f) 75]) (fun k=>T.length-k) 0 (Nat.zero_le _) ⟨rfl,rfl,rfl,by rw[jPS];rfl,rfl,trivial⟩ (Ent.pick [0,1] I I) ?_
 intro k hk ih
 repeat' (first|refine zh ?_|refine HL.j4 (Rd.own 0 I) I I I ?_|intro (bk:Nat))
 refine HR.cond I (fun h2=>?_) (fun h2=>?_)
 ·have hlt:k<T.length:=by have:=of_decide_eq_true h2;omega
  obtain ⟨y,hy⟩:=jH hlt
  have hst:=jMc (p:=sdr) hy
  have hln:(T.take k).length≤16:=by simp;omega
  have hlx:=jHG sdr (T.take k)
  repeat' (first|refine zh ?_|refine HL.jw (Rd.own 0 I) Ja k I I I I hlt ?_|refine HL.JL 0 (Rd.own 0 I) (by rw[hcl];omega) I I I I I I I ?_|refine HL.JL 7 (Rd.own 0 I) (by rw[hcl];omega) I I I I I I I ?_|refine HL.JL 9 (Rd.own 0 I) (by rw[hcl];omega) I I I I I I I ?_|refine HL.jY (Rd.own 0 I) I I I I (jR je hy (i:=7) I) ?_|refine HL.jY (Rd.own 0 I) I I I I (jR je hy (i:=9) I) ?_|apply zb ?_ ?_|exact zc|(refine zi fun hb=>?_;try simp at hb)|intro (bk:Nat))
  refine HR.cond I (fun h3=>?_) (fun h3=>?_)
  ·have h3:sdr y=true:=h3
   rw[if_pos h3]at hst
   repeat' (first|refine zh ?_|intro (bk:Nat))
   exact ih (k+1) _ _ hlt (by omega) ⟨rfl,rfl,rfl,by rw[hst];rfl,rfl,trivial⟩ Ent.refl
  ·have h3:sdr y=false:=h3
   rw[if_neg (by rw[h3];decide)]at hst
   repeat' (first|refine zh ?_|intro (bk:Nat))
   exact ih (k+1) _ _ hlt (by omega) ⟨rfl,rfl,rfl,by rw[hst];rfl,rfl,trivial⟩ Ent.refl
 have hke:k=T.length:=by have:=of_decide_eq_false h2;omega
 subst hke
 rw[List.take_length]
 have hlx:=jHG sdr T
 obtain ⟨M,hM⟩:∃M,M=lidx sdr T:=⟨_,rfl⟩
 rw[← hM]at hlx hfull ⊢
 repeat' (first|refine zh ?_|refine HL.j4 (Rd.own 0 I) I I I ?_|apply zb ?_ ?_|exact zc|(refine zi fun hb=>?_;try simp at hb)|intro (bk:Nat))
 refine HR.cond I (fun h3=>?_) (fun h3=>?_)
 ·have h3:(((T.length:Int)==16)&&(!f.ur||decide (M<0)))=true:=h3
  simp only[Bool.and_eq_true,Bool.or_eq_true,Bool.not_eq_true',decide_eq_true_eq,beq_iff_eq]at h3
  rw[hfull (by omega) (by rw[hux];exact h3.2)]
  repeat' (first|refine zh ?_|intro (bk:Nat))
  refine HR.ret Tryz.func182 I [_,_] (fun _ _=>⟨I,I,trivial⟩) ?_
  exact fun w' hw=>⟨v1,rfl,trivial,hw.pick [0] I rfl⟩
 have h3:(((T.length:Int)==16)&&(!f.ur||decide (M<0)))=false:=h3
 have h3:¬(T.length=16∧(f.ur=false∨M<0)):=by
  rintro ⟨e1,e2⟩
  rw[show ((T.length:Int)==16)=true by simp;omega,Bool.true_and,Bool.or_eq_false_iff]at h3
  rcases e2 with e2|e2
  ·rw [e2]at h3;exact absurd h3.1 (by decide)
  ·have:=of_decide_eq_false h3.2;omega
 have hR:=jNq (dr:=sdr) h16 (by rw[← hM];exact fun e=>h3 ⟨e.1,.inr e.2⟩)
 rw[hgo (by rw[hux,← hM];exact h3),hux]
 have hroom:room sdr T=if T.length=16 then T.eraseIdx M.toNat else T:=by rw[hM];rfl
 obtain ⟨L,hL⟩:∃L,L=room sdr T:=⟨_,rfl⟩
 rw[← hL]at hR hroom ⊢
 repeat' (first|refine zh ?_|refine HL.j4 (Rd.own 0 I) I I I ?_|intro (bk:Nat))
 refine HR.join (ι:=Value) (fun _=>True) (fun u=>[(3,.pointer (some ⟨bk,0,none⟩)),(6,u)]) (fun u=>[jK u 131 11 L.length (cellsOf snC L),jU bk (frC f) 75]) (fun u _=>?_) (fun hj=>?_)
 ·repeat' (first|refine zh ?_|refine HL.j4 (Rd.own 0 I) I I I ?_|intro (bk:Nat))
  refine HR.jSE (ι:=Nat) (fun a=>a≤L.length∧(if f.ur=false then L++[x]else ins sur L x)=L.take a++x::L.drop a) (fun a=>[(3,.pointer (some ⟨bk,0,none⟩)),(6,u),(9,.int .i64 (a:Int))]) (fun _=>[jK u 131 11 L.length (cellsOf snC L),jU bk (frC f) 75]) (fun a=>?_) (fun hj2=>?_)
  ·rintro ⟨ha,e⟩
   rw[e]
   have hcat:cellsOf snC (L.take a++x::L.drop a)=(([]++cellsOf snC (L.take a))++snC x)++cellsOf snC (L.drop a):=by rw[jM,List.nil_append,List.append_assoc];rfl
   have hR1:=Rd.pre (B:=base w) (H:=[jK u 131 11 L.length (cellsOf snC L),jU bk (frC f) 75]) je (l:=L) (Rd.own 0 I) ha
   repeat' (first|refine zh ?_|refine HL.Jy Ja I ?_|intro (bk:Nat))
   intro va
   have hR1:=Rd.pre (B:=base w) (H:=[jK va 131 11 0 [],jK u 131 11 L.length (cellsOf snC L),jU bk (frC f) 75]) je (l:=L) (Rd.own 1 I) ha
   repeat' (first|refine zh ?_|refine HL.KP (sz:=11) 0 a (Rd.own 1 I) I I I I (.inl ⟨rfl,rfl⟩) (.inr ⟨_,_,_,rfl,rfl,rfl⟩) (Nat.zero_le _) ha ?_|refine HL.zD 0 I Ja hR1 I I I (hcl _) (jT jA7 _) (by simp;omega) (by simp;omega) ?_|intro (bk:Nat))
   intro vo
   repeat' (first|refine zh ?_|intro (bk:Nat))
   refine HL.jk Ja I I I I I (by decide) (by decide) ?_
   intro va2
   refine HL.ent (H':=[jK va2 131 11 1 (snC x),jK vo 131 11 (0+(L.take a).length) ([]++cellsOf snC (L.take a)),jK u 131 11 L.length (cellsOf snC L),jU bk (frC f) 75]) (Ent.JM I (by rw[hx];rfl)) ?_
   refine HL.zD (news:=snC x) 1 I Ja (Rd.own 0 I) I I I I (jJ I) (by simp;omega) (by simp;omega) ?_
   intro vo2
   have hR2:=Rd.suf (B:=base w) (H:=[jK va2 131 11 1 (snC x),jK vo2 131 11 (0+(L.take a).length+1) (([]++cellsOf snC (L.take a))++snC x),jK u 131 11 L.length (cellsOf snC L),jU bk (frC f) 75]) je (l:=L) (Rd.own 2 I) ha
   repeat' (first|refine zh ?_|refine HL.KP (sz:=11) a L.length (Rd.own 2 I) I I I I (.inr ⟨_,_,_,rfl,rfl,rfl⟩) (.inl ⟨rfl,rfl⟩) ha (Nat.le_refl _) ?_|refine HL.zD 1 I Ja hR2 I I I (hcl _) (jT jA7 _) (by simp;omega) (by simp;omega) ?_|intro (bk:Nat))
   intro v5
   repeat' (first|refine zh ?_|intro (bk:Nat))
   refine HR.ret Tryz.func182 I [_,_] (fun _ _=>⟨I,I,trivial⟩) ?_
   refine fun w' hw=>⟨v5,rfl,trivial,Ent.JM ?_ ?_ w' (hw.pick [1] I rfl)⟩
   ·simp;omega
   ·exact hcat.symm
  ·refine HR.Kc (α:=Nat) (β:=Nat) (fun b a=>b≤L.length∧b≤a∧a≤L.length∧(f.ur=false→a=L.length)∧(f.ur=true→(∀ j y,b≤j→j<a→L[j]? =some y→sur y=true)∧∀y,L[a]? =some y→sur y=false)) (fun b a=>[(3,.pointer (some ⟨bk,0,none⟩)),(6,u),(9,.int .i64 (a:Int)),(10,.int .i64 ((b:Int)-1))]) (fun _ _=>[jK u 131 11 L.length (cellsOf snC L),jU bk (frC f) 75]) (fun b _=>b) L.length L.length ⟨Nat.le_refl _,Nat.le_refl _,Nat.le_refl _,fun _=>rfl,fun _=>⟨fun j y h1 h2=>by omega,fun y hy=>by have:=(List.getElem?_eq_some_iff.1 hy).1;omega⟩⟩ ⟨I,I,I,I,trivial⟩ Ent.refl ?_
   rintro b a ⟨hb,hba,ha,hf0,hf1⟩ ih
   repeat' (first|refine zh ?_|apply zb ?_ ?_|exact zc|(refine zi fun hb=>?_;try simp at hb)|intro (bk:Nat))
   refine HR.cond I (fun h4=>?_) (fun h4=>?_)
   ·have h4:(decide ((b:Int)-1≥0)&&f.ur)=true:=h4
    simp only[Bool.and_eq_true,decide_eq_true_eq]at h4
    obtain ⟨m,rfl⟩:∃m,b=m+1:=⟨b-1,by omega⟩
    have hml:m<L.length:=by omega
    obtain ⟨y,hy⟩:=jH hml
    obtain ⟨g1,g2⟩:=hf1 h4.2
    repeat' (first|refine zh ?_|refine HL.jw (Rd.own 0 I) Ja m I I I (by omega) hml ?_|refine HL.JL 0 (Rd.own 0 I) (by rw[hcl];omega) I I I I I I I ?_|refine HL.JL 7 (Rd.own 0 I) (by rw[hcl];omega) I I I I I I I ?_|refine HL.jY (Rd.own 0 I) I I I I (jR je hy (i:=7) I) ?_|intro (bk:Nat))
    refine HR.cond I (fun h5=>?_) (fun h5=>?_)
    ·have h5:y.f.ur=false:=by have h5:(!y.f.ur)=true:=h5;simpa using h5
     repeat' (first|refine zh ?_|intro (bk:Nat))
     refine ih m m _ _ ⟨by omega,Nat.le_refl _,by omega,fun e=>(by rw[h4.2]at e;cases e),fun _=>⟨fun j y h1 h2=>by omega,fun y' hy'=>by rw[hy]at hy';cases hy';exact h5⟩⟩ (by omega) ⟨rfl,rfl,by show some (Value.int IntKind.i64 _)=some (Value.int IntKind.i64 _);congr 2;omega,by show some (Value.int IntKind.i64 _)=some (Value.int IntKind.i64 _);congr 2;omega,trivial⟩ Ent.refl
    ·have h5:y.f.ur=true:=by have h5:(!y.f.ur)=false:=h5;simpa using h5
     repeat' (first|refine zh ?_|intro (bk:Nat))
     refine ih m a _ _ ⟨by omega,by omega,ha,hf0,fun _=>⟨fun j y' h1 h2 hy'=>?_,g2⟩⟩ (by omega) ⟨rfl,rfl,rfl,by show some (Value.int IntKind.i64 _)=some (Value.int IntKind.i64 _);congr 2;omega,trivial⟩ Ent.refl
     by_cases e:j=m
     ·subst e;rw[hy]at hy';cases hy';exact h5
     ·exact g1 j y' (by omega) h2 hy'
   ·have h4:(decide ((b:Int)-1≥0)&&f.ur)=false:=h4
    have e:(if f.ur=false then L++[x]else ins sur L x)=L.take a++x::L.drop a:=by
     cases hu:f.ur
     ·rw [if_pos rfl,hf0 hu,List.take_length,List.drop_length]
     ·rw [if_neg (by decide)]
      rw[hu,Bool.and_true]at h4
      have h4:=of_decide_eq_false h4
      obtain ⟨g1,g2⟩:=hf1 hu
      exact jJE ha (fun j y hj hy=>g1 j y (by omega) hj hy) g2
    refine HR.exit I ?_
    exact hj2 a _ _ ⟨ha,e⟩ ⟨I,I,I,trivial⟩ Ent.refl
 ·refine HR.cond I (fun h4=>?_) (fun h4=>?_)
  ·have h4:T.length=16:=by have h4:((T.length:Int)==16)=true:=h4;simp at h4;omega
   have hM0:¬M<0:=fun e=>h3 ⟨h4,.inr e⟩
   obtain ⟨m,rfl⟩:∃m:Nat,M=m:=⟨M.toNat,by omega⟩
   rw[if_pos h4,Int.toNat_natCast]at hroom
   refine HR.region ?_
   repeat' (first|refine zn ?_|apply zb ?_ ?_|exact zc|(refine zi fun hb=>?_;try simp at hb)|intro (bk:Nat))
   refine HL.JN fn184 I I (fun w hw=>jC0 T m v1 w ((Rd.own 0 rfl).at hw) (by omega) (by omega)) ?_
   intro u
   repeat' (first|refine zn ?_|apply zb ?_ ?_|exact zc|(refine zi fun hb=>?_;try simp at hb)|intro (bk:Nat))
   rw[← hroom]
   exact hj u _ _ trivial ⟨I,I,trivial⟩ (Ent.pick [0,2] I I)
  ·have h4:¬T.length=16:=by intro e;have h4:((T.length:Int)==16)=false:=h4;rw[e]at h4;cases h4
   rw[if_neg h4]at hroom
   subst hroom
   refine HR.skip ?_
   exact hj v1 _ _ trivial ⟨I,I,trivial⟩ (Ent.pick [0,1] I I)
end Go.Proofs.YtgfdoognildoeaaGreat
namespace Go.Proofs.YtgfdoognildoeaaGreat
open Go.GX Go.RowKit
attribute [local irreducible] Calls Run jg jh JU HR HL HD jU jK Jc Rd jL jd
open Nd
theorem max0 (n:Nat):(if (n:Int)-32>0 then (n:Int)-32 else 0)=((n-32:Nat):Int):=by split<;>omega
theorem jMr (l:List Pr) (p:Pr) (v:Value) (w:World) (hv:Sl w v (cellsOf prC l) l.length) (hl:l.length≤1000000):
  Calls Tryz.prog 302 #[v,.agg ⟨prC p⟩] w fun e w'=>e= .returned (.int .i64 (fidx (fun x=>decide (x=p)) l))∧Below w.heap.size w w':=by
 refine jB Tryz.func302 I (Nat.le_of_ble_eq_true I) ?_
 refine HR.sub (σ':=[(0,v),(1,.agg ⟨prC p⟩)]) ⟨I,I,trivial⟩ ?_
 repeat' (first|refine zh ?_|refine HL.j4 (Rd.arg hv) I I I ?_|intro (bk:Nat))
 refine HR.loop (ι:=Nat) (fun k=>k≤l.length∧∀j b,j<k→l[j]? =some b→decide (b=p)=false) (fun k=>[(0,v),(3,.pointer (some ⟨bk,0,none⟩)),(7,.int .i64 (l.length:Int)),(8,.int .i64 (k:Int))]) (fun _=>[jU bk (prC p) 171]) (fun k=>l.length-k) 0 ⟨Nat.zero_le _,fun j b hj=>absurd hj (Nat.not_lt_zero _)⟩ ⟨I,I,I,I,trivial⟩ Ent.refl ?_
 rintro k ⟨hk,hno⟩ ih
 repeat' (first|refine zh ?_|intro (bk:Nat))
 refine HR.cond I (fun h2=>?_) (fun h2=>?_)
 ·have hlt:k<l.length:=by have:=of_decide_eq_true h2;omega
  obtain ⟨x,hx⟩:=jH hlt
  repeat' (first|refine zh ?_|intro (bk:Nat))
  refine HR.jo JZ (by kernel_rfl) ?_
  repeat' (first|refine zq ?_|refine HQ.jw (Rd.arg hv) jAy k I I I I hlt ?_|refine HQ.JB (Rd.arg hv) I I I I (by simp) I (jF Zf hx) ?_|refine jh.eqS I (by kernel_rfl) (by kernel_rfl) I I I ?_|apply zb ?_ ?_|exact zc|(refine zi fun hb=>?_;try simp at hb))
  refine HR.cond I (fun h3=>?_) (fun h3=>?_)
  ·have h3:x=p:=by
    obtain ⟨a1,a2⟩:=x
    obtain ⟨b1,b2⟩:=p
    simp at h3
    simp[h3]
   repeat' (first|refine zh ?_|intro (bk:Nat))
   refine HR.ret Tryz.func302 I [_] (fun _ _=>⟨I,trivial⟩) ?_
   rw[Zq hx (decide_eq_true h3) hno]
   exact fun w' hw=>⟨rfl,hw.jE⟩
  ·have h3:decide (x=p)=false:=by
    refine decide_eq_false fun e=>?_
    subst e
    simp at h3
   repeat' (first|refine zh ?_|intro (bk:Nat))
   refine ih (k+1) _ _ ⟨hlt,fun j b hj hb=>?_⟩ (by omega) ⟨I,I,I,I,trivial⟩ Ent.refl
   by_cases e:j=k
   ·subst e;rw[hx]at hb;cases hb;exact h3
   ·exact hno j b (by omega) hb
 ·have hke:k=l.length:=by have:=of_decide_eq_false h2;omega
  subst hke
  rw[zK hno]
  repeat' (first|refine zh ?_|intro (bk:Nat))
  refine HR.ret Tryz.func302 I [_] (fun _ _=>⟨I,trivial⟩) ?_
  exact fun w' hw=>⟨rfl,hw.jE⟩
theorem jRd (l:List Pr) (p:Pr):l.any (fun x=>decide (x=p))=decide (p∈l):=by
 by_cases h:p∈l
 ·rw [decide_eq_true h,List.any_eq_true];exact ⟨p,h,by simp⟩
 ·rw [decide_eq_false h,← Bool.not_eq_true,List.any_eq_true]
  rintro ⟨x,hx,e⟩
  exact h (of_decide_eq_true e▸hx)
theorem jKe (l:List Pr) (p:Pr) (v:Value) (w:World) (hv:Sl w v (cellsOf prC l) l.length) (hl:l.length≤1000000):
  Calls Tryz.prog 274 #[v,.agg ⟨prC p⟩] w fun e w'=>e= .returned (.bool (decide (p∈l)))∧Below w.heap.size w w':=by
 rw[← jRd,← jBz]
 refine jB Tryz.func274 I (Nat.le_of_ble_eq_true I) ?_
 refine HR.sub (σ':=[(0,v),(1,.agg ⟨prC p⟩)]) ⟨I,I,trivial⟩ ?_
 repeat' (first|refine zh ?_|refine HL.jN fn302 I I (fun w hw=>jMr l p v w ((Rd.arg hv).at hw) hl) ?_|intro (bk:Nat))
 refine HR.ret Tryz.func274 I [_] (fun _ _=>⟨I,trivial⟩) ?_
 exact fun w' hw=>⟨rfl,hw.jE⟩
theorem lastl {α:Type} (l:List α):(last 32 l).length≤32∧(last 32 l).length≤l.length:=by unfold last;simp;omega
theorem jKE (l:List Pr) (p:Pr) (v:Value) (w:World) (hv:Sl w v (cellsOf prC l) l.length) (hl:l.length≤1000):
  Calls Tryz.prog 222 #[v,.agg ⟨prC p⟩] w fun e w'=>∃v',e= .returned (.tuple ⟨[v',.bool (KG l p).2]⟩)∧True∧Sat (base w) [jK v' 171 2 (KG l p).1.length (cellsOf prC (KG l p).1)] w':=by
 have hll:=lastl l
 refine jB Tryz.func222 I (Nat.le_of_ble_eq_true I) ?_
 refine HR.sub (σ':=[(0,v),(1,.agg ⟨prC p⟩)]) ⟨I,I,trivial⟩ ?_
 repeat' (first|refine zh ?_|refine HL.j4 (Rd.arg hv) I I I ?_|intro (bk:Nat))
 refine HL.ZB 11 (v':= .int .i64 ((l.length-32:Nat):Int)) I (by rw[max0]) ?_
 have hR:=fun B H=>Rd.suf (B:=B) (H:=H) Zf (l:=l) (v:=v) (n:=l.length-32)
 have hS:=hR (base w) [jU bk (prC p) 171] (Rd.arg hv) (Nat.sub_le _ _)
 repeat' (first|refine zh ?_|refine HL.KP (sz:=2) (l.length-32) l.length (Rd.arg hv) I I I I (.inr ⟨_,_,_,rfl,rfl,rfl⟩) (.inl ⟨rfl,rfl⟩) (Nat.sub_le _ _) (Nat.le_refl _) ?_|refine HL.JN jRA I I (fun w hw=>jAT (last 32 l) _ w (hS.at hw) (by omega)) ?_|intro (bk:Nat))
 intro v1
 have hspec:KG l p=if p∈last 32 l then (last 32 l,false)else (last 32 (last 32 l++[p]),true):=rfl
 rw[hspec]
 obtain ⟨T,hT⟩:∃T,T=last 32 l:=⟨_,rfl⟩
 rw[← hT]at hll ⊢
 repeat' (first|refine zh ?_|refine HL.jN fn274 I I (fun w hw=>jKe T p v1 w ((Rd.own 0 rfl).at hw) (by omega)) ?_|intro (bk:Nat))
 refine HR.cond I (fun h2=>?_) (fun h2=>?_)
 ·have h2:p∈T:=of_decide_eq_true h2
  rw[if_pos h2]
  repeat' (first|refine zh ?_|intro (bk:Nat))
  refine HR.ret Tryz.func222 I [_,_] (fun _ _=>⟨I,I,trivial⟩) ?_
  exact fun w' hw=>⟨v1,rfl,trivial,hw.pick [0] I rfl⟩
 ·have h2:¬p∈T:=of_decide_eq_false h2
  rw[if_neg h2]
  repeat' (first|refine zh ?_|refine HL.jk jAy I I I I I (by decide) (by decide) ?_|intro (bk:Nat))
  intro va
  repeat' (first|refine zh ?_|intro (bk:Nat))
  refine HL.zD 1 I jAy (Rd.own 0 I) I I I I (jJ I) (by omega) (by omega) ?_
  intro v2
  refine HL.ent (H':=[jK v2 171 2 (T++[p]).length (cellsOf prC (T++[p]))]) (Ent.trans (Ent.pick [1] I I) (Ent.JM (by simp) (by rw[jM];rfl))) ?_
  obtain ⟨U,hU⟩:∃U,U=T++[p]:=⟨_,rfl⟩
  have hUl:U.length≤33:=by rw[hU];simp;omega
  rw[← hU]
  repeat' (first|refine zh ?_|refine HL.j4 (Rd.own 0 I) I I I ?_|intro (bk:Nat))
  refine HL.ZB 26 (v':= .int .i64 ((U.length-32:Nat):Int)) I (by rw[max0]) ?_
  repeat' (first|refine zh ?_|refine HL.subO (sz:=2) (U.length-32) U.length 0 I I I I I (.inr ⟨_,_,rfl,rfl⟩) (.inl ⟨rfl,rfl⟩) (Nat.sub_le _ _) (Nat.le_refl _) ?_|intro (bk:Nat))
  refine HR.ret Tryz.func222 I [_,_] (fun _ _=>⟨I,I,trivial⟩) ?_
  refine fun w' hw=>⟨_,rfl,trivial,Ent.JM ?_ ?_ w' hw⟩
  ·unfold last;simp
  ·rw [JH Zf,List.take_of_length_le (by rw[jC Zf,List.length_drop];exact Nat.le_refl _)];rfl
end Go.Proofs.YtgfdoognildoeaaGreat
namespace Nd
open Go.GX Tp
def Kept (old t:List Ro):Prop:=∀r∈old,∃x∈t,x=r∨(x.dest=r.dest∧(x.sq>r.sq∨(x.sq=r.sq∧x.cost<r.cost)))
theorem Kept.refl (t:List Ro):Kept t t:=fun r hr=>⟨r,hr,.inl rfl⟩
theorem Kept.trans {a b c:List Ro} (h:Kept a b) (h':Kept b c):Kept a c:=by
 intro r hr
 obtain ⟨x,hx,h1⟩:=h r hr
 obtain ⟨y,hy,h2⟩:=h' x hx
 refine ⟨y,hy,?_⟩
 rcases h1 with rfl|⟨e1,h1⟩
 ·exact h2
 ·rcases h2 with rfl|⟨e2,h2⟩
  ·exact .inr ⟨e1,h1⟩
  ·exact .inr ⟨e2.trans e1,by omega⟩
theorem Tab.tab {t:List Ro} {self:Int} (h:Tab self t):Z4 t self=t:=by
 unfold Z4;rw[jDe h.ok,if_pos h.chk]
theorem jLf {t:List Ro} {d:Int} {o:Ro} (ha:Asc (·.dest) t) (h:rat t d=some o):t[rpos t d]? =some o∧o.dest=d:=by
 have:=ha.pos (n:=d) h
 exact ⟨this.1,this.2.1⟩
theorem jEK {t t':List Ro} {self:Int} (h:(t.any fun r=>r.dest==self)=true) (hk:Kept t t'):(t'.any fun r=>r.dest==self)=true:=by
 obtain ⟨r,hr,he⟩:=List.any_eq_true.1 h
 obtain ⟨x,hx,h1⟩:=hk r hr
 refine List.any_eq_true.2 ⟨x,hx,?_⟩
 rcases h1 with rfl|⟨e,_⟩
 ·exact he
 ·rw [e];exact he
theorem jDG {t:List Ro} {fr:Int} {r x:Ro} (h:x∈Je t fr r):x∈t∨x=r:=by
 unfold Je at h
 split at h
 ·rename_i o ho
  by_cases hc:(if fin r=true then better r o else (o.nx==fr)&&decide (o.sq<r.sq))=true
  ·rw [if_pos hc]at h;exact List.mem_or_eq_of_mem_set h
  ·rw [if_neg hc]at h;exact .inl h
 ·split at h
  ·rcases List.mem_append.1 h with h|h
   ·exact .inl (List.mem_of_mem_take h)
   ·rcases List.mem_cons.1 h with h|h
    ·exact .inr h
    ·exact .inl (List.mem_of_mem_drop h)
  ·exact .inl h
theorem jGm {t:List Ro} {fr:Int} {r:Ro} (ha:Asc (·.dest) t):Kept t (Je t fr r):=by
 unfold Je;split
 ·rename_i o ho
  obtain ⟨h1,h2⟩:=jLf ha ho
  by_cases hc:(if fin r=true then better r o else (o.nx==fr)&&decide (o.sq<r.sq))=true
  ·rw [if_pos hc]
   have hb:r.sq>o.sq∨(r.sq=o.sq∧r.cost<o.cost):=by
    by_cases hf:fin r=true
    ·rw [if_pos hf]at hc;simpa[better]using hc
    ·rw [if_neg hf]at hc;simp at hc;omega
   intro x hx
   obtain ⟨j,hj⟩:=List.getElem?_of_mem hx
   by_cases hji:j=rpos t r.dest
   ·subst hji;rw[h1]at hj;cases hj
    exact ⟨r,List.mem_of_getElem? (List.getElem?_set_self (List.getElem?_eq_some_iff.1 h1).1),.inr ⟨h2.symm,hb⟩⟩
   ·exact ⟨x,List.mem_of_getElem? (i:=j) (by rw[List.getElem?_set_ne (Ne.symm hji)];exact hj),.inl rfl⟩
  ·rw [if_neg hc];exact Kept.refl t
 ·split
  ·intro x hx
   refine ⟨x,?_,.inl rfl⟩
   rw[← List.take_append_drop (rpos t r.dest) t]at hx
   rcases List.mem_append.1 hx with h|h
   ·exact List.mem_append_left _ h
   ·exact List.mem_append_right _ (List.mem_cons_of_mem _ h)
  ·exact Kept.refl t
theorem jJr {t:List Ro} {self fr:Int} {r:Ro} (h:Tab self t) (hr:zF r=false) (hf:Ze self r=false):Tab self (Je t fr r)∧Kept t (Je t fr r):=by
 have hk:=jGm (fr:=fr) (r:=r) h.asc
 refine ⟨⟨jDH h.len,h.ok,fun x hx=>?_,jDJ h.asc,jEK h.own hk,fun x hx=>?_⟩,hk⟩
 ·rcases jDG hx with hx|rfl
  ·exact h.rng x hx
  ·exact hr
 ·rcases jDG hx with hx|rfl
  ·exact h.form x hx
  ·exact hf
theorem jLg {self fr cost:Int} {a:Ro} (h1:okN fr=true) (h2:fr≠self) (h3:1≤cost) (hs:okN self=true) (ha:usable a=true) (hd:a.dest≠self):
  zF (jFG fr cost a)=false∧Ze self (jFG fr cost a)=false:=by
 rw[ZR]at hs
 unfold usable at ha
 rw[Bool.and_eq_true,Bool.and_eq_true,Bool.not_eq_true',Bool.or_eq_false_iff,decide_eq_false_iff_not,decide_eq_false_iff_not]at ha
 obtain ⟨⟨h4,h5,h6⟩,h7⟩:=ha
 unfold jFG
 split
 ·rename_i hc
  have hc1:=hc.1
  unfold fin at hc1
  simp only[Bool.and_eq_true,decide_eq_true_eq]at hc1
  have h7:a.sq%2=0:=by simp at h7;omega
  have hfin:fin ⟨a.dest,a.sq,a.cost+cost,fr⟩=true:=by unfold fin;simp;omega
  refine ⟨?_,?_⟩
  ·unfold zF usable
   rw[hfin,h4,h1]
   simp[h7];omega
  ·unfold Ze
   rw[if_neg hd]
   simp only[Bool.or_eq_false_iff,beq_eq_false_iff_ne,ne_eq]
   exact ⟨by omega,h2⟩
 ·have hfin:fin ⟨a.dest,a.sq,255,255⟩=false:=by unfold fin;simp
  refine ⟨?_,?_⟩
  ·unfold zF usable
   rw[hfin,h4]
   simp;omega
  ·unfold Ze
   rw[if_neg hd]
   simp only[Bool.or_eq_false_iff,beq_eq_false_iff_ne,ne_eq]
   exact ⟨by decide,by omega⟩
theorem jLP {t:List Ro} {self fr cost:Int} {a:Ro} (h:Tab self t) (h1:okN fr=true) (h2:fr≠self) (h3:1≤cost):Tab self (ZU self fr cost t a)∧Kept t (ZU self fr cost t a):=by
 unfold ZU;split
 ·exact ⟨h,Kept.refl t⟩
 ·rename_i hn
  have hu:usable a=true:=by
   cases e:usable a
   ·exact absurd (Or.inl e) hn
   ·rfl
  have hd:a.dest≠self:=fun e=>hn (.inr (by rw[jDe h.ok];exact e))
  obtain ⟨g1,g2⟩:=jLg (cost:=cost) h1 h2 h3 h.ok hu hd
  exact jJr h g1 g2
theorem jEu {self fr cost:Int} (h1:okN fr=true) (h2:fr≠self) (h3:1≤cost):∀ {adv t:List Ro},Tab self t→Tab self (adv.foldl (ZU self fr cost) t)∧Kept t (adv.foldl (ZU self fr cost) t)
 |[],t,h=>⟨h,Kept.refl t⟩
 |a::adv,t,h=>by
  obtain ⟨g1,g2⟩:=jLP (a:=a) h h1 h2 h3
  obtain ⟨g3,g4⟩:=jEu (cost:=cost) h1 h2 h3 (adv:=adv) g1
  exact ⟨g3,g2.trans g4⟩
theorem jD6 {t:List Ro} {self fr cost:Int} {adv:List Ro} (h:Tab self t):Tab self (jGe t self fr cost adv)∧Kept t (jGe t self fr cost adv):=by
 unfold jGe
 rw[h.tab,jDe h.ok]
 split
 ·exact ⟨h,Kept.refl t⟩
 ·rename_i hn
  have h1:okN fr=true:=by
   cases e:okN fr
   ·exact absurd (Or.inl e) hn
   ·rfl
  exact jEu h1 (fun e=>hn (.inr (.inl e))) (by omega) h
theorem jNU {α:Type} {key:α→Int} {l:List α} {i:Nat} {x y:α} (ha:Asc key l) (hx:l[i]? =some x) (hk:key y=key x):Asc key (l.set i y):=by
 have hg:∀(k:Nat) (a:α),(l.set i y)[k]? =some a→∃a':α,l[k]? =some a'∧key a'=key a:=by
  intro k a h
  by_cases e:k=i
  ·subst e
   rw[List.getElem?_set_self (List.getElem?_eq_some_iff.1 hx).1]at h
   cases h;exact ⟨x,hx,hk.symm⟩
  ·rw [List.getElem?_set_ne (Ne.symm e)]at h;exact ⟨a,h,rfl⟩
 refine jGG fun k a b h1 h2=>?_
 obtain ⟨a',e1,e2⟩:=hg k a h1
 obtain ⟨b',e3,e4⟩:=hg (k+1) b h2
 have:=ha.lt (Nat.lt_succ_self k) e1 e3
 omega
theorem jLc {t:List Ro} {self:Int} (h:Tab self t):Tab self (jFE t self)∧Kept t (jFE t self):=by
 unfold jFE
 rw[h.tab,jDe h.ok]
 split
 ·rename_i r hr
  obtain ⟨h1,h2⟩:=jLf h.asc hr
  have hm:=List.mem_of_getElem? h1
  split
  ·rename_i hlt
   have hk:Kept t (t.set (rpos t self) ⟨r.dest,r.sq+2,r.cost,r.nx⟩):=by
    intro x hx
    obtain ⟨j,hj⟩:=List.getElem?_of_mem hx
    by_cases hji:j=rpos t self
    ·subst hji;rw[h1]at hj;cases hj
     exact ⟨_,List.mem_of_getElem? (List.getElem?_set_self (List.getElem?_eq_some_iff.1 h1).1),.inr ⟨rfl,.inl (by show r.sq+2>r.sq;omega)⟩⟩
    ·exact ⟨x,List.mem_of_getElem? (i:=j) (by rw[List.getElem?_set_ne (Ne.symm hji)];exact hj),.inl rfl⟩
   refine ⟨⟨by rw[List.length_set];exact h.len,h.ok,fun x hx=>?_,jNU h.asc h1 rfl,jEK h.own hk,fun x hx=>?_⟩,hk⟩
   ·rcases List.mem_or_eq_of_mem_set hx with hx|rfl
    ·exact h.rng x hx
    ·have hg:=h.rng r hm
     have hf:=h.form r hm
     unfold Ze at hf
     rw[if_pos h2]at hf
     simp only[Bool.not_eq_false',Bool.and_eq_true,beq_iff_eq]at hf
     have hs:=h.ok
     rw[ZR]at hs
     unfold zF usable fin at hg ⊢
     rw[hf.1,hf.2,h2]at hg ⊢
     simp only[h.ok]at hg ⊢
     simp at hg ⊢
     omega
   ·rcases List.mem_or_eq_of_mem_set hx with hx|rfl
    ·exact h.form x hx
    ·have hf:=h.form r hm
     unfold Ze at hf ⊢
     exact hf
  ·exact ⟨h,Kept.refl t⟩
 ·exact ⟨h,Kept.refl t⟩
theorem jNy {t:List Ro} {self next:Int} (h:Tab self t):Tab self (jJx t self next)∧Kept t (jJx t self next):=by
 rw[jBo,h.tab]
 have hs:=h.ok
 rw[ZR]at hs
 have hb:∀r,jCj self next r=if okN next=true∧r.nx=next∧r.dest≠self then ⟨r.dest,r.sq+1,255,255⟩else r:=by
  intro r;unfold jCj;rw[jDe h.ok]
 have hk:Kept t (t.map (jCj self next)):=by
  intro r hr
  refine ⟨jCj self next r,List.mem_map_of_mem hr,?_⟩
  rw[hb];split
  ·exact .inr ⟨rfl,.inl (by show r.sq+1>r.sq;omega)⟩
  ·exact .inl I
 refine ⟨⟨by rw[List.length_map];exact h.len,h.ok,fun x hx=>?_,?_,jEK h.own hk,fun x hx=>?_⟩,hk⟩
 ·obtain ⟨r,hr,rfl⟩:=List.mem_map.1 hx
  have hg:=h.rng r hr
  rw[hb];split
  ·rename_i hc
   obtain ⟨c1,c2,c3⟩:=hc
   rw[← c2]at c1
   have hn:=c1
   rw[ZR]at hn
   unfold zF usable fin at hg ⊢
   simp only[c1]at hg
   simp at hg ⊢
   obtain ⟨⟨⟨g1,g2,g3⟩,g4⟩,g5⟩:=hg
   simp only[g1]
   simp;omega
  ·exact hg
 ·refine Asc.jPP (key:=fun r:Ro=>r.dest) _ (fun a=>?_) h.asc
  rw[hb];split<;>rfl
 ·obtain ⟨r,hr,rfl⟩:=List.mem_map.1 hx
  have hf:=h.form r hr
  rw[hb];split
  ·rename_i hc
   unfold Ze
   rw[if_neg hc.2.2]
   simp only[Bool.or_eq_false_iff,beq_eq_false_iff_ne,ne_eq]
   exact ⟨by decide,by omega⟩
  ·exact hf
theorem jDd {x:Li} {ok:Bool} (h:zS x=false):zS (jPQ x ok)=false:=by
 obtain ⟨h1,h2,h3,h4,h5,h6⟩:=jAq h
 unfold zS at h
 simp only[Bool.or_eq_false_iff,decide_eq_false_iff_not]at h
 obtain ⟨_,h7⟩:=h
 have hb:(if ok=true then (1:Int)else 0)≤1∧0≤(if ok=true then (1:Int)else 0):=by split<;>omega
 unfold zS jPQ
 simp only[Bool.or_eq_false_iff,decide_eq_false_iff_not]
 refine ⟨⟨⟨⟨by omega,by omega⟩,by omega⟩,by omega⟩,?_⟩
 rcases Int.lt_or_le x.ct 16 with hc|hc
 ·have e:(min (x.ct+1) 16).toNat=x.ct.toNat+1:=by omega
  rw[e,Int.pow_succ]
  omega
 ·have e:(min (x.ct+1) 16).toNat=16:=by omega
  rw[e]
  have:(2:Int) ^ 16=65536:=by decide
  rw[this];omega
theorem jBu (l:List Li) (n:Int) (ok:Bool):jA4 (ZW l n ok)=0:=by
 obtain ⟨h1,h2,h3⟩:=Kz (Ka l)
 unfold ZW
 split
 ·exact Ka l
 rename_i hr
 split
 ·rename_i x hx
  obtain ⟨hp,hk,_⟩:=h3.pos (n:=n) hx
  have hx':=List.mem_of_getElem? hp
  refine jHJ (by rw[List.length_set];exact h1) (fun y hy=>?_) (jNU h3 (i:=ZH (lval l) n) hp I)
  rcases List.mem_or_eq_of_mem_set hy with hy|rfl
  ·exact h2 y hy
  ·exact jDd (h2 x hx')
 ·rename_i hx
  split
  ·exact Ka l
  ·rename_i hl
   refine jHJ ?_ (fun y hy=>?_) ?_
   ·have:=jHD (lval l) n
    simp;omega
   ·rcases List.mem_append.1 hy with h|h
    ·exact h2 y (List.mem_of_mem_take h)
    ·rcases List.mem_cons.1 h with rfl|h
     ·refine jDd ?_
      unfold zS;simp;omega
     ·exact h2 y (List.mem_of_mem_drop h)
   ·obtain ⟨A,C,s⟩:=h3.split n
    rcases s.hi with ⟨g1,g2⟩|⟨y,D,rfl,hy,g2,g3⟩
    ·have hlp:ZH (lval l) n=A.length:=by unfold ZH;rw[s.tw]
     rw[hlp,s.eq,List.take_left,List.drop_left]
     exact Asc.ins (by rw[← s.eq];exact h3) s.lo g2 I
    ·exact absurd g2 (by unfold lat at hx;rw[hx];simp)
theorem jKG (l:List Li) (n:Int):jA4 (kY l n)=0:=by
 obtain ⟨h1,h2,h3⟩:=Kz (Ka l)
 unfold kY
 exact jHJ (Nat.le_trans (List.length_filter_le _ _) h1) (fun x hx=>h2 x (List.mem_filter.1 hx).1) (h3.filter _)
structure Ord (n:Nd):Prop where
 addr:okN n.addr=true
 poll:n.poll=0∨4≤n.poll
 parent:n.parent=255∨(okN n.parent=true∧n.parent≠n.addr)
 table:Tab n.addr n.table
 links:jA4 n.links=0
 out:n.out.length≤16
 kids:Asc id n.children
 kid:∀x∈n.children,okN x=true∧x≠n.addr
 boxes:n.boxes.length≤16
 seen:n.seen.length≤32
 inbox:n.inbox.length≤256
 seq:0≤n.seq∧n.seq≤65535
 lost:0≤n.lost∧n.lost≤JY
theorem jJT (n:Int):okN (clamp n 0 250)=true:=jJD n
theorem Ji (n:Nd):Ord (order n):=by
 have ha:=jJT n.addr
 refine ⟨ha,?_,?_,?_,Ka _,?_,(jBw _ _).1,fun x hx=>(((jBw _ _).2 x).1 hx).2,?_,jEZ _ _,?_,?_,?_⟩
 ·show (if n.poll<1 then (0:Int)else max n.poll 4)=0∨4≤(if n.poll<1 then (0:Int)else max n.poll 4)
  split<;>omega
 ·show (if okN n.parent=false∨n.parent=clamp n.addr 0 250 then (255:Int)else n.parent)=255∨(okN (if okN n.parent=false∨n.parent=clamp n.addr 0 250 then (255:Int)else n.parent)=true∧(if okN n.parent=false∨n.parent=clamp n.addr 0 250 then (255:Int)else n.parent)≠clamp n.addr 0 250)
  split
  ·exact .inl I
  ·rename_i h
   refine .inr ⟨?_,fun e=>h (.inr e)⟩
   cases e:okN n.parent
   ·exact absurd (Or.inl e) h
   ·rfl
 ·show Tab (clamp n.addr 0 250) (if KL n.table (clamp n.addr 0 250)=0 then n.table else [jGk (clamp n.addr 0 250)])
  split
  ·rename_i h;exact jHy h
  ·exact jHt ha
 ·show (n.out.take 16).length≤16
  simp;omega
 ·show (n.boxes.take 16).length≤16
  simp;omega
 ·show (n.inbox.take 256).length≤256
  simp;omega
 ·show 0≤(if n.seq<0∨n.seq>65535 then (0:Int)else n.seq)∧(if n.seq<0∨n.seq>65535 then (0:Int)else n.seq)≤65535
  split<;>omega
 ·show 0≤clamp n.lost 0 JY∧clamp n.lost 0 JY≤JY
  have:(0:Int)≤JY:=by decide
  unfold clamp;omega
theorem Ord.lose {n:Nd} (h:Ord n):Ord (lose n):={ h with lost:=by have:=h.lost;show 0≤min (n.lost+1) JY∧min (n.lost+1) JY≤JY;omega }
theorem Ord.jAb {n:Nd} (h:Ord n) {q:List Sn} (hq:q.length≤16):Ord { n with out:=q }:={ h with out:=hq }
theorem Ord.kK {n:Nd} (h:Ord n) {q:List Ma} (hq:q.length≤16):Ord { n with boxes:=q }:={ h with boxes:=hq }
theorem Ord.jBk {n:Nd} (h:Ord n) (q:List Pt):Ord { n with parts:=q }:={ h with }
theorem Ord.setTable {n:Nd} (h:Ord n) {t:List Ro} (ht:Tab n.addr t):Ord { n with table:=t }:={ h with table:=ht }
theorem Ord.jD3 {n:Nd} (h:Ord n) {t:List Li} (ht:jA4 t=0):Ord { n with links:=t }:={ h with links:=ht }
theorem Ord.queue {n:Nd} (h:Ord n) (f:Fr):Ord (queue n f).1:=by
 unfold Nd.queue
 simp only
 split
 ·exact (h.jAb jBr).lose
 ·exact h.jAb jBr
theorem Ord.box {n:Nd} (h:Ord n) (f:Fr) (now:Int):Ord (box n f now):=by
 unfold Nd.box
 simp only
 split
 ·exact (h.kK jBr).lose
 ·exact h.kK jBr
theorem Ord.deliver {n:Nd} (h:Ord n) (d:De):Ord (deliver n d):=by
 unfold Nd.deliver
 split
 ·exact h.lose
 ·exact { h with inbox:=by show (n.inbox++[d]).length≤256;simp;omega }
theorem kN (n:Nd) (f:Fr):(queue n f).1.table=n.table∧(queue n f).1.addr=n.addr:=by
 unfold queue;simp only;split<;>exact ⟨rfl,rfl⟩
theorem jGC (n:Nd) (f:Fr) (now:Int):(box n f now).table=n.table∧(box n f now).addr=n.addr:=by
 unfold box;simp only;split<;>exact ⟨rfl,rfl⟩
theorem jAz (n:Nd) (d:De):(deliver n d).table=n.table∧(deliver n d).addr=n.addr:=by
 unfold deliver;split<;>exact ⟨rfl,rfl⟩
theorem jE2 {target:Int} {ur:Bool}:∀ {l:List By} {n m:Nd},Ord n→sends target ur l n=some m→Ord m∧m.table=n.table∧m.addr=n.addr
 |[],n,m,h,e=>by unfold sends at e;cases e;exact ⟨h,rfl,rfl⟩
 |p::l,n,m,h,e=>by
  unfold sends at e
  split at e
  ·have hq:=h.queue (kL n target ur p)
   have ht:=kN n (kL n target ur p)
   obtain ⟨g1,g2,g3⟩:=jE2 (l:=l) (show Ord { (queue n (kL n target ur p)).1 with seq:=(n.seq+1)%65536 } from { hq with seq:=by show 0≤(n.seq+1)%65536∧(n.seq+1)%65536≤65535;omega }) e
   exact ⟨g1,g2.trans ht.1,g3.trans ht.2⟩
  ·cases e
structure Good (n m:Nd):Prop where
 ord:Ord m
 addr:m.addr=n.addr
 kept:Kept n.table m.table
theorem Good.refl {n:Nd} (h:Ord n):Good n n:=⟨h,rfl,Kept.refl _⟩
theorem Good.trans {a b c:Nd} (h:Good a b) (h':Good b c):Good a c:=⟨h'.ord,h'.addr.trans h.addr,h.kept.trans h'.kept⟩
theorem Good.of_eq {n m:Nd} (h:Ord m) (h1:m.table=n.table) (h2:m.addr=n.addr):Good n m:=⟨h,h2,by rw[h1];exact Kept.refl _⟩
theorem Good.lose {n m:Nd} (h:Good n m):Good n (lose m):=⟨h.ord.lose,h.addr,h.kept⟩
theorem Good.queue {n m:Nd} (h:Good n m) (f:Fr):Good n (queue m f).1:=h.trans (.of_eq (h.ord.queue f) (kN m f).1 (kN m f).2)
theorem Good.box {n m:Nd} (h:Good n m) (f:Fr) (now:Int):Good n (box m f now):=h.trans (.of_eq (h.ord.box f now) (jGC m f now).1 (jGC m f now).2)
theorem Good.deliver {n m:Nd} (h:Good n m) (d:De):Good n (deliver m d):=h.trans (.of_eq (h.ord.deliver d) (jAz m d).1 (jAz m d).2)
theorem Good.out {n m:Nd} (h:Good n m) {q:List Sn} (hq:q.length≤16):Good n { m with out:=q }:=⟨h.ord.jAb hq,h.addr,h.kept⟩
theorem jLJ {n:Nd} {target:Int} {ur:Bool} {text:By} (h:(send n target ur text).2=0):Good (order n) (send n target ur text).1:=by
 have ho:=Ji n
 unfold send at h ⊢
 simp only at h ⊢
 split at h
 ·cases h
 ·rename_i h1
  rw[if_neg h1]
  split at h
  ·rename_i h2;exact absurd h h2
  ·rename_i h2
   rw[if_neg h2]
   split at h
   ·rename_i h3
    rw[if_pos h3]
    exact (Good.refl ho).deliver _
   ·rename_i h3
    rw[if_neg h3]
    split at h
    ·rename_i m hm
     obtain ⟨g1,g2,g3⟩:=jE2 ho hm
     exact .of_eq g1 g2 g3
    ·cases h
theorem jAk (q:List Sn) (i:Nat) (ok:Bool):(KM q i ok).1.length≤16:=by
 have h16:(q.take 16).length≤16:=by simp;omega
 have he:((q.take 16).eraseIdx i).length≤16:=Nat.le_trans (List.length_eraseIdx_le _ _) h16
 unfold KM
 split
 ·exact h16
 ·split
  ·exact he
  ·split
   ·exact he
   ·show ((q.take 16).set i _).length≤16
    rw[List.length_set];exact h16
theorem jBL {n:Nd} (now:Int):∀(l:List Fr) {m:Nd},Good n m→Good n (l.foldl (fun n f=>box n f now) m)
 |[],_,h=>h
 |f::l,_,h=>jBL now l (h.box f now)
theorem Zh {n m:Nd} (h:Good n m):Good n (bumped m):=by
 obtain ⟨g1,g2⟩:=jLc h.ord.table
 exact ⟨h.ord.setTable g1,h.addr,h.kept.trans g2⟩
theorem jCo {n m:Nd} (h:Good n m):Good n (ZQ m):=by
 unfold ZQ;split
 ·exact (Zh h).queue _
 ·exact Zh h
theorem jLs {n m:Nd} (h:Good n m):Good n (poll m):=by
 unfold poll;split
 ·exact (Zh h).queue _
 ·exact Zh h
theorem jCq {n m:Nd} (h:Good n m) (now:Int):Good n (asleep m now):=by
 unfold asleep
 exact jBL now _ (h.out (Nat.le_trans (List.length_filter_le _ _) h.ord.out))
theorem jFZ (q:List Sn):(jAA q).length≤16:=by unfold jAA;simp;omega
theorem jK0 (n:Nd) (now:Int):Good (order n) (kE n now):=by
 have ho:=Ji n
 have h1:Good (order n) (asleep { order n with out:=jAA (order n).out,boxes:=jCv (order n).boxes (tick now) 120,parts:=jEH (order n).parts (tick now) 120 } (tick now)):=
  jCq (n:=order n) ⟨((ho.jAb (jFZ (order n).out)).kK (jEj (order n).boxes (tick now) 120)).jBk (jEH (order n).parts (tick now) 120),rfl,Kept.refl (order n).table⟩ (tick now)
 unfold kE
 simp only
 generalize asleep { order n with out:=jAA (order n).out,boxes:=jCv (order n).boxes (tick now) 120,parts:=jEH (order n).parts (tick now) 120 } (tick now)=a at h1 ⊢
 have h2:Good (order n) (if a.poll=0∧tick now%8=a.addr%8 then ZQ a else a):=by
  split
  ·exact jCo h1
  ·exact h1
 generalize (if a.poll=0∧tick now%8=a.addr%8 then ZQ a else a)=b at h2 ⊢
 split
 ·exact jLs h2
 ·exact h2
theorem Zw {n:Nd} {now:Int}:∀(k:Nat) {m:Nd} {i:Nat},Good n m→Good n (zx now k m i).1
 |0,m,i,h=>h
 |k+1,m,i,h=>by
  unfold zx
  split
  ·exact h
  ·split
   ·exact Zw k h
   ·split
    ·exact h
    ·split
     ·exact Zw k ((h.out (Nat.le_trans (List.length_eraseIdx_le _ _) h.ord.out)).box _ _)
     ·split
      ·exact h
      ·split
       ·exact Zw k (h.out (jAk _ _ _)).lose
       ·exact Zw k (h.out (jAk _ _ _))
theorem jK2 (n:Nd) (now:Int):Good (order n) (talk n now).1:=Zw _ (Good.refl (Ji n))
theorem jK4 (n:Nd):Good (order n) (take n).1:=⟨{ Ji n with inbox:=Nat.zero_le _ },rfl,Kept.refl _⟩
theorem jHN {n m:Nd} (h:Good n m) (to:Int):Good n (giveUp m to):=by
 unfold giveUp;split
 ·exact h.lose
 ·obtain ⟨g1,g2⟩:=jNy (next:=to) h.ord.table
  have hl:=h.ord.lose
  refine ⟨{ hl with table:=g1,links:=jKG _ _,kids:=h.ord.kids.filter _,kid:=fun x hx=>h.ord.kid x (List.mem_filter.1 hx).1,parent:=?_ },h.addr,h.kept.trans g2⟩
  show (if m.parent=to then (255:Int)else m.parent)=255∨(okN (if m.parent=to then (255:Int)else m.parent)=true∧(if m.parent=to then (255:Int)else m.parent)≠m.addr)
  split
  ·exact .inl I
  ·exact h.ord.parent
theorem jGp (n:Nd) (f:Fr) (ok:Bool):Good (order n) (result n f ok):=by
 have ho:=Good.refl (Ji n)
 unfold result
 simp only
 split
 ·exact ho
 ·rename_i i hi
  have k1:∀a,Good (order n) a→Good (order n) (if okN f.dst=true then { a with links:=ZW a.links f.dst ok } else a):=by
   intro a h1
   split
   ·exact ⟨h1.ord.jD3 (jBu _ _ _),h1.addr,h1.kept⟩
   ·exact h1
  have h2:=k1 { order n with out:=(KM (order n).out i ok).1 } (ho.out (jAk _ _ _))
  split
  ·exact jHN h2 _
  ·exact h2
theorem jCt {n m:Nd} {f:Fr} (h:Good n m) (hf:okN f.fr=true) (hne:f.fr≠m.addr):Good n (Jh m f):=by
 unfold Jh
 simp only
 have k1:∀a:Nd,Good n a→a.addr=m.addr→Good n (if a.poll>0∧a.parent=255∧(KF (jBg f.da).1 0).2=true then { a with parent:=f.fr } else a):=by
  intro a h2 e2
  split
  ·exact ⟨{ h2.ord with parent:= .inr ⟨hf,fun e=>hne (e.trans e2)⟩ },h2.addr,h2.kept⟩
  ·exact h2
 have k2:∀a:Nd,Good n a→a.addr=m.addr→Good n { a with table:=jGe a.table a.addr f.fr (jEX a.links f.fr) (jBg f.da).1 }:=by
  intro a h1 e1
  obtain ⟨g1,g2⟩:=jD6 (fr:=f.fr) (cost:=jEX a.links f.fr) (adv:=(jBg f.da).1) h1.ord.table
  exact ⟨h1.ord.setTable g1,h1.addr,h1.kept.trans g2⟩
 have h1:Good n { m with links:=ZW m.links f.fr true }:=⟨h.ord.jD3 (jBu _ _ _),h.addr,h.kept⟩
 split
 ·exact h1
 ·exact k1 _ (k2 _ h1 I) I
theorem jDp {n:Nd} {fr now:Int}:∀(k:Nat) {m:Nd},Good n m→Good n (drain fr now k m)
 |0,_,h=>h
 |k+1,m,h=>by
  unfold drain
  simp only
  have hb:=(jF7 m.boxes fr now 120).1
  split
  ·exact jDp k (Good.queue (m:={ m with boxes:=(ZY m.boxes fr now 120).2.1 }) ⟨h.ord.kK hb,h.addr,h.kept⟩ _)
  ·exact ⟨h.ord.kK hb,h.addr,h.kept⟩
theorem jG1 {n m:Nd} {f:Fr} {now:Int} (h:Good n m) (hf:okN f.fr=true) (hne:f.fr≠m.addr):Good n (polled m f now):=by
 unfold polled
 refine jDp _ ?_
 obtain ⟨g1,g2⟩:=jD6 (fr:=f.fr) (cost:=10) (adv:=[⟨f.fr,f.sq,0,0⟩]) h.ord.table
 obtain ⟨c1,c2⟩:=Kn h.ord.kids f.fr
 refine ⟨{ h.ord with table:=g1,kids:=c1,kid:=fun x hx=>?_ },h.addr,h.kept.trans g2⟩
 rcases (c2 x).1 hx with rfl|hx
 ·exact ⟨hf,hne⟩
 ·exact h.ord.kid x hx
theorem jDX (l:List Pr) (p:Pr):(KG l p).1.length≤32:=by
 unfold KG;split<;>exact jEZ _ _
theorem jED {n m:Nd} {f:Fr} {now:Int} (h:Good n m):Good n (received m f now):=by
 unfold received
 simp only
 have h1:Good n { m with seen:=(KG m.seen ⟨f.so,f.sq⟩).1 }:=⟨{ h.ord with seen:=jDX _ _ },h.addr,h.kept⟩
 have hp:∀q,Good n { m with seen:=(KG m.seen ⟨f.so,f.sq⟩).1,parts:=q }:=fun q=>⟨h1.ord.jBk q,h1.addr,h1.kept⟩
 split
 ·exact h1
 ·split
  ·split
   ·exact h1
   ·split
    ·exact (hp _).deliver _
    ·exact hp _
  ·split
   ·exact h1.lose
   ·exact h1.queue _
theorem jHQ {f:Fr} (h:jC3 f=0):okN f.fr=true∧okN f.so=true∧0≤f.sq∧f.sq≤65535∧0≤f.hp∧f.hp≤15∧f.da.length≤109:=by
 unfold jC3 at h
 split at h
 ·cases h
 ·split at h
  ·cases h
  ·rename_i h2
   split at h
   ·cases h
   ·rename_i h3
    have h2:jBa f=false:=by cases e:jBa f;rfl;exact absurd e h2
    unfold jBa at h2
    simp only[Bool.or_eq_false_iff,Bool.not_eq_false',decide_eq_false_iff_not]at h2
    obtain ⟨⟨⟨⟨⟨⟨⟨a,b⟩,c⟩,d⟩,e⟩,g⟩,i⟩,j⟩:=h2
    exact ⟨a,b,by omega,by omega,by omega,by omega,by omega⟩
theorem jMw (n:Nd) (now:Int) (f:Fr):Good (order n) (hear n now f):=by
 have ho:=Good.refl (Ji n)
 unfold hear
 simp only
 split
 ·exact ho
 ·rename_i h1
  have hc:jC3 f=0:=by
   rcases Int.lt_trichotomy (jC3 f) 0 with h|h|h
   ·exact absurd (Or.inl (by omega)) h1
   ·exact h
   ·exact absurd (Or.inl (by omega)) h1
  have hf:=(jHQ hc).1
  have hne:f.fr≠(order n).addr:=fun e=>h1 (.inr (.inl e))
  split
  ·exact jCt ho hf hne
  ·split
   ·exact jG1 ho hf hne
   ·split
    ·exact jED ho
    ·exact ho
end Nd
namespace Nd
open Go.GX Tp
def data (s:By) (i:Nat):By:=(s.drop (64*i)).take 64
theorem jJP (s:By) (i:Nat):(data s i).length=min 64 (s.length-64*i):=by unfold data;simp
end Nd
namespace Go.Proofs.YtgfdoognildoeaaGreat
open Go.GX Go.RowKit
attribute [local irreducible] Calls Run jg jh JU HR HL HD jU jK Jc Rd jL jd
open Nd
theorem jSS:IsFn Tryz.prog 294:=⟨⟨_,_,Tryz.func294,rfl,by decide⟩⟩
theorem fn275:IsFn Tryz.prog 275:=⟨⟨_,_,Tryz.func275,rfl,by decide⟩⟩
theorem fn117:IsFn Tryz.prog 117:=⟨⟨_,_,Tryz.func117,rfl,by decide⟩⟩
theorem fn121:IsFn Tryz.prog 121:=⟨⟨_,_,Tryz.func121,rfl,by decide⟩⟩
theorem jFz (i c n:Int) (w:World) (hc:-1000000≤c∧c≤1000000):Calls Tryz.prog 294 #[.int .i64 i,.int .i64 c,.int .i64 n] w fun e w'=>e= .returned (.bool (fits i c n))∧Below w.heap.size w w':=by
 unfold Nd.fits
 refine jB Tryz.func294 I (Nat.le_of_ble_eq_true I) ?_
 refine HR.sub (σ':=[(0,.int .i64 i),(1,.int .i64 c),(2,.int .i64 n)]) ⟨I,I,I,trivial⟩ ?_
 repeat' (first|refine zh ?_|intro (bk:Nat))
 refine HR.cond I (fun h=>?_) (fun h=>?_)
 ·have h:i≠c-1:=by have h:(i != c-1)=true:=h;simpa using h
  rw[if_pos h]
  repeat' (first|refine zh ?_|intro (bk:Nat))
  refine HR.ret Tryz.func294 I [_] (fun _ _=>⟨I,trivial⟩) ?_
  exact fun w' hw=>⟨rfl,hw.jE⟩
 have h:¬i≠c-1:=by have h:(i != c-1)=false:=h;simpa using h
 rw[if_neg h]
 repeat' (first|refine zh ?_|intro (bk:Nat))
 refine HR.cond I (fun h=>?_) (fun h=>?_)
 ·have h:c=1:=eq_of_beq h
  rw[if_pos h]
  repeat' (first|refine zh ?_|intro (bk:Nat))
  refine HR.ret Tryz.func294 I [_] (fun _ _=>⟨I,trivial⟩) ?_
  exact fun w' hw=>⟨rfl,hw.jE⟩
 have h:¬c=1:=by have h:(c==1)=false:=h;simpa using h
 rw[if_neg h]
 repeat' (first|refine zh ?_|intro (bk:Nat))
 refine HR.cond I (fun h=>?_) (fun h=>?_)
 ·have h:c=16:=eq_of_beq h
  rw[if_pos h]
  repeat' (first|refine zh ?_|apply zb ?_ ?_|exact zc|(refine zi fun hb=>?_;try simp at hb)|intro (bk:Nat))
  refine HR.ret Tryz.func294 I [_] (fun _ _=>⟨I,trivial⟩) ?_
  exact fun w' hw=>⟨rfl,hw.jE⟩
 have h:¬c=16:=by have h:(c==16)=false:=h;simpa using h
 rw[if_neg h]
 repeat' (first|refine zh ?_|apply zb ?_ ?_|exact zc|(refine zi fun hb=>?_;try simp at hb)|intro (bk:Nat))
 refine HR.ret Tryz.func294 I [_] (fun _ _=>⟨I,trivial⟩) ?_
 exact fun w' hw=>⟨rfl,hw.jE⟩
theorem jQh {s:By} {x1 x2:Int} (h:¬s.length<3) (h1:x1=b8 s 1) (h2:x2=b8 s 2):jGM s=if (((decide (x2<1)||decide (x2>16))||decide (x1≥x2))||!fits x1 x2 ((s.length:Int)-3))=true then 4 else 0:=by
 subst h1;subst h2
 unfold jGM
 rw[if_neg h]
 congr 1
 simp[Bool.or_assoc,or_assoc]
theorem jHR (s:By) (w:World) (hs:s.length≤9223372036854775807):Calls Tryz.prog 275 #[str s] w fun e w'=>e= .returned (.int .i64 (jGM s))∧Below w.heap.size w w':=by
 refine jB Tryz.func275 I (Nat.le_of_ble_eq_true I) ?_
 refine HR.sub (σ':=[(0,str s)]) ⟨I,trivial⟩ ?_
 repeat' (first|refine zh ?_|intro (bk:Nat))
 refine HR.cond I (fun h=>?_) (fun h=>?_)
 ·have h:s.length<3:=by have:=of_decide_eq_true h;omega
  rw[show jGM s=5 from if_pos h]
  repeat' (first|refine zh ?_|intro (bk:Nat))
  refine HR.ret Tryz.func275 I [_] (fun _ _=>⟨I,trivial⟩) ?_
  exact fun w' hw=>⟨rfl,hw.jE⟩
 have h:¬s.length<3:=by have:=of_decide_eq_false h;omega
 have b1:=(s.getD 1 0).toNat_lt
 have b2:=(s.getD 2 0).toNat_lt
 obtain ⟨x1,h1⟩:∃x1:Int,x1=b8 s 1:=⟨_,rfl⟩
 obtain ⟨x2,h2⟩:∃x2:Int,x2=b8 s 2:=⟨_,rfl⟩
 rw[jQh h h1 h2]
 repeat' (first|refine zh ?_|intro (bk:Nat))
 refine HR.jo JZ (by kernel_rfl) ?_
 repeat' (first|refine zq ?_|fail)
 refine HR.ZB 3 (v':= .int .i64 x1) I (by rw[h1];rfl) ?_
 refine HR.ZB 4 (v':= .int .i64 x2) I (by rw[h2];rfl) ?_
 have b1:0≤x1∧x1≤255:=by rw[h1];unfold b8;omega
 have b2:0≤x2∧x2≤255:=by rw[h2];unfold b8;omega
 repeat' (first|refine zh ?_|refine HL.jN jSS I I (fun w _=>jFz _ _ _ w (by omega)) ?_|apply zb ?_ ?_|exact zc|(refine zi fun hb=>?_;try simp at hb)|intro (bk:Nat))
 refine HR.cond I (fun h2=>?_) (fun h2=>?_)
 ·rw [if_pos h2]
  repeat' (first|refine zh ?_|intro (bk:Nat))
  refine HR.ret Tryz.func275 I [_] (fun _ _=>⟨I,trivial⟩) ?_
  exact fun w' hw=>⟨rfl,hw.jE⟩
 ·have h2:(((decide (x2<1)||decide (x2>16))||decide (x1≥x2))||!fits x1 x2 ((s.length:Int)-3))=false:=h2
  rw[if_neg (by rw[h2];decide)]
  repeat' (first|refine zh ?_|intro (bk:Nat))
  refine HR.ret Tryz.func275 I [_] (fun _ _=>⟨I,trivial⟩) ?_
  exact fun w' hw=>⟨rfl,hw.jE⟩
theorem jCJ {s:By} {id:Int} (h:s.length>1000):ze s id=([],3):=if_pos h
theorem jDQ {s:By} {id:Int} (h:¬s.length>1000) (h2:id<0∨id>255):ze s id=([],2):=by unfold ze;rw[if_neg h,if_pos h2]
theorem jFP {s:By} {id:Int} (h:¬s.length>1000) (h2:¬(id<0∨id>255)):ze s id=((List.range (jAj s.length)).map (piece s id),0):=by unfold ze;rw[if_neg h,if_neg h2]
theorem jCP (s:By) (id:Int) (k:Nat):(List.range (k+1)).map (piece s id)=(List.range k).map (piece s id)++[piece s id k]:=by rw[List.range_succ,List.map_append];rfl
theorem jDU {id:Int} {k c:Nat} (h1:0≤id∧id≤255) (h2:k≤255) (h3:c≤255):ZA [u8 id,u8 k,u8 c]=[.int .u8 id,.int .u8 (k:Int),.int .u8 (c:Int)]:=by
 unfold ZA
 simp only[List.map_cons,List.map_nil]
 rw[jDA h1,jDA (n:=k) (by omega),jDA (n:=c) (by omega)]
theorem jJQ (s:By) (k:Nat):(s.drop (k*64)).take (min s.length (64*(k+1))-k*64)=data s k:=by
 unfold data
 have:∀m:Nat,(s.drop (k*64)).take (min s.length m-k*64)=(s.drop (k*64)).take (m-k*64):=by
  intro m
  rcases Nat.le_total s.length m with h|h
  ·rw [Nat.min_eq_left h,List.take_of_length_le (by simp),List.take_of_length_le (by simp;omega)]
  ·rw [Nat.min_eq_right h]
 rw[this,Nat.mul_comm k 64]
 congr 1
 omega
theorem jKR (s:By) (id:Int) (w:World) (hs:s.length≤9223372036854775807):
  Calls Tryz.prog 117 #[str s,.int .i64 id] w fun e w'=>∃v',e= .returned (.tuple ⟨[v',.int .i64 (ze s id).2]⟩)∧True∧Sat (base w) [jK v' 9 1 (ze s id).1.length (cellsOf sC (ze s id).1)] w':=by
 refine jB Tryz.func117 I (Nat.le_of_ble_eq_true I) ?_
 refine HR.sub (σ':=[(0,str s),(1,.int .i64 id)]) ⟨I,I,trivial⟩ ?_
 repeat' (first|refine zh ?_|intro (bk:Nat))
 refine HR.cond I (fun h=>?_) (fun h=>?_)
 ·have h:s.length>1000:=by have:=of_decide_eq_true h;omega
  rw[jCJ h]
  repeat' (first|refine zh ?_|intro (bk:Nat))
  refine HR.zY 9 1 ?_
  refine HR.ret Tryz.func117 I [_,_] (fun _ _=>⟨I,I,trivial⟩) ?_
  exact fun w' hw=>⟨_,rfl,trivial,hw⟩
 have h:¬s.length>1000:=by have:=of_decide_eq_false h;omega
 repeat' (first|refine zh ?_|apply zb ?_ ?_|exact zc|(refine zi fun hb=>?_;try simp at hb)|intro (bk:Nat))
 refine HR.cond I (fun h2=>?_) (fun h2=>?_)
 ·have h2:(decide (id<0)||decide (id>255))=true:=h2
  rw[jDQ h (by simpa using h2)]
  repeat' (first|refine zh ?_|intro (bk:Nat))
  refine HR.zY 9 1 ?_
  refine HR.ret Tryz.func117 I [_,_] (fun _ _=>⟨I,I,trivial⟩) ?_
  exact fun w' hw=>⟨_,rfl,trivial,hw⟩
 have h2:(decide (id<0)||decide (id>255))=false:=h2
 have h2:¬(id<0∨id>255):=by simpa using h2
 rw[jFP h h2]
 have hpd:jAj s.length=max 1 ((s.length+63) / 64):=rfl
 obtain ⟨c,hc⟩:∃c,c=jAj s.length:=⟨_,rfl⟩
 rw[← hc]at hpd ⊢
 repeat' (first|refine zh ?_|intro (bk:Nat))
 refine HR.ZB 6 (v':= .int .i64 (c:Int)) I (by congr 1;split<;>omega) ?_
 refine HR.ZB 25 (v':= .int .i64 (c:Int)) I (by congr 1;split<;>omega) ?_
 refine HR.zY 9 1 ?_
 refine HR.Kc (α:=Nat) (β:=Value) (fun k _=>k≤c) (fun k o=>[(0,str s),(1,.int .i64 id),(6,.int .i64 (c:Int)),(7,o),(25,.int .i64 (c:Int)),(26,.int .i64 (k:Int))]) (fun k o=>[jK o 9 1 ((List.range k).map (piece s id)).length (cellsOf sC ((List.range k).map (piece s id)))]) (fun k _=>c-k) 0 (.slice none 0 0) (Nat.zero_le _) ⟨I,I,I,I,I,I,trivial⟩ (Ent.pick [0] I I) ?_
 rintro k o hk ih
 repeat' (first|refine zh ?_|intro (bk:Nat))
 refine HR.cond I (fun h3=>?_) (fun h3=>?_)
 ·have hlt:k<c:=by have:=of_decide_eq_true h3;omega
  have hps:=jCP s id k
  obtain ⟨L,hL⟩:∃L,L=(List.range k).map (piece s id):=⟨_,rfl⟩
  have hLl:L.length≤16:=by rw[hL];simp;omega
  rw[← hL]at hps ⊢
  repeat' (first|refine zh ?_|intro (bk:Nat))
  refine HL.ZB 37 (v':= .int .i64 ((min s.length (64*(k+1)):Nat):Int)) I (by congr 1;split<;>omega) ?_
  repeat' (first|refine zh ?_|intro (bk:Nat))
  refine HL.ZB 9 (v':=str (data s k)) I (by rw[← jJQ];try rfl) ?_
  refine HL.jk jJN I I I I I (by decide) (by decide) ?_
  intro va
  refine HL.ent (H':=[jK va 5 1 [u8 id,u8 k,u8 c].length (ZA [u8 id,u8 k,u8 c]),jK o 9 1 L.length (cellsOf sC L)]) (Ent.JM I (by rw[jDU (by omega) (by omega) (by omega)];try rfl)) ?_
  refine HL.bstr (Rd.own 0 I) I I I I I ?_
  have hpk:[u8 id,u8 k,u8 c]++data s k=piece s id k:=by unfold piece data;rw[hc]
  have hdl:(data s k).length≤64:=by rw[jJP];omega
  repeat' (first|refine zn ?_|intro (bk:Nat))
  refine HL.jCx (v':=str (piece s id k)) (by rw[← hpk];try rfl) ?_
  refine HL.jk Zr I I I I I (by decide) (by decide) ?_
  intro vb
  refine HL.zD 2 I Zr (Rd.own 0 I) I I I I (jJ I) (by omega) (by omega) ?_
  intro o2
  repeat' (first|refine zh ?_|intro (bk:Nat))
  refine ih (k+1) o2 _ _ hlt (by omega) ⟨I,I,I,I,I,I,trivial⟩ (Ent.trans (Ent.pick [2] I I) (Ent.JM ?_ ?_))
  ·rw [hps];simp
  ·rw [hps,jM];rfl
 ·have hke:k=c:=by have:=of_decide_eq_false h3;omega
  subst hke
  repeat' (first|refine zh ?_|intro (bk:Nat))
  refine HR.ret Tryz.func117 I [_,_] (fun _ _=>⟨I,I,trivial⟩) ?_
  exact fun w' hw=>⟨o,rfl,trivial,hw⟩
theorem jFJ (s:By) (id:Int) (w:World) (hs:s.length≤9223372036854775807):
  Calls Tryz.prog 121 #[str s,.int .i64 id] w fun e w'=>∃v',e= .returned (.tuple ⟨[v',.int .i64 (ze s id).2]⟩)∧True∧Sat (base w) [jK v' 9 1 (ze s id).1.length (cellsOf sC (ze s id).1)] w':=by
 refine jB Tryz.func121 I (Nat.le_of_ble_eq_true I) ?_
 refine HR.sub (σ':=[(0,str s),(1,.int .i64 id)]) ⟨I,I,trivial⟩ ?_
 repeat' (first|refine zh ?_|intro (bk:Nat))
 refine HR.cond I (fun h=>?_) (fun h=>?_)
 ·have h:s.length>1000:=by have:=of_decide_eq_true h;omega
  rw[jCJ h]
  repeat' (first|refine zh ?_|intro (bk:Nat))
  refine HR.zY 9 1 ?_
  refine HR.ret Tryz.func121 I [_,_] (fun _ _=>⟨I,I,trivial⟩) ?_
  exact fun w' hw=>⟨_,rfl,trivial,hw⟩
 have h:¬s.length>1000:=by have:=of_decide_eq_false h;omega
 repeat' (first|refine zh ?_|apply zb ?_ ?_|exact zc|(refine zi fun hb=>?_;try simp at hb)|intro (bk:Nat))
 refine HR.cond I (fun h2=>?_) (fun h2=>?_)
 ·have h2:(decide (id<0)||decide (id>255))=true:=h2
  rw[jDQ h (by simpa using h2)]
  repeat' (first|refine zh ?_|intro (bk:Nat))
  refine HR.zY 9 1 ?_
  refine HR.ret Tryz.func121 I [_,_] (fun _ _=>⟨I,I,trivial⟩) ?_
  exact fun w' hw=>⟨_,rfl,trivial,hw⟩
 have h2:(decide (id<0)||decide (id>255))=false:=h2
 have h2:¬(id<0∨id>255):=by simpa using h2
 rw[jFP h h2]
 have hpd:jAj s.length=max 1 ((s.length+63) / 64):=rfl
 obtain ⟨c,hc⟩:∃c,c=jAj s.length:=⟨_,rfl⟩
 rw[← hc]at hpd ⊢
 repeat' (first|refine zh ?_|intro (bk:Nat))
 refine HR.join (ι:=Unit) (fun _=>True) (fun _=>[(0,str s),(1,.int .i64 id),(6,.int .i64 (c:Int))]) (fun _=>[]) (fun _ _=>?_) (fun hj=>?_)
 ·repeat' (first|refine zh ?_|intro (bk:Nat))
  refine HR.zY 9 1 ?_
  refine HR.Kc (α:=Nat) (β:=Value) (fun k _=>k≤c) (fun k o=>[(0,str s),(1,.int .i64 id),(6,.int .i64 (c:Int)),(7,o),(8,.int .i64 (k:Int))]) (fun k o=>[jK o 9 1 ((List.range k).map (piece s id)).length (cellsOf sC ((List.range k).map (piece s id)))]) (fun k _=>c-k) 0 (.slice none 0 0) (Nat.zero_le _) ⟨I,I,I,I,I,trivial⟩ (Ent.pick [0] I I) ?_
  rintro k o hk ih
  repeat' (first|refine zh ?_|intro (bk:Nat))
  refine HR.cond I (fun h3=>?_) (fun h3=>?_)
  ·have hlt:k<c:=by have:=of_decide_eq_true h3;omega
   have hps:=jCP s id k
   obtain ⟨L,hL⟩:∃L,L=(List.range k).map (piece s id):=⟨_,rfl⟩
   have hLl:L.length≤16:=by rw[hL];simp;omega
   rw[← hL]at hps ⊢
   repeat' (first|refine zh ?_|intro (bk:Nat))
   refine HR.join (ι:=Unit) (fun _=>True) (fun _=>[(0,str s),(1,.int .i64 id),(6,.int .i64 (c:Int)),(7,o),(8,.int .i64 (k:Int)),(9,.int .i64 ((min s.length (64*(k+1)):Nat):Int))]) (fun _=>[jK o 9 1 L.length (cellsOf sC L)]) (fun _ _=>?_) (fun hj2=>?_)
   ·have hpk:[u8 id,u8 k,u8 c]++data s k=piece s id k:=by unfold piece data;rw[hc]
    have hdl:(data s k).length≤64:=by rw[jJP];omega
    refine HR.j3 [(0,true),(1,true),(2,true),(3,true),(4,true),(5,true),(6,true),(9,true),(10,true),(11,true),(12,true),(13,true),(7,false),(8,false),(14,true),(15,false),(16,false),(17,true)] [] I I JZ (by kernel_rfl) ?_
    repeat' (first|refine zd ?_|fail)
    refine HD.ZB 53 (v':=str (data s k)) I (by rw[← jJQ];try rfl) ?_
    refine HD.one I ?_
    refine HL.jk jJN I I I I I (by decide) (by decide) ?_
    intro va
    refine HL.ent (H':=[jK va 5 1 [u8 id,u8 k,u8 c].length (ZA [u8 id,u8 k,u8 c]),jK o 9 1 L.length (cellsOf sC L)]) (Ent.JM I (by rw[jDU ⟨by omega,by omega⟩ (by omega) (by omega)];try rfl)) ?_
    refine HL.back [] I I ?_
    refine HD.one I ?_
    refine HL.bstr (Rd.own 0 I) I I I I I ?_
    refine HL.back [] I I ?_
    refine HD.evc I I I (by simp;omega) ?_
    refine HD.ZB 54 (v':=str (piece s id k)) I (by rw[← hpk];try rfl) ?_
    refine HD.one I ?_
    refine HL.jk Zr I I I I I (by decide) (by decide) ?_
    intro vb
    refine HL.back [] I I ?_
    refine HD.one I ?_
    refine HL.zD 2 I Zr (Rd.own 0 I) I I I I (jJ I) (by omega) (by omega) ?_
    intro o2
    refine HL.back [] I I ?_
    repeat' (first|refine zd ?_|fail)
    refine HD.nil ?_
    repeat' (first|refine zh ?_|intro (bk:Nat))
    refine ih (k+1) o2 _ _ hlt (by omega) ⟨I,I,I,I,I,trivial⟩ (Ent.trans (Ent.pick [2] I I) (Ent.JM ?_ ?_))
    ·rw [hps];simp
    ·rw [hps,jM];rfl
   ·refine HR.cond I (fun h4=>?_) (fun h4=>?_)
    ·have h4:((k:Int)+1)*64>(s.length:Int):=of_decide_eq_true h4
     refine HR.region ?_
     repeat' (first|refine zn ?_|apply zb ?_ ?_|exact zc|(refine zi fun hb=>?_;try simp at hb)|intro (bk:Nat))
     exact hj2 () _ _ trivial ⟨rfl,rfl,rfl,rfl,rfl,by show some (Value.int IntKind.i64 _)=some _;congr 2;omega,trivial⟩ Ent.refl
    ·have h4:¬((k:Int)+1)*64>(s.length:Int):=of_decide_eq_false h4
     refine HR.skip ?_
     exact hj2 () _ _ trivial ⟨rfl,rfl,rfl,rfl,rfl,by show some (Value.int IntKind.i64 _)=some _;congr 2;omega,trivial⟩ Ent.refl
  ·have hke:k=c:=by have:=of_decide_eq_false h3;omega
   subst hke
   repeat' (first|refine zh ?_|intro (bk:Nat))
   refine HR.ret Tryz.func121 I [_,_] (fun _ _=>⟨I,I,trivial⟩) ?_
   exact fun w' hw=>⟨o,rfl,trivial,hw⟩
 ·refine HR.cond I (fun h3=>?_) (fun h3=>?_)
  ·refine HR.region ?_
   repeat' (first|refine zn ?_|apply zb ?_ ?_|exact zc|(refine zi fun hb=>?_;try simp at hb)|intro (bk:Nat))
   exact hj () _ _ trivial ⟨rfl,rfl,by show some _=some _;have h3:(((s.length:Int)+64-1) / 64==0)=true:=h3;simp at h3;congr 2;omega,trivial⟩ Ent.refl
  ·refine HR.skip ?_
   exact hj () _ _ trivial ⟨rfl,rfl,by show some (Value.int IntKind.i64 _)=some _;have h3:(((s.length:Int)+64-1) / 64==0)=false:=h3;simp at h3;congr 2;omega,trivial⟩ Ent.refl
end Go.Proofs.YtgfdoognildoeaaGreat
