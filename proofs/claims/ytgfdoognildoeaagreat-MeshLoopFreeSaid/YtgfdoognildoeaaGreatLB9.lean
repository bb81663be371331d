/- A part of the proof: contracts of the program's functions. Conditions: none. -/
import Derived.Carry
import Derived.Deep.MidRow
import Derived.Deep.Quiet
import Derived.Laws.IdiomRangeMap
import Derived.Laws.MakeOwn
import Derived.Laws.StructEq
import Derived.Laws.Tables
import Derived.Lib.AppendStr
import Derived.Lib.AppendZerosOnto
import Derived.Lib.OthersKept
import Derived.Lib.Overlaps
import Derived.Lib.OwnBridge
import Derived.Lib.SlicesCompact
import Derived.MapKept
import Derived.Orders
import Derived.OrdersHeld
import Derived.Scope
import Derived.Sort.Grow
import Derived.StillTail
import Derived.Test.YtgfdoognildoeaaGreatProg
import Derived.Test.YtgfdoognildoeaaGreatShelf
import Derived.WalkKit
import Derived.WalkLawsBesides
import Derived.WalkSpells
import Derived.Test.YtgfdoognildoeaaGreatLB1
import Derived.Test.YtgfdoognildoeaaGreatLB2
import Derived.Test.YtgfdoognildoeaaGreatLB3
import Derived.Test.YtgfdoognildoeaaGreatLB4
import Derived.Test.YtgfdoognildoeaaGreatLB5
import Derived.Test.YtgfdoognildoeaaGreatLB6
import Derived.Test.YtgfdoognildoeaaGreatLB7
import Derived.Test.YtgfdoognildoeaaGreatLB8
set_option linter.unusedVariables false
set_option linter.unusedSectionVars false
set_option linter.unusedSimpArgs false
set_option maxRecDepth 100000
set_option maxHeartbeats 4000000
namespace Go.Proofs.YtgfdoognildoeaaGreat
open Go.GX Go.RowKit
attribute [local irreducible] Calls Run jZ jf JK HR HL HD jT jG JY Rd jK jY
open Nd
theorem jRx:IsFn Tryz.prog 132:=⟨⟨_,_,Tryz.func132,rfl,by decide⟩⟩
theorem jQQ:IsFn Tryz.prog 167:=⟨⟨_,_,Tryz.func167,rfl,by decide⟩⟩
theorem jQP:IsFn Tryz.prog 168:=⟨⟨_,_,Tryz.func168,rfl,by decide⟩⟩
theorem fn92:IsFn Tryz.prog 92:=⟨⟨_,_,Tryz.func92,rfl,by decide⟩⟩
theorem fn170:IsFn Tryz.prog 170:=⟨⟨_,_,Tryz.func170,rfl,by decide⟩⟩
theorem fn271:IsFn Tryz.prog 271:=⟨⟨_,_,Tryz.func271,rfl,by decide⟩⟩
theorem fn218:IsFn Tryz.prog 218:=⟨⟨_,_,Tryz.func218,rfl,by decide⟩⟩
theorem jJb {l:List Li} {k:Nat} {x:Li} (hx:l[k]? =some x) (h:ze x=true):jHV l k=2:=by unfold jHV;rw[hx];simp only;rw[if_pos h]
theorem jJc {l:List Li} {k:Nat} {x y:Li} (hx:l[k]? =some x) (h:ze x=false) (h0:0<k) (hy:l[k-1]? =some y) (hle:x.nd≤y.nd):jHV l k=14:=by
 unfold jHV;rw[hx];simp only;rw[if_neg (by rw[h];decide),if_pos ⟨h0,by rw[hy];exact decide_eq_true hle⟩]
theorem jP6 {l:List Li} {k:Nat} {x:Li} (hx:l[k]? =some x) (h:ze x=false) (h2:∀y,0<k→l[k-1]? =some y→¬x.nd≤y.nd):jHV l k=0:=by
 unfold jHV;rw[hx];simp only
 rw[if_neg (by rw[h];decide),if_neg]
 rintro ⟨h0,hh⟩
 cases hy:l[k-1]? with
 |none=>rw[hy]at hh;cases hh
 |some y=>rw[hy]at hh;exact h2 y h0 hy (of_decide_eq_true hh)
theorem jLq {l:List Li} {k:Nat} (h:l.length≤24) (h1:jc (jHV l) k=0) (h2:jHV l k≠0) (hk:k<l.length):jCA l=jHV l k:=by
 unfold jCA;rw[if_neg (by omega),KX h1 h2 hk]
theorem jPt {c:Int} (h0:0≤c) (h1:c≤16):(2:Int) ^ c.toNat≤65536:=by
 have h2:(2:Nat) ^ c.toNat≤2 ^ 16:=Nat.pow_le_pow_right (by decide) (by omega)
 have h3:((2 ^ c.toNat:Nat):Int)=(2:Int) ^ c.toNat:=by rw[Int.natCast_pow];rfl
 rw[← h3]
 exact Int.ofNat_le.2 h2
theorem shl1 {c:Int} (h0:0≤c) (h1:c≤16):IntKind.i64.wrap (1*2 ^ (min c.toNat IntKind.i64.bits))=2 ^ c.toNat:=by
 have h2:=jPt h0 h1
 have h3:(0:Int)≤2 ^ c.toNat:=Int.le_of_lt (Int.pow_pos (by decide))
 rw[show min c.toNat IntKind.i64.bits=c.toNat by simp only[IntKind.bits];omega,Int.one_mul]
 exact Jz (k:= .i64) (by simp only[GX.fits];omega)
theorem jDG (l:List Li) (v:Value) (w:World) (hv:Sl w v (cellsOf liC l) l.length) (hl:l.length≤1000):
  Calls Tryz.prog 132 #[v] w fun e w'=>e= .returned (.int .i64 (jCA l))∧Below w.heap.size w w':=by
 refine jD Tryz.func132 I (Nat.le_of_ble_eq_true I) ?_
 refine HR.sub (σ':=[(0,v)]) ⟨I,trivial⟩ ?_
 repeat' (first|refine zh ?_|refine HL.JN (Rd.arg hv) I I I ?_|apply zb ?_ ?_|exact zc|(refine zi fun hb=>?_;try simp at hb)|intro (bk:Nat))
 refine HR.cond I (fun h=>?_) (fun h=>?_)
 ·have h:l.length>24:=by have:=of_decide_eq_true h;omega
  repeat' (first|refine zh ?_|apply zb ?_ ?_|exact zc|(refine zi fun hb=>?_;try simp at hb)|intro (bk:Nat))
  refine HR.ret Tryz.func132 I [_] (fun _ _=>⟨I,trivial⟩) ?_
  exact fun w' hw=>⟨by rw[jCA,if_pos h];rfl,hw.jE⟩
 have h:l.length≤24:=by have:=of_decide_eq_false h;omega
 repeat' (first|refine zh ?_|refine HL.JN (Rd.arg hv) I I I ?_|apply zb ?_ ?_|exact zc|(refine zi fun hb=>?_;try simp at hb)|intro (bk:Nat))
 refine HR.loop (ι:=Nat) (fun k=>k≤l.length∧jc (jHV l) k=0) (fun k=>[(0,v),(8,v),(9,.int .i64 (l.length:Int)),(10,.int .i64 (k:Int))]) (fun _=>[]) (fun k=>l.length-k) 0 ⟨Nat.zero_le _,rfl⟩ ⟨I,I,I,I,trivial⟩ Ent.refl ?_
 rintro k ⟨hk,hg⟩ ih
 repeat' (first|refine zh ?_|apply zb ?_ ?_|exact zc|(refine zi fun hb=>?_;try simp at hb)|intro (bk:Nat))
 refine HR.cond I (fun h2=>?_) (fun h2=>?_)
 ·have hlt:k<l.length:=by have:=of_decide_eq_true h2;omega
  obtain ⟨x,hx⟩:=jJ hlt
  repeat' (first|refine zh ?_|refine HL.JA (Rd.arg hv) Ze k I I I I hlt ?_|refine HL.JW (Rd.arg hv) I I I I (by simp) I (jH JL hx) ?_|intro (bk:Nat))
  refine HR.JF Jc (by kernel_rfl) ?_
  repeat' (first|refine zq ?_|refine HQ.wI (2 ^ x.ct.toNat) I I I I (.inr I) (fun _=>by omega) (shl1 (by omega) (by omega)) ?_|apply zb ?_ ?_|exact zc|(refine zi fun hb=>?_;try simp at hb))
  refine HR.cond I (fun h3=>?_) (fun h3=>?_)
  ·have h3:ze x=true:=h3
   repeat' (first|refine zh ?_|apply zb ?_ ?_|exact zc|(refine zi fun hb=>?_;try simp at hb)|intro (bk:Nat))
   refine HR.ret Tryz.func132 I [_] (fun _ _=>⟨I,trivial⟩) ?_
   refine fun w' hw=>⟨?_,hw.jE⟩
   have e:=jJb hx h3
   rw[jLq h hg (by rw[e];decide) hlt,e];rfl
  have h3:ze x=false:=h3
  obtain ⟨y,hy⟩:=jJ (l:=l) (j:=k-1) (by omega)
  repeat' (first|refine zh ?_|apply zb ?_ ?_|exact zc|(refine zi fun hb=>?_;try simp at hb)|intro (bk:Nat))
  refine HR.JF Jc (by kernel_rfl) ?_
  repeat' (first|refine zq ?_|refine HQ.JA (Rd.arg hv) Ze (k-1) I I I (by omega) (by omega) ?_|refine HQ.Jt (Rd.arg hv) (by rw[jC JL];omega) I I I I I I ?_|refine HQ.ji (Rd.arg hv) I I I I (jQ JL hy (i:=0) I) ?_|apply zb ?_ ?_|exact zc|(refine zi fun hb=>?_;try simp at hb))
  refine HR.cond I (fun h4=>?_) (fun h4=>?_)
  ·have h4:(decide ((k:Int)>0)&&decide (x.nd≤y.nd))=true:=h4
   simp only[Bool.and_eq_true,decide_eq_true_eq]at h4
   repeat' (first|refine zh ?_|apply zb ?_ ?_|exact zc|(refine zi fun hb=>?_;try simp at hb)|intro (bk:Nat))
   refine HR.ret Tryz.func132 I [_] (fun _ _=>⟨I,trivial⟩) ?_
   refine fun w' hw=>⟨?_,hw.jE⟩
   have e:=jJc hx h3 (by omega) hy h4.2
   rw[jLq h hg (by rw[e];decide) hlt,e];rfl
  ·have h4:(decide ((k:Int)>0)&&decide (x.nd≤y.nd))=false:=h4
   repeat' (first|refine zh ?_|apply zb ?_ ?_|exact zc|(refine zi fun hb=>?_;try simp at hb)|intro (bk:Nat))
   refine ih (k+1) _ _ ⟨hlt,Zd hg (jP6 hx h3 fun y' h0 hy' hle=>?_)⟩ (by omega) ⟨I,I,I,I,trivial⟩ (Ent.pick [] I I)
   rw[hy]at hy'
   cases hy'
   rw[decide_eq_true (show (k:Int)>0 by omega),decide_eq_true hle]at h4
   cases h4
 ·have hke:k=l.length:=by have:=of_decide_eq_false h2;omega
  subst hke
  repeat' (first|refine zh ?_|apply zb ?_ ?_|exact zc|(refine zi fun hb=>?_;try simp at hb)|intro (bk:Nat))
  refine HR.ret Tryz.func132 I [_] (fun _ _=>⟨I,trivial⟩) ?_
  exact fun w' hw=>⟨by rw[jCA,if_neg (by omega),hg];rfl,hw.jE⟩
end Go.Proofs.YtgfdoognildoeaaGreat
namespace Go.Proofs.YtgfdoognildoeaaGreat
open Go.GX Go.RowKit
attribute [local irreducible] Calls Run jZ jf JK HR HL HD jT jG JY Rd jK jY
open Nd
theorem jKc (n:Int) (w:World) (h:-1099511627776≤n∧n≤1099511627776):Calls Tryz.prog 301 #[.int .i64 n] w fun e w'=>e= .returned (.int .i64 n)∧Below w.heap.size w w':=by
 refine jD Tryz.func301 I (Nat.le_of_ble_eq_true I) ?_
 refine HR.sub (σ':=[(0,.int .i64 n)]) ⟨I,trivial⟩ ?_
 repeat' (first|refine zh ?_|apply zb ?_ ?_|exact zc|(refine zi fun hb=>?_;try simp at hb)|intro (bk:Nat))
 refine HR.ret Tryz.func301 I [_] (fun _ _=>⟨I,trivial⟩) ?_
 refine fun w' hw=>⟨?_,hw.jE⟩
 simp only[jC2]
 congr 2
 split<;>split<;>omega
theorem jN1 (a b:Int) (w:World) (ha:0≤a∧a≤1000000) (hb:0<b∧b≤1000000):Calls Tryz.prog 272 #[.int .i64 a,.int .i64 b] w fun e w'=>e= .returned (.int .i64 (cdiv a b))∧Below w.heap.size w w':=by
 refine jD Tryz.func272 I (Nat.le_of_ble_eq_true I) ?_
 refine HR.sub (σ':=[(0,.int .i64 a),(1,.int .i64 b)]) ⟨I,I,trivial⟩ ?_
 repeat' (first|refine zh ?_|refine HL.jR jRe I I (fun w _=>jKc a w (by omega)) ?_|refine HL.jR jRe I I (fun w _=>jKc b w (by omega)) ?_|apply zb ?_ ?_|exact zc|(refine zi fun hb=>?_;try simp at hb)|intro (bk:Nat))
 refine HR.jDc 13 false I (by simp;omega) ?_
 have q1:0≤a / b:=Int.ediv_nonneg ha.1 (by omega)
 have q2:a / b≤a:=Int.ediv_le_self _ ha.1
 repeat' (first|refine zh ?_|apply zb ?_ ?_|exact zc|(refine zi fun hb=>?_;try simp at hb)|intro (bk:Nat))
 have e1:decide (a<0)=false:=decide_eq_false (by omega)
 have e2:decide (b<0)=false:=decide_eq_false (by omega)
 refine HR.cond I (fun h=>?_) (fun h=>?_)
 ·have h:((a%b != 0)&&(decide (a<0)==decide (b<0)))=true:=h
  rw[e1,e2]at h
  have h:a%b≠0:=by simpa using h
  repeat' (first|refine zh ?_|apply zb ?_ ?_|exact zc|(refine zi fun hb=>?_;try simp at hb)|intro (bk:Nat))
  refine HR.ret Tryz.func272 I [_] (fun _ _=>⟨I,trivial⟩) ?_
  exact fun w' hw=>⟨by rw[jFT ha.1 hb.1,if_pos h];rfl,hw.jE⟩
 ·have h:((a%b != 0)&&(decide (a<0)==decide (b<0)))=false:=h
  rw[e1,e2]at h
  have h:¬a%b≠0:=by simpa using h
  repeat' (first|refine zh ?_|apply zb ?_ ?_|exact zc|(refine zi fun hb=>?_;try simp at hb)|intro (bk:Nat))
  refine HR.ret Tryz.func272 I [_] (fun _ _=>⟨I,trivial⟩) ?_
  exact fun w' hw=>⟨by rw[jFT ha.1 hb.1,if_neg h];rfl,hw.jE⟩
theorem jA1 (l:List Li) (v:Value) (w:World) (hv:Sl w v (cellsOf liC l) l.length) (hl:l.length≤1000):
  Calls Tryz.prog 167 #[v] w fun e w'=>∃v',e= .returned v'∧Sat (base w) [jG v' 162 3 (lval l).length (cellsOf liC (lval l))] w':=by
 refine jD Tryz.func167 I (Nat.le_of_ble_eq_true I) ?_
 refine HR.sub (σ':=[(0,v)]) ⟨I,trivial⟩ ?_
 repeat' (first|refine zh ?_|refine HL.jR jRx I I (fun w hw=>jDG l v w ((Rd.arg hv).at hw) hl) ?_|apply zb ?_ ?_|exact zc|(refine zi fun hb=>?_;try simp at hb)|intro (bk:Nat))
 refine HR.cond I (fun h=>?_) (fun h=>?_)
 ·have h:¬jCA l=0:=by simpa using h
  repeat' (first|refine zh ?_|apply zb ?_ ?_|exact zc|(refine zi fun hb=>?_;try simp at hb)|intro (bk:Nat))
  refine HR.ZC 162 3 ?_
  refine HR.ret Tryz.func167 I [_] (fun _ _=>⟨I,trivial⟩) ?_
  exact fun w' hw=>⟨.slice none 0 0,rfl,by rw[lval,if_neg h];exact hw⟩
 ·have h:jCA l=0:=by simpa using h
  have h24:=(Ko h).1
  repeat' (first|refine zh ?_|refine HL.JN (Rd.arg hv) I I I ?_|apply zb ?_ ?_|exact zc|(refine zi fun hb=>?_;try simp at hb)|intro (bk:Nat))
  refine HL.kV l.length l.length Ze I I I I I I (Nat.le_refl _) (show 24*l.length≤_ by omega) (by omega) ?_
  intro v1
  repeat' (first|refine zh ?_|refine HL.copyV l.length 0 I (Rd.arg hv) I I I I I (jC JL _) (fun u hu=>jU jD4 _ u (List.mem_of_mem_take hu)) (Nat.min_self _) ?_|apply zb ?_ ?_|exact zc|(refine zi fun hb=>?_;try simp at hb)|intro (bk:Nat))
  refine HR.ret Tryz.func167 I [_] (fun _ _=>⟨I,trivial⟩) ?_
  refine fun w' hw=>⟨v1,rfl,Ent.JV ?_ ?_ w' hw⟩
  ·rw [lval,if_pos h]
  ·rw [lval,if_pos h,List.take_of_length_le (by rw[jC JL];exact Nat.le_refl _),List.drop_eq_nil_of_le (by rw[jV];exact Nat.le_refl _),List.append_nil]
theorem jB8 (l:List Li) (n:Int) (v:Value) (w:World) (hv:Sl w v (cellsOf liC l) l.length) (hl:l.length≤1000):
  Calls Tryz.prog 168 #[v,.int .i64 n] w fun e w'=>e= .returned (.tuple ⟨[.int .i64 (zx l n:Int),.bool (jLn l n)]⟩)∧Below w.heap.size w w':=by
 refine jD Tryz.func168 I (Nat.le_of_ble_eq_true I) ?_
 refine HR.sub (σ':=[(0,v),(1,.int .i64 n)]) ⟨I,I,trivial⟩ ?_
 repeat' (first|refine zh ?_|apply zb ?_ ?_|exact zc|(refine zi fun hb=>?_;try simp at hb)|intro (bk:Nat))
 refine HR.loop (ι:=Nat) (fun k=>k≤l.length∧∀j a,j<k→l[j]? =some a→a.nd<n) (fun k=>[(0,v),(1,.int .i64 n),(6,.int .i64 (k:Int))]) (fun _=>[]) (fun k=>l.length-k) 0 ⟨Nat.zero_le _,fun j a hj=>by omega⟩ ⟨I,I,I,trivial⟩ Ent.refl ?_
 rintro k ⟨hk,hg⟩ ih
 repeat' (first|refine zh ?_|refine HL.JN (Rd.arg hv) I I I ?_|refine HL.JA (Rd.arg hv) Ze k I I I I (by omega) ?_|refine HL.Jt (Rd.arg hv) (by rw[jC JL];omega) I I I I I I ?_|refine HL.ji (Rd.arg hv) I I I I (jQ JL (zW (by omega) li0) (i:=0) I) ?_|apply zb ?_ ?_|exact zc|(refine zi fun hb=>?_;try simp at hb)|intro (bk:Nat))
 refine HR.cond I (fun h2=>?_) (fun h2=>?_)
 ·have h2:(decide ((k:Int)<l.length)&&decide ((l.getD k li0).nd<n))=true:=h2
  simp only[Bool.and_eq_true,decide_eq_true_eq]at h2
  have hlt:k<l.length:=by omega
  repeat' (first|refine zh ?_|apply zb ?_ ?_|exact zc|(refine zi fun hb=>?_;try simp at hb)|intro (bk:Nat))
  refine ih (k+1) _ _ ⟨hlt,fun j a hj ha=>?_⟩ (by omega) ⟨I,I,I,trivial⟩ (Ent.pick [] I I)
  by_cases hjk:j=k
  ·subst hjk
   rw[zW hlt li0]at ha
   cases ha;exact h2.2
  ·exact hg j a (by omega) ha
 ·have h2:(decide ((k:Int)<l.length)&&decide ((l.getD k li0).nd<n))=false:=h2
  have hp:zx l n=k:=jP4 hk hg fun a ha=>by
   have hlt:=(List.getElem?_eq_some_iff.1 ha).1
   rw[zW hlt li0]at ha
   cases ha
   rw[decide_eq_true (show (k:Int)<l.length by omega),Bool.true_and,decide_eq_false_iff_not]at h2
   omega
  repeat' (first|refine zh ?_|apply zb ?_ ?_|exact zc|(refine zi fun hb=>?_;try simp at hb)|intro (bk:Nat))
  refine HR.JF Jc (by kernel_rfl) ?_
  repeat' (first|refine zq ?_|refine HQ.JN (Rd.arg hv) I I I ?_|refine HQ.JA (Rd.arg hv) Ze k I I I I (by omega) ?_|refine HQ.Jt (Rd.arg hv) (by rw[jC JL];omega) I I I I I I ?_|refine HQ.ji (Rd.arg hv) I I I I (jQ JL (zW (by omega) li0) (i:=0) I) ?_|apply zb ?_ ?_|exact zc|(refine zi fun hb=>?_;try simp at hb))
  refine HR.ret Tryz.func168 I [_,_] (fun _ _=>⟨I,I,trivial⟩) ?_
  refine fun w' hw=>⟨?_,hw.jE⟩
  have hh:jLn l n=(decide ((k:Int)<l.length)&&((l.getD k li0).nd==n)):=by
   unfold jLn
   rw[hp]
   by_cases hlt:k<l.length
   ·rw [zW hlt li0,decide_eq_true (show (k:Int)<l.length by omega)];rfl
   ·rw [List.getElem?_eq_none (by omega),decide_eq_false (show ¬(k:Int)<l.length by omega)];rfl
  rw[hh,hp];rfl
theorem jGZ (l:List Li) (n:Int) (v:Value) (w:World) (hv:Sl w v (cellsOf liC l) l.length) (hl:l.length≤1000):
  Calls Tryz.prog 170 #[v,.int .i64 n] w fun e w'=>∃v',e= .returned v'∧Sat (base w) [jG v' 162 3 (kW l n).length (cellsOf liC (kW l n))] w':=by
 have hlen:=jAa l
 refine jD Tryz.func170 I (Nat.le_of_ble_eq_true I) ?_
 refine HR.sub (σ':=[(0,v),(1,.int .i64 n)]) ⟨I,I,trivial⟩ ?_
 repeat' (first|refine zh ?_|refine HL.JQ jQQ I I (fun w hw=>jA1 l v w ((Rd.arg hv).at hw) hl) ?_|intro (bk:Nat))
 intro v1
 repeat' (first|refine zh ?_|refine HL.jR jQP I I (fun w hw=>jB8 (lval l) n v1 w ((Rd.own 0 rfl).at hw) (by omega)) ?_|intro (bk:Nat))
 refine HR.cond I (fun h=>?_) (fun h=>?_)
 ·obtain ⟨x,hx,hn⟩:=jB7 h
  have hlt:=(List.getElem?_eq_some_iff.1 hx).1
  repeat' (first|refine zh ?_|intro (bk:Nat))
  refine HL.Jh (r:=fun r:Value=>r) (Q:=fun _=>True) (G0:=[jG v1 162 3 (lval l).length (cellsOf liC (lval l))]) (H0:=[]) (G:=fun r=>[jG r 162 3 ((lval l).eraseIdx (zx (lval l) n)).length (cellsOf liC ((lval l).eraseIdx (zx (lval l) n)))]) fn226 I I I (fun w hw=>jMP (lval l) (zx (lval l) n) v1 _ w hw hlt (by omega)) ?_
  intro r _
  repeat' (first|refine zh ?_|intro (bk:Nat))
  refine HR.ret Tryz.func170 I [_] (fun _ _=>⟨I,trivial⟩) ?_
  exact fun w' hw=>⟨r,rfl,by rw[jJa hx hn];exact hw⟩
 ·have hno:=jLr (jA3 h)
  repeat' (first|refine zh ?_|intro (bk:Nat))
  refine HR.ret Tryz.func170 I [_] (fun _ _=>⟨I,trivial⟩) ?_
  exact fun w' hw=>⟨v1,rfl,by rw[jJZ hno];exact hw⟩
theorem jMo (l:List Li) (n:Int) (v:Value) (w:World) (hv:Sl w v (cellsOf liC l) l.length) (hl:l.length≤1000):
  Calls Tryz.prog 271 #[v,.int .i64 n] w fun e w'=>e= .returned (.tuple ⟨[.int .i64 (succ l n).1,.int .i64 (succ l n).2]⟩)∧Below w.heap.size w w':=by
 have hlen:=jAa l
 refine jD Tryz.func271 I (Nat.le_of_ble_eq_true I) ?_
 refine HR.sub (σ':=[(0,v),(1,.int .i64 n)]) ⟨I,I,trivial⟩ ?_
 repeat' (first|refine zh ?_|refine HL.JQ jQQ I I (fun w hw=>jA1 l v w ((Rd.arg hv).at hw) hl) ?_|intro (bk:Nat))
 intro v1
 repeat' (first|refine zh ?_|refine HL.jR jQP I I (fun w hw=>jB8 (lval l) n v1 w ((Rd.own 0 rfl).at hw) (by omega)) ?_|intro (bk:Nat))
 refine HR.cond I (fun h=>?_) (fun h=>?_)
 ·have h:jLn (lval l) n=false:=by simpa using h
  have hno:=jLr (jA3 h)
  repeat' (first|refine zh ?_|intro (bk:Nat))
  refine HR.ret Tryz.func271 I [_,_] (fun _ _=>⟨I,I,trivial⟩) ?_
  exact fun w' hw=>⟨by rw[succ,hno];rfl,hw.jE⟩
 ·have h:jLn (lval l) n=true:=by simpa using h
  obtain ⟨x,hx,hn⟩:=jB7 h
  have hlt:=(List.getElem?_eq_some_iff.1 hx).1
  have hat:lat (lval l) n=some x:=((Kk l).jHG hx hn).2
  have hr:=jAb (jD3 (List.mem_of_getElem? hx))
  have hp:=jHH 64 x.bi.toNat
  have hb64:x.bi.toNat<2 ^ 64:=by
   have:(2:Nat) ^ 64=18446744073709551616:=by decide
   omega
  repeat' (first|refine zh ?_|refine HL.JA (Rd.own 0 I) Ze (zx (lval l) n) I I I I hlt ?_|refine HL.Jt (Rd.own 0 I) (by rw[jC JL];omega) I I I I I I ?_|refine HL.ji (Rd.own 0 I) I I I I (jQ JL hx (i:=1) I) ?_|intro (bk:Nat))
  refine HR.jRS (α:=Nat) (β:=Nat) (γ:=Nat) (fun a b f=>b<65536∧b<2 ^ f∧(a:Int)+pop f b=pop 64 x.bi.toNat) (fun a b f=>[(6,v1),(7,.int .i64 (zx (lval l) n:Int)),(9,.int .i64 (a:Int)),(10,.int .i64 (b:Int))]) (fun _ _ _=>[jG v1 162 3 (lval l).length (cellsOf liC (lval l))]) (fun a b f=>b) 0 x.bi.toNat 64 ⟨by omega,hb64,by simp⟩ ⟨rfl,rfl,rfl,by show some _=some _;congr 2;omega,trivial⟩ Ent.refl ?_
  rintro a b f ⟨hb5,hb,hab⟩ ih
  have hpf:=jHH f b
  repeat' (first|refine zh ?_|intro (bk:Nat))
  refine HR.cond I (fun h2=>?_) (fun h2=>?_)
  ·have hb0:0<b:=by have:=of_decide_eq_true h2;omega
   obtain ⟨f',rfl,hb',hps⟩:=jM9 hb0 hb
   repeat' (first|refine zh ?_|intro (bk:Nat))
   refine ih (a+b%2) (b / 2) f' _ _ ⟨by omega,hb',?_⟩ (by omega) ⟨I,I,I,I,trivial⟩ Ent.refl
   rw[← hab,hps];omega
  ·have hb0:b=0:=by have:=of_decide_eq_false h2;omega
   subst hb0
   rw[jM8]at hab
   repeat' (first|refine zh ?_|intro (bk:Nat))
   refine HR.JF Jc (by kernel_rfl) ?_
   repeat' (first|refine zq ?_|refine HQ.JA (Rd.own 0 I) Ze (zx (lval l) n) I I I I hlt ?_|refine HQ.Jt (Rd.own 0 I) (by rw[jC JL];omega) I I I I I I ?_|refine HQ.ji (Rd.own 0 I) I I I I (jQ JL hx (i:=2) I) ?_|apply zb ?_ ?_|exact zc|(refine zi fun hb=>?_;try simp at hb))
   refine HR.ret Tryz.func271 I [_,_] (fun _ _=>⟨I,I,trivial⟩) ?_
   refine fun w' hw=>⟨?_,hw.jE⟩
   rw[succ,hat]
   simp only[ones,← hab,Int.add_zero]
   rfl
theorem jLp (l:List Li) (n:Int) (v:Value) (w:World) (hv:Sl w v (cellsOf liC l) l.length) (hl:l.length≤1000):
  Calls Tryz.prog 218 #[v,.int .i64 n] w fun e w'=>e= .returned (.int .i64 (jB9 l n))∧Below w.heap.size w w':=by
 have hs:0≤(succ l n).1∧(succ l n).1≤64∧0≤(succ l n).2∧(succ l n).2≤16:=by
  unfold succ
  cases hf:lat (lval l) n with
  |none=>simp
  |some x=>
   have hr:=jAb (jD3 (jP7 hf).1)
   have:=jPy x.bi
   exact ⟨this.1,this.2,hr.2.2.1,hr.2.2.2.1⟩
 refine jD Tryz.func218 I (Nat.le_of_ble_eq_true I) ?_
 refine HR.sub (σ':=[(0,v),(1,.int .i64 n)]) ⟨I,I,trivial⟩ ?_
 repeat' (first|refine zh ?_|refine HL.jR fn271 I I (fun w hw=>jMo l n v w ((Rd.arg hv).at hw) hl) ?_|intro (bk:Nat))
 refine HR.cond I (fun h=>?_) (fun h=>?_)
 ·have h:(succ l n).1=0:=eq_of_beq h
  repeat' (first|refine zh ?_|intro (bk:Nat))
  refine HR.ret Tryz.func218 I [_] (fun _ _=>⟨I,trivial⟩) ?_
  exact fun w' hw=>⟨by rw[jDF,if_pos h];rfl,hw.jE⟩
 ·have h:¬(succ l n).1=0:=by simpa using h
  repeat' (first|refine zh ?_|refine HL.jR fn272 I I (fun w _=>jN1 _ _ w (by omega) (by omega)) ?_|intro (bk:Nat))
  refine HR.ret Tryz.func218 I [_] (fun _ _=>⟨I,trivial⟩) ?_
  exact fun w' hw=>⟨by rw[jDF,if_neg h];rfl,hw.jE⟩
end Go.Proofs.YtgfdoognildoeaaGreat
namespace Go.Proofs.YtgfdoognildoeaaGreat
open Go.GX Go.RowKit
attribute [local irreducible] Calls Run jZ jf JK HR HL HD jT jG JY Rd jK jY
open Nd
structure Place (l:List Li) (n:Int) (ok:Bool) (L:List Li) (i:Nat) (x:Li):Prop where
 get:L[i]? =some x
 len:L.length≤25
 b0:0≤x.bi
 b1:x.bi<65536
 c0:0≤x.ct
 c1:x.ct≤16
 eq:ZE l n ok=L.set i (jNb x ok)
theorem Place.old {l:List Li} {n:Int} {ok:Bool} {x:Li} (hr:¬(n<0∨n>250)) (hx:(lval l)[zx (lval l) n]? =some x) (hn:x.nd=n):Place l n ok (lval l) (zx (lval l) n) x:=by
 have h:=jAb (jD3 (List.mem_of_getElem? hx))
 have h2:=jAa l
 exact ⟨hx,by omega,h.2.2.2.2.1,h.2.2.2.2.2,h.2.2.1,h.2.2.2.1,jNc hr hx hn⟩
theorem Place.new {l:List Li} {n:Int} {ok:Bool} (hr:¬(n<0∨n>250)) (h:lat (lval l) n=none) (h2:¬(lval l).length=24):Place l n ok ((lval l).take (zx (lval l) n)++⟨n,0,0⟩::(lval l).drop (zx (lval l) n)) (zx (lval l) n) ⟨n,0,0⟩:=by
 have h3:=jAa l
 have h4:=jGW (lval l) n
 have hl:((lval l).take (zx (lval l) n)).length=zx (lval l) n:=by simp;omega
 refine ⟨jGe hl,by simp;omega,by simp,by simp,by simp,by simp,?_⟩
 rw[jLm hr h h2,set_mid hl]
theorem jE2 (l:List Li) (n:Int) (ok:Bool) (v:Value) (w:World) (hv:Sl w v (cellsOf liC l) l.length) (hl:l.length≤1000):
  Calls Tryz.prog 92 #[v,.int .i64 n,.bool ok] w fun e w'=>∃v',e= .returned v'∧Sat (base w) [jG v' 162 3 (ZE l n ok).length (cellsOf liC (ZE l n ok))] w':=by
 have hlen:=jAa l
 have hple:=jGW (lval l) n
 refine jD Tryz.func92 I (Nat.le_of_ble_eq_true I) ?_
 refine HR.sub (σ':=[(0,v),(1,.int .i64 n),(2,.bool ok)]) ⟨I,I,I,trivial⟩ ?_
 repeat' (first|refine zh ?_|refine HL.JQ jQQ I I (fun w hw=>jA1 l v w ((Rd.arg hv).at hw) hl) ?_|intro (bk:Nat))
 intro v1
 repeat' (first|refine zh ?_|apply zb ?_ ?_|exact zc|(refine zi fun hb=>?_;try simp at hb)|intro (bk:Nat))
 refine HR.cond I (fun h=>?_) (fun h=>?_)
 ·have h:(decide (n<0)||decide (n>250))=true:=h
  simp only[Bool.or_eq_true,decide_eq_true_eq]at h
  repeat' (first|refine zh ?_|apply zb ?_ ?_|exact zc|(refine zi fun hb=>?_;try simp at hb)|intro (bk:Nat))
  refine HR.ret Tryz.func92 I [_] (fun _ _=>⟨I,trivial⟩) ?_
  exact fun w' hw=>⟨v1,rfl,by rw[jLk h];exact hw⟩
 have h:(decide (n<0)||decide (n>250))=false:=h
 have hr:¬(n<0∨n>250):=by simp only[Bool.or_eq_false_iff,decide_eq_false_iff_not]at h;omega
 repeat' (first|refine zh ?_|refine HL.jR jQP I I (fun w hw=>jB8 (lval l) n v1 w ((Rd.own 0 rfl).at hw) (by omega)) ?_|intro (bk:Nat))
 refine HR.join (ι:=Value×List Li×Li) (fun i=>Place l n ok i.2.1 (zx (lval l) n) i.2.2) (fun i=>[(1,.int .i64 n),(2,.bool ok),(7,i.1),(8,.int .i64 (zx (lval l) n:Int))]) (fun i=>[jG i.1 162 3 i.2.1.length (cellsOf liC i.2.1)]) ?_ (fun hj=>?_)
 ·rintro ⟨r,L,x⟩ hp
  obtain ⟨hget,hL,hb0,hb1,hc0,hc1,heq⟩:=hp
  simp only at hget hL hb0 hb1 hc0 hc1 heq
  have hlt:=(List.getElem?_eq_some_iff.1 hget).1
  have hbit:0≤(if ok then (1:Int)else 0)∧(if ok then (1:Int)else 0)≤1:=by cases ok<;>simp
  repeat' (first|refine zh ?_|intro (bk:Nat))
  refine HR.join (ι:=Unit) (fun _=>True) (fun _=>[(7,r),(8,.int .i64 (zx (lval l) n:Int)),(10,.int .i64 (if ok then 1 else 0))]) (fun _=>[jG r 162 3 L.length (cellsOf liC L)]) ?_ (fun hj2=>?_)
  ·intro _ _
   obtain ⟨bit,hbe⟩:∃bit,bit=(if ok then (1:Int)else 0):=⟨_,rfl⟩
   rw[← hbe]at hbit ⊢
   repeat' (first|refine zh ?_|refine HL.JA (Rd.own 0 I) Ze (zx (lval l) n) I I I I hlt ?_|refine HL.Jt (Rd.own 0 I) (by rw[jC JL];omega) I I I I I I ?_|refine HL.ji (Rd.own 0 I) I I I I (jQ JL hget (i:=1) I) ?_|refine HL.KA (j:=zx (lval l) n*3+1) 0 I I I I I I I (by rw[jC JL];omega) ?_|intro (bk:Nat))
   refine HL.ent (Ent.JV (xs':=cellsOf liC (L.set (zx (lval l) n) ⟨x.nd,(2*x.bi+bit)%65536,x.ct⟩)) I (Jv (i:=1) JL hget I (by decide))) ?_
   have hget2:(L.set (zx (lval l) n) ⟨x.nd,(2*x.bi+bit)%65536,x.ct⟩)[zx (lval l) n]? =some ⟨x.nd,(2*x.bi+bit)%65536,x.ct⟩:=by simp[hlt]
   have hl2:(L.set (zx (lval l) n) ⟨x.nd,(2*x.bi+bit)%65536,x.ct⟩).length=L.length:=List.length_set
   repeat' (first|refine zh ?_|refine HL.JA (Rd.own 0 I) Ze (zx (lval l) n) I I I I hlt ?_|refine HL.Jt (Rd.own 0 I) (by rw[jC JL,hl2];omega) I I I I I I ?_|refine HL.ji (Rd.own 0 I) I I I I (jQ JL hget2 (i:=2) I) ?_|refine HL.KA (j:=zx (lval l) n*3+2) 0 I I I I I I I (by rw[jC JL,hl2];omega) ?_|intro (bk:Nat))
   refine HR.ent (Ent.JV (xs':=cellsOf liC ((L.set (zx (lval l) n) ⟨x.nd,(2*x.bi+bit)%65536,x.ct⟩).set (zx (lval l) n) (jNb x ok))) I (Jv (i:=2) JL hget2 ?_ (by decide))) ?_
   ·simp only[jNb,← hbe]
    rw[show min (x.ct+1) 16=(if (16:Int)<x.ct+1 then 16 else x.ct+1) by split<;>omega]
    rfl
   repeat' (first|refine zh ?_|intro (bk:Nat))
   refine HR.ret Tryz.func92 I [_] (fun _ _=>⟨I,trivial⟩) ?_
   refine fun w' hw=>⟨r,rfl,Ent.JV ?_ ?_ w' hw⟩
   ·rw [heq];simp
   ·rw [heq,List.set_set]
  ·refine HR.cond I (fun h3=>?_) (fun h3=>?_)
   ·subst h3
    refine HR.region ?_
    repeat' (first|refine zn ?_|apply zb ?_ ?_|exact zc|(refine zi fun hb=>?_;try simp at hb)|intro (bk:Nat))
    exact hj2 () _ _ trivial ⟨I,I,I,trivial⟩ Ent.refl
   ·subst h3
    refine HR.skip ?_
    exact hj2 () _ _ trivial ⟨I,I,I,trivial⟩ Ent.refl
 refine HR.cond I (fun h2=>?_) (fun h2=>?_)
 ·have h2:jLn (lval l) n=false:=by simpa using h2
  have hno:=jLr (jA3 h2)
  repeat' (first|refine zh ?_|refine HL.JN (Rd.own 0 I) I I I ?_|intro (bk:Nat))
  refine HR.cond I (fun h3=>?_) (fun h3=>?_)
  ·have h3:(lval l).length=24:=by have:=eq_of_beq h3;omega
   repeat' (first|refine zh ?_|intro (bk:Nat))
   refine HR.ret Tryz.func92 I [_] (fun _ _=>⟨I,trivial⟩) ?_
   exact fun w' hw=>⟨v1,rfl,by rw[jJX hr hno h3];exact hw⟩
  ·have h3:¬(lval l).length=24:=by
    have h3:(((lval l).length:Int)==24)=false:=h3
    simp at h3;omega
   refine HR.skip ?_
   refine HR.region ?_
   repeat' (first|refine zn ?_|refine HL.build I I ?_|refine HL.jv Ze I I I I I (by decide) (by decide) ?_|apply zb ?_ ?_|exact zc|(refine zi fun hb=>?_;try simp at hb)|intro (bk:Nat))
   intro va
   refine HL.Jh (r:=fun r:Value=>r) (Q:=fun _=>True) (G0:=[jG va 162 3 1 (liC ⟨n,0,0⟩),jG v1 162 3 (lval l).length (cellsOf liC (lval l))]) (H0:=[]) (G:=fun r=>[jG r 162 3 ((lval l).take (zx (lval l) n)++⟨n,0,0⟩::(lval l).drop (zx (lval l) n)).length (cellsOf liC ((lval l).take (zx (lval l) n)++⟨n,0,0⟩::(lval l).drop (zx (lval l) n)))]) fn169 I I I (fun w hw=>jLy (lval l) ⟨n,0,0⟩ (zx (lval l) n) v1 va _ w hw hple (by omega)) ?_
   intro r _
   repeat' (first|refine zn ?_|apply zb ?_ ?_|exact zc|(refine zi fun hb=>?_;try simp at hb)|intro (bk:Nat))
   exact hj (r,_,_) _ _ (Place.new hr hno h3) ⟨I,I,I,I,trivial⟩ Ent.refl
 ·have h2:jLn (lval l) n=true:=by simpa using h2
  obtain ⟨x,hx,hn⟩:=jB7 h2
  refine HR.skip ?_
  exact hj (v1,lval l,x) _ _ (Place.old hr hx hn) ⟨I,I,I,I,trivial⟩ Ent.refl
end Go.Proofs.YtgfdoognildoeaaGreat
namespace Go.Proofs.YtgfdoognildoeaaGreat
open Go.GX Go.RowKit
attribute [local irreducible] Calls Run jZ jf JK HR HL HD jT jG JY Rd jK jY
open Nd
theorem jFJ {f:Fr} (k1:((f.kd==1)||(f.kd==4))=true) (k3:(f.kd==3)=false):jEC f=(((f.fr != f.dst)&&(f.dst==255))&&(f.ta==255)):=by
 unfold jEC;rw[k1,k3];simp[bne,Bool.and_assoc]
theorem jJq {f:Fr} (k1:((f.kd==1)||(f.kd==4))=false) (k3:(f.kd==3)=true):jEC f=(((f.fr != f.dst)&&decide (f.da=[]))&&(f.dst != 255)):=by
 unfold jEC;rw[k1,k3];simp[bne,Bool.and_assoc]
theorem jJr {f:Fr} (k1:((f.kd==1)||(f.kd==4))=false) (k3:(f.kd==3)=false):jEC f=(f.fr != f.dst):=by
 unfold jEC;rw[k1,k3];simp[bne]
theorem jHZ {f:Fr} (h1:¬(f.kd<1∨f.kd>4)) (h2:jBL f=false) (h3:¬f.da.length>109) (h4:jEC f=false):jCe f=4:=by
 unfold jCe;rw[if_neg h1,if_neg (by rw[h2];decide),if_neg h3,if_pos h4]
theorem jHa {f:Fr} (h1:¬(f.kd<1∨f.kd>4)) (h2:jBL f=false) (h3:¬f.da.length>109) (h4:jEC f=true):jCe f=0:=by
 unfold jCe;rw[if_neg h1,if_neg (by rw[h2];decide),if_neg h3,if_neg (by rw[h4];decide)]
theorem jJs (f:Fr) (w:World) (hd:f.da.length≤9223372036854775807):Calls Tryz.prog 162 #[.agg ⟨frC f⟩] w fun e w'=>e= .returned (.int .i64 (jCe f))∧Below w.heap.size w w':=by
 refine jD Tryz.func162 I (Nat.le_of_ble_eq_true I) ?_
 refine HR.sub (σ':=[(0,.agg ⟨frC f⟩)]) ⟨I,trivial⟩ ?_
 repeat' (first|refine zh ?_|apply zb ?_ ?_|exact zc|(refine zi fun hb=>?_;try simp at hb)|intro (bk:Nat))
 refine HR.cond I (fun h=>?_) (fun h=>?_)
 ·have h:(decide (f.kd<1)||decide (f.kd>4))=true:=h
  simp only[Bool.or_eq_true,decide_eq_true_eq]at h
  repeat' (first|refine zh ?_|apply zb ?_ ?_|exact zc|(refine zi fun hb=>?_;try simp at hb)|intro (bk:Nat))
  refine HR.ret Tryz.func162 I [_] (fun _ _=>⟨I,trivial⟩) ?_
  exact fun w' hw=>⟨by rw[jCe,if_pos h];rfl,hw.jE⟩
 have h:(decide (f.kd<1)||decide (f.kd>4))=false:=h
 have hk:¬(f.kd<1∨f.kd>4):=by simp only[Bool.or_eq_false_iff,decide_eq_false_iff_not]at h;omega
 repeat' (first|refine zh ?_|refine HL.jR jRk I I (fun w _=>jFF _ w) ?_|refine HL.jR fn215 I I (fun w _=>jHp _ w) ?_|apply zb ?_ ?_|exact zc|(refine zi fun hb=>?_;try simp at hb)|intro (bk:Nat))
 refine HR.cond I (fun h2=>?_) (fun h2=>?_)
 ·have h2:jBL f=true:=h2
  repeat' (first|refine zh ?_|apply zb ?_ ?_|exact zc|(refine zi fun hb=>?_;try simp at hb)|intro (bk:Nat))
  refine HR.ret Tryz.func162 I [_] (fun _ _=>⟨I,trivial⟩) ?_
  exact fun w' hw=>⟨by rw[jCe,if_neg hk,if_pos h2];rfl,hw.jE⟩
 have h2:jBL f=false:=h2
 repeat' (first|refine zh ?_|apply zb ?_ ?_|exact zc|(refine zi fun hb=>?_;try simp at hb)|intro (bk:Nat))
 refine HR.cond I (fun h3=>?_) (fun h3=>?_)
 ·have h3:f.da.length>109:=by have:=of_decide_eq_true h3;omega
  repeat' (first|refine zh ?_|apply zb ?_ ?_|exact zc|(refine zi fun hb=>?_;try simp at hb)|intro (bk:Nat))
  refine HR.ret Tryz.func162 I [_] (fun _ _=>⟨I,trivial⟩) ?_
  exact fun w' hw=>⟨by rw[jCe,if_neg hk,if_neg (by rw[h2];decide),if_pos h3];rfl,hw.jE⟩
 have h3:¬f.da.length>109:=by have:=of_decide_eq_false h3;omega
 repeat' (first|refine zh ?_|apply zb ?_ ?_|exact zc|(refine zi fun hb=>?_;try simp at hb)|intro (bk:Nat))
 refine HR.cond I (fun h4=>?_) (fun h4=>?_)
 ·have h4:(f.kd==1)=true:=h4
  have e:f.kd=1:=by simpa using h4
  have hf:=jFJ (f:=f) (by simp[e]) (by simp[e])
  repeat' (first|refine zh ?_|apply zb ?_ ?_|exact zc|(refine zi fun hb=>?_;try simp at hb)|intro (bk:Nat))
  refine HR.cond I (fun h5=>?_) (fun h5=>?_)
  ·have h5:(!(((f.fr != f.dst)&&(f.dst==255))&&(f.ta==255)))=true:=h5
   rw[← hf]at h5
   repeat' (first|refine zh ?_|apply zb ?_ ?_|exact zc|(refine zi fun hb=>?_;try simp at hb)|intro (bk:Nat))
   refine HR.ret Tryz.func162 I [_] (fun _ _=>⟨I,trivial⟩) ?_
   exact fun w' hw=>⟨by rw[jHZ hk h2 h3 (by simpa using h5)];rfl,hw.jE⟩
  ·have h5:(!(((f.fr != f.dst)&&(f.dst==255))&&(f.ta==255)))=false:=h5
   rw[← hf]at h5
   repeat' (first|refine zh ?_|apply zb ?_ ?_|exact zc|(refine zi fun hb=>?_;try simp at hb)|intro (bk:Nat))
   refine HR.ret Tryz.func162 I [_] (fun _ _=>⟨I,trivial⟩) ?_
   exact fun w' hw=>⟨by rw[jHa hk h2 h3 (by simpa using h5)];rfl,hw.jE⟩
 have h4:(f.kd==1)=false:=h4
 repeat' (first|refine zh ?_|apply zb ?_ ?_|exact zc|(refine zi fun hb=>?_;try simp at hb)|intro (bk:Nat))
 refine HR.cond I (fun h6=>?_) (fun h6=>?_)
 ·have h6:(f.kd==4)=true:=h6
  have e:f.kd=4:=by simpa using h6
  have hf:=jFJ (f:=f) (by simp[e]) (by simp[e])
  repeat' (first|refine zh ?_|apply zb ?_ ?_|exact zc|(refine zi fun hb=>?_;try simp at hb)|intro (bk:Nat))
  refine HR.cond I (fun h5=>?_) (fun h5=>?_)
  ·have h5:(!(((f.fr != f.dst)&&(f.dst==255))&&(f.ta==255)))=true:=h5
   rw[← hf]at h5
   repeat' (first|refine zh ?_|apply zb ?_ ?_|exact zc|(refine zi fun hb=>?_;try simp at hb)|intro (bk:Nat))
   refine HR.ret Tryz.func162 I [_] (fun _ _=>⟨I,trivial⟩) ?_
   exact fun w' hw=>⟨by rw[jHZ hk h2 h3 (by simpa using h5)];rfl,hw.jE⟩
  ·have h5:(!(((f.fr != f.dst)&&(f.dst==255))&&(f.ta==255)))=false:=h5
   rw[← hf]at h5
   repeat' (first|refine zh ?_|apply zb ?_ ?_|exact zc|(refine zi fun hb=>?_;try simp at hb)|intro (bk:Nat))
   refine HR.ret Tryz.func162 I [_] (fun _ _=>⟨I,trivial⟩) ?_
   exact fun w' hw=>⟨by rw[jHa hk h2 h3 (by simpa using h5)];rfl,hw.jE⟩
 have h6:(f.kd==4)=false:=h6
 repeat' (first|refine zh ?_|apply zb ?_ ?_|exact zc|(refine zi fun hb=>?_;try simp at hb)|intro (bk:Nat))
 refine HR.cond I (fun h7=>?_) (fun h7=>?_)
 ·have h7:(f.kd==3)=true:=h7
  have hf:=jJq (f:=f) (by rw[h4,h6];rfl) h7
  repeat' (first|refine zh ?_|apply zb ?_ ?_|exact zc|(refine zi fun hb=>?_;try simp at hb)|intro (bk:Nat))
  refine HR.cond I (fun h5=>?_) (fun h5=>?_)
  ·have h5:(!(((f.fr != f.dst)&&(f.da==[]))&&(f.dst != 255)))=true:=h5
   rw[show (f.da==[])=decide (f.da=[]) by cases f.da<;>rfl,← hf]at h5
   repeat' (first|refine zh ?_|apply zb ?_ ?_|exact zc|(refine zi fun hb=>?_;try simp at hb)|intro (bk:Nat))
   refine HR.ret Tryz.func162 I [_] (fun _ _=>⟨I,trivial⟩) ?_
   exact fun w' hw=>⟨by rw[jHZ hk h2 h3 (by simpa using h5)];rfl,hw.jE⟩
  ·have h5:(!(((f.fr != f.dst)&&(f.da==[]))&&(f.dst != 255)))=false:=h5
   rw[show (f.da==[])=decide (f.da=[]) by cases f.da<;>rfl,← hf]at h5
   repeat' (first|refine zh ?_|apply zb ?_ ?_|exact zc|(refine zi fun hb=>?_;try simp at hb)|intro (bk:Nat))
   refine HR.ret Tryz.func162 I [_] (fun _ _=>⟨I,trivial⟩) ?_
   exact fun w' hw=>⟨by rw[jHa hk h2 h3 (by simpa using h5)];rfl,hw.jE⟩
 ·have h7:(f.kd==3)=false:=h7
  have hf:=jJr (f:=f) (by rw[h4,h6];rfl) h7
  repeat' (first|refine zh ?_|apply zb ?_ ?_|exact zc|(refine zi fun hb=>?_;try simp at hb)|intro (bk:Nat))
  refine HR.cond I (fun h5=>?_) (fun h5=>?_)
  ·have h5:(!(f.fr != f.dst))=true:=h5
   rw[← hf]at h5
   repeat' (first|refine zh ?_|apply zb ?_ ?_|exact zc|(refine zi fun hb=>?_;try simp at hb)|intro (bk:Nat))
   refine HR.ret Tryz.func162 I [_] (fun _ _=>⟨I,trivial⟩) ?_
   exact fun w' hw=>⟨by rw[jHZ hk h2 h3 (by simpa using h5)];rfl,hw.jE⟩
  ·have h5:(!(f.fr != f.dst))=false:=h5
   rw[← hf]at h5
   repeat' (first|refine zh ?_|apply zb ?_ ?_|exact zc|(refine zi fun hb=>?_;try simp at hb)|intro (bk:Nat))
   refine HR.ret Tryz.func162 I [_] (fun _ _=>⟨I,trivial⟩) ?_
   exact fun w' hw=>⟨by rw[jHa hk h2 h3 (by simpa using h5)];rfl,hw.jE⟩
end Go.Proofs.YtgfdoognildoeaaGreat
namespace Go.GX
open Go.RowKit
section
variable {P : Program} {ops : Array Oper} {Q : Exit → Act → World → Prop} {md : Region.Mode} {S : World → Prop} {T : List Nat} {listed : Array Bool}
def jCv (P:Program) (md:Region.Mode) (ops:Array Oper) (Q:Exit→Act→World→Prop) (S:World→Prop) (T:List Nat):Nat→Array Bool→Act→World→Prop
 |0,listed,a,w=>Region.ready md ops listed=[]∧Q .normal a w
 |fuel+1,listed,a,w=>
  (Region.ready md ops listed=[]→Q .normal a w)∧
  ∀i∈Region.ready md ops listed,wpOp P ops Q i (fun a' w'=>(kT i T=true∨S w')∧jCv P md ops Q S T fuel (listed.setIfInBounds i true) a' w') a w
theorem jCu:∀(fuel:Nat) (listed:Array Bool) (a:Act) (w:World),jCv P md ops Q S T fuel listed a w→wpAny P md ops Q fuel listed a w
 |0,_,_,_,h=>h
 |fuel+1,_,_,_,h=>⟨h.1,fun i hi=>wpOp_mono (fun a' w' h'=>jCu fuel _ a' w' h'.2) (h.2 i hi)⟩
def jGv (md:Region.Mode) (ops:Array Oper) (T:List Nat) (z:Nat):Bool:=(List.range ops.size).all fun i=>kT i T||kT i (jHe md ops 12 (jK6 md ops z))
theorem jFh {z:Nat} (hz:jGv md ops T z=true) (hc:Closed md ops listed) (hr:z∈Region.ready md ops listed) {i:Nat} (hi:i<ops.size) (hne:kT i T=false):listed.getD i false=true:=by
 have h1:=List.all_eq_true.1 hz i (List.mem_range.2 hi)
 rw[hne,Bool.false_or]at h1
 obtain ⟨_,oz,hoz,hall⟩:=mem_ready.1 hr
 refine ko hc 12 _ (fun y hy=>?_) i (KP h1)
 obtain ⟨o,ho,e,he,hb,rfl⟩:=jAu hy
 rw[hoz]at ho;cases ho
 exact hall e he hb
theorem jEU (hz:∀z,kT z T=true→jGv md ops T z=true) {i:Nat} {oi:Oper} {v:Value} (hi:ops[i]? =some oi) (hiz:kT i T=false) (hsel:∀(j:Nat) (o:Oper) cs b,ops[j]? =some o→o.op≠ .select cs b)
  (hQ:∀c a w,Q (.panic c) (a.put oi.dst v) w→Q (.panic c) a w):
  ∀(fuel:Nat) (listed:Array Bool) (a:Act) (w:World),Closed md ops listed→
   (∀ j oj,ops[j]? =some oj→j≠i→listed.getD j true=false→(∀ e∈oj.after,Region.binds md e=true→e.on≠i)→oi.apart ops oj=true)→
   i∈Region.ready md ops listed→YieldsIf P ops S oi v a→S w→
   jCv P md ops Q S T fuel (listed.setIfInBounds i true) (a.put oi.dst v) w→jCv P md ops Q S T (fuel+1) listed a w:=by
 intro fuel
 induction fuel with
 |zero=>
  intro listed a w _ _ hr hy hS H
  refine ⟨fun h=>(by rw[h]at hr;cases hr),fun j hj=>?_⟩
  by_cases hji:j=i
  ·subst hji;exact hy.wpOp hi hS ⟨.inr hS,H⟩
  ·have:=ready_mono hj hji
   rw[H.1]at this
   cases this
 |succ fuel ih=>
  intro listed a w hc hfree hr hy hS H
  refine ⟨fun h=>(by rw[h]at hr;cases hr),fun j hj=>?_⟩
  by_cases hji:j=i
  ·subst hji;exact hy.wpOp hi hS ⟨.inr hS,H⟩
  ·have h1:=H.2 j (ready_mono hj hji)
   obtain ⟨hjun,oj,hoj,hall⟩:=mem_ready.1 hj
   have h0:=(mem_ready.1 hr).1
   have hnot:∀e∈oj.after,Region.binds md e=true→e.on≠i:=fun e he hb heq=>by
    have h1:=hall e he hb
    rw[heq]at h1
    rw[jAf h1]at h0;cases h0
   have hjz:kT j T=false:=by
    rw[← Bool.not_eq_true]
    intro e
    have:=jFh (hz j e) hc hj (Array.getElem?_eq_some_iff.1 hi).1 hiz
    rw[jAf this]at h0;cases h0
   have h2:=wpOp_putIf hoj (hfree j oj hoj hji hjun hnot) (fun cs b=>hsel i oi cs b hi) (fun cs b=>hsel j oj cs b hoj) hQ hy h1
   have hfree':∀k ok,ops[k]? =some ok→k≠i→(listed.setIfInBounds j true).getD k true=false→
     (∀ e∈ok.after,Region.binds md e=true→e.on≠i)→oi.apart ops ok=true:=fun k ok hk hki hun hno=>by
    refine hfree k ok hk hki ?_ hno
    by_cases hjk:j=k
    ·subst hjk;exact hjun
    ·rw [getD_set_ne true hjk]at hun;exact hun
   refine wpOp_mono (fun a' w' h3=>?_) h2
   have hS':S w':=h3.2.1.resolve_left (by rw[hjz];nofun)
   refine ⟨.inr hS',ih (listed.setIfInBounds j true) a' w' (hc.set hj) hfree' (ready_mono hr (Ne.symm hji)) h3.1 hS' ?_⟩
   rw[Array.setIfInBounds_comm _ _ hji]
   exact h3.2.2
end
def jRJ (T:List Nat):List (Nat×Bool)→Bool
 |[]=>true
 |(i,_)::p=>match kT i T with
  |true=>false
  |false=>jRJ T p
def jAm (T:List Nat):List (Nat×Bool):=T.map fun z=>(z,false)
def jLD (ops:Array Oper) (p:List (Nat×Bool)) (T:List Nat):Bool:=Region.noSelect ops&&Nat.beq (p.length+T.length) ops.size&&jRJ T p&&T.all (jGv .any ops T)&&kQ ops (p++jAm T) (Array.replicate ops.size false)
section
variable {P : Program} {f : FuncId} {N : Nat} {k : List Item} {σ : Store} {B : Base} {H F : List Chunk} {R : Ending → World → Prop} {ops l : List Oper} {o : Oper} {K : Act → World → Prop} {S : World → Prop} {T : List Nat}
def jCs (P:Program) (ops:Array Oper) (K:Act→World→Prop):List Nat→Act→World→Prop
 |[],a,w=>K a w
 |z::l,a,w=>wpOp P ops (QN K) z (fun a w=>jCs P ops K l a w) a w
theorem K6 {ops:Array Oper}:∀(t:List Nat) (listed:Array Bool) (a:Act) (w:World),(∀ z∈t,kT z T=true)→kQ ops (jAm t) listed=true→jCs P ops K t a w→jCv P .any ops (QN K) S T t.length listed a w
 |[],listed,a,w,_,hB,h=>⟨by simpa[kQ,jAm]using hB,rfl,h⟩
 |z::t,listed,a,w,ht,hB,h=>by
  simp only[jAm,List.map_cons,kQ,Bool.and_eq_true,decide_eq_true_eq]at hB
  refine ⟨fun h0=>absurd (hB.1.symm.trans h0) (by simp),fun j hj=>?_⟩
  rw[hB.1]at hj
  have:j=z:=by simpa using hj
  subst this
  exact wpOp_mono (fun a' w' h'=>⟨.inl (ht j (List.mem_cons_self ..)),K6 t _ _ _ (fun y hy=>ht y (List.mem_cons_of_mem _ hy)) hB.2 h'⟩) h
theorem Zp {ops:Array Oper} (hn:Region.noSelect ops=true) (hz:∀z,kT z T=true→jGv .any ops T z=true):∀(p:List (Nat×Bool)) (listed:Array Bool) (a:Act) (w:World),S w→Closed .any ops listed→jRJ T p=true→
  kQ ops (p++jAm T) listed=true→jAL P ops S (fun a w=>jCs P ops K T a w) p a w→jCv P .any ops (QN K) S T (p.length+T.length) listed a w
 |[],listed,a,w,hS,_,_,hB,h=>by
  rw[List.length_nil,Nat.zero_add]
  exact K6 T listed a w (fun z hz=>jDu hz) hB h
 |(i,true)::p,listed,a,w,hS,hc,hnz,hB,h=>by
  obtain ⟨o,v,ho,hy,h⟩:=h
  simp only[List.cons_append,kQ,Bool.and_eq_true]at hB
  have hf:=Region.free_spec ho hB.1.2
  unfold jRJ at hnz
  split at hnz
  ·cases hnz
  ·rename_i hb
   have hr:i∈Region.ready .any ops listed:=by simpa using hB.1.1
   rw[List.length_cons,Nat.add_right_comm]
   exact jEU hz ho hb (Region.noSelect_spec hn) (fun c a w h=>absurd h.1 (by nofun)) _ listed a w hc hf hr hy hS (Zp hn hz p _ _ _ hS (hc.set hr) hnz hB.2 h)
 |(i,false)::p,listed,a,w,hS,hc,hnz,hB,h=>by
  simp only[List.cons_append,kQ,Bool.and_eq_true,decide_eq_true_eq]at hB
  rw[List.length_cons,Nat.add_right_comm]
  refine ⟨fun h0=>absurd (hB.1.symm.trans h0) (by simp),fun j hj=>?_⟩
  have hj0:=hj
  rw[hB.1]at hj
  have:j=i:=by simpa using hj
  subst this
  unfold jRJ at hnz
  split at hnz
  ·cases hnz
  ·exact jKE (wpOp_mono (fun a' w' h'=>⟨.inr h'.1,Zp hn hz p _ _ _ h'.1 (hc.set hj0) hnz hB.2 h'.2⟩) h)
def KW (P:Program) (ops:List Oper) (T:List Nat) (K:Act→World→Prop):Act→World→Prop:=fun a w=>jCs P ops.toArray K T a w
theorem HR.jPk (p:List (Nat×Bool)) (T:List Nat) (is:List Nat) (hF:jAV H is=some F) (hd:Ju is=true) {id:Nat} (hm:P.follows .mixedOrders=true) (hB:jLD ops.toArray p T=true)
  (h:HD P N ops p σ B H F (KW P ops T (K4 P f k R))):HR P f N (.code (.region id ops.toArray true)::k) σ B H R:=by
 intro w hw a ha
 simp only[jLD,Bool.and_eq_true]at hB
 obtain ⟨⟨⟨⟨h1,h2⟩,h3⟩,h4⟩,h5⟩:=hB
 have hb:Below w.heap.size w { w with drawn:=w.drawn+1 }:=⟨rfl,rfl,rfl,Nat.le_refl _,fun _ _=>rfl⟩
 have hw1:Sat B H { w with drawn:=w.drawn+1 }:=hw.grow hb
 refine K4.of_wp (wp_region_any hm (jCu (S:=fun w=>Sat B F w) (T:=T) _ _ _ _ ?_))
 have hsz:=(Nat.eq_of_beq_eq_true h2).symm
 rw[hsz]
 rw[hsz]at h5
 exact Zp h1 (fun z hz=>List.all_eq_true.1 h4 z (KP hz)) p _ _ _ (hw1.pick is hF hd) (Closed.start (Nat.eq_of_beq_eq_true h2)) h3 h5 (h _ hw1 (hw1.pick is hF hd) a ha)
def jHT (ops:List Oper):List Nat→Option (List Oper)
 |[]=>some []
 |z::l=>match ops[z]?,jHT ops l with
  |some o,some r=>some (o::r)
  |_,_=>none
theorem Zo:∀(T:List Nat) (l:List Oper),jHT ops T=some l→∀a w,wpList P ops.toArray (QN K) l a w→jCs P ops.toArray K T a w
 |[],l,hl,a,w,h=>by cases hl;exact h.2
 |z::T,l,hl,a,w,h=>by
  unfold jHT at hl
  split at hl
  ·rename_i o r ho hr
   cases hl
   unfold jCs
   unfold wpList at h
   simp only[wpOp,show ops.toArray[z]? =some o by simpa using ho]
   split
   ·rename_i hw'
    rw[if_pos hw']at h
    rcases h with h|h
    ·exact .inl (Oper.wp_mono (fun a' w' h'=>Zo T r hr a' w' h') h)
    ·exact (Kw (K:=K) h.2).elim
   ·rename_i hw'
    rw[if_neg hw']at h
    exact Zo T r hr _ _ h
  ·cases hl
theorem HD.tail (hl:jHT ops T=some l) (h:HL P N ops l σ B H K):HD P N ops [] σ B H F (KW P ops T K):=by
 intro w hw _ a ha
 exact Zo T l hl a w (h w hw a ha)
end
end Go.GX
namespace Go.Proofs.YtgfdoognildoeaaGreat
open Go.GX Go.RowKit
attribute [local irreducible] Calls Run jZ jf JK HR HL HD jT jG JY Rd jK jY
open Nd
theorem jPS:IsFn Tryz.prog 68:=⟨⟨_,_,Tryz.func68,rfl,by decide⟩⟩
structure OkN (w:World) (V:NV) (n:Nd):Prop where
 ta:Sl w (sv V.ta n.table.length) (cellsOf roC n.table) n.table.length
 li:Sl w (sv V.li n.links.length) (cellsOf liC n.links) n.links.length
 ou:Sl w (sv V.ou n.out.length) (cellsOf snC n.out) n.out.length
 ch:Sl w (sv V.ch n.children.length) (cellsOf iC n.children) n.children.length
 bo:Sl w (sv V.bo n.boxes.length) (cellsOf maC n.boxes) n.boxes.length
 se:Sl w (sv V.se n.seen.length) (cellsOf prC n.seen) n.seen.length
 pa:RdPts w (sv V.pa V.ps.length) V.ps
 ib:Sl w (sv V.ib n.inbox.length) (cellsOf deC n.inbox) n.inbox.length
 eq:pts V.ps=n.parts
structure SmN (n:Nd):Prop where
 ta:n.table.length≤1000
 li:n.links.length≤1000
 ou:n.out.length≤1000
 ch:n.children.length≤1000
 bo:n.boxes.length≤1000
 se:n.seen.length≤1000
 pa:n.parts.length≤1000
 ib:n.inbox.length≤1000
 sm:∀p∈n.parts,jER p
theorem OkN.ext {w w':World} {V:NV} {n:Nd} (h:OkN w V n) (hb:Below w.heap.size w w'):OkN w' V n:=⟨h.ta.ext hb,h.li.ext hb,h.ou.ext hb,h.ch.ext hb,h.bo.ext hb,h.se.ext hb,h.pa.ext hb,h.ib.ext hb,h.eq⟩
theorem Sl.pre {α:Type} {E:α→List Value} {sz:Nat} (hE:∀a,(E a).length=sz) {w:World} {l m:List α} {v:Value} (hv:Sl w v (cellsOf E l) l.length) {k:Nat} (hk:k≤l.length) (hm:m=l.take k):Sl w (kF sz v 0 k) (cellsOf E m) m.length:=by
 subst hm
 exact (Rd.pre hE (B:=base w) (H:=[]) (Rd.arg hv) hk).at (Sat.start w)
theorem Sl.suf {α:Type} {E:α→List Value} {sz:Nat} (hE:∀a,(E a).length=sz) {w:World} {l m:List α} {v:Value} (hv:Sl w v (cellsOf E l) l.length) {k:Nat} (hk:k≤l.length) (hm:m=l.drop k):Sl w (kF sz v k l.length) (cellsOf E m) m.length:=by
 subst hm
 exact (Rd.suf hE (B:=base w) (H:=[]) (Rd.arg hv) hk).at (Sat.start w)
theorem jPU (n:Int):clamp (clamp n 0 250) 0 250=clamp n 0 250:=by unfold clamp;omega
theorem jGb (a:Int) (l:List Int):kids a l=Tf.dif (l.filter fun c=>Tp.okN c&&!(c==a)):=by
 refine jEK (Kq a l).1 (Tf.jQi _) fun x=>?_
 rw[(Kq a l).2,Tf.jQh,List.mem_filter]
 simp
theorem jP2 (k n:Nat):(if (k:Int)<(n:Int)then (k:Int)else (n:Int))=((min n k:Nat):Int):=by split<;>omega
theorem jBn {α:Type} (l:List α) (k:Nat):l.take k=l.take (min l.length k):=by
 by_cases h:l.length≤k
 ·rw [Nat.min_eq_left h,List.take_length,List.take_of_length_le h]
 ·rw [Nat.min_eq_right (by omega)]
theorem ZF (V:NV) (n:Nd) (now:Int) (w:World) (h:OkN w V n) (hs:SmN n):
  Calls Tryz.prog 68 #[.agg ⟨ndC V n⟩,.int .i64 now] w fun e w'=>∃x:Nat×NV,e= .returned (ptr x.1)∧Pts x.2 (order n)∧Sat (base w) (stH x.1 x.2 (order n) (tick now)) w':=by
 have l1:=hs.ta
 have l2:=hs.li
 have l3:=hs.ou
 have l4:=hs.ch
 have l5:=hs.bo
 have l6:=hs.se
 have l7:=hs.ib
 have l8:V.ps.length≤1000:=by rw[← JH,h.eq];exact hs.pa
 obtain ⟨m,hm⟩:∃m,m=order n:=⟨_,rfl⟩
 have e_ad:m.addr=clamp n.addr 0 250:=by rw[hm];rfl
 have e_po:m.poll=if n.poll<1 then 0 else max n.poll 4:=by rw[hm];rfl
 have e_pr:m.parent=if Tp.okN n.parent=false∨n.parent=m.addr then 255 else n.parent:=by rw[hm];rfl
 have e_ta:m.table=if jAR n.table m.addr=0 then n.table else [jG9 m.addr]:=by rw[hm];rfl
 have e_li:m.links=if jCA n.links=0 then n.links else []:=by rw[hm];rfl
 have e_ou:m.out=n.out.take (min n.out.length 16):=by rw[hm,← jBn];rfl
 have e_ch:m.children=Tf.dif (n.children.filter fun c=>Tp.okN c&&!(c==m.addr)):=by rw[← jGb,hm];rfl
 have e_bo:m.boxes=n.boxes.take (min n.boxes.length 16):=by rw[hm,← jBn];rfl
 have e_se:m.seen=n.seen.drop (n.seen.length-32):=by rw[hm];rfl
 have e_pa:m.parts=n.parts:=by rw[hm];rfl
 have e_ib:m.inbox=n.inbox.take (min n.inbox.length 256):=by rw[hm,← jBn];rfl
 have e_sq:m.seq=if n.seq<0∨n.seq>65535 then 0 else n.seq:=by rw[hm];rfl
 have e_lo:m.lost=clamp n.lost 0 1099511627776:=by rw[hm];rfl
 have e_nw:jKm m.addr=[jG9 m.addr]:=by rw[e_ad];unfold jKm lim;rw[jPU]
 have s_ou:=Sl.pre JE h.ou (Nat.min_le_left _ _) e_ou
 have s_bo:=Sl.pre zU h.bo (Nat.min_le_left _ _) e_bo
 have s_se:=Sl.suf jAv h.se (Nat.sub_le _ _) e_se
 have s_ib:=Sl.pre jEE h.ib (Nat.min_le_left _ _) e_ib
 have k3:m.out.length≤16:=by rw[e_ou,List.length_take];omega
 have k5:m.boxes.length≤16:=by rw[e_bo,List.length_take];omega
 have k6:m.seen.length≤32:=by rw[e_se,List.length_drop];omega
 have k7:m.inbox.length≤256:=by rw[e_ib,List.length_take];omega
 rw[← hm]
 refine jD Tryz.func68 I (Nat.le_of_ble_eq_true I) ?_
 refine HR.sub (σ':=[(0,.agg ⟨ndC V n⟩),(1,.int .i64 now)]) ⟨I,I,trivial⟩ ?_
 refine HR.ctl I ?_
 refine HR.region ?_
 refine HL.box I I ?_
 intro b1
 repeat' (first|refine zh ?_|intro (bk:Nat))
 refine HR.j4 [(0,true),(1,true),(2,false),(3,true),(4,false),(5,true)] [0] I I Jc (by kernel_rfl) ?_
 repeat' (first|refine zd ?_|fail)
 refine HD.one I ?_
 refine HL.jR jQV I I (fun w _=>jDt now 0 1099511627776 w) ?_
 refine HL.back [0] I I ?_
 repeat' (first|refine zd ?_|fail)
 refine HD.one I ?_
 refine HL.box I I ?_
 intro b
 refine HL.back [1] I I ?_
 repeat' (first|refine zd ?_|fail)
 refine HD.nil ?_
 repeat' (first|refine zh ?_|refine HL.jR jQV I I (fun w _=>jDt n.addr 0 250 w) ?_|intro (bk:Nat))
 refine HR.join (ι:=Unit) (fun _=>True) (fun _=>[(2,ptr b1),(5,ptr b)]) (fun _=>[jT b [.int .i64 m.addr,.int .i64 m.poll,.int .i64 n.parent,sv V.ta n.table.length,sv V.li n.links.length,sv V.ou n.out.length,sv V.ch n.children.length,sv V.bo n.boxes.length,sv V.se n.seen.length,sv V.pa V.ps.length,sv V.ib n.inbox.length,.int .i64 n.seq,.int .i64 n.lost,.int .i64 (tick now)] 113,jT b1 (ndC V n) 62]) (fun _ _=>?_) (fun hj=>?_)
 rotate_left
 ·refine HR.cond I (fun h=>?_) (fun h=>?_)
  ·have h:n.poll<1:=of_decide_eq_true h
   refine HR.region ?_
   repeat' (first|refine zn ?_|apply zb ?_ ?_|exact zc|(refine zi fun hb=>?_;try simp at hb)|intro (bk:Nat))
   refine hj () _ _ trivial ⟨I,I,trivial⟩ (Ent.of_eq ?_)
   rw[e_po,if_pos h,e_ad];rfl
  ·have h:¬n.poll<1:=of_decide_eq_false h
   refine HR.region ?_
   repeat' (first|refine zn ?_|apply zb ?_ ?_|exact zc|(refine zi fun hb=>?_;try simp at hb)|intro (bk:Nat))
   refine hj () _ _ trivial ⟨I,I,trivial⟩ (Ent.of_eq ?_)
   rw[show m.poll=(if (4:Int)>n.poll then 4 else n.poll)from by rw[e_po,if_neg h];split<;>omega,e_ad];rfl
 repeat' (first|refine zh ?_|intro (bk:Nat))
 refine HR.join (ι:=Unit) (fun _=>True) (fun _=>[(2,ptr b1),(5,ptr b),(49,.bool (!Tp.okN n.parent||(n.parent==m.addr)))]) (fun _=>[jT b [.int .i64 m.addr,.int .i64 m.poll,.int .i64 n.parent,sv V.ta n.table.length,sv V.li n.links.length,sv V.ou n.out.length,sv V.ch n.children.length,sv V.bo n.boxes.length,sv V.se n.seen.length,sv V.pa V.ps.length,sv V.ib n.inbox.length,.int .i64 n.seq,.int .i64 n.lost,.int .i64 (tick now)] 113,jT b1 (ndC V n) 62]) (fun _ _=>?_) (fun hj=>?_)
 rotate_left
 ·refine HR.j4 [(0,true),(1,true),(2,false),(3,true),(4,true),(5,true),(6,true),(7,true),(8,true),(9,true),(10,true),(11,true),(12,true),(13,true)] [0,1] I I Jc (by kernel_rfl) ?_
  repeat' (first|refine zd ?_|fail)
  refine HD.one I ?_
  refine HL.jR jRd I I (fun w _=>Z9 n.parent w) ?_
  refine HL.back [0,1] I I ?_
  refine HD.ev I I I ?_
  refine HD.ev I I I ?_
  refine HD.split 40 I (fun hb=>?_) (fun hb=>?_)
  ·repeat' (first|refine zd ?_|fail)
   refine HD.nil ?_
   refine hj () _ _ trivial ⟨rfl,rfl,?_,trivial⟩ Ent.refl
   show some (Value.bool true)=some (Value.bool (!Tp.okN n.parent||(n.parent==m.addr)))
   rw[show (!Tp.okN n.parent)=true from hb];rfl
  ·repeat' (first|refine zd ?_|fail)
   refine HD.nil ?_
   refine hj () _ _ trivial ⟨rfl,rfl,?_,trivial⟩ Ent.refl
   show some (Value.bool (n.parent==m.addr))=some (Value.bool (!Tp.okN n.parent||(n.parent==m.addr)))
   rw[show (!Tp.okN n.parent)=false from hb];rfl
 refine HR.join (ι:=Unit) (fun _=>True) (fun _=>[(2,ptr b1),(5,ptr b)]) (fun _=>[jT b [.int .i64 m.addr,.int .i64 m.poll,.int .i64 m.parent,sv V.ta n.table.length,sv V.li n.links.length,sv V.ou n.out.length,sv V.ch n.children.length,sv V.bo n.boxes.length,sv V.se n.seen.length,sv V.pa V.ps.length,sv V.ib n.inbox.length,.int .i64 n.seq,.int .i64 n.lost,.int .i64 (tick now)] 113,jT b1 (ndC V n) 62]) (fun _ _=>?_) (fun hj=>?_)
 rotate_left
 ·refine HR.cond I (fun h=>?_) (fun h=>?_)
  ·have h:(!Tp.okN n.parent||(n.parent==m.addr))=true:=h
   have h2:Tp.okN n.parent=false∨n.parent=m.addr:=by simpa using h
   refine HR.region ?_
   repeat' (first|refine zn ?_|apply zb ?_ ?_|exact zc|(refine zi fun hb=>?_;try simp at hb)|intro (bk:Nat))
   refine hj () _ _ trivial ⟨I,I,trivial⟩ (Ent.of_eq ?_)
   rw[e_pr,if_pos h2];rfl
  ·have h:(!Tp.okN n.parent||(n.parent==m.addr))=false:=h
   have h2:¬(Tp.okN n.parent=false∨n.parent=m.addr):=by simpa using h
   refine HR.skip ?_
   refine hj () _ _ trivial ⟨I,I,trivial⟩ (Ent.of_eq ?_)
   rw[e_pr,if_neg h2]
 repeat' (first|refine zh ?_|refine HL.JQ fn61 I I (fun w hw=>ku n.table _ w ((Rd.arg h.ta).at hw) l1) ?_|intro (bk:Nat))
 intro v1
 refine HL.shape 0 I fun a c hv=>?_
 subst hv
 repeat' (first|refine zh ?_|intro (bk:Nat))
 refine HR.ent (H':=[jT b [.int .i64 m.addr,.int .i64 m.poll,.int .i64 m.parent,.slice a n.table.length c,sv V.li n.links.length,sv V.ou n.out.length,sv V.ch n.children.length,sv V.bo n.boxes.length,sv V.se n.seen.length,sv V.pa V.ps.length,sv V.ib n.inbox.length,.int .i64 n.seq,.int .i64 n.lost,.int .i64 (tick now)] 113,jT b1 (ndC V n) 62,cTa (.slice a n.table.length c) n.table]) (Ent.pick [1,2,0] I I) ?_
 refine HR.j4 [(0,true),(1,true),(2,true),(3,true),(4,true),(5,true),(6,true),(7,false),(8,true)] [0,1] I I Jc (by kernel_rfl) ?_
 repeat' (first|refine zd ?_|fail)
 refine HD.one I ?_
 refine HL.jR jRz I I (fun w hw=>jC4 n.table m.addr _ w ((Rd.arg h.ta).at hw) l1) ?_
 refine HL.back [0,1] I I ?_
 repeat' (first|refine zd ?_|fail)
 refine HD.nil ?_
 refine HR.join (ι:=SV) (fun _=>True) (fun _=>[(2,ptr b1),(5,ptr b)]) (fun x=>[jT b [.int .i64 m.addr,.int .i64 m.poll,.int .i64 m.parent,sv x m.table.length,sv V.li n.links.length,sv V.ou n.out.length,sv V.ch n.children.length,sv V.bo n.boxes.length,sv V.se n.seen.length,sv V.pa V.ps.length,sv V.ib n.inbox.length,.int .i64 n.seq,.int .i64 n.lost,.int .i64 (tick now)] 113,jT b1 (ndC V n) 62,cTa (sv x m.table.length) m.table]) (fun xt _=>?_) (fun hj=>?_)
 rotate_left
 ·refine HR.cond I (fun h2=>?_) (fun h2=>?_)
  ·have h2:¬jAR n.table m.addr=0:=by simpa using h2
   refine HR.region ?_
   repeat' (first|refine zn ?_|refine HL.JQ fn69 I I (fun w _=>jDh m.addr w) ?_|apply zb ?_ ?_|exact zc|(refine zi fun hb=>?_;try simp at hb)|intro (bk:Nat))
   intro v2
   refine HL.shape 0 I fun a2 c2 hv=>?_
   subst hv
   repeat' (first|refine zn ?_|apply zb ?_ ?_|exact zc|(refine zi fun hb=>?_;try simp at hb)|intro (bk:Nat))
   refine hj (a2,c2) _ _ trivial ⟨I,I,trivial⟩ ?_
   rw[e_ta,if_neg h2,← e_nw]
   exact Ent.pick [1,2,0] I I
  ·have h2:jAR n.table m.addr=0:=by simpa using h2
   refine HR.skip ?_
   refine hj (a,c) _ _ trivial ⟨I,I,trivial⟩ ?_
   rw[e_ta,if_pos h2]
   exact Ent.refl
 repeat' (first|refine zh ?_|refine HL.JQ jRy I I (fun w hw=>jCP n.links _ w ((Rd.arg h.li).at hw) l2) ?_|intro (bk:Nat))
 intro v1
 refine HL.shape 0 I fun a c hv=>?_
 subst hv
 repeat' (first|refine zh ?_|refine HL.jR jRx I I (fun w hw=>jDG n.links _ w ((Rd.arg h.li).at hw) l2) ?_|intro (bk:Nat))
 refine HR.ent (H':=[jT b [.int .i64 m.addr,.int .i64 m.poll,.int .i64 m.parent,sv xt m.table.length,.slice a n.links.length c,sv V.ou n.out.length,sv V.ch n.children.length,sv V.bo n.boxes.length,sv V.se n.seen.length,sv V.pa V.ps.length,sv V.ib n.inbox.length,.int .i64 n.seq,.int .i64 n.lost,.int .i64 (tick now)] 113,jT b1 (ndC V n) 62,cTa (sv xt m.table.length) m.table,cLi (.slice a n.links.length c) n.links]) (Ent.pick [1,2,3,0] I I) ?_
 refine HR.join (ι:=SV) (fun _=>True) (fun _=>[(2,ptr b1),(5,ptr b)]) (fun x=>[jT b [.int .i64 m.addr,.int .i64 m.poll,.int .i64 m.parent,sv xt m.table.length,sv x m.links.length,sv V.ou n.out.length,sv V.ch n.children.length,sv V.bo n.boxes.length,sv V.se n.seen.length,sv V.pa V.ps.length,sv V.ib n.inbox.length,.int .i64 n.seq,.int .i64 n.lost,.int .i64 (tick now)] 113,jT b1 (ndC V n) 62,cTa (sv xt m.table.length) m.table,cLi (sv x m.links.length) m.links]) (fun xl _=>?_) (fun hj=>?_)
 rotate_left
 ·refine HR.cond I (fun h2=>?_) (fun h2=>?_)
  ·have h2:¬jCA n.links=0:=by simpa using h2
   refine HR.region ?_
   repeat' (first|refine zn ?_|apply zb ?_ ?_|exact zc|(refine zi fun hb=>?_;try simp at hb)|intro (bk:Nat))
   refine HR.ZC 162 3 ?_
   refine hj (none,0) _ _ trivial ⟨I,I,trivial⟩ ?_
   rw[e_li,if_neg h2]
   exact Ent.pick [1,2,3,0] I I
  ·have h2:jCA n.links=0:=by simpa using h2
   refine HR.skip ?_
   refine hj (a,c) _ _ trivial ⟨I,I,trivial⟩ ?_
   rw[e_li,if_pos h2]
   exact Ent.refl
 repeat' (first|refine zh ?_|intro (bk:Nat))
 refine HL.ZU 101 (v':= .int .i64 ((min n.out.length 16:Nat):Int)) I (by rw[← jP2];rfl) ?_
 repeat' (first|refine zh ?_|refine HL.jAo (sz:=11) 0 (min n.out.length 16) (Rd.arg h.ou) I I I I (.inl ⟨rfl,rfl⟩) (.inr ⟨_,_,_,rfl,rfl,rfl⟩) (Nat.zero_le _) (Nat.min_le_left _ _) ?_|refine HL.JQ jNs I I (fun w hw=>kr m.out _ w ((Rd.arg s_ou).at hw) (by omega)) ?_|intro (bk:Nat))
 intro v1
 refine HL.shape 0 I fun a3 c3 hv=>?_
 subst hv
 refine HL.ent (H':=[jT b [.int .i64 m.addr,.int .i64 m.poll,.int .i64 m.parent,sv xt m.table.length,sv xl m.links.length,sv V.ou n.out.length,sv V.ch n.children.length,sv V.bo n.boxes.length,sv V.se n.seen.length,sv V.pa V.ps.length,sv V.ib n.inbox.length,.int .i64 n.seq,.int .i64 n.lost,.int .i64 (tick now)] 113,jT b1 (ndC V n) 62,cTa (sv xt m.table.length) m.table,cLi (sv xl m.links.length) m.links,cSn (.slice a3 m.out.length c3) m.out]) (Ent.pick [1,2,3,4,0] I I) ?_
 repeat' (first|refine zh ?_|intro (bk:Nat))
 refine HL.ZU 113 (v':= .int .i64 ((min n.boxes.length 16:Nat):Int)) I (by rw[← jP2];rfl) ?_
 repeat' (first|refine zh ?_|refine HL.jAo (sz:=10) 0 (min n.boxes.length 16) (Rd.arg h.bo) I I I I (.inl ⟨rfl,rfl⟩) (.inr ⟨_,_,_,rfl,rfl,rfl⟩) (Nat.zero_le _) (Nat.min_le_left _ _) ?_|refine HL.JQ jQU I I (fun w hw=>jAG m.boxes _ w ((Rd.arg s_bo).at hw) (by omega)) ?_|intro (bk:Nat))
 intro v1
 refine HL.shape 0 I fun a5 c5 hv=>?_
 subst hv
 refine HL.ent (H':=[jT b [.int .i64 m.addr,.int .i64 m.poll,.int .i64 m.parent,sv xt m.table.length,sv xl m.links.length,.slice a3 m.out.length c3,sv V.ch n.children.length,sv V.bo n.boxes.length,sv V.se n.seen.length,sv V.pa V.ps.length,sv V.ib n.inbox.length,.int .i64 n.seq,.int .i64 n.lost,.int .i64 (tick now)] 113,jT b1 (ndC V n) 62,cTa (sv xt m.table.length) m.table,cLi (sv xl m.links.length) m.links,cSn (.slice a3 m.out.length c3) m.out,cMa (.slice a5 m.boxes.length c5) m.boxes]) (Ent.pick [1,2,3,4,5,0] I I) ?_
 repeat' (first|refine zh ?_|intro (bk:Nat))
 refine HR.ZC 3 1 ?_
 obtain ⟨g,hg⟩:∃g:Nat→List Int,g=fun k=>(n.children.take k).filter fun c=>Tp.okN c&&!(c==m.addr):=⟨_,rfl⟩
 have hgl:∀k,(g k).length≤1000:=fun k=>by rw[hg];exact Nat.le_trans (List.length_filter_le _ _) (by rw[List.length_take];omega)
 refine HR.loop (ι:=Nat×SV) (fun x=>x.1≤n.children.length) (fun x=>[(2,ptr b1),(5,ptr b),(124,sv V.ch n.children.length),(125,.int .i64 (n.children.length:Int)),(126,.int .i64 (x.1:Int))]) (fun x=>[jT b [.int .i64 m.addr,.int .i64 m.poll,.int .i64 m.parent,sv xt m.table.length,sv xl m.links.length,.slice a3 m.out.length c3,sv x.2 (g x.1).length,.slice a5 m.boxes.length c5,sv V.se n.seen.length,sv V.pa V.ps.length,sv V.ib n.inbox.length,.int .i64 n.seq,.int .i64 n.lost,.int .i64 (tick now)] 113,jT b1 (ndC V n) 62,cTa (sv xt m.table.length) m.table,cLi (sv xl m.links.length) m.links,cSn (.slice a3 m.out.length c3) m.out,cMa (.slice a5 m.boxes.length c5) m.boxes,cI (sv x.2 (g x.1).length) (g x.1)]) (fun x=>n.children.length-x.1) (0,none,0) (Nat.zero_le _) ⟨I,I,I,I,I,trivial⟩ (by rw[hg];exact Ent.pick [1,2,3,4,5,6,0] I I) ?_
 rintro ⟨k,x⟩ hk ih
 have hk:k≤n.children.length:=hk
 have hgk:(g (k,x).fst).length≤1000:=hgl k
 repeat' (first|refine zh ?_|intro (bk:Nat))
 refine HR.cond I (fun h2=>?_) (fun h2=>?_)
 ·have hlt:k<n.children.length:=by have:=of_decide_eq_true h2;omega
  obtain ⟨c,hc⟩:=jJ hlt
  have hgs:=K9 (p:=fun c=>Tp.okN c&&!(c==m.addr)) hc
  have hgs:g (k+1)=if (Tp.okN c&&!(c==m.addr))=true then g k++[c]else g k:=by rw[hg];exact hgs
  repeat' (first|refine zh ?_|refine HL.JA (Rd.arg h.ch) Jw k I I I I hlt ?_|refine HL.ji (Rd.arg h.ch) I I I I (jW hc) ?_|refine HL.jR jRd I I (fun w _=>Z9 c w) ?_|apply zb ?_ ?_|exact zc|(refine zi fun hb=>?_;try simp at hb)|intro (bk:Nat))
  refine HR.cond I (fun h3=>?_) (fun h3=>?_)
  ·have h3:(Tp.okN c&&!(c==m.addr))=true:=h3
   rw[if_pos h3]at hgs
   repeat' (first|refine zh ?_|intro (bk:Nat))
   refine HL.jv Jw I I I I I (by decide) (by decide) ?_
   intro va
   refine HL.ZN 7 I Jw (Rd.own 0 I) I I I I (jF I) (by omega) (by omega) ?_
   intro v2
   refine HL.shape 7 I fun a2 c2 hv=>?_
   subst hv
   repeat' (first|refine zh ?_|intro (bk:Nat))
   refine ih (k+1,a2,c2) _ _ hlt (by show n.children.length-(k+1)<n.children.length-k;omega) ⟨I,I,I,I,I,trivial⟩ ?_
   show Ent _ _ [jT b [.int .i64 m.addr,.int .i64 m.poll,.int .i64 m.parent,sv xt m.table.length,sv xl m.links.length,.slice a3 m.out.length c3,.slice a2 (g (k+1)).length c2,.slice a5 m.boxes.length c5,sv V.se n.seen.length,sv V.pa V.ps.length,sv V.ib n.inbox.length,.int .i64 n.seq,.int .i64 n.lost,.int .i64 (tick now)] 113,jT b1 (ndC V n) 62,cTa (sv xt m.table.length) m.table,cLi (sv xl m.links.length) m.links,cSn (.slice a3 m.out.length c3) m.out,cMa (.slice a5 m.boxes.length c5) m.boxes,jG (.slice a2 (g (k+1)).length c2) 3 1 (g (k+1)).length (cellsOf iC (g (k+1)))]
   rw[show (g (k+1)).length=(g k).length+1 from by rw[hgs];simp,show cellsOf iC (g (k+1))=cellsOf iC (g k)++iC c from by rw[hgs,jP];rfl]
   exact Ent.pick [1,2,3,4,5,6,7] I I
  ·have h3:(Tp.okN c&&!(c==m.addr))=false:=h3
   rw[if_neg (by rw[h3];decide)]at hgs
   repeat' (first|refine zh ?_|intro (bk:Nat))
   refine ih (k+1,x) _ _ hlt (by show n.children.length-(k+1)<n.children.length-k;omega) ⟨I,I,I,I,I,trivial⟩ ?_
   show Ent _ _ [jT b [.int .i64 m.addr,.int .i64 m.poll,.int .i64 m.parent,sv xt m.table.length,sv xl m.links.length,.slice a3 m.out.length c3,sv x (g (k+1)).length,.slice a5 m.boxes.length c5,sv V.se n.seen.length,sv V.pa V.ps.length,sv V.ib n.inbox.length,.int .i64 n.seq,.int .i64 n.lost,.int .i64 (tick now)] 113,jT b1 (ndC V n) 62,cTa (sv xt m.table.length) m.table,cLi (sv xl m.links.length) m.links,cSn (.slice a3 m.out.length c3) m.out,cMa (.slice a5 m.boxes.length c5) m.boxes,cI (sv x (g (k+1)).length) (g (k+1))]
   rw[hgs]
   exact Ent.refl
 have hke:k=n.children.length:=by have:=of_decide_eq_false h2;omega
 subst hke
 obtain ⟨L,hL⟩:∃L,L=g n.children.length:=⟨_,rfl⟩
 have hLe:L=n.children.filter fun c=>Tp.okN c&&!(c==m.addr):=by rw[hL,hg];show (n.children.take n.children.length).filter _=_;rw[List.take_length]
 have hLl:L.length≤1000:=by rw[hL];exact hgl _
 have hLd:Tf.dif L=m.children:=by rw[e_ch,hLe]
 refine HR.ent (H':=[jT b [.int .i64 m.addr,.int .i64 m.poll,.int .i64 m.parent,sv xt m.table.length,sv xl m.links.length,.slice a3 m.out.length c3,sv x L.length,.slice a5 m.boxes.length c5,sv V.se n.seen.length,sv V.pa V.ps.length,sv V.ib n.inbox.length,.int .i64 n.seq,.int .i64 n.lost,.int .i64 (tick now)] 113,jT b1 (ndC V n) 62,cTa (sv xt m.table.length) m.table,cLi (sv xl m.links.length) m.links,cSn (.slice a3 m.out.length c3) m.out,cMa (.slice a5 m.boxes.length c5) m.boxes,cI (sv x L.length) L]) (Ent.of_eq (by rw[hL])) ?_
 refine HR.ent (H':=[cI (sv x L.length) L,jT b [.int .i64 m.addr,.int .i64 m.poll,.int .i64 m.parent,sv xt m.table.length,sv xl m.links.length,.slice a3 m.out.length c3,sv x L.length,.slice a5 m.boxes.length c5,sv V.se n.seen.length,sv V.pa V.ps.length,sv V.ib n.inbox.length,.int .i64 n.seq,.int .i64 n.lost,.int .i64 (tick now)] 113,jT b1 (ndC V n) 62,cTa (sv xt m.table.length) m.table,cLi (sv xl m.links.length) m.links,cSn (.slice a3 m.out.length c3) m.out,cMa (.slice a5 m.boxes.length c5) m.boxes]) (Ent.pick [6,0,1,2,3,4,5] I I) ?_
 repeat' (first|refine zh ?_|intro (bk:Nat))
 refine HL.Jh (r:=fun _:Unit=> .tuple #[]) (Q:=fun _=>True) (G0:=[cI (sv x L.length) L]) (H0:=[jT b [.int .i64 m.addr,.int .i64 m.poll,.int .i64 m.parent,sv xt m.table.length,sv xl m.links.length,.slice a3 m.out.length c3,sv x L.length,.slice a5 m.boxes.length c5,sv V.se n.seen.length,sv V.pa V.ps.length,sv V.ib n.inbox.length,.int .i64 n.seq,.int .i64 n.lost,.int .i64 (tick now)] 113,jT b1 (ndC V n) 62,cTa (sv xt m.table.length) m.table,cLi (sv xl m.links.length) m.links,cSn (.slice a3 m.out.length c3) m.out,cMa (.slice a5 m.boxes.length c5) m.boxes]) (G:=fun _=>[jG (sv x L.length) 3 1 L.length (cellsOf iC (Tf.srt L))]) jQT I I I (fun w hw=>jBo _ _ L w (hw.vw (i:=0) I) (by omega)) ?_
 intro _ _
 repeat' (first|refine zh ?_|intro (bk:Nat))
 refine HL.Jh (r:=fun z:Value=>z) (Q:=fun _=>True) (G0:=[jG (sv x L.length) 3 1 L.length (cellsOf iC (Tf.srt L))]) (H0:=[jT b [.int .i64 m.addr,.int .i64 m.poll,.int .i64 m.parent,sv xt m.table.length,sv xl m.links.length,.slice a3 m.out.length c3,sv x L.length,.slice a5 m.boxes.length c5,sv V.se n.seen.length,sv V.pa V.ps.length,sv V.ib n.inbox.length,.int .i64 n.seq,.int .i64 n.lost,.int .i64 (tick now)] 113,jT b1 (ndC V n) 62,cTa (sv xt m.table.length) m.table,cLi (sv xl m.links.length) m.links,cSn (.slice a3 m.out.length c3) m.out,cMa (.slice a5 m.boxes.length c5) m.boxes]) (G:=fun z=>[jG z 3 1 (Tf.dif L).length (cellsOf iC (Tf.dif L))]) fn136 I I I (fun w hw=>jFR _ _ (Tf.srt L) w (hw.vw (i:=0) I) (by omega)) ?_
 intro z _
 rw[hLd]
 refine HL.shape 0 I fun a4 c4 hv=>?_
 subst hv
 refine HL.ent (H':=[jT b [.int .i64 m.addr,.int .i64 m.poll,.int .i64 m.parent,sv xt m.table.length,sv xl m.links.length,.slice a3 m.out.length c3,sv x L.length,.slice a5 m.boxes.length c5,sv V.se n.seen.length,sv V.pa V.ps.length,sv V.ib n.inbox.length,.int .i64 n.seq,.int .i64 n.lost,.int .i64 (tick now)] 113,jT b1 (ndC V n) 62,cTa (sv xt m.table.length) m.table,cLi (sv xl m.links.length) m.links,cSn (.slice a3 m.out.length c3) m.out,cMa (.slice a5 m.boxes.length c5) m.boxes,cI (.slice a4 m.children.length c4) m.children]) (Ent.pick [1,2,3,4,5,6,0] I I) ?_
 repeat' (first|refine zh ?_|intro (bk:Nat))
 refine HL.ZU 177 (v':= .int .i64 ((n.seen.length-32:Nat):Int)) I (by rw[← max0]) ?_
 repeat' (first|refine zh ?_|refine HL.jAo (sz:=2) (n.seen.length-32) n.seen.length (Rd.arg h.se) I I I I (.inr ⟨_,_,_,rfl,rfl,rfl⟩) (.inl ⟨rfl,rfl⟩) (Nat.sub_le _ _) (Nat.le_refl _) ?_|refine HL.JQ jQS I I (fun w hw=>jAF m.seen _ w ((Rd.arg s_se).at hw) (by omega)) ?_|intro (bk:Nat))
 intro v1
 refine HL.shape 0 I fun a6 c6 hv=>?_
 subst hv
 refine HL.ent (H':=[jT b [.int .i64 m.addr,.int .i64 m.poll,.int .i64 m.parent,sv xt m.table.length,sv xl m.links.length,.slice a3 m.out.length c3,.slice a4 m.children.length c4,.slice a5 m.boxes.length c5,sv V.se n.seen.length,sv V.pa V.ps.length,sv V.ib n.inbox.length,.int .i64 n.seq,.int .i64 n.lost,.int .i64 (tick now)] 113,jT b1 (ndC V n) 62,cTa (sv xt m.table.length) m.table,cLi (sv xl m.links.length) m.links,cSn (.slice a3 m.out.length c3) m.out,cMa (.slice a5 m.boxes.length c5) m.boxes,cI (.slice a4 m.children.length c4) m.children,cPr (.slice a6 m.seen.length c6) m.seen]) (Ent.pick [1,2,3,4,5,6,7,0] I I) ?_
 repeat' (first|refine zh ?_|intro (bk:Nat))
 refine HL.ZU 189 (v':= .int .i64 ((min n.inbox.length 256:Nat):Int)) I (by rw[← jP2];rfl) ?_
 repeat' (first|refine zh ?_|refine HL.jAo (sz:=2) 0 (min n.inbox.length 256) (Rd.arg h.ib) I I I I (.inl ⟨rfl,rfl⟩) (.inr ⟨_,_,_,rfl,rfl,rfl⟩) (Nat.zero_le _) (Nat.min_le_left _ _) ?_|refine HL.JQ fn59 I I (fun w hw=>jAH m.inbox _ w ((Rd.arg s_ib).at hw) (by omega)) ?_|intro (bk:Nat))
 intro v1
 refine HL.shape 0 I fun a7 c7 hv=>?_
 subst hv
 refine HL.ent (H':=[jT b [.int .i64 m.addr,.int .i64 m.poll,.int .i64 m.parent,sv xt m.table.length,sv xl m.links.length,.slice a3 m.out.length c3,.slice a4 m.children.length c4,.slice a5 m.boxes.length c5,.slice a6 m.seen.length c6,sv V.pa V.ps.length,sv V.ib n.inbox.length,.int .i64 n.seq,.int .i64 n.lost,.int .i64 (tick now)] 113,jT b1 (ndC V n) 62,cTa (sv xt m.table.length) m.table,cLi (sv xl m.links.length) m.links,cSn (.slice a3 m.out.length c3) m.out,cMa (.slice a5 m.boxes.length c5) m.boxes,cI (.slice a4 m.children.length c4) m.children,cPr (.slice a6 m.seen.length c6) m.seen,cDe (.slice a7 m.inbox.length c7) m.inbox]) (Ent.pick [1,2,3,4,5,6,7,8,0] I I) ?_
 repeat' (first|refine zh ?_|intro (bk:Nat))
 refine HR.ZC 173 6 ?_
 refine HR.ent (H':=[jT b [.int .i64 m.addr,.int .i64 m.poll,.int .i64 m.parent,sv xt m.table.length,sv xl m.links.length,.slice a3 m.out.length c3,.slice a4 m.children.length c4,.slice a5 m.boxes.length c5,.slice a6 m.seen.length c6,.slice none 0 0,.slice a7 m.inbox.length c7,.int .i64 n.seq,.int .i64 n.lost,.int .i64 (tick now)] 113,jT b1 (ndC V n) 62,cTa (sv xt m.table.length) m.table,cLi (sv xl m.links.length) m.links,cSn (.slice a3 m.out.length c3) m.out,cMa (.slice a5 m.boxes.length c5) m.boxes,cI (.slice a4 m.children.length c4) m.children,cPr (.slice a6 m.seen.length c6) m.seen,cDe (.slice a7 m.inbox.length c7) m.inbox,jG (.slice none 0 0) 173 6 0 [],jB []]) (Ent.trans Ent.jL8 (Ent.pick [2,3,4,5,6,7,8,9,10,1,0] I I)) ?_
 refine HR.loop (ι:=Nat×SV×List PtV) (fun x=>x.1≤V.ps.length∧pts x.2.2=(pts V.ps).take x.1∧∀p∈x.2.2,jA9 p) (fun x=>[(2,ptr b1),(5,ptr b),(200,sv V.pa V.ps.length),(201,.int .i64 (V.ps.length:Int)),(202,.int .i64 (x.1:Int))]) (fun x=>[jT b [.int .i64 m.addr,.int .i64 m.poll,.int .i64 m.parent,sv xt m.table.length,sv xl m.links.length,.slice a3 m.out.length c3,.slice a4 m.children.length c4,.slice a5 m.boxes.length c5,.slice a6 m.seen.length c6,sv x.2.1 x.2.2.length,.slice a7 m.inbox.length c7,.int .i64 n.seq,.int .i64 n.lost,.int .i64 (tick now)] 113,jT b1 (ndC V n) 62,cTa (sv xt m.table.length) m.table,cLi (sv xl m.links.length) m.links,cSn (.slice a3 m.out.length c3) m.out,cMa (.slice a5 m.boxes.length c5) m.boxes,cI (.slice a4 m.children.length c4) m.children,cPr (.slice a6 m.seen.length c6) m.seen,cDe (.slice a7 m.inbox.length c7) m.inbox,cPt (sv x.2.1 x.2.2.length) x.2.2,jB (ptG x.2.2)]) (fun x=>V.ps.length-x.1) (0,(none,0),[]) ⟨Nat.zero_le _,rfl,fun p hp=>by cases hp⟩ ⟨I,I,I,I,I,trivial⟩ Ent.refl ?_
 rintro ⟨k,y,L2⟩ ⟨hk,hL2,hsh⟩ ih
 have hk:k≤V.ps.length:=hk
 have hL2:pts L2=(pts V.ps).take k:=hL2
 have hsh:∀p∈L2,jA9 p:=hsh
 have hLl2:L2.length≤1000:=by rw[← JH,hL2,List.length_take];have:=JH V.ps;omega
 repeat' (first|refine zh ?_|intro (bk:Nat))
 refine HR.cond I (fun h2=>?_) (fun h2=>?_)
 ·have hlt:k<V.ps.length:=by have:=of_decide_eq_true h2;omega
  obtain ⟨p,hp⟩:=jJ hlt
  have hrp:=h.pa.r p (List.mem_of_getElem? hp)
  have hsp:=hs.sm p.pt (by rw[← h.eq];exact List.mem_of_getElem? (KL hp))
  have hst:(pts V.ps).take (k+1)=pts L2++[p.pt]:=by rw[hL2];exact jN (KL hp)
  obtain ⟨aa,na,ca,ab,nb,cb,ex⟩:=hrp.sh.lit
  obtain ⟨q,hq⟩:∃q,q=p.pt:=⟨_,rfl⟩
  rw[← hq]at hst ex hsp
  subst ex
  have hh:Sl w (.slice aa na ca) (cellsOf bC q.hv) q.hv.length:=hrp.h
  have hd:Sl w (.slice ab nb cb) (cellsOf sC q.da) q.da.length:=hrp.d
  have hs1:q.hv.length≤140737488355328:=hsp.1
  have hs2:q.da.length≤8796093022208:=hsp.2.1
  repeat' (first|refine zh ?_|refine HL.JA (Rd.arg h.pa.s) JM k I I I I hlt ?_|refine HL.JW (Rd.arg h.pa.s) I I I I (by simp) I (jH JR hp) ?_|intro (bk:Nat))
  refine HR.jPk [(0,true),(1,true),(3,true),(4,true),(2,false),(6,true),(5,false)] [7,8,9] [0] I I Jc (by kernel_rfl) ?_
  repeat' (first|refine zd ?_|fail)
  refine HD.one I ?_
  refine HL.JQ jRw I I (fun w1 hw1=>jDQ q.hv _ w1 ((Rd.arg hh).at hw1) (by omega)) ?_
  intro v1
  refine HL.shape 0 I fun a1 c1 hv=>?_
  subst hv
  refine HL.back [1] I I ?_
  repeat' (first|refine zd ?_|fail)
  refine HD.one I ?_
  refine HL.JQ jRv I I (fun w1 hw1=>jDP q.da _ w1 ((Rd.arg hd).at hw1) (by omega)) ?_
  intro v2
  refine HL.shape 0 I fun a2 c2 hv=>?_
  subst hv
  refine HL.back [2] I I ?_
  repeat' (first|refine zd ?_|fail)
  refine HD.tail I ?_
  repeat' (first|refine zn ?_|intro (bk:Nat))
  obtain ⟨Q,hQ⟩:∃Q:PtV,Q=⟨.slice a1 q.hv.length c1,.slice a2 q.da.length c2,q⟩:=⟨_,rfl⟩
  refine HR.ent (H':=[jT bk (ptC ⟨.slice a1 q.hv.length c1,.slice a2 q.da.length c2,q⟩) 173,jT b [.int .i64 m.addr,.int .i64 m.poll,.int .i64 m.parent,sv xt m.table.length,sv xl m.links.length,.slice a3 m.out.length c3,.slice a4 m.children.length c4,.slice a5 m.boxes.length c5,.slice a6 m.seen.length c6,sv y L2.length,.slice a7 m.inbox.length c7,.int .i64 n.seq,.int .i64 n.lost,.int .i64 (tick now)] 113,jT b1 (ndC V n) 62,cPt (sv y L2.length) L2,cTa (sv xt m.table.length) m.table,cLi (sv xl m.links.length) m.links,cSn (.slice a3 m.out.length c3) m.out,cMa (.slice a5 m.boxes.length c5) m.boxes,cI (.slice a4 m.children.length c4) m.children,cPr (.slice a6 m.seen.length c6) m.seen,cDe (.slice a7 m.inbox.length c7) m.inbox,jB (ptG L2),ptH ⟨.slice a1 q.hv.length c1,.slice a2 q.da.length c2,q⟩,ptD ⟨.slice a1 q.hv.length c1,.slice a2 q.da.length c2,q⟩]) (Ent.pick [2,3,4,12,5,6,7,8,9,10,11,13,1,0] I I) ?_
  refine HR.Jf [(0,true),(1,true),(2,true),(3,true),(4,true),(5,true),(6,true),(7,false),(8,false),(9,true),(10,true),(11,true)] 12 [0,1] I I Jc (by kernel_rfl) ?_
  repeat' (first|refine zd ?_|fail)
  refine HD.one I ?_
  refine HL.jv JM I I I I I (by decide) (by decide) ?_
  intro va
  refine HL.back [1,2] I I ?_
  refine HD.one I ?_
  refine HL.ZN 4 I JM (Rd.own 0 I) I I I I (jF I) (by show (L2.length+1)*80≤_;omega) (by show L2.length+1≤_;omega) ?_
  intro v3
  refine HL.back [1,2] I I ?_
  repeat' (first|refine zd ?_|fail)
  refine HD.last I ?_
  refine HL.shape 4 I fun a9 c9 hv=>?_
  subst hv
  repeat' (first|refine zn ?_|intro (bk:Nat))
  repeat' (first|refine zh ?_|intro (bk:Nat))
  refine ih (k+1,(a9,c9),L2++[Q]) _ _ ⟨hlt,?_,?_⟩ (by show V.ps.length-(k+1)<V.ps.length-k;omega) ⟨I,I,I,I,I,trivial⟩ ?_
  ·show pts (L2++[Q])=(pts V.ps).take (k+1)
   rw[jF6,hst,hQ];rfl
  ·intro p hp
   have hp:p∈L2++[Q]:=hp
   rcases List.mem_append.1 hp with hp|hp
   ·exact hsh p hp
   ·rw [List.mem_singleton]at hp
    rw[hp,hQ]
    exact ⟨⟨_,_,_,rfl⟩,⟨_,_,_,rfl⟩⟩
  ·have hl1:L2.length+1=(L2++[Q]).length:=by simp
   have hc1:cellsOf ptC L2++ptC Q=cellsOf ptC (L2++[Q]):=by rw[jP];rfl
   show Ent _ _ [jT b [.int .i64 m.addr,.int .i64 m.poll,.int .i64 m.parent,sv xt m.table.length,sv xl m.links.length,.slice a3 m.out.length c3,.slice a4 m.children.length c4,.slice a5 m.boxes.length c5,.slice a6 m.seen.length c6,sv (a9,c9) (L2++[Q]).length,.slice a7 m.inbox.length c7,.int .i64 n.seq,.int .i64 n.lost,.int .i64 (tick now)] 113,jT b1 (ndC V n) 62,cTa (sv xt m.table.length) m.table,cLi (sv xl m.links.length) m.links,cSn (.slice a3 m.out.length c3) m.out,cMa (.slice a5 m.boxes.length c5) m.boxes,cI (.slice a4 m.children.length c4) m.children,cPr (.slice a6 m.seen.length c6) m.seen,cDe (.slice a7 m.inbox.length c7) m.inbox,cPt (sv (a9,c9) (L2++[Q]).length) (L2++[Q]),jB (ptG (L2++[Q]))]
   rw[← hl1,show cPt (sv (a9,c9) (L2.length+1)) (L2++[Q])=jG (.slice a9 (L2.length+1) c9) 173 6 (L2.length+1) (cellsOf ptC L2++ptC Q)from by rw[hc1,hl1],kN,jBw,hQ]
   refine Ent.trans (Ent.pick (H':=[ptH ⟨.slice a1 q.hv.length c1,.slice a2 q.da.length c2,q⟩,ptD ⟨.slice a1 q.hv.length c1,.slice a2 q.da.length c2,q⟩,jB (ptG L2),jT b [.int .i64 m.addr,.int .i64 m.poll,.int .i64 m.parent,sv xt m.table.length,sv xl m.links.length,.slice a3 m.out.length c3,.slice a4 m.children.length c4,.slice a5 m.boxes.length c5,.slice a6 m.seen.length c6,.slice a9 (L2.length+1) c9,.slice a7 m.inbox.length c7,.int .i64 n.seq,.int .i64 n.lost,.int .i64 (tick now)] 113,jT b1 (ndC V n) 62,cTa (sv xt m.table.length) m.table,cLi (sv xl m.links.length) m.links,cSn (.slice a3 m.out.length c3) m.out,cMa (.slice a5 m.boxes.length c5) m.boxes,cI (.slice a4 m.children.length c4) m.children,cPr (.slice a6 m.seen.length c6) m.seen,cDe (.slice a7 m.inbox.length c7) m.inbox,jG (.slice a9 (L2.length+1) c9) 173 6 (L2.length+1) (cellsOf ptC L2++ptC ⟨.slice a1 q.hv.length c1,.slice a2 q.da.length c2,q⟩)]) [13,14,12,2,3,5,6,7,8,9,10,11,4] I I) (Ent.trans (Ent.group (G:=[ptH _,ptD _])) (Ent.trans Ent.jL9 ?_))
   exact Ent.pick [1,2,3,4,5,6,7,8,9,10,0] I I
 have hke:k=V.ps.length:=by have:=of_decide_eq_false h2;omega
 subst hke
 have hL2:pts L2=m.parts:=by rw[hL2,← JH,List.take_length,e_pa,h.eq]
 repeat' (first|refine zh ?_|apply zb ?_ ?_|exact zc|(refine zi fun hb=>?_;try simp at hb)|intro (bk:Nat))
 refine HR.join (ι:=Unit) (fun _=>True) (fun _=>[(2,ptr b1),(5,ptr b)]) (fun _=>[jT b [.int .i64 m.addr,.int .i64 m.poll,.int .i64 m.parent,sv xt m.table.length,sv xl m.links.length,.slice a3 m.out.length c3,.slice a4 m.children.length c4,.slice a5 m.boxes.length c5,.slice a6 m.seen.length c6,sv y L2.length,.slice a7 m.inbox.length c7,.int .i64 m.seq,.int .i64 n.lost,.int .i64 (tick now)] 113,jT b1 (ndC V n) 62,cTa (sv xt m.table.length) m.table,cLi (sv xl m.links.length) m.links,cSn (.slice a3 m.out.length c3) m.out,cMa (.slice a5 m.boxes.length c5) m.boxes,cI (.slice a4 m.children.length c4) m.children,cPr (.slice a6 m.seen.length c6) m.seen,cDe (.slice a7 m.inbox.length c7) m.inbox,cPt (sv y L2.length) L2,jB (ptG L2)]) (fun _ _=>?_) (fun hj=>?_)
 rotate_left
 ·refine HR.cond I (fun h2=>?_) (fun h2=>?_)
  ·have h2:(decide (n.seq<0)||decide (n.seq>65535))=true:=h2
   have h3:n.seq<0∨n.seq>65535:=by simpa using h2
   refine HR.region ?_
   repeat' (first|refine zn ?_|apply zb ?_ ?_|exact zc|(refine zi fun hb=>?_;try simp at hb)|intro (bk:Nat))
   refine hj () _ _ trivial ⟨I,I,trivial⟩ (Ent.of_eq ?_)
   rw[e_sq,if_pos h3];rfl
  ·have h2:(decide (n.seq<0)||decide (n.seq>65535))=false:=h2
   have h3:¬(n.seq<0∨n.seq>65535):=by simpa using h2
   refine HR.skip ?_
   refine hj () _ _ trivial ⟨I,I,trivial⟩ (Ent.of_eq ?_)
   rw[e_sq,if_neg h3]
 repeat' (first|refine zh ?_|refine HL.jR jQV I I (fun w _=>jDt n.lost 0 1099511627776 w) ?_|intro (bk:Nat))
 refine HR.ret Tryz.func68 I [_] (fun _ _=>⟨I,trivial⟩) ?_
 refine fun w' hw=>⟨(b,⟨xt,xl,(a3,c3),(a4,c4),(a5,c5),(a6,c6),y,(a7,c7),L2⟩),rfl,⟨hL2,hsh⟩,?_⟩
 rw[show stH b ⟨xt,xl,(a3,c3),(a4,c4),(a5,c5),(a6,c6),y,(a7,c7),L2⟩ m (tick now)=stH b ⟨xt,xl,(a3,c3),(a4,c4),(a5,c5),(a6,c6),y,(a7,c7),L2⟩ { m with lost:=clamp n.lost 0 1099511627776 } (tick now)from by rw[← e_lo]]
 exact hw.pick [0,2,3,4,6,5,7,9,10,8] I I
end Go.Proofs.YtgfdoognildoeaaGreat
namespace Go.Proofs.YtgfdoognildoeaaGreat
open Go.GX Go.RowKit
attribute [local irreducible] Calls Run jZ jf JK HR HL HD jT jG JY Rd jK jY
open Nd
theorem fn36:IsFn Tryz.prog 36:=⟨⟨_,_,Tryz.func36,rfl,by decide⟩⟩
theorem fn86:IsFn Tryz.prog 86:=⟨⟨_,_,Tryz.func86,rfl,by decide⟩⟩
theorem fn58:IsFn Tryz.prog 58:=⟨⟨_,_,Tryz.func58,rfl,by decide⟩⟩
abbrev V0:NV:=⟨(none,0),(none,0),(none,0),(none,0),(none,0),(none,0),(none,0),(none,0),[]⟩
abbrev n0 (addr poll:Int):Nd:=⟨addr,poll,255,[],[],[],[],[],[],[],[],0,0⟩
theorem okn0 (addr poll:Int) (w:World):OkN w V0 (n0 addr poll):=⟨Sl.nil w,Sl.nil w,Sl.nil w,Sl.nil w,Sl.nil w,Sl.nil w,⟨Sl.nil w,fun p hp=>by cases hp⟩,Sl.nil w,rfl⟩
theorem smn0 (addr poll:Int):SmN (n0 addr poll):=⟨Nat.zero_le _,Nat.zero_le _,Nat.zero_le _,Nat.zero_le _,Nat.zero_le _,Nat.zero_le _,Nat.zero_le _,Nat.zero_le _,fun p hp=>by cases hp⟩
theorem jM5 (n:Int):jAR [] (clamp n 0 250)=8:=by
 unfold jAR
 rw[jHg]
 simp[jc]
theorem jLS (addr poll:Int):(new addr poll).table=jKm (new addr poll).addr:=by
 show (if jAR [] (clamp addr 0 250)=0 then []else [jG9 (clamp addr 0 250)])=[jG9 (clamp (clamp addr 0 250) 0 250)]
 rw[jM5,if_neg (by decide),jPU]
theorem jMs (addr poll:Int) (w:World):
  Calls Tryz.prog 36 #[.int .i64 addr,.int .i64 poll] w fun e w'=>∃V':NV,e= .returned (.agg ⟨ndC V' (new addr poll)⟩)∧Pts V' (new addr poll)∧Sat (base w) (ndH V' (new addr poll)) w':=by
 obtain ⟨m,hm⟩:∃m,m=new addr poll:=⟨_,rfl⟩
 have hmt:m.table=jKm m.addr:=by rw[hm];exact jLS addr poll
 refine jD Tryz.func36 I (Nat.le_of_ble_eq_true I) ?_
 refine HR.sub (σ':=[(0,.int .i64 addr),(1,.int .i64 poll)]) ⟨I,I,trivial⟩ ?_
 rw[← hm]
 repeat' (first|refine zh ?_|intro (bk:Nat))
 refine HL.JC (r:=fun x:Nat×NV=>ptr x.1) (Q:=fun x=>Pts x.2 m) (G:=fun x=>stH x.1 x.2 m (tick 0)) jPS I I (fun w1 _=>by rw[hm];exact ZF V0 (n0 addr poll) 0 w1 (okn0 addr poll w1) (smn0 addr poll)) ?_
 rintro ⟨b,V⟩ hP
 have hP:Pts V m:=hP
 refine HL.ent (Ent.pick [10,0,1,2,3,4,5,6,7,8,9] I I) ?_
 repeat' (first|refine zh ?_|refine HL.JQ fn69 I I (fun w1 _=>jDh m.addr w1) ?_|intro (bk:Nat))
 intro v1
 refine HL.shape 0 I fun a c hv=>?_
 subst hv
 repeat' (first|refine zh ?_|intro (bk:Nat))
 refine HR.ret Tryz.func36 I [_] (fun w hw=>⟨⟨_,rfl,jS hw 1 I I I I rfl⟩,trivial⟩) ?_
 refine fun w' hw=>⟨{ V with ta:=(a,c) },?_,⟨hP.eq,hP.sh⟩,?_⟩
 ·show Ending.returned (.agg ⟨ndC { V with ta:=(a,c) } { m with table:=jKm m.addr }⟩)=Ending.returned (.agg ⟨ndC { V with ta:=(a,c) } m⟩)
  rw[← hmt]
 ·have e:ndH { V with ta:=(a,c) } m=ndH { V with ta:=(a,c) } { m with table:=jKm m.addr }:=by rw[← hmt]
  rw[e]
  exact hw.pick [0,4,5,6,7,8,9,10,11] I I
theorem jHu (V:NV) (n:Nd) (now:Int) (w:World) (h:OkN w V n) (hs:SmN n):
  Calls Tryz.prog 86 #[.agg ⟨ndC V n⟩,.int .i64 now] w fun e w'=>e= .returned (.bool (awake n now))∧Below w.heap.size w w':=by
 obtain ⟨m,hm⟩:∃m,m=order n:=⟨_,rfl⟩
 have ho:Ord m:=by rw[hm];exact Ja n
 have hpo:=ho.poll
 have ht0:0≤tick now:=by unfold tick clamp;omega
 have hsp:awake n now=(((m.poll==0)||(m.parent==255)||decide (0<m.parts.length))||decide (tick now%m.poll<3)):=by rw[hm];rfl
 refine jD Tryz.func86 I (Nat.le_of_ble_eq_true I) ?_
 refine HR.sub (σ':=[(0,.agg ⟨ndC V n⟩),(1,.int .i64 now)]) ⟨I,I,trivial⟩ ?_
 rw[hsp]
 repeat' (first|refine zh ?_|intro (bk:Nat))
 refine HL.JC (r:=fun x:Nat×NV=>ptr x.1) (Q:=fun x=>Pts x.2 m) (G:=fun x=>stH x.1 x.2 m (tick now)) jPS I I (fun w1 hw1=>by rw[hm];exact ZF V n now w1 (h.ext hw1.jE) hs) ?_
 rintro ⟨b,V2⟩ hP
 have hP:Pts V2 m:=hP
 have hpl:V2.ps.length=m.parts.length:=by rw[← JH,hP.eq]
 repeat' (first|refine zh ?_|intro (bk:Nat))
 refine HR.JF Jc (by kernel_rfl) ?_
 repeat' (first|refine zq ?_|apply zb ?_ ?_|exact zc|(refine zi fun hb=>?_;try simp at hb))
 refine HR.ret Tryz.func86 I [_] (fun _ _=>⟨I,trivial⟩) ?_
 refine fun w' hw=>⟨?_,hw.jE⟩
 rw[hpl,show decide (0<m.parts.length)=decide ((m.parts.length:Int)>0)from decide_eq_decide.2 (by omega)]
 rfl
theorem jKQ (V:NV) (n:Nd) (w:World) (h:OkN w V n) (hs:SmN n):
  Calls Tryz.prog 58 #[.agg ⟨ndC V n⟩] w fun e w'=>∃x:NV×SV,e= .returned (.tuple ⟨[.agg ⟨ndC x.1 (take n).1⟩,sv x.2 (take n).2.length]⟩)∧Pts x.1 (take n).1∧Sat (base w) (cDe (sv x.2 (take n).2.length) (take n).2::ndH x.1 (take n).1) w':=by
 obtain ⟨m,hm⟩:∃m,m=order n:=⟨_,rfl⟩
 have hsp:take n=({ m with inbox:=[] },m.inbox):=by rw[hm];rfl
 refine jD Tryz.func58 I (Nat.le_of_ble_eq_true I) ?_
 refine HR.sub (σ':=[(0,.agg ⟨ndC V n⟩)]) ⟨I,trivial⟩ ?_
 rw[hsp]
 repeat' (first|refine zh ?_|intro (bk:Nat))
 refine HL.JC (r:=fun x:Nat×NV=>ptr x.1) (Q:=fun x=>Pts x.2 m) (G:=fun x=>stH x.1 x.2 m (tick 0)) jPS I I (fun w1 hw1=>by rw[hm];exact ZF V n 0 w1 (h.ext hw1.jE) hs) ?_
 rintro ⟨b,V2⟩ hP
 have hP:Pts V2 m:=hP
 refine HL.ent (Ent.pick [10,0,1,2,3,4,5,6,7,8,9] I I) ?_
 repeat' (first|refine zh ?_|intro (bk:Nat))
 refine HR.ZC 65 2 ?_
 refine HR.ret Tryz.func58 I [_,_] (fun w hw=>⟨⟨_,rfl,jS hw 1 I I I I rfl⟩,rfl,trivial⟩) ?_
 refine fun w' hw=>⟨({ V2 with ib:=(none,0) },V2.ib),rfl,⟨hP.eq,hP.sh⟩,?_⟩
 exact hw.pick [11,3,4,5,6,7,8,9,10,0] I I
end Go.Proofs.YtgfdoognildoeaaGreat
namespace Go.Proofs.YtgfdoognildoeaaGreat
open Go.GX Go.RowKit
attribute [local irreducible] Calls Run jZ jf JK HR HL HD jT jG JY Rd jK jY
open Nd
theorem fn53:IsFn Tryz.prog 53:=⟨⟨_,_,Tryz.func53,rfl,by decide⟩⟩
abbrev jPb:List Value:=[.int .i64 0,.int .i64 0,.int .i64 0,.slice none 0 0,.slice none 0 0,.slice none 0 0,.slice none 0 0,.slice none 0 0,.slice none 0 0,.slice none 0 0,.slice none 0 0,.int .i64 0,.int .i64 0]
theorem ndH0 {B:Base} {w:World} (h:Sat B [] w):Sat B (ndH V0 nd0) w:=
 Sat.ZC (Sat.ZC (Sat.ZC (Sat.ZC (Sat.ZC (Sat.ZC (Sat.ZC (Ent.jL8 _ (Sat.ZC h 65 2)) 173 6) 171 2) 166 10) 3 1) 131 11) 162 3) 94 4
theorem pts0:Pts V0 nd0:=⟨rfl,fun p hp=>by cases hp⟩
theorem ZT (n:Nd) (d:De):(deliver n d).parts=n.parts:=by unfold deliver lose;split<;>rfl
theorem jDm (n:Nd) (f:Fr):∃q l,(queue n f).1={ n with out:=q,lost:=l }:=by
 by_cases h:(jDB n.out f).2=false∨(jDB n.out f).1.length=n.out.length
 ·exact ⟨(jDB n.out f).1,min (n.lost+1) JU,by unfold queue lose;simp only[if_pos h]⟩
 ·exact ⟨(jDB n.out f).1,n.lost,by unfold queue;simp only[if_neg h]⟩
theorem zK (n:Nd) (f:Fr):(queue n f).1.parts=n.parts:=by obtain ⟨q,l,e⟩:=jDm n f;rw[e]
theorem jKx (n:Nd) (f:Fr):(queue n f).1.seq=n.seq:=by obtain ⟨q,l,e⟩:=jDm n f;rw[e]
theorem jQu {n:Nd} (h:Ord n) {s:Int} (hs:0≤s∧s≤65535):Ord { n with seq:=s }:={ h with seq:=hs }
theorem jF8 (s:By) (id:Int):(zF s id).1.length≤1000:=by
 unfold zF
 split
 ·exact Nat.zero_le _
 split
 ·exact Nat.zero_le _
 ·show ((List.range (jAX s.length)).map (piece s id)).length≤1000
  rw[List.length_map,List.length_range]
  unfold jAX
  omega
theorem jKR (V:NV) (n:Nd) (target:Int) (ur:Bool) (text:By) (w:World) (h:OkN w V n) (hs:SmN n) (htx:text.length≤9223372036854775807):
  Calls Tryz.prog 53 #[.agg ⟨ndC V n⟩,.int .i64 target,.bool ur,str text] w fun e w'=>∃V':NV,e= .returned (.tuple ⟨[.agg ⟨ndC V' (send n target ur text).1⟩,.int .i64 (send n target ur text).2]⟩)∧Pts V' (send n target ur text).1∧Sat (base w) (ndH V' (send n target ur text).1) w':=by
 obtain ⟨m,hm⟩:∃m,m=order n:=⟨_,rfl⟩
 have ho:Ord m:=by rw[hm];exact Ja n
 have hsq:=ho.seq
 obtain ⟨hsq0,hsq1⟩:=hsq
 obtain ⟨r,hr⟩:∃r,r=zF text (m.seq%256):=⟨_,rfl⟩
 have hsp:send n target ur text=if Tp.okN target=false then (nd0,2)else if r.2≠0 then (nd0,r.2)else if target=m.addr then (deliver m ⟨m.addr,text⟩,0)else match sends target ur r.1 m with
  |some m=>(m,0)
  |none=>(nd0,13):=by rw[hr,hm];rfl
 rw[hsp]
 refine jD Tryz.func53 I (Nat.le_of_ble_eq_true I) ?_
 refine HR.sub (σ':=[(0,.agg ⟨ndC V n⟩),(1,.int .i64 target),(2,.bool ur),(3,str text)]) ⟨I,I,I,I,trivial⟩ ?_
 repeat' (first|refine zh ?_|intro (bk:Nat))
 refine HL.JC (r:=fun x:Nat×NV=>ptr x.1) (Q:=fun x=>Pts x.2 m) (G:=fun x=>stH x.1 x.2 m (tick 0)) jPS I I (fun w1 hw1=>by rw[hm];exact ZF V n 0 w1 (h.ext hw1.jE) hs) ?_
 rintro ⟨b,V2⟩ hP
 have hP:Pts V2 m:=hP
 refine HL.ent (Ent.pick [10,0,1,2,3,4,5,6,7,8,9] I I) ?_
 repeat' (first|refine zh ?_|refine HL.jR jRd I I (fun w _=>Z9 target w) ?_|intro (bk:Nat))
 refine HR.cond I (fun h1=>?_) (fun h1=>?_)
 ·have h1:Tp.okN target=false:=by simpa using h1
  rw[if_pos h1]
  repeat' (first|refine zh ?_|intro (bk:Nat))
  refine HR.ret Tryz.func53 I [_,_] (fun w hw=>⟨⟨_,rfl,jS hw 0 I I I I rfl⟩,rfl,trivial⟩) ?_
  exact fun w' hw=>⟨V0,rfl,pts0,ndH0 (hw.pick [] I rfl)⟩
 have h1:¬Tp.okN target=false:=by simpa using h1
 rw[if_neg h1]
 repeat' (first|refine zh ?_|intro (bk:Nat))
 refine HL.JC (r:=fun v':Value=> .tuple ⟨[v',.int .i64 r.2]⟩) (Q:=fun _=>True) (G:=fun v'=>[jG v' 9 1 r.1.length (cellsOf sC r.1)]) fn117 I I (fun w1 _=>by rw[hr];exact jJj text (m.seq%256) w1 htx) ?_
 intro v1 _
 repeat' (first|refine zh ?_|intro (bk:Nat))
 refine HR.cond I (fun h2=>?_) (fun h2=>?_)
 ·have h2:r.2≠0:=by simpa using h2
  rw[if_pos h2]
  repeat' (first|refine zh ?_|intro (bk:Nat))
  refine HR.ret Tryz.func53 I [_,_] (fun w hw=>⟨⟨_,rfl,jS hw 1 I I I I rfl⟩,rfl,trivial⟩) ?_
  exact fun w' hw=>⟨V0,rfl,pts0,ndH0 (hw.pick [] I rfl)⟩
 have h2:¬r.2≠0:=by simpa using h2
 rw[if_neg h2]
 repeat' (first|refine zh ?_|intro (bk:Nat))
 refine HR.cond I (fun h3=>?_) (fun h3=>?_)
 ·have h3:target=m.addr:=eq_of_beq h3
  rw[if_pos h3]
  repeat' (first|refine zh ?_|intro (bk:Nat))
  refine HL.ent (Ent.pick [2,3,4,5,6,7,8,9,10,11,1] I I) ?_
  refine HL.Jh (r:=fun _:SV=> .tuple ⟨[]⟩) (Q:=fun _=>True) (G0:=stH b V2 m (tick 0)) (H0:=[_]) (G:=fun x=>stH b { V2 with ib:=x } (deliver m ⟨m.addr,text⟩) (tick 0)) jR0 I I I (fun w1 hw1=>jBB b V2 m (tick 0) ⟨m.addr,text⟩ _ w1 (hw1.pick [0,1,2,3,4,5,6,7,8,9] I I) ho) ?_
  intro x _
  refine HL.ent (Ent.pick [10,0,1,2,3,4,5,6,7,8,9] I I) ?_
  repeat' (first|refine zh ?_|intro (bk:Nat))
  refine HR.ret Tryz.func53 I [_,_] (fun w hw=>⟨⟨_,rfl,jS hw 0 I I I I rfl⟩,rfl,trivial⟩) ?_
  exact fun w' hw=>⟨{ V2 with ib:=x },rfl,⟨by rw[ZT];exact hP.eq,hP.sh⟩,hw.pick [2,3,4,5,6,7,8,9,10] I rfl⟩
 have h3:¬target=m.addr:=by simpa using h3
 rw[if_neg h3]
 obtain ⟨l,hl⟩:∃l,l=r.1:=⟨_,rfl⟩
 have hll:l.length≤1000:=by rw[hl,hr];exact jF8 _ _
 rw[← hl]
 repeat' (first|refine zh ?_|refine HL.JN (Rd.own 0 I) I I I ?_|intro (bk:Nat))
 refine HR.ent (Ent.pick [2,3,4,5,6,7,8,9,10,11,0,1] I I) ?_
 refine HR.loop (ι:=Nat×Nd×SV) (fun x=>x.1≤l.length∧Ord x.2.1∧x.2.1.parts=m.parts∧x.2.1.addr=m.addr∧sends target ur l m=sends target ur (l.drop x.1) x.2.1) (fun x=>[(1,.int .i64 target),(2,.bool ur),(8,ptr bk),(10,ptr b),(57,v1),(58,.int .i64 (l.length:Int)),(59,.int .i64 (x.1:Int))]) (fun x=>stH b { V2 with ou:=x.2.2 } x.2.1 (tick 0)++[jG v1 9 1 l.length (cellsOf sC l),jT bk (jPb) 62]) (fun x=>l.length-x.1) (0,m,V2.ou) ⟨Nat.zero_le _,ho,rfl,rfl,rfl⟩ ⟨I,I,I,I,I,I,I,trivial⟩ Ent.refl ?_
 rintro ⟨k,p,y⟩ ⟨hk,hop,hpp,hpa,hss⟩ ih
 have hk:k≤l.length:=hk
 have hop:Ord p:=hop
 have hpp:p.parts=m.parts:=hpp
 have hpa:p.addr=m.addr:=hpa
 have hss:sends target ur l m=sends target ur (l.drop k) p:=hss
 have hps:=hop.seq
 obtain ⟨hps0,hps1⟩:=hps
 repeat' (first|refine zh ?_|intro (bk:Nat))
 refine HR.cond I (fun h4=>?_) (fun h4=>?_)
 ·have hlt:k<l.length:=by have:=of_decide_eq_true h4;omega
  obtain ⟨x,hx⟩:=jJ hlt
  have hdr:l.drop k=x::l.drop (k+1):=by
   obtain ⟨hlt',e⟩:=List.getElem?_eq_some_iff.1 hx
   rw[← e];exact List.drop_eq_getElem_cons hlt'
  repeat' (first|refine zh ?_|refine HL.JA (Rd.own 10 I) Kz k I I I I hlt ?_|refine HL.ji (Rd.own 10 I) I I I I (jW hx) ?_|intro (bk:Nat))
  refine HR.j4 [(0,true),(1,true),(2,true),(3,true),(4,true),(5,true),(6,true),(7,true),(8,true),(9,true),(10,true),(11,true),(12,true),(13,true),(14,true),(15,true),(16,true),(17,true),(18,true),(19,false),(20,false)] [0] I I Jc (by kernel_rfl) ?_
  repeat' (first|refine zd ?_|fail)
  refine HD.one I ?_
  refine HL.alloc I I ?_
  intro bf
  refine HL.back [1] I I ?_
  refine HD.one I ?_
  refine HL.S 0 I I I I I ?_
  refine HL.back [1] I I ?_
  refine HD.nil ?_
  repeat' (first|refine zh ?_|intro (bk:Nat))
  refine HL.ent (H':=stH b { V2 with ou:=y } p (tick 0)++[jG v1 9 1 l.length (cellsOf sC l),jT bk (jPb) 62]) (Ent.pick [1,2,3,4,5,6,7,8,9,10,11,12] I I) ?_
  have hf:KG p target ur x=⟨2,p.addr,255,p.addr,target,p.seq,0,ur,x⟩:=rfl
  refine HL.Jh (r:=fun _:SV=> .bool (queue p (KG p target ur x)).2) (Q:=fun _=>True) (G0:=stH b { V2 with ou:=y } p (tick 0)) (H0:=[jG v1 9 1 l.length (cellsOf sC l),jT bk (jPb) 62]) (G:=fun z=>stH b { V2 with ou:=z } (queue p (KG p target ur x)).1 (tick 0)) jMF I I I (fun w1 hw1=>Zz b { V2 with ou:=y } p (tick 0) (KG p target ur x) _ w1 (hw1.pick [0,1,2,3,4,5,6,7,8,9] I I) hop) ?_
  intro z _
  repeat' (first|refine zh ?_|intro (bk:Nat))
  obtain ⟨Q,hQ⟩:∃Q,Q=queue p (KG p target ur x):=⟨_,rfl⟩
  have hQo:Ord Q.1:=by rw[hQ];exact hop.queue _
  have hQp:Q.1.parts=p.parts:=by rw[hQ];exact zK _ _
  have hQs:Q.1.seq=p.seq:=by rw[hQ];exact jKx _ _
  have hQa:Q.1.addr=p.addr:=by rw[hQ];exact (Zb _ _).2
  have hst:sends target ur (x::l.drop (k+1)) p=if Q.2 then sends target ur (l.drop (k+1)) { Q.1 with seq:=(p.seq+1)%65536 } else none:=by rw[hQ];rfl
  rw[hdr,hst]at hss
  rw[← hQ]
  have hq0:=hQo.seq.1
  have hq1:=hQo.seq.2
  refine HR.cond I (fun h5=>?_) (fun h5=>?_)
  ·have h5:Q.2=false:=by simpa using h5
   rw[hss,h5]
   refine HR.ent (H':=[jT bk (jPb) 62]) (Ent.pick [11] I I) ?_
   repeat' (first|refine zh ?_|intro (bk:Nat))
   refine HR.ret Tryz.func53 I [_,_] (fun w hw=>⟨⟨_,rfl,jS hw 0 I I I I rfl⟩,rfl,trivial⟩) ?_
   exact fun w' hw=>⟨V0,rfl,pts0,ndH0 (hw.pick [] I rfl)⟩
  ·have h5:Q.2=true:=by simpa using h5
   rw[h5,if_pos rfl]at hss
   repeat' (first|refine zh ?_|intro (bk:Nat))
   refine ih (k+1,{ Q.1 with seq:=(p.seq+1)%65536 },z) _ _ ⟨hlt,jQu hQo ⟨by omega,by omega⟩,hQp.trans hpp,hQa.trans hpa,hss⟩ (by show l.length-(k+1)<l.length-k;omega) ⟨I,I,I,I,I,I,I,trivial⟩ ?_
   rw[← hQs]
   exact Ent.refl
 have hke:k=l.length:=by have:=of_decide_eq_false h4;omega
 subst hke
 have hss:sends target ur l m=some p:=by rw[hss,List.drop_length];rfl
 rw[hss]
 refine HR.ent (Ent.pick [11,0,1,2,3,4,5,6,7,8,9] I I) ?_
 repeat' (first|refine zh ?_|intro (bk:Nat))
 refine HR.ret Tryz.func53 I [_,_] (fun w hw=>⟨⟨_,rfl,jS hw 0 I I I I rfl⟩,rfl,trivial⟩) ?_
 exact fun w' hw=>⟨{ V2 with ou:=y },rfl,⟨by rw[show (p,(0:Int)).1.parts=m.parts from hpp];exact hP.eq,hP.sh⟩,hw.pick [2,3,4,5,6,7,8,9,10] I rfl⟩
end Go.Proofs.YtgfdoognildoeaaGreat
