/- A part of the proof: contracts of the program's functions. Conditions: none. -/
import Derived.Carry
import Derived.Deep.MidRow
import Derived.Deep.Quiet
import Derived.Laws.IdiomRangeMap
import Derived.Laws.MakeOwn
import Derived.Laws.StructEq
import Derived.Laws.Tables
import Derived.Lib.AppendStr
import Derived.Lib.AppendZerosOnto
import Derived.Lib.OthersKept
import Derived.Lib.Overlaps
import Derived.Lib.OwnBridge
import Derived.Lib.SlicesCompact
import Derived.MapKept
import Derived.Orders
import Derived.OrdersHeld
import Derived.Scope
import Derived.SizedLaws
import Derived.SliceStrings
import Derived.Sort.Grow
import Derived.StillTail
import Derived.Test.YtgfdoognildoeaaGreatProg
import Derived.Test.YtgfdoognildoeaaGreatShelf
import Derived.WalkKit
import Derived.WalkLawsBesides
import Derived.WalkSpells
import Derived.Test.YtgfdoognildoeaaGreatQB1
import Derived.Test.YtgfdoognildoeaaGreatQB2
import Derived.Test.YtgfdoognildoeaaGreatQB3
import Derived.Test.YtgfdoognildoeaaGreatQB4
import Derived.Test.YtgfdoognildoeaaGreatQB5
import Derived.Test.YtgfdoognildoeaaGreatQB6
import Derived.Test.YtgfdoognildoeaaGreatQB7
import Derived.Test.YtgfdoognildoeaaGreatQB8
import Derived.Test.YtgfdoognildoeaaGreatQB9
import Derived.Test.YtgfdoognildoeaaGreatQB10
import Derived.Test.YtgfdoognildoeaaGreatQB11
import Derived.Test.YtgfdoognildoeaaGreatQB12
import Derived.Test.YtgfdoognildoeaaGreatQB13
import Derived.Test.YtgfdoognildoeaaGreatQB14
set_option linter.unusedVariables false
set_option linter.unusedSectionVars false
set_option linter.unusedSimpArgs false
set_option maxRecDepth 100000
set_option maxHeartbeats 4000000
namespace Go.Proofs.YtgfdoognildoeaaGreat
open Go.GX Go.RowKit
attribute [local irreducible] Calls Run jg jh JU HR HL HD jU jK Jc Rd jL jd
open Nd
theorem fn17:IsFn Tryz.prog 17:=⟨⟨_,_,Tryz.func17,rfl,by decide⟩⟩
theorem fn52:IsFn Tryz.prog 52:=⟨⟨_,_,Tryz.func52,rfl,by decide⟩⟩
theorem fn20:IsFn Tryz.prog 20:=⟨⟨_,_,Tryz.func20,rfl,by decide⟩⟩
theorem jEJ {l:List Nd} {src to:Int} {p:List Int} {e:Int} (h:Me.follow l src to=(p,e)) (he:e≠0):Me.path l src to=([],false):=by rw[Me.jL4 h,if_neg he]
theorem jL3 {l:List Nd} {src to:Int} {p:List Int} (h:Me.follow l src to=(p,0)):Me.path l src to=(p,true):=by rw[Me.jL4 h,if_pos rfl]
theorem jMQ (xs:List (NV×Nd)) (t src to:Int) (v:Value) (w:World) (h:OkL w v xs) (hg:∀x∈xs,SmN x.2) (hl:xs.length≤1000):
  Calls Tryz.prog 17 #[meV t v,.int .i64 src,.int .i64 to] w fun e w'=>∃v',e= .returned (.tuple ⟨[v',.bool (Me.path (nds xs) src to).2]⟩)∧Sat (base w) [jK v' 3 1 (Me.path (nds xs) src to).1.length (cellsOf iC (Me.path (nds xs) src to).1)] w':=by
 have cx:(cellsOf zR xs).length=xs.length*13:=jC jZ _
 refine jB Tryz.func17 I (Nat.le_of_ble_eq_true I) ?_
 refine HR.sub (σ':=[(0,meV t v),(1,.int .i64 src),(2,.int .i64 to)]) ⟨I,I,I,trivial⟩ ?_
 refine HR.ctl I ?_
 refine HR.region ?_
 refine HL.box I I ?_
 intro b3
 repeat' (first|refine zh ?_|intro (bk:Nat))
 refine HR.zY 3 1 ?_
 refine HR.loop (ι:=Nat×List Int×Int×Value) (fun x=>Me.Fol (nds xs) src to x.1 x.2.1 x.2.2.1) (fun x=>[(2,.int .i64 to),(3,ptr b3),(8,x.2.2.2),(9,.int .i64 x.2.2.1)]) (fun x=>[jK x.2.2.2 3 1 x.2.1.length (cellsOf iC x.2.1),meB b3 t v]) (fun x=>x.1) ((nds xs).length+2,[],src,.slice none 0 0) (Me.Fol.start _ _ _) ⟨I,I,I,I,trivial⟩ Ent.refl ?_
 rintro ⟨k,p,now,vp⟩ hF ih
 have hF:Me.Fol (nds xs) src to k p now:=hF
 have hpl:p.length≤1000:=by have:=hF.le;rw[JQ]at this;omega
 obtain ⟨k',hk'⟩:=hF.pos
 repeat' (first|refine zh ?_|intro (bk:Nat))
 rcases zU xs now with ⟨e1,e2⟩|⟨i,⟨V,n⟩,e1,e2,hx,hxa⟩
 ·rw [jEJ (hF.none e2) (by decide)]
  refine HL.jN (r:= .int .i64 (-1)) jM5 I I (fun w1 hw1=>by rw[← e1];exact Jq xs now v w1 (h.s.ext hw1.jE) (by omega)) ?_
  repeat' (first|refine zh ?_|intro (bk:Nat))
  refine HR.ret Tryz.func17 I [_,_] (fun _ _=>⟨I,I,trivial⟩) ?_
  exact fun w' hw=>⟨.slice none 0 0,rfl,Sat.zY (hw.pick [] I I) 3 1⟩
 have hil:i<xs.length:=(List.getElem?_eq_some_iff.1 hx).1
 have hxm:=List.mem_of_getElem? hx
 have hok:OkN w V n:=h.r _ hxm
 have hsn:SmN n:=hg _ hxm
 have hnt:Me.nth (nds xs) i=n:=jBE hx
 refine HL.jN (r:= .int .i64 (i:Int)) jM5 I I (fun w1 hw1=>by rw[← e1];exact Jq xs now v w1 (h.s.ext hw1.jE) (by omega)) ?_
 repeat' (first|refine zh ?_|refine HL.jN jQE I I (fun w1 hw1=>ZP p now vp w1 ((Rd.own 0 rfl).at hw1) (by omega)) ?_|intro (bk:Nat))
 refine HR.cond I (fun h2=>?_) (fun h2=>?_)
 ·have h2:now∈p:=of_decide_eq_true h2
  rw[jEJ (hF.again e2 h2) (by decide)]
  repeat' (first|refine zh ?_|intro (bk:Nat))
  refine HR.ret Tryz.func17 I [_,_] (fun _ _=>⟨I,I,trivial⟩) ?_
  exact fun w' hw=>⟨.slice none 0 0,rfl,Sat.zY (hw.pick [] I I) 3 1⟩
 have h2:now ∉ p:=of_decide_eq_false h2
 repeat' (first|refine zh ?_|intro (bk:Nat))
 refine HL.jk Jg I I I I I (by decide) (by decide) ?_
 intro va
 refine HL.zD 1 I Jg (Rd.own 0 I) I I I I (jJ I) (by show (p.length+1)*8≤_;omega) (by show p.length+1≤_;omega) ?_
 intro vc
 refine HL.ent (H':=[jK vc 3 1 (p++[now]).length (cellsOf iC (p++[now])),meB b3 t v]) (Ent.trans (Ent.pick [1,2] I I) (Ent.JM (by simp) (by rw[jM];rfl))) ?_
 repeat' (first|refine zh ?_|intro (bk:Nat))
 refine HR.cond I (fun h3=>?_) (fun h3=>?_)
 ·have h3:now=to:=eq_of_beq h3
  rw[jL3 (hF.done e2 h2 h3)]
  repeat' (first|refine zh ?_|intro (bk:Nat))
  refine HR.ret Tryz.func17 I [_,_] (fun _ _=>⟨I,I,trivial⟩) ?_
  exact fun w' hw=>⟨vc,rfl,hw.pick [0] I rfl⟩
 have h3:now≠to:=by have h3:(now==to)=false:=h3;simpa using h3
 repeat' (first|refine zh ?_|refine HL.jw (Rd.arg h.s) JV i I I I I hil ?_|refine HL.JL 3 (Rd.arg h.s) (by rw[cx];omega) I I I I I I I ?_|refine HL.jY (Rd.arg h.s) I I I I (jR jZ hx (i:=3) I) ?_|refine HL.jN fn50 I I (fun w1 hw1=>jBn n.table to _ w1 (hok.ta.ext hw1.jE) hsn.ta) ?_|intro (bk:Nat))
 refine HR.cond I (fun h4=>?_) (fun h4=>?_)
 ·have h4:(KF n.table to).2=false:=by have h4:(!(KF n.table to).2)=true:=h4;simpa using h4
  rw[jEJ (hF.stop e2 h2 h3 (by rw[hnt];exact h4)) (by decide)]
  repeat' (first|refine zh ?_|intro (bk:Nat))
  refine HR.ret Tryz.func17 I [_,_] (fun _ _=>⟨I,I,trivial⟩) ?_
  exact fun w' hw=>⟨.slice none 0 0,rfl,Sat.zY (hw.pick [] I I) 3 1⟩
 have h4:(KF n.table to).2=true:=by have h4:(!(KF n.table to).2)=false:=h4;simpa using h4
 have hstep:=hF.step e2 h2 h3 (by rw[hnt];exact h4)
 rw[hnt]at hstep
 repeat' (first|refine zh ?_|intro (bk:Nat))
 exact ih (k-1,p++[now],(KF n.table to).1,vc) _ _ hstep (by show k-1<k;omega) ⟨I,I,I,I,trivial⟩ Ent.refl
theorem jFa (xs:List (NV×Nd)) (t src to:Int) (v:Value) (w:World) (h:OkL w v xs) (hg:∀x∈xs,SmN x.2) (hl:xs.length≤1000):
  Calls Tryz.prog 52 #[meV t v,.int .i64 src,.int .i64 to] w fun e w'=>e= .returned (.bool ((Me.follow (nds xs) src to).2==2))∧Below w.heap.size w w':=by
 have cx:(cellsOf zR xs).length=xs.length*13:=jC jZ _
 have no2:∀ {p:List Int} {e:Int},Me.follow (nds xs) src to=(p,e)→e≠2→((Me.follow (nds xs) src to).2==2)=false:=fun h1 h2=>by rw[h1];simpa using h2
 refine jB Tryz.func52 I (Nat.le_of_ble_eq_true I) ?_
 refine HR.sub (σ':=[(0,meV t v),(1,.int .i64 src),(2,.int .i64 to)]) ⟨I,I,I,trivial⟩ ?_
 refine HR.ctl I ?_
 refine HR.region ?_
 refine HL.box I I ?_
 intro b3
 repeat' (first|refine zh ?_|intro (bk:Nat))
 refine HR.zY 3 1 ?_
 refine HR.loop (ι:=Nat×List Int×Int×Value) (fun x=>Me.Fol (nds xs) src to x.1 x.2.1 x.2.2.1) (fun x=>[(2,.int .i64 to),(3,ptr b3),(7,x.2.2.2),(8,.int .i64 x.2.2.1)]) (fun x=>[jK x.2.2.2 3 1 x.2.1.length (cellsOf iC x.2.1),meB b3 t v]) (fun x=>x.1) ((nds xs).length+2,[],src,.slice none 0 0) (Me.Fol.start _ _ _) ⟨I,I,I,I,trivial⟩ Ent.refl ?_
 rintro ⟨k,p,now,vp⟩ hF ih
 have hF:Me.Fol (nds xs) src to k p now:=hF
 have hpl:p.length≤1000:=by have:=hF.le;rw[JQ]at this;omega
 obtain ⟨k',hk'⟩:=hF.pos
 repeat' (first|refine zh ?_|intro (bk:Nat))
 refine HR.cond I (fun h3=>?_) (fun h3=>?_)
 rotate_left
 ·have h3:now=to:=by have h3:(now != to)=false:=h3;simpa using h3
  have e:((Me.follow (nds xs) src to).2==2)=false:=by have:=hF.at_end h3;simpa using this
  rw[e]
  repeat' (first|refine zh ?_|intro (bk:Nat))
  refine HR.ret Tryz.func52 I [_] (fun _ _=>⟨I,trivial⟩) ?_
  exact fun w' hw=>⟨rfl,hw.jE⟩
 have h3:now≠to:=by have h3:(now != to)=true:=h3;simpa using h3
 repeat' (first|refine zh ?_|refine HL.jN jQE I I (fun w1 hw1=>ZP p now vp w1 ((Rd.own 0 rfl).at hw1) (by omega)) ?_|intro (bk:Nat))
 refine HR.cond I (fun h2=>?_) (fun h2=>?_)
 ·have h2:now∈p:=of_decide_eq_true h2
  have e:((Me.follow (nds xs) src to).2==2)=true:=by rw[hF.two h2];rfl
  rw[e]
  repeat' (first|refine zh ?_|intro (bk:Nat))
  refine HR.ret Tryz.func52 I [_] (fun _ _=>⟨I,trivial⟩) ?_
  exact fun w' hw=>⟨rfl,hw.jE⟩
 have h2:now ∉ p:=of_decide_eq_false h2
 repeat' (first|refine zh ?_|intro (bk:Nat))
 refine HL.jk Jg I I I I I (by decide) (by decide) ?_
 intro va
 refine HL.zD 1 I Jg (Rd.own 0 I) I I I I (jJ I) (by show (p.length+1)*8≤_;omega) (by show p.length+1≤_;omega) ?_
 intro vc
 refine HL.ent (H':=[jK vc 3 1 (p++[now]).length (cellsOf iC (p++[now])),meB b3 t v]) (Ent.trans (Ent.pick [1,2] I I) (Ent.JM (by simp) (by rw[jM];rfl))) ?_
 repeat' (first|refine zh ?_|intro (bk:Nat))
 rcases zU xs now with ⟨e1,e2⟩|⟨i,⟨V,n⟩,e1,e2,hx,hxa⟩
 ·rw [no2 (hF.none e2) (by decide)]
  refine HL.jN (r:= .int .i64 (-1)) jM5 I I (fun w1 hw1=>by rw[← e1];exact Jq xs now v w1 (h.s.ext hw1.jE) (by omega)) ?_
  repeat' (first|refine zh ?_|intro (bk:Nat))
  refine HR.ret Tryz.func52 I [_] (fun _ _=>⟨I,trivial⟩) ?_
  exact fun w' hw=>⟨rfl,hw.jE⟩
 have hil:i<xs.length:=(List.getElem?_eq_some_iff.1 hx).1
 have hxm:=List.mem_of_getElem? hx
 have hok:OkN w V n:=h.r _ hxm
 have hsn:SmN n:=hg _ hxm
 have hnt:Me.nth (nds xs) i=n:=jBE hx
 refine HL.jN (r:= .int .i64 (i:Int)) jM5 I I (fun w1 hw1=>by rw[← e1];exact Jq xs now v w1 (h.s.ext hw1.jE) (by omega)) ?_
 repeat' (first|refine zh ?_|refine HL.jw (Rd.arg h.s) JV i I I I I hil ?_|refine HL.JL 3 (Rd.arg h.s) (by rw[cx];omega) I I I I I I I ?_|refine HL.jY (Rd.arg h.s) I I I I (jR jZ hx (i:=3) I) ?_|refine HL.jN fn50 I I (fun w1 hw1=>jBn n.table to _ w1 (hok.ta.ext hw1.jE) hsn.ta) ?_|intro (bk:Nat))
 refine HR.cond I (fun h4=>?_) (fun h4=>?_)
 ·have h4:(KF n.table to).2=false:=by have h4:(!(KF n.table to).2)=true:=h4;simpa using h4
  rw[no2 (hF.stop e2 h2 h3 (by rw[hnt];exact h4)) (by decide)]
  repeat' (first|refine zh ?_|intro (bk:Nat))
  refine HR.ret Tryz.func52 I [_] (fun _ _=>⟨I,trivial⟩) ?_
  exact fun w' hw=>⟨rfl,hw.jE⟩
 have h4:(KF n.table to).2=true:=by have h4:(!(KF n.table to).2)=false:=h4;simpa using h4
 have hstep:=hF.step e2 h2 h3 (by rw[hnt];exact h4)
 rw[hnt]at hstep
 repeat' (first|refine zh ?_|intro (bk:Nat))
 exact ih (k-1,p++[now],(KF n.table to).1,vc) _ _ hstep (by show k-1<k;omega) ⟨I,I,I,I,trivial⟩ Ent.refl
theorem jQL {α:Type} {p:α→Bool} {l:List α} {k:Nat} {x:α} (hx:l[k]? =some x):(l.take (k+1)).any p=((l.take k).any p||p x):=by rw[jG hx];simp
theorem jNV {α:Type} {p:α→Bool} {l:List α} {k:Nat} {x:α} (hx:l[k]? =some x) (h:p x=true):l.any p=true:=List.any_eq_true.2 ⟨x,List.mem_of_getElem? hx,h⟩
theorem jKC (xs:List (NV×Nd)) (t:Int) (v:Value) (w:World) (h:OkL w v xs) (hg:∀x∈xs,SmN x.2) (hl:xs.length≤1000):
  Calls Tryz.prog 20 #[meV t v] w fun e w'=>e= .returned (.bool (Me.loops (nds xs)))∧Below w.heap.size w w':=by
 refine jB Tryz.func20 I (Nat.le_of_ble_eq_true I) ?_
 refine HR.sub (σ':=[(0,meV t v)]) ⟨I,trivial⟩ ?_
 refine HR.ctl I ?_
 refine HR.region ?_
 refine HL.box I I ?_
 intro b1
 repeat' (first|refine zh ?_|refine HL.j4 (Rd.arg h.s) I I I ?_|intro (bk:Nat))
 obtain ⟨g,hgd⟩:∃g:Nd→Ro→Bool,g=fun n r=>(Me.follow (nds xs) n.addr r.dest).2==2:=⟨_,rfl⟩
 have hlo:Me.loops (nds xs)=(nds xs).any fun n=>n.table.any (g n):=by rw[hgd];rfl
 refine HR.loop (ι:=Nat) (fun k=>k≤xs.length∧((nds xs).take k).any (fun n=>n.table.any (g n))=false) (fun k=>[(1,ptr b1),(8,v),(9,.int .i64 (xs.length:Int)),(10,.int .i64 (k:Int))]) (fun _=>[meB b1 t v]) (fun k=>xs.length-k) 0 ⟨Nat.zero_le _,rfl⟩ ⟨I,I,I,I,trivial⟩ Ent.refl ?_
 rintro k ⟨hk,hno⟩ ih
 have hk:k≤xs.length:=hk
 repeat' (first|refine zh ?_|intro (bk:Nat))
 refine HR.cond I (fun h2=>?_) (fun h2=>?_)
 rotate_left
 ·have hke:k=xs.length:=by have:¬(k:Int)<(xs.length:Int):=of_decide_eq_false h2;omega
  rw[hke,← JQ,List.take_length]at hno
  rw[hlo,hno]
  repeat' (first|refine zh ?_|intro (bk:Nat))
  refine HR.ret Tryz.func20 I [_] (fun _ _=>⟨I,trivial⟩) ?_
  exact fun w' hw=>⟨rfl,hw.jE⟩
 have hlt:k<xs.length:=by have:(k:Int)<(xs.length:Int):=of_decide_eq_true h2;omega
 obtain ⟨⟨V,n⟩,hx⟩:=jH hlt
 have hok:OkN w V n:=h.r _ (List.mem_of_getElem? hx)
 have hsn:SmN n:=hg _ (List.mem_of_getElem? hx)
 have hta:n.table.length≤1000:=hsn.ta
 have hat:=jQL (p:=fun n:Nd=>n.table.any (g n)) (kU hx)
 rw[hno,Bool.false_or]at hat
 repeat' (first|refine zh ?_|refine HL.jw (Rd.arg h.s) JV k I I I I hlt ?_|refine HL.JB (us:=ndC V n) (Rd.arg h.s) I I I I (by simp) I (jF jZ hx) ?_|intro (bk:Nat))
 refine HR.loop (ι:=Nat) (fun j=>j≤n.table.length∧(n.table.take j).any (g n)=false) (fun j=>[(1,ptr b1),(4,ptr bk),(8,v),(9,.int .i64 (xs.length:Int)),(10,.int .i64 (k:Int)),(15,sv V.ta n.table.length),(16,.int .i64 (n.table.length:Int)),(17,.int .i64 (j:Int))]) (fun _=>[jU bk (ndC V n) 62,meB b1 t v]) (fun j=>n.table.length-j) 0 ⟨Nat.zero_le _,rfl⟩ ⟨I,I,I,I,I,I,I,I,trivial⟩ Ent.refl ?_
 rintro j ⟨hj,hno2⟩ ih2
 have hj:j≤n.table.length:=hj
 repeat' (first|refine zh ?_|intro (bk:Nat))
 refine HR.cond I (fun h3=>?_) (fun h3=>?_)
 rotate_left
 ·have hje:j=n.table.length:=by have:¬(j:Int)<(n.table.length:Int):=of_decide_eq_false h3;omega
  rw[hje,List.take_length]at hno2
  rw[hno2]at hat
  repeat' (first|refine zh ?_|intro (bk:Nat))
  exact ih (k+1) _ _ ⟨hlt,hat⟩ (by show xs.length-(k+1)<xs.length-k;omega) ⟨I,I,I,I,trivial⟩ (Ent.pick [1] I I)
 have hlt3:j<n.table.length:=by have:(j:Int)<(n.table.length:Int):=of_decide_eq_true h3;omega
 obtain ⟨r,hr⟩:=jH hlt3
 have hat2:=jQL (p:=g n) hr
 rw[hno2,Bool.false_or]at hat2
 have hgr:g n r=((Me.follow (nds xs) n.addr r.dest).2==2):=by rw[hgd]
 repeat' (first|refine zh ?_|refine HL.jw (Rd.arg hok.ta) JE j I I I I hlt3 ?_|refine HL.JB (us:=roC r) (Rd.arg hok.ta) I I I I (by simp) I (jF jW hr) ?_|refine HL.jN fn52 I I (fun w1 hw1=>jFa xs t n.addr r.dest v w1 (h.ext hw1.jE) hg hl) ?_|intro (bk:Nat))
 refine HR.cond I (fun h4=>?_) (fun h4=>?_)
 ·have h4:g n r=true:=by rw[hgr];exact h4
  rw[hlo,jNV (kU hx) (jNV hr h4)]
  repeat' (first|refine zh ?_|intro (bk:Nat))
  refine HR.ret Tryz.func20 I [_] (fun _ _=>⟨I,trivial⟩) ?_
  exact fun w' hw=>⟨rfl,hw.jE⟩
 have h4:g n r=false:=by rw[hgr];exact h4
 rw[h4]at hat2
 repeat' (first|refine zh ?_|intro (bk:Nat))
 exact ih2 (j+1) _ _ ⟨hlt3,hat2⟩ (by show n.table.length-(j+1)<n.table.length-j;omega) ⟨I,I,I,I,I,I,I,I,trivial⟩ (Ent.pick [1,2] I I)
end Go.Proofs.YtgfdoognildoeaaGreat
namespace Go.Proofs.YtgfdoognildoeaaGreat
open Go.GX Go.RowKit
attribute [local irreducible] Calls Run jg jh JU HR HL HD jU jK Jc Rd jL jd
open Nd
theorem fn9:IsFn Tryz.prog 9:=⟨⟨_,_,Tryz.func9,rfl,by decide⟩⟩
theorem jDW {B:Base} {H:List Chunk} {w:World} {v:Value} {ys:List (NV×Nd)} {G:List Chunk} (i j:Nat) (hw:Sat B H w) (hi:zX H i=some (cNd v ys)) (hj:zX H j=some (jD G)) (hO:∀y∈ys,Own y.1 G y.2):OkL w v ys:=
 ⟨(Rd.own i hi).at hw,fun y hy=>hO y hy w (Sat.grp j hw hj)⟩
theorem jQb (a b:Nd) (h:¬a.addr<b.addr):Me.put (Me.put [] a) b=[b,a]:=by
 have h1:Me.put [] a=[a]:=rfl
 rw[h1,jP7 (l:=[a]) (n:=b) (j:=0) (Nat.zero_le _) (fun i x hi=>absurd hi (Nat.not_lt_zero _)) (fun x hx=>by simp at hx;subst hx;exact h)]
 rfl
theorem new3:(new 3 8).addr=3:=(Me.kT (a:=3) (by decide)).1
theorem new0:(new 0 0).addr=0:=(Me.kT (a:=0) (by decide)).1
theorem at0:Me.nodeAt [3,0] [8] 0=new 3 8:=rfl
theorem at1:Me.nodeAt [3,0] [8] 1=new 0 0:=rfl
theorem jNM:Me.build [3,0] [8] 2=Me.put (Me.put [] (Me.nodeAt [3,0] [8] 0)) (Me.nodeAt [3,0] [8] 1):=by simp only[Me.build]
theorem jMW:Me.jGN [3,0] [8]=(⟨0,Me.build [3,0] [8] 2⟩,0):=jMX (by decide) (by decide)
theorem jET:Me.jGN [3,0] [8]=(⟨0,[new 0 0,new 3 8]⟩,0):=by
 rw[jMW,jNM,at0,at1,jQb _ _ (by rw[new3,new0];decide)]
theorem jPD {l:List Nd} {a:Int} {i:Nat} (h:Me.idx l a=some i):Me.path l a a=([a],true):=jL3 ((Me.Fol.start l a a).done h List.not_mem_nil I)
theorem jQu (a b:Nd) (x:Int) (ha:a.addr≠x) (hb:b.addr=x):Me.idx [a,b] x=some 1:=by
 unfold Me.idx
 rw[List.findIdx?_cons,List.findIdx?_cons]
 simp[ha,hb]
theorem jMZ:Me.jGN [1,251] []=(Me.jEQ,2):=by
 have e:Me.Jz [1,251] 1=2:=by decide
 rw[jEU (addrs:=[1,251]) (k:=1) (by decide) (by decide) (by decide) (by decide),e]
theorem jQR {ys:List (NV×Nd)} {a b:Nd} (h:nds ys=[a,b]):∃V W,ys=[(V,a),(W,b)]:=by
 obtain ⟨p,q,rfl⟩:∃p q,ys=[p,q]:=by
  have hl:ys.length=2:=by rw[← JQ,h];rfl
  rcases ys with _|⟨p,_|⟨q,_|⟨r,l⟩⟩⟩
  ·simp at hl
  ·simp at hl
  ·exact ⟨p,q,rfl⟩
  ·simp at hl
 have h:[p.2,q.2]=[a,b]:=h
 simp only[List.cons.injEq,and_true]at h
 exact ⟨p.1,q.1,by rw[← h.1,← h.2]⟩
theorem jCT (w:World):Calls Tryz.prog 9 #[] w fun e w'=>e= .returned (.bool true)∧Below w.heap.size w w':=by
 refine jB Tryz.func9 I (Nat.le_of_ble_eq_true I) ?_
 refine HR.sub (σ':=[]) trivial ?_
 refine HR.ctl I ?_
 refine HR.region ?_
 repeat' (first|refine zh ?_|intro (bk:Nat))
 refine HL.jk Jg I I I I I (by decide) (by decide) ?_
 intro va
 refine HL.jk Jg I I I I I (by decide) (by decide) ?_
 intro vb
 refine HL.JD (r:=fun x:SV×List (NV×Nd)×List Chunk=> .tuple ⟨[meV 0 (sv x.1 x.2.1.length),.int .i64 0]⟩) (Q:=fun x=>jNX x [new 0 0,new 3 8]) (G:=fun x=>[cNd (sv x.1 x.2.1.length) x.2.1,jD x.2.2]) fn10 I I (fun w1 hw1=>by have:=jH9 [3,0] [8] va vb w1 ((Rd.own 1 rfl).at hw1) ((Rd.own 0 rfl).at hw1) (by decide) (by decide);rw[jET]at this;exact this) ?_
 rintro ⟨y,ys,G⟩ ⟨⟨hN,hO⟩,hG⟩
 have hN:nds ys=[new 0 0,new 3 8]:=hN
 have hO:∀z∈ys,Own z.1 G z.2:=hO
 have hG:∀z∈ys,GdN z.2:=hG
 have hlp:Me.loops (nds ys)=false:=by
  have:=(Me.Inv.new (C:=ctx0) (addrs:=[3,0]) (polls:=[8]) (by rw[jET])).1.jPH
  rw[jET]at this
  rw[hN];exact this
 have hpa:Me.path (nds ys) 3 3=([3],true):=by
  rw[hN]
  exact jPD (jQu _ _ 3 (by rw[new0];decide) new3)
 obtain ⟨A,hA⟩:∃A,A=new 0 0:=⟨_,rfl⟩
 obtain ⟨Bn,hBn⟩:∃A,A=new 3 8:=⟨_,rfl⟩
 have hA0:A.addr=0:=by rw[hA];exact new0
 have hB0:Bn.addr=3:=by rw[hBn];exact new3
 have hB1:Bn.poll=8:=by rw[hBn];rfl
 rw[← hA,← hBn]at hN
 clear hA hBn
 obtain ⟨V,W,hys⟩:=jQR hN
 subst hys
 have cy:(cellsOf zR [(V,A),(W,Bn)]).length=26:=rfl
 refine HL.ent (H':=[cNd (sv y 2) [(V,A),(W,Bn)],jD G]) (Ent.pick [0,1] I I) ?_
 repeat' (first|refine zh ?_|intro (bk:Nat))
 refine HL.jk Jg I I I I I (by decide) (by decide) ?_
 intro vc
 refine HL.JD (r:=fun x:SV×List (NV×Nd)×List Chunk=> .tuple ⟨[meV 0 (sv x.1 x.2.1.length),.int .i64 2]⟩) (Q:=fun x=>jNX x []) (G:=fun x=>[cNd (sv x.1 x.2.1.length) x.2.1,jD x.2.2]) fn10 I I (fun w1 hw1=>by have:=jH9 [1,251] [] vc (.slice none 0 0) w1 ((Rd.own 0 rfl).at hw1) (Sl.nil w1) (by decide) (by decide);rw[jMZ]at this;exact this) ?_
 rintro ⟨y2,ys2,G2⟩ _
 repeat' (first|refine zh ?_|intro (bk:Nat))
 refine HL.JD (r:=fun x:Value=> .tuple ⟨[x,.bool true]⟩) (Q:=fun _=>True) (G:=fun x=>[jK x 3 1 1 (cellsOf iC [3])]) fn17 I I (fun w1 hw1=>by have:=jMQ [(V,A),(W,Bn)] 0 3 3 (sv y 2) w1 (jDW 5 6 hw1 I I hO) (fun z hz=>(hG z hz).sm) (Nat.le_of_ble_eq_true rfl);rw[hpa]at this;exact this.mono fun e w' ⟨x,e1,e2⟩=>⟨x,e1,trivial,e2⟩) ?_
 intro vp _
 repeat' (first|refine zh ?_|intro (bk:Nat))
 repeat' (first|refine zh ?_|refine HL.jw (Rd.own 6 I) JV 0 I I I I (Nat.le_of_ble_eq_true I) ?_|refine HL.JL 0 (Rd.own 6 I) (by rw[cy];decide) I I I I I I I ?_|refine HL.jY (Rd.own 6 I) I I I I (jR jZ (l:=[(V,A),(W,Bn)]) (j:=0) I (i:=0) I) ?_|intro (bk:Nat))
 refine HL.jCu 43 true I (by rw[hA0];rfl) ?_
 repeat' (first|refine zh ?_|refine HL.jw (Rd.own 6 I) JV 1 I I I I (Nat.le_of_ble_eq_true I) ?_|refine HL.JL 0 (Rd.own 6 I) (by rw[cy];decide) I I I I I I I ?_|refine HL.jY (Rd.own 6 I) I I I I (jR jZ (l:=[(V,A),(W,Bn)]) (j:=1) I (i:=0) I) ?_|intro (bk:Nat))
 refine HL.jCu 51 true I (by rw[hB0];rfl) ?_
 repeat' (first|refine zh ?_|refine HL.jw (Rd.own 6 I) JV 1 I I I I (Nat.le_of_ble_eq_true I) ?_|refine HL.JL 1 (Rd.own 6 I) (by rw[cy];decide) I I I I I I I ?_|refine HL.jY (Rd.own 6 I) I I I I (jR jZ (l:=[(V,A),(W,Bn)]) (j:=1) I (i:=1) I) ?_|intro (bk:Nat))
 refine HL.jCu 59 true I (by rw[hB1];rfl) ?_
 repeat' (first|refine zh ?_|intro (bk:Nat))
 refine HL.jk Jg I I I I I (by decide) (by decide) ?_
 intro v7
 refine HL.jN (r:= .bool true) fn19 I I (fun w1 hw1=>by have:=jCB [3] [3] vp v7 w1 ((Rd.own 1 rfl).at hw1) ((Rd.own 0 rfl).at hw1) (by decide);simpa using this) ?_
 repeat' (first|refine zh ?_|intro (bk:Nat))
 refine HL.jN (r:= .bool false) fn20 I I (fun w1 hw1=>by have:=jKC [(V,A),(W,Bn)] 0 (sv y 2) w1 (jDW 7 8 hw1 I I hO) (fun z hz=>(hG z hz).sm) (Nat.le_of_ble_eq_true rfl);rw[hlp]at this;exact this) ?_
 repeat' (first|refine zh ?_|intro (bk:Nat))
 refine HL.JD (r:=fun x:SV×List (NV×Nd)×List Chunk=>meV 1 (sv x.1 x.2.1.length)) (Q:=fun _=>True) (G:=fun x=>[cNd (sv x.1 x.2.1.length) x.2.1,jD x.2.2]) fn15 I I (fun w1 hw1=>(jMK 0 (sv y 2) [(V,A),(W,Bn)] ⟨[],[],[]⟩ (.slice none 0 0) (.slice none 0 0) (.slice none 0 0) w1 (jDW 7 8 hw1 I I hO) hG (Nat.le_of_ble_eq_true I) (OkA.none w1)).mono fun e w' ⟨x,e1,e2,e3⟩=>⟨x,e1,trivial,e3⟩) ?_
 intro x3 _
 repeat' (first|refine zh ?_|intro (bk:Nat))
 refine HR.ret Tryz.func9 I [_] (fun _ _=>⟨I,trivial⟩) ?_
 exact fun w' hw=>⟨rfl,hw.jE⟩
end Go.Proofs.YtgfdoognildoeaaGreat
namespace Go.Proofs.YtgfdoognildoeaaGreat
open Go.GX Go.RowKit
attribute [local irreducible] Calls Run jg jh JU HR HL HD jU jK Jc Rd jL jd
open Nd
theorem fn13:IsFn Tryz.prog 13:=⟨⟨_,_,Tryz.func13,rfl,by decide⟩⟩
structure FitG (n:Nd):Prop where
 ta:n.table.length≤30
 li:n.links.length≤30
 ou:n.out.length≤30
 ch:n.children.length≤30
 bo:n.boxes.length≤30
 se:n.seen.length≤60
 pa:n.parts.length≤20
 ib:n.inbox.length≤60
structure FitL (xs:List (NV×Nd)):Prop where
 len:xs.length≤12
 fit:∀x∈xs,FitG x.2
theorem FitG.sm {n:Nd} (h:FitG n) (hp:∀p∈n.parts,jBj p):SmN n:=
 ⟨Nat.le_trans h.ta (by decide),Nat.le_trans h.li (by decide),Nat.le_trans h.ou (by decide),Nat.le_trans h.ch (by decide),Nat.le_trans h.bo (by decide),Nat.le_trans h.se (by decide),Nat.le_trans h.pa (by decide),Nat.le_trans h.ib (by decide),hp⟩
theorem jMy (xs:List (NV×Nd)) (t:Int) (v:Value) (w:World) (h:OkL w v xs):
  Calls Tryz.prog 13 #[meV t v] w fun e w'=>∃b:Bool,e= .returned (.bool b)∧(b=false→FitL xs)∧Sat (base w) [] w':=by
 refine jB Tryz.func13 I (Nat.le_of_ble_eq_true I) ?_
 refine HR.sub (σ':=[(0,meV t v)]) ⟨I,trivial⟩ ?_
 refine HR.ctl I ?_
 refine HR.region ?_
 refine HL.box I I ?_
 intro b1
 repeat' (first|refine zh ?_|intro (bk:Nat))
 refine HR.loop (ι:=Nat) (fun i=>i≤12∧∀j x,j<i→xs[j]? =some x→FitG x.2) (fun i=>[(1,ptr b1),(3,.int .i64 (i:Int))]) (fun _=>[meB b1 t v]) (fun i=>12-i) 0 ⟨Nat.zero_le _,fun j x hj=>absurd hj (Nat.not_lt_zero _)⟩ ⟨I,I,trivial⟩ Ent.refl ?_
 rintro i ⟨hi,hfit⟩ ih
 have hi:i≤12:=hi
 have hfit:∀j x,j<i→xs[j]? =some x→FitG x.2:=hfit
 repeat' (first|refine zh ?_|refine HL.j4 (Rd.arg h.s) I I I ?_|apply zb ?_ ?_|exact zc|(refine zi fun hb=>?_;try simp at hb)|intro (bk:Nat))
 refine HR.cond I (fun h2=>?_) (fun h2=>?_)
 rotate_left
 ·have h2:(decide ((i:Int)<(xs.length:Int))&&decide ((xs.length:Int)≤12))=false:=h2
  repeat' (first|refine zh ?_|refine HL.j4 (Rd.arg h.s) I I I ?_|intro (bk:Nat))
  refine HR.ret Tryz.func13 I [_] (fun _ _=>⟨I,trivial⟩) ?_
  refine fun w' hw=>⟨_,rfl,fun hb=>?_,hw.pick [] I rfl⟩
  have hb:decide ((xs.length:Int)>12)=false:=hb
  have hb:=of_decide_eq_false hb
  have hil:¬i<xs.length:=fun hl=>by
   rw[decide_eq_true (show (i:Int)<(xs.length:Int) by omega),decide_eq_true (show (xs.length:Int)≤12 by omega)]at h2
   cases h2
  refine ⟨by omega,fun x hx=>?_⟩
  obtain ⟨j,hj⟩:=List.getElem?_of_mem hx
  exact hfit j x (by have:=(List.getElem?_eq_some_iff.1 hj).1;omega) hj
 have h2:(decide ((i:Int)<(xs.length:Int))&&decide ((xs.length:Int)≤12))=true:=h2
 rw[Bool.and_eq_true,decide_eq_true_eq,decide_eq_true_eq]at h2
 have hlt:i<xs.length:=by omega
 have hl12:xs.length≤12:=by omega
 obtain ⟨⟨V,n⟩,hx⟩:=jH hlt
 have hok:OkN w V n:=h.r _ (List.mem_of_getElem? hx)
 have hps:V.ps.length=n.parts.length:=by rw[← JF,hok.eq]
 repeat' (first|refine zh ?_|refine HL.jw (Rd.arg h.s) JV i I I I I hlt ?_|refine HL.JB (us:=ndC V n) (Rd.arg h.s) I I I I (by simp) I (jF jZ hx) ?_|intro (bk:Nat))
 repeat' (first|refine zh ?_|apply zb ?_ ?_|exact zc|(refine zi fun hb=>?_;try simp at hb)|intro (bk:Nat))
 refine HR.cond I (fun h3=>?_) (fun h3=>?_)
 ·repeat' (first|refine zh ?_|intro (bk:Nat))
  refine HR.ret Tryz.func13 I [_] (fun _ _=>⟨I,trivial⟩) ?_
  exact fun w' hw=>⟨_,rfl,fun hb=>Bool.noConfusion hb,hw.pick [] I rfl⟩
 have h3:(decide ((n.table.length:Int)>30)||decide ((n.links.length:Int)>30)||decide ((n.out.length:Int)>30)||decide ((n.children.length:Int)>30)||decide ((n.boxes.length:Int)>30)||decide ((n.seen.length:Int)>60)||decide ((V.ps.length:Int)>20)||decide ((n.inbox.length:Int)>60))=false:=h3
 simp only[Bool.or_eq_false_iff,decide_eq_false_iff_not]at h3
 obtain ⟨⟨⟨⟨⟨⟨⟨g1,g2⟩,g3⟩,g4⟩,g5⟩,g6⟩,g7⟩,g8⟩:=h3
 repeat' (first|refine zh ?_|intro (bk:Nat))
 refine ih (i+1) _ _ ⟨by show i+1≤12;omega,fun j x hj hjx=>?_⟩ (by show 12-(i+1)<12-i;omega) ⟨I,I,trivial⟩ (Ent.pick [1] I I)
 by_cases e:j=i
 ·subst e
  rw[hx]at hjx;cases hjx
  exact ⟨by show n.table.length≤30;omega,by show n.links.length≤30;omega,by show n.out.length≤30;omega,by show n.children.length≤30;omega,by show n.boxes.length≤30;omega,by show n.seen.length≤60;omega,by show n.parts.length≤20;omega,by show n.inbox.length≤60;omega⟩
 ·exact hfit j x (by omega) hjx
end Go.Proofs.YtgfdoognildoeaaGreat
namespace Go.GX
open Go.RowKit Go.ChangeShapes Go.WideShapes
section
variable {H : Type} {enc : TypeId × Value → H} {P : Program} {w : World}
def Opens (enc:TypeId×Value→H) (P:Program) (w:World) (t:TypeId) {α:Type} (E:α→List Value) (good:α→Prop):Prop:=
 ∀(fuel:Nat) (cs:List Value) (x:DataW H×List MemPlace),DataW.trod enc P w 0 (fun _=>true) true fuel t cs=some x→∃a,cs=E a∧good a
theorem Opens.int {t:TypeId} {k:IntKind} (ht:P.underlying t=some (.int k)):Opens enc P w t (fun n:Int=>[Value.int k n]) (fun n=>(Lit.int k n).wf=true):=by
 intro fuel cs x h
 cases fuel with
 |zero=>cases h
 |succ fuel=>
  unfold DataW.trod at h
  rw[ht]at h
  split at h
  all_goals first
   |cases h;done
   |(rename_i h1;cases h1;done)
   |skip
  rename_i k0 k' n h1
  cases h1
  split at h
  ·rename_i hk;obtain ⟨rfl,hw⟩:=hk;exact ⟨n,rfl,hw⟩
  ·cases h
theorem Opens.str {t:TypeId} (ht:P.underlying t=some .string):Opens enc P w t (fun s:List UInt8=>[str s]) (fun s=>s.length≤9223372036854775807):=by
 intro fuel cs x h
 cases fuel with
 |zero=>cases h
 |succ fuel=>
  unfold DataW.trod at h
  rw[ht]at h
  split at h
  all_goals first
   |cases h;done
   |(rename_i h1;cases h1;done)
   |skip
  rename_i s h1
  split at h
  ·rename_i hs;exact ⟨s.data.toList,rfl,by unfold maxLen at hs;have:s.data.toList.length=s.size:=rfl;omega⟩
  ·cases h
theorem Opens.bool {t:TypeId} (ht:P.underlying t=some .bool):Opens enc P w t (fun b:Bool=>[Value.bool b]) (fun _=>True):=by
 intro fuel cs x h
 cases fuel with
 |zero=>cases h
 |succ fuel=>
  unfold DataW.trod at h
  rw[ht]at h
  split at h
  all_goals first
   |cases h;done
   |(rename_i h1;cases h1;done)
   |skip
  rename_i b h1
  exact ⟨b,rfl,trivial⟩
theorem jKg {base n:Nat} {a:Addr} {cs:List Value} (h:w.cells? base a n=some cs):cs.length=n∧∀(j:Nat) u,cs[j]? =some u→w.cell? (a.add j)=some u:=by
 unfold World.cells? at h
 split at h
 ·have key:∀(l:List Nat) (r:List Value),l.mapM (fun i=>w.cell? (a.add i))=some r→r.length=l.length∧∀(j:Nat) u,r[j]? =some u→∃i,l[j]? =some i∧w.cell? (a.add i)=some u:=by
   intro l
   induction l with
   |nil=>intro r h;simp at h;subst h;exact ⟨rfl,fun j u hu=>by simp at hu⟩
   |cons i l ih=>
    intro r h
    simp only[List.mapM_cons,Option.bind_eq_bind,Option.pure_def]at h
    cases hx:w.cell? (a.add i)with
    |none=>rw[hx]at h;cases h
    |some b=>
     rw[hx]at h
     simp only[Option.bind_some]at h
     cases hl:l.mapM (fun i=>w.cell? (a.add i))with
     |none=>rw[hl]at h;cases h
     |some r'=>
      rw[hl]at h
      simp only[Option.bind_some,Option.some.injEq]at h
      subst h
      obtain ⟨h1,h2⟩:=ih r' hl
      refine ⟨by simp[h1],fun j u hu=>?_⟩
      cases j with
      |zero=>simp at hu;subst hu;exact ⟨i,rfl,hx⟩
      |succ j=>simp at hu;simpa using h2 j u hu
  obtain ⟨h1,h2⟩:=key _ _ h
  refine ⟨by simpa using h1,fun j u hu=>?_⟩
  obtain ⟨i,hi,hc⟩:=h2 j u hu
  have hj:j<n:=by
   have:=(List.getElem?_eq_some_iff.1 hi).1;simpa using this
  simp[hj]at hi
  subst hi;exact hc
 ·cases h
theorem parts_eq {cs p:List Value} {o n m:Nat} (h:(cs.drop o).take n=p) (hp:p.length=n) (ho:o+n=m):cs.drop o=p++cs.drop m:=by
 rw[← h,← ho,← List.drop_drop,List.take_append_drop]
end
end Go.GX
namespace Go.GX
open Go.RowKit Go.ChangeShapes Go.WideShapes
section
variable {H : Type} {enc : TypeId × Value → H} {P : Program} {w : World}
def Sized (P:Program) (t:TypeId) (d:DataW H):Prop:=∀n∈d.weights P t,n≤reachBytes
def jr (enc:TypeId×Value→H) (P:Program) (w:World) (t:TypeId) {α:Type} (E:α→List Value) (good:α→Prop):Prop:=
 ∀(fuel:Nat) (cs:List Value) (x:DataW H×List MemPlace),DataW.trod enc P w 0 (fun _=>true) true fuel t cs=some x→Sized P t x.1→∃a,cs=E a∧good a
theorem Opens.z {t:TypeId} {α:Type} {E:α→List Value} {good:α→Prop} (h:Opens enc P w t E good):jr enc P w t E good:=fun f cs x hx _=>h f cs x hx
theorem jBt {α β:Type} {f:α→Option β}:∀ {l:List α} {r:List β},l.mapM f=some r→∀(i:Nat) (a:α),l[i]? =some a→∃b,r[i]? =some b∧f a=some b
 |[],r,h,i,a,ha=>by simp at ha
 |x::l,r,h,i,a,ha=>by
  simp only[List.mapM_cons,Option.bind_eq_bind,Option.pure_def]at h
  cases hx:f x with
  |none=>rw[hx]at h;cases h
  |some b=>
   rw[hx]at h
   simp only[Option.bind_some]at h
   cases hl:l.mapM f with
   |none=>rw[hl]at h;cases h
   |some r'=>
    rw[hl]at h
    simp only[Option.bind_some,Option.some.injEq]at h
    subst h
    cases i with
    |zero=>simp at ha;subst ha;exact ⟨b,rfl,hx⟩
    |succ i=>
     simp at ha
     obtain ⟨c,h1,h2⟩:=jBt hl i a ha
     exact ⟨c,by simpa using h1,h2⟩
theorem jAH {e:TypeId} {n:Nat}:∀ {l:List (DataW H)} {d:DataW H},d∈l→n∈d.weights P e→n∈DataW.weightsAll P e l
 |[],d,h,_=>by cases h
 |x::l,d,h,hn=>by
  unfold DataW.weightsAll
  rcases List.mem_cons.1 h with rfl|h
  ·exact List.mem_append_left _ hn
  ·exact List.mem_append_right _ (jAH h hn)
theorem Sized.slice {t e:TypeId} {elems spare:List (DataW H)} (h:Sized P t (.slice elems spare)) (ht:P.underlying t=some (.slice e)):elems.length*P.bytesOf e≤reachBytes∧∀d∈elems,Sized P e d:=by
 unfold Sized at h
 simp only[DataW.weights,ht]at h
 constructor
 ·have h1:=h _ (List.mem_cons_self ..)
  exact Nat.le_trans (Nat.mul_le_mul_right _ (Nat.le_add_right _ _)) h1
 ·exact fun d hd n hn=>h n (List.mem_cons_of_mem _ (List.mem_append_left _ (jAH hd hn)))
theorem jr.slice {t e:TypeId} {α:Type} {E:α→List Value} {good:α→Prop} {sz:Nat} (ht:P.underlying t=some (.slice e)) (hc:P.cellsOf e=sz) (hpos:0<sz) (hE:∀a,(E a).length=sz) (he:jr enc P w e E good):
  jr enc P w t (fun p:Value×List α=>[p.1]) (fun p=>Sl w p.1 (cellsOf E p.2) p.2.length∧p.2.length*P.bytesOf e≤reachBytes∧∀a∈p.2,good a):=by
 intro fuel cs x h hz
 cases fuel with
 |zero=>cases h
 |succ fuel=>
  unfold DataW.trod at h
  simp only[ht]at h
  split at h
  all_goals first
   |cases h;done
   |(rename_i h1;cases h1;done)
   |skip
  ·exact ⟨(.slice none 0 0,[]),rfl,Sl.nil w,by simp,fun a ha=>by cases ha⟩
  ·rename_i e0 a len cap h1
   cases h1
   split at h
   ·rename_i hb
    rw[hc]at h
    cases hm:(List.range len).mapM (fun i=>(w.cells? 0 (a.add (i*sz)) sz).bind (DataW.trod enc P w 0 (fun _=>true) true fuel e))with
    |none=>rw[hm]at h;cases h
    |some r=>
     rw[hm]at h
     simp only[Option.bind_some,if_true]at h
     cases hm2:(List.range (cap-len)).mapM (fun j=>(w.cells? 0 (a.add ((len+j)*sz)) sz).bind (DataW.trod enc P w 0 (fun _=>true) true fuel e))with
     |none=>rw[hm2]at h;cases h
     |some r2=>
     rw[hm2]at h
     simp only[Option.map_some,Option.some.injEq]at h
     subst h
     obtain ⟨hz1,hz2⟩:=Sized.slice hz ht
     have hrl:r.length=len:=by
      have:=jBt hm
      have key:∀ {α β:Type} {f:α→Option β} {l:List α} {r:List β},l.mapM f=some r→r.length=l.length:=by
       intro α β f l
       induction l with
       |nil=>intro r h;simp at h;subst h;rfl
       |cons x l ih=>
        intro r h
        simp only[List.mapM_cons,Option.bind_eq_bind,Option.pure_def]at h
        cases hx:f x with
        |none=>rw[hx]at h;cases h
        |some b=>
         rw[hx]at h
         simp only[Option.bind_some]at h
         cases hl:l.mapM f with
         |none=>rw[hl]at h;cases h
         |some r'=>
          rw[hl]at h
          simp only[Option.bind_some,Option.some.injEq]at h
          subst h
          simp[ih hl]
      rw[key hm];simp
     rw[List.length_map,hrl]at hz1
     have:∀i,i<len→∃b:α,good b∧∀(j:Nat) u,(E b)[j]? =some u→w.cell? ((a.add (i*sz)).add j)=some u:=by
      intro i hi
      obtain ⟨y,hy1,hy⟩:=jBt hm i i (by simp[hi])
      have hzy:Sized P e y.1:=hz2 _ (List.mem_map.2 ⟨y,List.mem_of_getElem? hy1,rfl⟩)
      cases hcs:w.cells? 0 (a.add (i*sz)) sz with
      |none=>rw[hcs]at hy;cases hy
      |some cs=>
       rw[hcs]at hy
       obtain ⟨b,rfl,hg⟩:=he fuel cs y hy hzy
       exact ⟨b,hg,(jKg hcs).2⟩
     have hlist:∀n,n≤len→∃l:List α,l.length=n∧(∀ b∈l,good b)∧∀(i:Nat) b,l[i]? =some b→∀(j:Nat) u,(E b)[j]? =some u→w.cell? ((a.add (i*sz)).add j)=some u:=by
      intro n
      induction n with
      |zero=>intro _;exact ⟨[],rfl,(fun b hb=>by cases hb),fun i b hb=>by simp at hb⟩
      |succ n ih=>
       intro hn
       obtain ⟨l,h1,h2,h3⟩:=ih (by omega)
       obtain ⟨b,g1,g2⟩:=this n (by omega)
       refine ⟨l++[b],by simp[h1],fun c hc=>?_,fun i c hc=>?_⟩
       ·rcases List.mem_append.1 hc with hc|hc
        ·exact h2 c hc
        ·simp at hc;subst hc;exact g1
       ·by_cases hi:i<l.length
        ·rw [List.getElem?_append_left hi]at hc;exact h3 i c hc
        ·have:i=n:=by have:=(List.getElem?_eq_some_iff.1 hc).1;simp at this;omega
         subst this
         rw[List.getElem?_append_right (by omega),h1]at hc
         simp at hc;subst hc;exact g2
     obtain ⟨l,h1,h2,h3⟩:=hlist len (Nat.le_refl _)
     refine ⟨(.slice (some a) len cap,l),rfl,⟨?_,some a,cap,by simp[h1],by rw[h1];exact hb.2.1⟩,by rw[h1];exact hz1,h2⟩
     by_cases h0:len=0
     ·subst h0
      have:l=[]:=List.eq_nil_of_length_eq_zero h1
      subst this
      exact .inl ⟨.inr ⟨a,cap,rfl⟩,rfl,rfl⟩
     ·obtain ⟨b,off,spot⟩:=a
      obtain ⟨b0,hb0⟩:=jH (show 0<l.length by omega)
      obtain ⟨u0,hu0⟩:=jH (show 0<(E b0).length by rw[hE];exact hpos)
      have hc0:=h3 0 b0 hb0 0 u0 hu0
      have hspot:spot=none:=by simpa[Addr.add]using World.cell?_spot hc0
      subst hspot
      have hadd:∀b off j,(⟨b,off,none⟩:Addr).add j=⟨b,off+j,none⟩:=fun b off j=>by unfold Addr.add;split<;>simp_all
      refine .inr ⟨b,off,cap,by simp[h1],fun j u hu=>?_⟩
      have hjl:j<(cellsOf E l).length:=(List.getElem?_eq_some_iff.1 hu).1
      rw[jC hE,h1]at hjl
      have hdiv:j / sz<len:=Nat.div_lt_of_lt_mul (by rw[Nat.mul_comm];exact hjl)
      have hmod:j%sz<sz:=Nat.mod_lt _ hpos
      obtain ⟨c,hc⟩:=jH (show j / sz<l.length by omega)
      obtain ⟨u',hu'⟩:=jH (show j%sz<(E c).length by rw[hE];exact hmod)
      have hj:j / sz*sz+j%sz=j:=by rw[Nat.mul_comm];exact Nat.div_add_mod j sz
      have hg:=jF hE hc (j%sz) u' hu'
      rw[hj,hu]at hg
      cases hg
      have:=h3 _ c hc _ u hu'
      rw[hadd,hadd,Nat.add_assoc,hj]at this
      exact this
   ·cases h
theorem Sized.of_each {ts:List TypeId} {ds:List (DataW H)} {j:Nat} {t:TypeId} {d:DataW H} (h:(DataW.weightsEach P ts ds).all (·≤reachBytes)=true) (ht:ts[j]? =some t) (hd:ds[j]? =some d):Sized P t d:=fun n hn=>by
 have:=List.all_eq_true.1 h _ (DataW.weights_mem_each ht hd n hn)
 simpa using this
theorem jr.fields {t:TypeId} {fs:Array Field} (ht:P.underlying t=some (.struct fs)) {fuel:Nat} {cs:List Value} {x:DataW H×List MemPlace} (h:DataW.trod enc P w 0 (fun _=>true) true fuel t cs=some x) (hz:Sized P t x.1):
  cs.length=P.cellsOf t∧∀f∈fs.toList,∃fuel' y,DataW.trod enc P w 0 (fun _=>true) true fuel' f.type ((cs.drop f.offset).take (P.cellsOf f.type))=some y∧Sized P f.type y.1:=by
 cases fuel with
 |zero=>cases h
 |succ fuel=>
  unfold DataW.trod at h
  simp only[ht]at h
  split at h
  ·rename_i hl
   refine ⟨hl,fun f hf=>?_⟩
   cases hm:fs.toList.mapM (fun f=>DataW.trod enc P w 0 (fun _=>true) true fuel f.type ((cs.drop f.offset).take (P.cellsOf f.type)))with
   |none=>rw[hm]at h;cases h
   |some r=>
    rw[hm]at h
    simp only[Option.map_some,Option.some.injEq]at h
    subst h
    obtain ⟨i,hi⟩:=List.getElem?_of_mem hf
    obtain ⟨y,hy1,hy⟩:=jBt hm i f hi
    refine ⟨fuel,y,hy,fun n hn=>hz n ?_⟩
    simp only[DataW.weights,ht]
    exact DataW.weights_mem_each (j:=i) (by rw[List.getElem?_map,hi];rfl) (by rw[List.getElem?_map,hy1];rfl) n hn
  ·cases h
end
end Go.GX
namespace Go.Proofs.YtgfdoognildoeaaGreat
open Go.GX Go.RowKit
attribute [local irreducible] Calls Run jg jh JU HR HL HD jU jK Jc Rd jL jd
open Nd
open Go.ChangeShapes Go.WideShapes
variable {H : Type} {enc : TypeId × Value → H} {W : World}
theorem J3 {w:World} {v:Value} {cs:List Value} {n:Nat} (h:Sl w v cs n):∃x:SV,v=sv x n:=by
 obtain ⟨_,a,c,e,_⟩:=h
 exact ⟨(a,c),e⟩
theorem wfI {n:Int} (h:(Lit.int .i64 n).wf=true):Go.GX.fits .i64 n:=by
 have h:(decide (-9223372036854775808≤n)&&decide (n≤9223372036854775807))=true:=h
 simp only[Bool.and_eq_true,decide_eq_true_eq]at h
 exact h
theorem jQj:jr enc Tryz.prog W 22 (fun p:Value×List Int=>[p.1]) (fun p=>Sl W p.1 (cellsOf iC p.2) p.2.length∧p.2.length*Tryz.prog.bytesOf 3≤reachBytes∧∀a∈p.2,(Lit.int .i64 a).wf=true):=
 jr.slice (sz:=1) I (by kernel_rfl) (by decide) KH (Opens.int rfl).z
theorem opZ81:jr enc Tryz.prog W 81 (fun p:Value×List Bool=>[p.1]) (fun p=>Sl W p.1 (cellsOf bC p.2) p.2.length∧p.2.length*Tryz.prog.bytesOf 4≤reachBytes∧∀a∈p.2,True):=
 jr.slice (sz:=1) I (by kernel_rfl) (by decide) jGF (Opens.bool rfl).z
theorem jR1:jr enc Tryz.prog W 152 (fun p:Value×List By=>[p.1]) (fun p=>Sl W p.1 (cellsOf sC p.2) p.2.length∧p.2.length*Tryz.prog.bytesOf 9≤reachBytes∧∀a∈p.2,a.length≤9223372036854775807):=
 jr.slice (sz:=1) I (by kernel_rfl) (by decide) jE5 (Opens.str rfl).z
theorem jRv:jr enc Tryz.prog W 75 frC (fun f=>f.da.length≤9223372036854775807):=by
 intro fuel cs x h hz
 obtain ⟨hl,hf⟩:=jr.fields (fs:=_) I h hz
 have cT:Tryz.prog.cellsOf 75=9:=by kernel_rfl
 have cf0:Tryz.prog.cellsOf 3=1:=by kernel_rfl
 have cf1:Tryz.prog.cellsOf 4=1:=by kernel_rfl
 have cf2:Tryz.prog.cellsOf 9=1:=by kernel_rfl
 rw[cT]at hl
 obtain ⟨fu0,y0,h0,i0⟩:=hf _ (List.mem_cons_self ..)
 obtain ⟨fu1,y1,h1,i1⟩:=hf _ (List.mem_cons_of_mem _ (List.mem_cons_self ..))
 obtain ⟨fu2,y2,h2,i2⟩:=hf _ (List.mem_cons_of_mem _ (List.mem_cons_of_mem _ (List.mem_cons_self ..)))
 obtain ⟨fu3,y3,h3,i3⟩:=hf _ (List.mem_cons_of_mem _ (List.mem_cons_of_mem _ (List.mem_cons_of_mem _ (List.mem_cons_self ..))))
 obtain ⟨fu4,y4,h4,i4⟩:=hf _ (List.mem_cons_of_mem _ (List.mem_cons_of_mem _ (List.mem_cons_of_mem _ (List.mem_cons_of_mem _ (List.mem_cons_self ..)))))
 obtain ⟨fu5,y5,h5,i5⟩:=hf _ (List.mem_cons_of_mem _ (List.mem_cons_of_mem _ (List.mem_cons_of_mem _ (List.mem_cons_of_mem _ (List.mem_cons_of_mem _ (List.mem_cons_self ..))))))
 obtain ⟨fu6,y6,h6,i6⟩:=hf _ (List.mem_cons_of_mem _ (List.mem_cons_of_mem _ (List.mem_cons_of_mem _ (List.mem_cons_of_mem _ (List.mem_cons_of_mem _ (List.mem_cons_of_mem _ (List.mem_cons_self ..)))))))
 obtain ⟨fu7,y7,h7,i7⟩:=hf _ (List.mem_cons_of_mem _ (List.mem_cons_of_mem _ (List.mem_cons_of_mem _ (List.mem_cons_of_mem _ (List.mem_cons_of_mem _ (List.mem_cons_of_mem _ (List.mem_cons_of_mem _ (List.mem_cons_self ..))))))))
 obtain ⟨fu8,y8,h8,i8⟩:=hf _ (List.mem_cons_of_mem _ (List.mem_cons_of_mem _ (List.mem_cons_of_mem _ (List.mem_cons_of_mem _ (List.mem_cons_of_mem _ (List.mem_cons_of_mem _ (List.mem_cons_of_mem _ (List.mem_cons_of_mem _ (List.mem_cons_self ..)))))))))
 obtain ⟨a0,g0,b0⟩:=(Opens.int (k:= .i64) rfl).z fu0 _ _ h0 i0
 obtain ⟨a1,g1,b1⟩:=(Opens.int (k:= .i64) rfl).z fu1 _ _ h1 i1
 obtain ⟨a2,g2,b2⟩:=(Opens.int (k:= .i64) rfl).z fu2 _ _ h2 i2
 obtain ⟨a3,g3,b3⟩:=(Opens.int (k:= .i64) rfl).z fu3 _ _ h3 i3
 obtain ⟨a4,g4,b4⟩:=(Opens.int (k:= .i64) rfl).z fu4 _ _ h4 i4
 obtain ⟨a5,g5,b5⟩:=(Opens.int (k:= .i64) rfl).z fu5 _ _ h5 i5
 obtain ⟨a6,g6,b6⟩:=(Opens.int (k:= .i64) rfl).z fu6 _ _ h6 i6
 obtain ⟨a7,g7,b7⟩:=(Opens.bool rfl).z fu7 _ _ h7 i7
 obtain ⟨a8,g8,b8⟩:=(Opens.str rfl).z fu8 _ _ h8 i8
 have e0:=parts_eq g0 (m:=1) (by simp[cf0]) (by simp[cf0])
 have e1:=parts_eq g1 (m:=2) (by simp[cf0]) (by simp[cf0])
 have e2:=parts_eq g2 (m:=3) (by simp[cf0]) (by simp[cf0])
 have e3:=parts_eq g3 (m:=4) (by simp[cf0]) (by simp[cf0])
 have e4:=parts_eq g4 (m:=5) (by simp[cf0]) (by simp[cf0])
 have e5:=parts_eq g5 (m:=6) (by simp[cf0]) (by simp[cf0])
 have e6:=parts_eq g6 (m:=7) (by simp[cf0]) (by simp[cf0])
 have e7:=parts_eq g7 (m:=8) (by simp[cf1]) (by simp[cf1])
 have e8:=parts_eq g8 (m:=9) (by simp[cf2]) (by simp[cf2])
 refine ⟨⟨a0,a1,a2,a3,a4,a5,a6,a7,a8⟩,?_,b8⟩
 simp only[List.drop_zero]at e0
 rw[e0,e1,e2,e3,e4,e5,e6,e7,e8,List.drop_eq_nil_of_le (by omega)];rfl
theorem opZ94:jr enc Tryz.prog W 94 roC (fun _=>True):=by
 intro fuel cs x h hz
 obtain ⟨hl,hf⟩:=jr.fields (fs:=_) I h hz
 have cT:Tryz.prog.cellsOf 94=4:=by kernel_rfl
 have cf0:Tryz.prog.cellsOf 3=1:=by kernel_rfl
 rw[cT]at hl
 obtain ⟨fu0,y0,h0,i0⟩:=hf _ (List.mem_cons_self ..)
 obtain ⟨fu1,y1,h1,i1⟩:=hf _ (List.mem_cons_of_mem _ (List.mem_cons_self ..))
 obtain ⟨fu2,y2,h2,i2⟩:=hf _ (List.mem_cons_of_mem _ (List.mem_cons_of_mem _ (List.mem_cons_self ..)))
 obtain ⟨fu3,y3,h3,i3⟩:=hf _ (List.mem_cons_of_mem _ (List.mem_cons_of_mem _ (List.mem_cons_of_mem _ (List.mem_cons_self ..))))
 obtain ⟨a0,g0,b0⟩:=(Opens.int (k:= .i64) rfl).z fu0 _ _ h0 i0
 obtain ⟨a1,g1,b1⟩:=(Opens.int (k:= .i64) rfl).z fu1 _ _ h1 i1
 obtain ⟨a2,g2,b2⟩:=(Opens.int (k:= .i64) rfl).z fu2 _ _ h2 i2
 obtain ⟨a3,g3,b3⟩:=(Opens.int (k:= .i64) rfl).z fu3 _ _ h3 i3
 have e0:=parts_eq g0 (m:=1) (by simp[cf0]) (by simp[cf0])
 have e1:=parts_eq g1 (m:=2) (by simp[cf0]) (by simp[cf0])
 have e2:=parts_eq g2 (m:=3) (by simp[cf0]) (by simp[cf0])
 have e3:=parts_eq g3 (m:=4) (by simp[cf0]) (by simp[cf0])
 refine ⟨⟨a0,a1,a2,a3⟩,?_,trivial⟩
 simp only[List.drop_zero]at e0
 rw[e0,e1,e2,e3,List.drop_eq_nil_of_le (by omega)];rfl
theorem jR0:jr enc Tryz.prog W 162 liC (fun _=>True):=by
 intro fuel cs x h hz
 obtain ⟨hl,hf⟩:=jr.fields (fs:=_) I h hz
 have cT:Tryz.prog.cellsOf 162=3:=by kernel_rfl
 have cf0:Tryz.prog.cellsOf 3=1:=by kernel_rfl
 rw[cT]at hl
 obtain ⟨fu0,y0,h0,i0⟩:=hf _ (List.mem_cons_self ..)
 obtain ⟨fu1,y1,h1,i1⟩:=hf _ (List.mem_cons_of_mem _ (List.mem_cons_self ..))
 obtain ⟨fu2,y2,h2,i2⟩:=hf _ (List.mem_cons_of_mem _ (List.mem_cons_of_mem _ (List.mem_cons_self ..)))
 obtain ⟨a0,g0,b0⟩:=(Opens.int (k:= .i64) rfl).z fu0 _ _ h0 i0
 obtain ⟨a1,g1,b1⟩:=(Opens.int (k:= .i64) rfl).z fu1 _ _ h1 i1
 obtain ⟨a2,g2,b2⟩:=(Opens.int (k:= .i64) rfl).z fu2 _ _ h2 i2
 have e0:=parts_eq g0 (m:=1) (by simp[cf0]) (by simp[cf0])
 have e1:=parts_eq g1 (m:=2) (by simp[cf0]) (by simp[cf0])
 have e2:=parts_eq g2 (m:=3) (by simp[cf0]) (by simp[cf0])
 refine ⟨⟨a0,a1,a2⟩,?_,trivial⟩
 simp only[List.drop_zero]at e0
 rw[e0,e1,e2,List.drop_eq_nil_of_le (by omega)];rfl
theorem jRy:jr enc Tryz.prog W 171 prC (fun _=>True):=by
 intro fuel cs x h hz
 obtain ⟨hl,hf⟩:=jr.fields (fs:=_) I h hz
 have cT:Tryz.prog.cellsOf 171=2:=by kernel_rfl
 have cf0:Tryz.prog.cellsOf 3=1:=by kernel_rfl
 rw[cT]at hl
 obtain ⟨fu0,y0,h0,i0⟩:=hf _ (List.mem_cons_self ..)
 obtain ⟨fu1,y1,h1,i1⟩:=hf _ (List.mem_cons_of_mem _ (List.mem_cons_self ..))
 obtain ⟨a0,g0,b0⟩:=(Opens.int (k:= .i64) rfl).z fu0 _ _ h0 i0
 obtain ⟨a1,g1,b1⟩:=(Opens.int (k:= .i64) rfl).z fu1 _ _ h1 i1
 have e0:=parts_eq g0 (m:=1) (by simp[cf0]) (by simp[cf0])
 have e1:=parts_eq g1 (m:=2) (by simp[cf0]) (by simp[cf0])
 refine ⟨⟨a0,a1⟩,?_,trivial⟩
 simp only[List.drop_zero]at e0
 rw[e0,e1,List.drop_eq_nil_of_le (by omega)];rfl
theorem opZ65:jr enc Tryz.prog W 65 deC (fun _=>True):=by
 intro fuel cs x h hz
 obtain ⟨hl,hf⟩:=jr.fields (fs:=_) I h hz
 have cT:Tryz.prog.cellsOf 65=2:=by kernel_rfl
 have cf0:Tryz.prog.cellsOf 3=1:=by kernel_rfl
 have cf1:Tryz.prog.cellsOf 9=1:=by kernel_rfl
 rw[cT]at hl
 obtain ⟨fu0,y0,h0,i0⟩:=hf _ (List.mem_cons_self ..)
 obtain ⟨fu1,y1,h1,i1⟩:=hf _ (List.mem_cons_of_mem _ (List.mem_cons_self ..))
 obtain ⟨a0,g0,b0⟩:=(Opens.int (k:= .i64) rfl).z fu0 _ _ h0 i0
 obtain ⟨a1,g1,b1⟩:=(Opens.str rfl).z fu1 _ _ h1 i1
 have e0:=parts_eq g0 (m:=1) (by simp[cf0]) (by simp[cf0])
 have e1:=parts_eq g1 (m:=2) (by simp[cf1]) (by simp[cf1])
 refine ⟨⟨a0,a1⟩,?_,trivial⟩
 simp only[List.drop_zero]at e0
 rw[e0,e1,List.drop_eq_nil_of_le (by omega)];rfl
theorem jR2:jr enc Tryz.prog W 131 snC (fun s=>Me.WfS s):=by
 intro fuel cs x h hz
 obtain ⟨hl,hf⟩:=jr.fields (fs:=_) I h hz
 have cT:Tryz.prog.cellsOf 131=11:=by kernel_rfl
 have cf0:Tryz.prog.cellsOf 75=9:=by kernel_rfl
 have cf1:Tryz.prog.cellsOf 3=1:=by kernel_rfl
 rw[cT]at hl
 obtain ⟨fu0,y0,h0,i0⟩:=hf _ (List.mem_cons_self ..)
 obtain ⟨fu1,y1,h1,i1⟩:=hf _ (List.mem_cons_of_mem _ (List.mem_cons_self ..))
 obtain ⟨fu2,y2,h2,i2⟩:=hf _ (List.mem_cons_of_mem _ (List.mem_cons_of_mem _ (List.mem_cons_self ..)))
 obtain ⟨a0,g0,b0⟩:=jRv fu0 _ _ h0 i0
 obtain ⟨a1,g1,b1⟩:=(Opens.int (k:= .i64) rfl).z fu1 _ _ h1 i1
 obtain ⟨a2,g2,b2⟩:=(Opens.int (k:= .i64) rfl).z fu2 _ _ h2 i2
 have e0:=parts_eq g0 (m:=9) (by simp[cf0]) (by simp[cf0])
 have e1:=parts_eq g1 (m:=10) (by simp[cf1]) (by simp[cf1])
 have e2:=parts_eq g2 (m:=11) (by simp[cf1]) (by simp[cf1])
 refine ⟨⟨a0,a1,a2⟩,?_,⟨wfI b1,wfI b2,b0⟩⟩
 simp only[List.drop_zero]at e0
 rw[e0,e1,e2,List.drop_eq_nil_of_le (by omega)];rfl
theorem jRz:jr enc Tryz.prog W 166 maC (fun s=>s.f.da.length≤9223372036854775807):=by
 intro fuel cs x h hz
 obtain ⟨hl,hf⟩:=jr.fields (fs:=_) I h hz
 have cT:Tryz.prog.cellsOf 166=10:=by kernel_rfl
 have cf0:Tryz.prog.cellsOf 75=9:=by kernel_rfl
 have cf1:Tryz.prog.cellsOf 3=1:=by kernel_rfl
 rw[cT]at hl
 obtain ⟨fu0,y0,h0,i0⟩:=hf _ (List.mem_cons_self ..)
 obtain ⟨fu1,y1,h1,i1⟩:=hf _ (List.mem_cons_of_mem _ (List.mem_cons_self ..))
 obtain ⟨a0,g0,b0⟩:=jRv fu0 _ _ h0 i0
 obtain ⟨a1,g1,b1⟩:=(Opens.int (k:= .i64) rfl).z fu1 _ _ h1 i1
 have e0:=parts_eq g0 (m:=9) (by simp[cf0]) (by simp[cf0])
 have e1:=parts_eq g1 (m:=10) (by simp[cf1]) (by simp[cf1])
 refine ⟨⟨a0,a1⟩,?_,b0⟩
 simp only[List.drop_zero]at e0
 rw[e0,e1,List.drop_eq_nil_of_le (by omega)];rfl
theorem jRx:jr enc Tryz.prog W 173 ptC (fun p=>RdPt W p∧jBj p.pt):=by
 intro fuel cs x h hz
 obtain ⟨hl,hf⟩:=jr.fields (fs:=_) I h hz
 have cT:Tryz.prog.cellsOf 173=6:=by kernel_rfl
 have cf0:Tryz.prog.cellsOf 3=1:=by kernel_rfl
 have cf1:Tryz.prog.cellsOf 81=1:=by kernel_rfl
 have cf2:Tryz.prog.cellsOf 152=1:=by kernel_rfl
 rw[cT]at hl
 obtain ⟨fu0,y0,h0,i0⟩:=hf _ (List.mem_cons_self ..)
 obtain ⟨fu1,y1,h1,i1⟩:=hf _ (List.mem_cons_of_mem _ (List.mem_cons_self ..))
 obtain ⟨fu2,y2,h2,i2⟩:=hf _ (List.mem_cons_of_mem _ (List.mem_cons_of_mem _ (List.mem_cons_self ..)))
 obtain ⟨fu3,y3,h3,i3⟩:=hf _ (List.mem_cons_of_mem _ (List.mem_cons_of_mem _ (List.mem_cons_of_mem _ (List.mem_cons_self ..))))
 obtain ⟨fu4,y4,h4,i4⟩:=hf _ (List.mem_cons_of_mem _ (List.mem_cons_of_mem _ (List.mem_cons_of_mem _ (List.mem_cons_of_mem _ (List.mem_cons_self ..)))))
 obtain ⟨fu5,y5,h5,i5⟩:=hf _ (List.mem_cons_of_mem _ (List.mem_cons_of_mem _ (List.mem_cons_of_mem _ (List.mem_cons_of_mem _ (List.mem_cons_of_mem _ (List.mem_cons_self ..))))))
 obtain ⟨a0,g0,b0⟩:=(Opens.int (k:= .i64) rfl).z fu0 _ _ h0 i0
 obtain ⟨a1,g1,b1⟩:=(Opens.int (k:= .i64) rfl).z fu1 _ _ h1 i1
 obtain ⟨a2,g2,b2⟩:=(Opens.int (k:= .i64) rfl).z fu2 _ _ h2 i2
 obtain ⟨a3,g3,b3⟩:=(Opens.int (k:= .i64) rfl).z fu3 _ _ h3 i3
 obtain ⟨⟨v4,l4⟩,g4,s4,n4,q4⟩:=opZ81 fu4 _ _ h4 i4
 obtain ⟨⟨v5,l5⟩,g5,s5,n5,q5⟩:=jR1 fu5 _ _ h5 i5
 obtain ⟨z4,hz4⟩:=J3 s4
 have hz4:v4=sv z4 l4.length:=hz4
 subst hz4
 obtain ⟨z5,hz5⟩:=J3 s5
 have hz5:v5=sv z5 l5.length:=hz5
 subst hz5
 have e0:=parts_eq g0 (m:=1) (by simp[cf0]) (by simp[cf0])
 have e1:=parts_eq g1 (m:=2) (by simp[cf0]) (by simp[cf0])
 have e2:=parts_eq g2 (m:=3) (by simp[cf0]) (by simp[cf0])
 have e3:=parts_eq g3 (m:=4) (by simp[cf0]) (by simp[cf0])
 have e4:=parts_eq g4 (m:=5) (by simp[cf1]) (by simp[cf1])
 have e5:=parts_eq g5 (m:=6) (by simp[cf2]) (by simp[cf2])
 have hb1:Tryz.prog.bytesOf 4=1:=by kernel_rfl
 have hb2:Tryz.prog.bytesOf 9=16:=by kernel_rfl
 rw[hb1]at n4
 rw[hb2]at n5
 have hr:reachBytes=140737488351232:=rfl
 rw[hr]at n4 n5
 have n4:l4.length*1≤140737488351232:=n4
 have n5:l5.length*16≤140737488351232:=n5
 refine ⟨⟨sv z4 l4.length,sv z5 l5.length,⟨a0,a1,a2,a3,l4,l5⟩⟩,?_,⟨⟨s4,s5⟩,by show l4.length≤_;omega,by show l5.length≤_;omega,q5⟩⟩
 simp only[List.drop_zero]at e0
 rw[e0,e1,e2,e3,e4,e5,List.drop_eq_nil_of_le (by omega)];rfl
theorem opZ55:jr enc Tryz.prog W 55 (fun p:Value×List Ro=>[p.1]) (fun p=>Sl W p.1 (cellsOf roC p.2) p.2.length∧p.2.length*Tryz.prog.bytesOf 94≤reachBytes∧∀a∈p.2,True):=
 jr.slice (sz:=4) I (by kernel_rfl) (by decide) jW opZ94
theorem opZ56:jr enc Tryz.prog W 56 (fun p:Value×List Li=>[p.1]) (fun p=>Sl W p.1 (cellsOf liC p.2) p.2.length∧p.2.length*Tryz.prog.bytesOf 162≤reachBytes∧∀a∈p.2,True):=
 jr.slice (sz:=3) I (by kernel_rfl) (by decide) JC jR0
theorem opZ57:jr enc Tryz.prog W 57 (fun p:Value×List Sn=>[p.1]) (fun p=>Sl W p.1 (cellsOf snC p.2) p.2.length∧p.2.length*Tryz.prog.bytesOf 131≤reachBytes∧∀a∈p.2,Me.WfS a):=
 jr.slice (sz:=11) I (by kernel_rfl) (by decide) je jR2
theorem opZ58:jr enc Tryz.prog W 58 (fun p:Value×List Ma=>[p.1]) (fun p=>Sl W p.1 (cellsOf maC p.2) p.2.length∧p.2.length*Tryz.prog.bytesOf 166≤reachBytes∧∀a∈p.2,a.f.da.length≤9223372036854775807):=
 jr.slice (sz:=10) I (by kernel_rfl) (by decide) Jw jRz
theorem opZ59:jr enc Tryz.prog W 59 (fun p:Value×List Pr=>[p.1]) (fun p=>Sl W p.1 (cellsOf prC p.2) p.2.length∧p.2.length*Tryz.prog.bytesOf 171≤reachBytes∧∀a∈p.2,True):=
 jr.slice (sz:=2) I (by kernel_rfl) (by decide) Zf jRy
theorem opZ46:jr enc Tryz.prog W 46 (fun p:Value×List De=>[p.1]) (fun p=>Sl W p.1 (cellsOf deC p.2) p.2.length∧p.2.length*Tryz.prog.bytesOf 65≤reachBytes∧∀a∈p.2,True):=
 jr.slice (sz:=2) I (by kernel_rfl) (by decide) jAS opZ65
theorem opZ60:jr enc Tryz.prog W 60 (fun p:Value×List PtV=>[p.1]) (fun p=>Sl W p.1 (cellsOf ptC p.2) p.2.length∧p.2.length*Tryz.prog.bytesOf 173≤reachBytes∧∀a∈p.2,(RdPt W a∧jBj a.pt)):=
 jr.slice (sz:=6) I (by kernel_rfl) (by decide) JX jRx
structure NdOkZ (W:World) (a:NV×Nd):Prop where
 ok:OkN W a.1 a.2
 sm:∀p∈a.2.parts,jBj p
 wf:Me.WfO a.2
theorem opZ62:jr enc Tryz.prog W 62 zR (NdOkZ W):=by
 intro fuel cs x h hz
 obtain ⟨hl,hf⟩:=jr.fields (fs:=_) I h hz
 have cT:Tryz.prog.cellsOf 62=13:=by kernel_rfl
 have cf0:Tryz.prog.cellsOf 3=1:=by kernel_rfl
 have cf1:Tryz.prog.cellsOf 55=1:=by kernel_rfl
 have cf2:Tryz.prog.cellsOf 56=1:=by kernel_rfl
 have cf3:Tryz.prog.cellsOf 57=1:=by kernel_rfl
 have cf4:Tryz.prog.cellsOf 22=1:=by kernel_rfl
 have cf5:Tryz.prog.cellsOf 58=1:=by kernel_rfl
 have cf6:Tryz.prog.cellsOf 59=1:=by kernel_rfl
 have cf7:Tryz.prog.cellsOf 60=1:=by kernel_rfl
 have cf8:Tryz.prog.cellsOf 46=1:=by kernel_rfl
 rw[cT]at hl
 obtain ⟨fu0,y0,h0,i0⟩:=hf _ (List.mem_cons_self ..)
 obtain ⟨fu1,y1,h1,i1⟩:=hf _ (List.mem_cons_of_mem _ (List.mem_cons_self ..))
 obtain ⟨fu2,y2,h2,i2⟩:=hf _ (List.mem_cons_of_mem _ (List.mem_cons_of_mem _ (List.mem_cons_self ..)))
 obtain ⟨fu3,y3,h3,i3⟩:=hf _ (List.mem_cons_of_mem _ (List.mem_cons_of_mem _ (List.mem_cons_of_mem _ (List.mem_cons_self ..))))
 obtain ⟨fu4,y4,h4,i4⟩:=hf _ (List.mem_cons_of_mem _ (List.mem_cons_of_mem _ (List.mem_cons_of_mem _ (List.mem_cons_of_mem _ (List.mem_cons_self ..)))))
 obtain ⟨fu5,y5,h5,i5⟩:=hf _ (List.mem_cons_of_mem _ (List.mem_cons_of_mem _ (List.mem_cons_of_mem _ (List.mem_cons_of_mem _ (List.mem_cons_of_mem _ (List.mem_cons_self ..))))))
 obtain ⟨fu6,y6,h6,i6⟩:=hf _ (List.mem_cons_of_mem _ (List.mem_cons_of_mem _ (List.mem_cons_of_mem _ (List.mem_cons_of_mem _ (List.mem_cons_of_mem _ (List.mem_cons_of_mem _ (List.mem_cons_self ..)))))))
 obtain ⟨fu7,y7,h7,i7⟩:=hf _ (List.mem_cons_of_mem _ (List.mem_cons_of_mem _ (List.mem_cons_of_mem _ (List.mem_cons_of_mem _ (List.mem_cons_of_mem _ (List.mem_cons_of_mem _ (List.mem_cons_of_mem _ (List.mem_cons_self ..))))))))
 obtain ⟨fu8,y8,h8,i8⟩:=hf _ (List.mem_cons_of_mem _ (List.mem_cons_of_mem _ (List.mem_cons_of_mem _ (List.mem_cons_of_mem _ (List.mem_cons_of_mem _ (List.mem_cons_of_mem _ (List.mem_cons_of_mem _ (List.mem_cons_of_mem _ (List.mem_cons_self ..)))))))))
 obtain ⟨fu9,y9,h9,i9⟩:=hf _ (List.mem_cons_of_mem _ (List.mem_cons_of_mem _ (List.mem_cons_of_mem _ (List.mem_cons_of_mem _ (List.mem_cons_of_mem _ (List.mem_cons_of_mem _ (List.mem_cons_of_mem _ (List.mem_cons_of_mem _ (List.mem_cons_of_mem _ (List.mem_cons_self ..))))))))))
 obtain ⟨fu10,y10,h10,i10⟩:=hf _ (List.mem_cons_of_mem _ (List.mem_cons_of_mem _ (List.mem_cons_of_mem _ (List.mem_cons_of_mem _ (List.mem_cons_of_mem _ (List.mem_cons_of_mem _ (List.mem_cons_of_mem _ (List.mem_cons_of_mem _ (List.mem_cons_of_mem _ (List.mem_cons_of_mem _ (List.mem_cons_self ..)))))))))))
 obtain ⟨fu11,y11,h11,i11⟩:=hf _ (List.mem_cons_of_mem _ (List.mem_cons_of_mem _ (List.mem_cons_of_mem _ (List.mem_cons_of_mem _ (List.mem_cons_of_mem _ (List.mem_cons_of_mem _ (List.mem_cons_of_mem _ (List.mem_cons_of_mem _ (List.mem_cons_of_mem _ (List.mem_cons_of_mem _ (List.mem_cons_of_mem _ (List.mem_cons_self ..))))))))))))
 obtain ⟨fu12,y12,h12,i12⟩:=hf _ (List.mem_cons_of_mem _ (List.mem_cons_of_mem _ (List.mem_cons_of_mem _ (List.mem_cons_of_mem _ (List.mem_cons_of_mem _ (List.mem_cons_of_mem _ (List.mem_cons_of_mem _ (List.mem_cons_of_mem _ (List.mem_cons_of_mem _ (List.mem_cons_of_mem _ (List.mem_cons_of_mem _ (List.mem_cons_of_mem _ (List.mem_cons_self ..)))))))))))))
 obtain ⟨a0,g0,b0⟩:=(Opens.int (k:= .i64) rfl).z fu0 _ _ h0 i0
 obtain ⟨a1,g1,b1⟩:=(Opens.int (k:= .i64) rfl).z fu1 _ _ h1 i1
 obtain ⟨a2,g2,b2⟩:=(Opens.int (k:= .i64) rfl).z fu2 _ _ h2 i2
 obtain ⟨⟨v3,l3⟩,g3,s3,n3,q3⟩:=opZ55 fu3 _ _ h3 i3
 obtain ⟨⟨v4,l4⟩,g4,s4,n4,q4⟩:=opZ56 fu4 _ _ h4 i4
 obtain ⟨⟨v5,l5⟩,g5,s5,n5,q5⟩:=opZ57 fu5 _ _ h5 i5
 obtain ⟨⟨v6,l6⟩,g6,s6,n6,q6⟩:=jQj fu6 _ _ h6 i6
 obtain ⟨⟨v7,l7⟩,g7,s7,n7,q7⟩:=opZ58 fu7 _ _ h7 i7
 obtain ⟨⟨v8,l8⟩,g8,s8,n8,q8⟩:=opZ59 fu8 _ _ h8 i8
 obtain ⟨⟨v9,l9⟩,g9,s9,n9,q9⟩:=opZ60 fu9 _ _ h9 i9
 obtain ⟨⟨v10,l10⟩,g10,s10,n10,q10⟩:=opZ46 fu10 _ _ h10 i10
 obtain ⟨a11,g11,b11⟩:=(Opens.int (k:= .i64) rfl).z fu11 _ _ h11 i11
 obtain ⟨a12,g12,b12⟩:=(Opens.int (k:= .i64) rfl).z fu12 _ _ h12 i12
 obtain ⟨z3,hz3⟩:=J3 s3
 have hz3:v3=sv z3 l3.length:=hz3
 subst hz3
 obtain ⟨z4,hz4⟩:=J3 s4
 have hz4:v4=sv z4 l4.length:=hz4
 subst hz4
 obtain ⟨z5,hz5⟩:=J3 s5
 have hz5:v5=sv z5 l5.length:=hz5
 subst hz5
 obtain ⟨z6,hz6⟩:=J3 s6
 have hz6:v6=sv z6 l6.length:=hz6
 subst hz6
 obtain ⟨z7,hz7⟩:=J3 s7
 have hz7:v7=sv z7 l7.length:=hz7
 subst hz7
 obtain ⟨z8,hz8⟩:=J3 s8
 have hz8:v8=sv z8 l8.length:=hz8
 subst hz8
 obtain ⟨z9,hz9⟩:=J3 s9
 have hz9:v9=sv z9 l9.length:=hz9
 subst hz9
 obtain ⟨z10,hz10⟩:=J3 s10
 have hz10:v10=sv z10 l10.length:=hz10
 subst hz10
 have e0:=parts_eq g0 (m:=1) (by simp[cf0]) (by simp[cf0])
 have e1:=parts_eq g1 (m:=2) (by simp[cf0]) (by simp[cf0])
 have e2:=parts_eq g2 (m:=3) (by simp[cf0]) (by simp[cf0])
 have e3:=parts_eq g3 (m:=4) (by simp[cf1]) (by simp[cf1])
 have e4:=parts_eq g4 (m:=5) (by simp[cf2]) (by simp[cf2])
 have e5:=parts_eq g5 (m:=6) (by simp[cf3]) (by simp[cf3])
 have e6:=parts_eq g6 (m:=7) (by simp[cf4]) (by simp[cf4])
 have e7:=parts_eq g7 (m:=8) (by simp[cf5]) (by simp[cf5])
 have e8:=parts_eq g8 (m:=9) (by simp[cf6]) (by simp[cf6])
 have e9:=parts_eq g9 (m:=10) (by simp[cf7]) (by simp[cf7])
 have e10:=parts_eq g10 (m:=11) (by simp[cf8]) (by simp[cf8])
 have e11:=parts_eq g11 (m:=12) (by simp[cf0]) (by simp[cf0])
 have e12:=parts_eq g12 (m:=13) (by simp[cf0]) (by simp[cf0])
 refine ⟨(⟨z3,z4,z5,z6,z7,z8,z9,z10,l9⟩,⟨a0,a1,a2,l3,l4,l5,l6,l7,l8,l9.map (·.pt),l10,a11,a12⟩),?_,⟨⟨s3,s4,s5,s6,s7,s8,⟨s9,fun p hp=>(q9 p hp).1⟩,s10,rfl⟩,fun p hp=>by obtain ⟨p0,hp0,rfl⟩:=List.mem_map.1 hp;exact (q9 p0 hp0).2,⟨q5,q7⟩⟩⟩
 simp only[List.drop_zero]at e0
 rw[e0,e1,e2,e3,e4,e5,e6,e7,e8,e9,e10,e11,e12,List.drop_eq_nil_of_le (by omega)];rfl
theorem opZ24:jr enc Tryz.prog W 24 (fun p:Value×List (NV×Nd)=>[p.1]) (fun p=>Sl W p.1 (cellsOf zR p.2) p.2.length∧p.2.length*Tryz.prog.bytesOf 62≤reachBytes∧∀a∈p.2,NdOkZ W a):=
 jr.slice (sz:=13) I (by kernel_rfl) (by decide) jZ opZ62
abbrev MeA:=Int×Value×List (NV×Nd)
abbrev meE (a:MeA):List Value:=meC a.1 a.2.1
structure MeOkZ (W:World) (a:MeA):Prop where
 ok:OkL W a.2.1 a.2.2
 nd:∀x∈a.2.2,NdOkZ W x
theorem opZ26:jr enc Tryz.prog W 26 meE (MeOkZ W):=by
 intro fuel cs x h hz
 obtain ⟨hl,hf⟩:=jr.fields (fs:=_) I h hz
 have cT:Tryz.prog.cellsOf 26=2:=by kernel_rfl
 have cf0:Tryz.prog.cellsOf 3=1:=by kernel_rfl
 have cf1:Tryz.prog.cellsOf 24=1:=by kernel_rfl
 rw[cT]at hl
 obtain ⟨fu0,y0,h0,i0⟩:=hf _ (List.mem_cons_self ..)
 obtain ⟨fu1,y1,h1,i1⟩:=hf _ (List.mem_cons_of_mem _ (List.mem_cons_self ..))
 obtain ⟨a0,g0,b0⟩:=(Opens.int (k:= .i64) rfl).z fu0 _ _ h0 i0
 obtain ⟨⟨v1,l1⟩,g1,s1,n1,q1⟩:=opZ24 fu1 _ _ h1 i1
 obtain ⟨z1,hz1⟩:=J3 s1
 have hz1:v1=sv z1 l1.length:=hz1
 subst hz1
 have e0:=parts_eq g0 (m:=1) (by simp[cf0]) (by simp[cf0])
 have e1:=parts_eq g1 (m:=2) (by simp[cf1]) (by simp[cf1])
 refine ⟨(a0,sv z1 l1.length,l1),?_,⟨⟨s1,fun x hx=>(q1 x hx).ok⟩,q1⟩⟩
 simp only[List.drop_zero]at e0
 rw[e0,e1,List.drop_eq_nil_of_le (by omega)];rfl
end Go.Proofs.YtgfdoognildoeaaGreat
namespace Go.Proofs.YtgfdoognildoeaaGreat
open Go.GX Go.RowKit
attribute [local irreducible] Calls Run jg jh JU HR HL HD jU jK Jc Rd jL jd
open Nd
theorem fn24:IsFn Tryz.prog 24:=⟨⟨_,_,Tryz.func24,rfl,by decide⟩⟩
theorem fn26:IsFn Tryz.prog 26:=⟨⟨_,_,Tryz.func26,rfl,by decide⟩⟩
theorem fn29:IsFn Tryz.prog 29:=⟨⟨_,_,Tryz.func29,rfl,by decide⟩⟩
theorem jDc {t:Int} {xs:List (NV×Nd)} {source target:Int} {ur:Bool} {text:By} (h:Me.idx (nds xs) source=none):Me.jBG ⟨t,nds xs⟩ source target ur text=(Me.jEQ,8):=by
 unfold Me.jBG;simp only;rw[h]
theorem jDb {t:Int} {xs:List (NV×Nd)} {source target:Int} {ur:Bool} {text:By} {i:Nat} {V:NV} {n:Nd} (h:Me.idx (nds xs) source=some i) (hx:xs[i]? =some (V,n)):
  Me.jBG ⟨t,nds xs⟩ source target ur text=if (send n target ur text).2≠0 then (Me.jEQ,(send n target ur text).2)else (⟨t,(nds xs).set i (send n target ur text).1⟩,0):=by
 unfold Me.jBG;simp only;rw[h];simp only;rw[jBE hx]
theorem jDa {t:Int} {xs:List (NV×Nd)} {a:Int} (h:Me.idx (nds xs) a=none):Me.jAN ⟨t,nds xs⟩ a=(⟨t,nds xs⟩,[]):=by unfold Me.jAN;simp only;rw[h]
theorem jDZ {t:Int} {xs:List (NV×Nd)} {a:Int} {i:Nat} {V:NV} {n:Nd} (h:Me.idx (nds xs) a=some i) (hx:xs[i]? =some (V,n)):Me.jAN ⟨t,nds xs⟩ a=(⟨t,(nds xs).set i (take n).1⟩,(take n).2):=by
 unfold Me.jAN;simp only;rw[h];simp only;rw[jBE hx]
theorem jAo {t:Int} {xs:List (NV×Nd)} {a:Int} (h:Me.idx (nds xs) a=none):Me.ZV ⟨t,nds xs⟩ a=⟨t,nds xs⟩:=by unfold Me.ZV;simp only;rw[h]
theorem jAn {t:Int} {xs:List (NV×Nd)} {a:Int} {i:Nat} {V:NV} {n:Nd} (h:Me.idx (nds xs) a=some i) (hx:xs[i]? =some (V,n)):Me.ZV ⟨t,nds xs⟩ a=⟨t,(nds xs).set i (Me.again n a)⟩:=by
 unfold Me.ZV;simp only;rw[h];simp only;rw[jBE hx]
theorem jMR {xs ys:List (NV×Nd)} {G G2:List Chunk} {i:Nat} {V:NV} {n:Nd} (hN:nds ys=nds xs) (hO:∀y∈ys,Own y.1 G y.2) (hG:∀x∈xs,GdN x.2) (hO2:Own V G2 n) (hn:GdN n):
  nds (ys.set i (V,n))=(nds xs).set i n∧(∀ y∈ys.set i (V,n),Own y.1 [jD G2,jD G] y.2)∧∀y∈ys.set i (V,n),GdN y.2:=by
 have hy:∀y∈ys,GdN y.2:=fun y hy=>by
  have:y.2∈nds ys:=List.mem_map.2 ⟨y,hy,rfl⟩
  rw[hN]at this
  obtain ⟨x,hx,e⟩:=List.mem_map.1 this
  rw[← e];exact hG x hx
 refine ⟨by rw[jMG,hN],fun y hm=>?_,fun y hm=>?_⟩
 ·rcases List.mem_or_eq_of_mem_set hm with hm|rfl
  ·exact fun w2 hg2=>hO y hm w2 (jS hg2 (by simp))
  ·exact fun w2 hg2=>hO2 w2 (jS hg2 (by simp))
 ·rcases List.mem_or_eq_of_mem_set hm with hm|rfl
  ·exact hy y hm
  ·exact hn
theorem jSN {xs ys:List (NV×Nd)} (hN:nds ys=nds xs) (hG:∀x∈xs,GdN x.2):∀y∈ys,GdN y.2:=fun y hy=>by
 have:y.2∈nds ys:=List.mem_map.2 ⟨y,hy,rfl⟩
 rw[hN]at this
 obtain ⟨x,hx,e⟩:=List.mem_map.1 this
 rw[← e];exact hG x hx
theorem jHX (v:Value) (ys:List (NV×Nd)) (i:Nat) (x:NV×Nd):cNd v (ys.set i x)=jK v 62 13 ys.length (cellsOf zR (ys.set i x)):=by
 show jK v _ 13 (ys.set i x).length _=_
 rw[List.length_set]
theorem jML (xs:List (NV×Nd)) (t source target:Int) (ur:Bool) (text:By) (v:Value) (w:World) (h:OkL w v xs) (hg:∀x∈xs,GdN x.2) (hl:xs.length≤1000) (htx:text.length≤9223372036854775807):
  Calls Tryz.prog 24 #[meV t v,.int .i64 source,.int .i64 target,.bool ur,str text] w fun e w'=>∃x:SV×List (NV×Nd)×List Chunk,e= .returned (.tuple ⟨[meV (Me.jBG ⟨t,nds xs⟩ source target ur text).1.tick (sv x.1 x.2.1.length),.int .i64 (Me.jBG ⟨t,nds xs⟩ source target ur text).2]⟩)∧jNX x (Me.jBG ⟨t,nds xs⟩ source target ur text).1.nodes∧Sat (base w) [cNd (sv x.1 x.2.1.length) x.2.1,jD x.2.2] w':=by
 refine jB Tryz.func24 I (Nat.le_of_ble_eq_true I) ?_
 refine HR.sub (σ':=[(0,meV t v),(1,.int .i64 source),(2,.int .i64 target),(3,.bool ur),(4,str text)]) ⟨I,I,I,I,I,trivial⟩ ?_
 refine HR.ctl I ?_
 refine HR.region ?_
 refine HL.box I I ?_
 intro b5
 refine HL.alloc I I ?_
 intro b10
 repeat' (first|refine zh ?_|intro (bk:Nat))
 rcases zU xs source with ⟨e1,e2⟩|⟨i,⟨V,n⟩,e1,e2,hx,hxa⟩
 ·rw [jDc e2]
  refine HL.jN (r:= .int .i64 (-1)) jM5 I I (fun w1 hw1=>by rw[← e1];exact Jq xs source v w1 (h.s.ext hw1.jE) (by omega)) ?_
  repeat' (first|refine zh ?_|intro (bk:Nat))
  refine HR.ret Tryz.func24 I [_,_] (fun w hw=>⟨⟨_,rfl,jP hw 0 I I I I rfl⟩,rfl,trivial⟩) ?_
  exact fun w' hw=>⟨((none,0),[],[]),rfl,mk_zero,jAc hw⟩
 have hil:i<xs.length:=(List.getElem?_eq_some_iff.1 hx).1
 have hok:OkN w V n:=h.r _ (List.mem_of_getElem? hx)
 have hgn:GdN n:=hg _ (List.mem_of_getElem? hx)
 rw[jDb e2 hx]
 obtain ⟨S,hS⟩:∃S,S=send n target ur text:=⟨_,rfl⟩
 rw[← hS]
 refine HL.jN (r:= .int .i64 (i:Int)) jM5 I I (fun w1 hw1=>by rw[← e1];exact Jq xs source v w1 (h.s.ext hw1.jE) (by omega)) ?_
 repeat' (first|refine zh ?_|refine HL.jw (Rd.arg h.s) JV i I I I I hil ?_|refine HL.JB (us:=ndC V n) (Rd.arg h.s) I I I I (by simp) I (jF jZ hx) ?_|intro (bk:Nat))
 refine HL.JD (r:=fun x:NV×List Chunk=> .tuple ⟨[.agg ⟨ndC x.1 S.1⟩,.int .i64 S.2]⟩) (Q:=fun x=>Own x.1 x.2 S.1) (G:=fun x=>[jD x.2]) fn53 I I (fun w1 hw1=>by rw[hS];exact jLp V n target ur text w1 (hok.ext hw1.jE) hgn.sm htx) ?_
 rintro ⟨V2,G2⟩ hO2
 have hO2:Own V2 G2 S.1:=hO2
 repeat' (first|refine zh ?_|intro (bk:Nat))
 refine HR.cond I (fun h2=>?_) (fun h2=>?_)
 ·have h2:S.2≠0:=by have h2:(S.2 != 0)=true:=h2;simpa using h2
  rw[if_pos h2]
  repeat' (first|refine zh ?_|intro (bk:Nat))
  refine HR.ret Tryz.func24 I [_,_] (fun w hw=>⟨⟨_,rfl,jP hw 2 I I I I rfl⟩,rfl,trivial⟩) ?_
  exact fun w' hw=>⟨((none,0),[],[]),rfl,mk_zero,jAc hw⟩
 have h2:S.2=0:=by have h2:(S.2 != 0)=false:=h2;simpa using h2
 have hgS:GdN S.1:=by rw[hS]at h2 ⊢;exact hgn.send h2
 rw[if_neg (by rw[h2];decide)]
 generalize bk=b13
 repeat' (first|refine zh ?_|intro (bk:Nat))
 refine HL.JD (r:=fun x:SV×List (NV×Nd)×List Chunk=>meV t (sv x.1 x.2.1.length)) (Q:=fun x=>MkL x (nds xs)) (G:=fun x=>[cNd (sv x.1 x.2.1.length) x.2.1,jD x.2.2]) fn54 I I (fun w1 hw1=>jBK t v xs w1 (h.ext hw1.jE) (fun x hx=>(hg x hx).sm) hl) ?_
 rintro ⟨y,ys,G⟩ ⟨hN,hO⟩
 have hN:nds ys=nds xs:=hN
 have hO:∀z∈ys,Own z.1 G z.2:=hO
 have hyl:ys.length=xs.length:=by rw[← JQ,hN,JQ]
 have cy:(cellsOf zR ys).length=ys.length*13:=jC jZ _
 obtain ⟨z,hz⟩:=jH (show i<ys.length by omega)
 obtain ⟨k1,k2,k3⟩:=jMR (i:=i) hN hO hg hO2 hgS
 repeat' (first|refine zh ?_|refine HL.jw (Rd.own 1 I) JV i I I I I (show i<ys.length by omega) ?_|refine HL.zH (us:=ndC V2 S.1) (j:=i*13) 1 I I I I I I I (by rw[cy];show i*13+13≤_;omega) (by simp) ?_|intro (bk:Nat))
 refine HR.ret Tryz.func24 I [_,_] (fun w hw=>⟨⟨_,rfl,jP hw 5 I I I I rfl⟩,rfl,trivial⟩) ?_
 refine fun w' hw=>⟨(y,ys.set i (V2,S.1),[jD G2,jD G]),by rw[show (ys.set i (V2,S.1)).length=ys.length from List.length_set];rfl,⟨⟨k1,k2⟩,k3⟩,?_⟩
 show Sat (base w) [cNd (sv y (ys.set i (V2,S.1)).length) (ys.set i (V2,S.1)),jD [jD G2,jD G]] w'
 rw[jHX,show (ys.set i (V2,S.1)).length=ys.length from List.length_set]
 exact Ent.trans (Ent.pick (H':=[jD G2,jD G]++[_]) [4,2,1] I I) (Ent.trans Ent.group (Ent.trans (Ent.pick [1,0] I I) (Ent.JM I (Jb (us:=ndC V2 S.1) (i:=0) jZ hz I (show 0+13≤13 by decide))))) w' hw
theorem jMJ (xs:List (NV×Nd)) (t a:Int) (v:Value) (w:World) (h:OkL w v xs) (hg:∀x∈xs,GdN x.2) (hl:xs.length≤1000):
  Calls Tryz.prog 26 #[meV t v,.int .i64 a] w fun e w'=>∃x:(SV×List (NV×Nd)×List Chunk)×Value,e= .returned (.tuple ⟨[meV t (sv x.1.1 x.1.2.1.length),x.2]⟩)∧jNX x.1 (Me.jAN ⟨t,nds xs⟩ a).1.nodes∧Sat (base w) [cNd (sv x.1.1 x.1.2.1.length) x.1.2.1,jD x.1.2.2,cDe x.2 (Me.jAN ⟨t,nds xs⟩ a).2] w':=by
 refine jB Tryz.func26 I (Nat.le_of_ble_eq_true I) ?_
 refine HR.sub (σ':=[(0,meV t v),(1,.int .i64 a)]) ⟨I,I,trivial⟩ ?_
 refine HR.ctl I ?_
 refine HR.region ?_
 refine HL.box I I ?_
 intro b2
 refine HL.alloc I I ?_
 intro b4
 repeat' (first|refine zh ?_|intro (bk:Nat))
 refine HL.JD (r:=fun x:SV×List (NV×Nd)×List Chunk=>meV t (sv x.1 x.2.1.length)) (Q:=fun x=>MkL x (nds xs)) (G:=fun x=>[cNd (sv x.1 x.2.1.length) x.2.1,jD x.2.2]) fn54 I I (fun w1 hw1=>jBK t v xs w1 (h.ext hw1.jE) (fun x hx=>(hg x hx).sm) hl) ?_
 rintro ⟨y,ys,G⟩ ⟨hN,hO⟩
 have hN:nds ys=nds xs:=hN
 have hO:∀z∈ys,Own z.1 G z.2:=hO
 have hyl:ys.length=xs.length:=by rw[← JQ,hN,JQ]
 have cy:(cellsOf zR ys).length=ys.length*13:=jC jZ _
 repeat' (first|refine zh ?_|intro (bk:Nat))
 generalize bk=b6
 rcases zU xs a with ⟨e1,e2⟩|⟨i,⟨V,n⟩,e1,e2,hx,hxa⟩
 ·rw [jDa e2]
  refine HL.jN (r:= .int .i64 (-1)) jM5 I I (fun w1 hw1=>by rw[← e1];exact Jq xs a v w1 (h.s.ext hw1.jE) (by omega)) ?_
  repeat' (first|refine zh ?_|intro (bk:Nat))
  refine HR.ret Tryz.func26 I [_,_] (fun w hw=>⟨⟨_,rfl,jP hw 3 I I I I rfl⟩,rfl,trivial⟩) ?_
  refine fun w' hw=>⟨((y,ys,G),.slice none 0 0),rfl,⟨⟨hN,hO⟩,jSN hN hg⟩,?_⟩
  exact Ent.pick [1,2,0] I I w' (Sat.zY (hw.pick (H':=[cNd (sv y ys.length) ys,jD G]) [1,2] I I) 65 2)
 have hil:i<xs.length:=(List.getElem?_eq_some_iff.1 hx).1
 have hok:OkN w V n:=h.r _ (List.mem_of_getElem? hx)
 have hgn:GdN n:=hg _ (List.mem_of_getElem? hx)
 rw[jDZ e2 hx]
 obtain ⟨K,hK⟩:∃K,K=take n:=⟨_,rfl⟩
 have hgK:GdN K.1:=by rw[hK];exact hgn.take
 have hKl:K.2.length≤1000:=by
  rw[hK]
  show (order n).inbox.length≤1000
  exact Nat.le_trans (List.length_take_le _ _) (by decide)
 rw[← hK]
 refine HL.jN (r:= .int .i64 (i:Int)) jM5 I I (fun w1 hw1=>by rw[← e1];exact Jq xs a v w1 (h.s.ext hw1.jE) (by omega)) ?_
 repeat' (first|refine zh ?_|refine HL.jw (Rd.arg h.s) JV i I I I I hil ?_|refine HL.JB (us:=ndC V n) (Rd.arg h.s) I I I I (by simp) I (jF jZ hx) ?_|intro (bk:Nat))
 refine HL.JD (r:=fun x:(NV×SV)×List Chunk=> .tuple ⟨[.agg ⟨ndC x.1.1 K.1⟩,sv x.1.2 K.2.length]⟩) (Q:=fun x=>Own x.1.1 x.2 K.1∧∀w2,(jD x.2).p w2→Sl w2 (sv x.1.2 K.2.length) (cellsOf deC K.2) K.2.length) (G:=fun x=>[jD x.2]) fn58 I I (fun w1 hw1=>by rw[hK];exact jLn V n w1 (hok.ext hw1.jE) hgn.sm) ?_
 rintro ⟨⟨V2,vk⟩,G2⟩ ⟨hO2,hI2⟩
 have hO2:Own V2 G2 K.1:=hO2
 have hI2:∀w2,(jD G2).p w2→Sl w2 (sv vk K.2.length) (cellsOf deC K.2) K.2.length:=hI2
 obtain ⟨z,hz⟩:=jH (show i<ys.length by omega)
 obtain ⟨k1,k2,k3⟩:=jMR (i:=i) hN hO hg hO2 hgK
 repeat' (first|refine zh ?_|refine HL.jw (Rd.own 3 I) JV i I I I I (show i<ys.length by omega) ?_|refine HL.zH (us:=ndC V2 K.1) (j:=i*13) 3 I I I I I I I (by rw[cy];show i*13+13≤_;omega) (by simp) ?_|intro (bk:Nat))
 refine HR.j3 [(0,true),(1,true),(2,false),(3,false),(4,true)] [2] I I JZ (by kernel_rfl) ?_
 repeat' (first|refine zd ?_|fail)
 refine HD.one I ?_
 refine HL.JN fn59 I I (fun w1 hw1=>jAV K.2 _ w1 (hI2 w1 (Sat.grp 1 hw1 I)) hKl) ?_
 intro vd
 refine HL.back [3] I I ?_
 refine HD.one I ?_
 repeat' (first|refine zn ?_|intro (bk:Nat))
 refine HL.back [3] I I ?_
 repeat' (first|refine zd ?_|fail)
 refine HD.nil ?_
 repeat' (first|refine zh ?_|intro (bk:Nat))
 refine HR.ret Tryz.func26 I [_,_] (fun w hw=>⟨⟨_,rfl,jP hw 6 I I I I rfl⟩,rfl,trivial⟩) ?_
 refine fun w' hw=>⟨((y,ys.set i (V2,K.1),[jD G2,jD G]),vd),by rw[show (ys.set i (V2,K.1)).length=ys.length from List.length_set];rfl,⟨⟨k1,k2⟩,k3⟩,?_⟩
 show Sat (base w) [cNd (sv y (ys.set i (V2,K.1)).length) (ys.set i (V2,K.1)),jD [jD G2,jD G],cDe vd K.2] w'
 rw[jHX,show (ys.set i (V2,K.1)).length=ys.length from List.length_set]
 exact Ent.trans (Ent.pick (H':=[jD G2,jD G]++[_,cDe vd K.2]) [2,5,4,0] I I) (Ent.trans Ent.group (Ent.trans (Ent.pick [1,0,2] I I) (Ent.JM I (Jb (us:=ndC V2 K.1) (i:=0) jZ hz I (show 0+13≤13 by decide))))) w' hw
end Go.Proofs.YtgfdoognildoeaaGreat
namespace Go.Proofs.YtgfdoognildoeaaGreat
open Go.GX Go.RowKit
attribute [local irreducible] Calls Run jg jh JU HR HL HD jU jK Jc Rd jL jd
open Nd
theorem jP0 {w:World} {v:Value} {e sz n:Nat} {xs:List Value} (h:(jK v e sz n xs).p w):Sl w v xs n:=by unfold jK at h;exact (show Vw w v e sz n xs from h).sl
theorem jJU (a:Int) {l t:List Ro} {k:Nat} {r:Ro} (hr:l[k]? =some r):Me.jF9 a (l.take (k+1)) t=if r.nx≠a∧r.nx≠255 then jJx (Me.jF9 a (l.take k) t) a r.nx else Me.jF9 a (l.take k) t:=by
 unfold Me.jF9
 rw[jG hr,List.foldl_append];rfl
theorem jFb (xs:List (NV×Nd)) (t a:Int) (v:Value) (w:World) (h:OkL w v xs) (hg:∀x∈xs,GdN x.2) (hl:xs.length≤1000):
  Calls Tryz.prog 29 #[meV t v,.int .i64 a] w fun e w'=>∃x:SV×List (NV×Nd)×List Chunk,e= .returned (meV t (sv x.1 x.2.1.length))∧jNX x (Me.ZV ⟨t,nds xs⟩ a).nodes∧Sat (base w) [cNd (sv x.1 x.2.1.length) x.2.1,jD x.2.2] w':=by
 refine jB Tryz.func29 I (Nat.le_of_ble_eq_true I) ?_
 refine HR.sub (σ':=[(0,meV t v),(1,.int .i64 a)]) ⟨I,I,trivial⟩ ?_
 refine HR.ctl I ?_
 refine HR.region ?_
 refine HL.box I I ?_
 intro b2
 refine HL.alloc I I ?_
 intro b4
 repeat' (first|refine zh ?_|intro (bk:Nat))
 refine HL.JD (r:=fun x:SV×List (NV×Nd)×List Chunk=>meV t (sv x.1 x.2.1.length)) (Q:=fun x=>MkL x (nds xs)) (G:=fun x=>[cNd (sv x.1 x.2.1.length) x.2.1,jD x.2.2]) fn54 I I (fun w1 hw1=>jBK t v xs w1 (h.ext hw1.jE) (fun x hx=>(hg x hx).sm) hl) ?_
 rintro ⟨y,ys,G⟩ ⟨hN,hO⟩
 have hN:nds ys=nds xs:=hN
 have hO:∀z∈ys,Own z.1 G z.2:=hO
 have hyl:ys.length=xs.length:=by rw[← JQ,hN,JQ]
 have cy:(cellsOf zR ys).length=ys.length*13:=jC jZ _
 repeat' (first|refine zh ?_|intro (bk:Nat))
 generalize bk=b5
 rcases zU xs a with ⟨e1,e2⟩|⟨i,⟨V,n⟩,e1,e2,hx,hxa⟩
 ·rw [jAo e2]
  refine HL.jN (r:= .int .i64 (-1)) jM5 I I (fun w1 hw1=>by rw[← e1];exact Jq xs a v w1 (h.s.ext hw1.jE) (by omega)) ?_
  repeat' (first|refine zh ?_|intro (bk:Nat))
  refine HR.ret Tryz.func29 I [_] (fun w hw=>⟨⟨_,rfl,jP hw 3 I I I I rfl⟩,trivial⟩) ?_
  exact fun w' hw=>⟨(y,ys,G),rfl,⟨⟨hN,hO⟩,jSN hN hg⟩,hw.pick [1,2] I rfl⟩
 have hil:i<xs.length:=(List.getElem?_eq_some_iff.1 hx).1
 have hok:OkN w V n:=h.r _ (List.mem_of_getElem? hx)
 have hgn:GdN n:=hg _ (List.mem_of_getElem? hx)
 have hta:n.table.length≤1000:=hgn.sm.ta
 rw[jAn e2 hx]
 refine HL.jN (r:= .int .i64 (i:Int)) jM5 I I (fun w1 hw1=>by rw[← e1];exact Jq xs a v w1 (h.s.ext hw1.jE) (by omega)) ?_
 repeat' (first|refine zh ?_|refine HL.jw (Rd.arg h.s) JV i I I I I hil ?_|refine HL.JB (us:=ndC V n) (Rd.arg h.s) I I I I (by simp) I (jF jZ hx) ?_|intro (bk:Nat))
 generalize bk=b7
 refine HL.JN fn61 I I (fun w1 hw1=>KC n.table _ w1 (hok.ta.ext hw1.jE) hta) ?_
 intro v1
 repeat' (first|refine zh ?_|intro (bk:Nat))
 refine HR.loop (ι:=Nat×Value) (fun x=>x.1≤n.table.length) (fun x=>[(1,.int .i64 a),(4,ptr b4),(5,ptr b5),(6,.int .i64 (i:Int)),(7,ptr b7),(8,x.2),(30,sv V.ta n.table.length),(31,.int .i64 (n.table.length:Int)),(32,.int .i64 (x.1:Int))]) (fun x=>[jK x.2 94 4 (Me.jF9 a (n.table.take x.1) n.table).length (cellsOf roC (Me.jF9 a (n.table.take x.1) n.table)),jU b7 (ndC V n) 62,meB b5 t (sv y ys.length),jU b4 meZ 26,cNd (sv y ys.length) ys,jD G]) (fun x=>n.table.length-x.1) (0,v1) (Nat.zero_le _) ⟨I,I,I,I,I,I,I,I,I,trivial⟩ (Ent.pick [0,1,2,5,3,4] I I) ?_
 rintro ⟨k,vt⟩ hk ih
 have hk:k≤n.table.length:=hk
 obtain ⟨T,hT⟩:∃T,T=Me.jF9 a (n.table.take k) n.table:=⟨_,rfl⟩
 have hTl:T.length≤1000:=by rw[hT];exact jB1 a _ _ hta
 refine HR.ent (H':=[jK vt 94 4 T.length (cellsOf roC T),jU b7 (ndC V n) 62,meB b5 t (sv y ys.length),jU b4 meZ 26,cNd (sv y ys.length) ys,jD G]) (by rw[hT];exact Ent.refl) ?_
 repeat' (first|refine zh ?_|intro (bk:Nat))
 refine HR.cond I (fun h2=>?_) (fun h2=>?_)
 ·have hlt:k<n.table.length:=by have:(k:Int)<(n.table.length:Int):=of_decide_eq_true h2;omega
  obtain ⟨r,hr⟩:=jH hlt
  have hst:=jJU a (t:=n.table) hr
  rw[← hT]at hst
  repeat' (first|refine zh ?_|refine HL.jw (Rd.arg hok.ta) JE k I I I I hlt ?_|refine HL.JB (us:=roC r) (Rd.arg hok.ta) I I I I (by simp) I (jF jW hr) ?_|intro (bk:Nat))
  repeat' (first|refine zh ?_|apply zb ?_ ?_|exact zc|(refine zi fun hb=>?_;try simp at hb)|intro (bk:Nat))
  refine HR.cond I (fun h3=>?_) (fun h3=>?_)
  ·have h3:r.nx≠a∧r.nx≠255:=by have h3:((r.nx != a)&&(r.nx != 255))=true:=h3;simpa using h3
   rw[if_pos h3]at hst
   repeat' (first|refine zh ?_|intro (bk:Nat))
   refine HL.JN fn62 I I (fun w1 hw1=>jHz T a r.nx vt w1 ((Rd.own 1 rfl).at hw1) hTl) ?_
   intro v2
   repeat' (first|refine zh ?_|intro (bk:Nat))
   exact ih (k+1,v2) _ _ hlt (by show n.table.length-(k+1)<n.table.length-k;omega) ⟨I,I,I,I,I,I,I,I,I,trivial⟩ (Ent.trans (Ent.pick [0,3,4,5,6,7] I I) (Ent.JM (by show _=(Me.jF9 a (n.table.take (k+1)) n.table).length;rw[hst]) (by show _=cellsOf roC (Me.jF9 a (n.table.take (k+1)) n.table);rw[hst])))
  ·have h3:¬(r.nx≠a∧r.nx≠255):=by have h3:((r.nx != a)&&(r.nx != 255))=false:=h3;intro hh;simp[hh.1,hh.2]at h3
   rw[if_neg h3]at hst
   repeat' (first|refine zh ?_|intro (bk:Nat))
   exact ih (k+1,vt) _ _ hlt (by show n.table.length-(k+1)<n.table.length-k;omega) ⟨I,I,I,I,I,I,I,I,I,trivial⟩ (Ent.trans (Ent.pick [1,2,3,4,5,6] I I) (Ent.JM (by show _=(Me.jF9 a (n.table.take (k+1)) n.table).length;rw[hst]) (by show _=cellsOf roC (Me.jF9 a (n.table.take (k+1)) n.table);rw[hst])))
 have hke:k=n.table.length:=by have:¬(k:Int)<(n.table.length:Int):=of_decide_eq_false h2;omega
 rw[hke,List.take_length]at hT
 obtain ⟨A,hA⟩:∃A,A=Me.again n a:=⟨_,rfl⟩
 have hAT:A={ new a n.poll with seq:=n.seq,table:=T }:=by rw[hA,hT];rfl
 rw[← hA]
 repeat' (first|refine zh ?_|intro (bk:Nat))
 refine HL.JD (r:=fun x:NV×List Chunk=> .agg ⟨ndC x.1 (new a n.poll)⟩) (Q:=fun x=>Own x.1 x.2 (new a n.poll)) (G:=fun x=>[jD x.2]) fn36 I I (fun w1 hw1=>jH4 a n.poll w1) ?_
 rintro ⟨V2,G2⟩ hO2
 have hO2:Own V2 G2 (new a n.poll):=hO2
 refine HL.shape 1 I fun ac cc hv=>?_
 have hv:vt= .slice ac T.length cc:=hv
 subst hv
 obtain ⟨V3,hV3⟩:∃V3:NV,V3={ V2 with ta:=(ac,cc) }:=⟨_,rfl⟩
 have hO3:Own V3 [jK (.slice ac T.length cc) 94 4 T.length (cellsOf roC T),jD G2] A:=fun w2 hg2=>by
  have hn:=hO2 w2 (jS hg2 (by simp))
  have ht:Sl w2 (.slice ac T.length cc) (cellsOf roC T) T.length:=jP0 hg2.1
  rw[hAT,hV3]
  exact ⟨ht,hn.li,hn.ou,hn.ch,hn.bo,hn.se,hn.pa,hn.ib,hn.eq⟩
 have hgA:GdN A:=by rw[hA];exact hgn.again a
 obtain ⟨z,hz⟩:=jH (show i<ys.length by omega)
 obtain ⟨k1,k2,k3⟩:=jMR (i:=i) hN hO hg hO3 hgA
 repeat' (first|refine zh ?_|refine HL.jw (Rd.own 6 I) JV i I I I I (show i<ys.length by omega) ?_|intro (bk:Nat))
 refine HL.ZB 63 (v':= .agg ⟨ndC V3 A⟩) I (by rw[hAT,hV3]) ?_
 refine HL.zH (us:=ndC V3 A) (j:=i*13) 6 I I I I I I I (by rw[cy];show i*13+13≤_;omega) (by simp) ?_
 repeat' (first|refine zh ?_|intro (bk:Nat))
 refine HR.ret Tryz.func29 I [_] (fun w hw=>⟨⟨_,rfl,jP hw 5 I I I I rfl⟩,trivial⟩) ?_
 refine fun w' hw=>⟨(y,ys.set i (V3,A),[jD [jK (.slice ac T.length cc) 94 4 T.length (cellsOf roC T),jD G2],jD G]),by rw[show (ys.set i (V3,A)).length=ys.length from List.length_set];rfl,⟨⟨k1,k2⟩,k3⟩,?_⟩
 show Sat (base w) [cNd (sv y (ys.set i (V3,A)).length) (ys.set i (V3,A)),jD [jD [jK (.slice ac T.length cc) 94 4 T.length (cellsOf roC T),jD G2],jD G]] w'
 rw[jHX,show (ys.set i (V3,A)).length=ys.length from List.length_set]
 exact Ent.trans (Ent.pick (H':=[jK (.slice ac T.length cc) 94 4 T.length (cellsOf roC T),jD G2]++[jD G,_]) [2,1,7,6] I I) (Ent.trans Ent.group (Ent.trans (Ent.pick (H':=[jD [jK (.slice ac T.length cc) 94 4 T.length (cellsOf roC T),jD G2],jD G]++[_]) [0,1,2] I I) (Ent.trans Ent.group (Ent.trans (Ent.pick [1,0] I I) (Ent.JM I (Jb (us:=ndC V3 A) (i:=0) jZ hz I (show 0+13≤13 by decide))))))) w' hw
end Go.Proofs.YtgfdoognildoeaaGreat
namespace Go.Proofs.YtgfdoognildoeaaGreat
open Go.GX Go.RowKit
attribute [local irreducible] Calls Run jg jh JU HR HL HD jU jK Jc Rd jL jd
open Nd
theorem fn25:IsFn Tryz.prog 25:=⟨⟨_,_,Tryz.func25,rfl,by decide⟩⟩
theorem fn27:IsFn Tryz.prog 27:=⟨⟨_,_,Tryz.func27,rfl,by decide⟩⟩
theorem fn30:IsFn Tryz.prog 30:=⟨⟨_,_,Tryz.func30,rfl,by decide⟩⟩
abbrev ImpL (v v':Value) (xs ys:List (NV×Nd)) (G:List Chunk):Prop:=∀w2,OkL w2 v xs→(jD G).p w2→OkL w2 v' ys
abbrev RfL (v:Value) (xs:List (NV×Nd)) (x:SV×List (NV×Nd)×List Chunk) (l:List Nd):Prop:=nds x.2.1=l∧ImpL v (sv x.1 x.2.1.length) xs x.2.1 x.2.2
theorem jLX {v:Value} {xs:List (NV×Nd)}:RfL v xs ((none,0),[],[]) []:=⟨rfl,fun w2 _ _=>⟨Sl.nil w2,fun y hy=>(List.not_mem_nil hy).elim⟩⟩
theorem jLY {y:SV} {xs:List (NV×Nd)}:RfL (sv y xs.length) xs (y,xs,[]) (nds xs):=⟨rfl,fun _ h _=>h⟩
theorem jGn {v:Value} {xs:List (NV×Nd)} {i:Nat} {V V':NV} {n n':Nd} {G:List Chunk} {y:SV} (hx:xs[i]? =some (V,n)) (hI:Imp V n V' G n'):
  RfL v xs (y,xs.set i (V',n'),[jK (sv y xs.length) 62 13 xs.length (cellsOf zR (xs.set i (V',n'))),jD G]) ((nds xs).set i n'):=by
 refine ⟨jMG xs i (V',n'),fun w2 h hg=>⟨?_,fun z hz=>?_⟩⟩
 ·show Sl w2 (sv y (xs.set i (V',n')).length) _ (xs.set i (V',n')).length
  rw[List.length_set];exact Jv (jS hg (c:=jK (sv y xs.length) 62 13 xs.length (cellsOf zR (xs.set i (V',n')))) (by simp))
 ·have hz:z∈xs.set i (V',n'):=hz
  rcases List.mem_or_eq_of_mem_set hz with h1|h1
  ·exact h.r z h1
  ·rw [h1];exact hI w2 (h.r _ (List.mem_of_getElem? hx)) (jS hg (by simp))
theorem jGj (xs:List (NV×Nd)) (t source target:Int) (ur:Bool) (text:By) (v:Value) (w:World) (h:OkL w v xs) (hg:∀x∈xs,SmN x.2) (hl:xs.length≤1000) (htx:text.length≤9223372036854775807):
  Calls Tryz.prog 25 #[meV t v,.int .i64 source,.int .i64 target,.bool ur,str text] w fun e w'=>∃x:SV×List (NV×Nd)×List Chunk,e= .returned (.tuple ⟨[meV (Me.jBG ⟨t,nds xs⟩ source target ur text).1.tick (sv x.1 x.2.1.length),.int .i64 (Me.jBG ⟨t,nds xs⟩ source target ur text).2]⟩)∧RfL v xs x (Me.jBG ⟨t,nds xs⟩ source target ur text).1.nodes∧Sat (base w) [jD x.2.2] w':=by
 refine jB Tryz.func25 I (Nat.le_of_ble_eq_true I) ?_
 refine HR.sub (σ':=[(0,meV t v),(1,.int .i64 source),(2,.int .i64 target),(3,.bool ur),(4,str text)]) ⟨I,I,I,I,I,trivial⟩ ?_
 refine HR.ctl I ?_
 refine HR.region ?_
 refine HL.box I I ?_
 intro b5
 refine HL.alloc I I ?_
 intro b10
 repeat' (first|refine zh ?_|intro (bk:Nat))
 rcases zU xs source with ⟨e1,e2⟩|⟨i,⟨V,n⟩,e1,e2,hx,hxa⟩
 ·rw [jDc e2]
  refine HL.jN (r:= .int .i64 (-1)) jRh I I (fun w1 hw1=>by rw[← e1];exact Z6 xs t source v w1 (h.s.ext hw1.jE) (by omega)) ?_
  repeat' (first|refine zh ?_|intro (bk:Nat))
  refine HR.ret Tryz.func25 I [_,_] (fun w hw=>⟨⟨_,rfl,jP hw 0 I I I I rfl⟩,rfl,trivial⟩) ?_
  exact fun w' hw=>⟨((none,0),[],[]),rfl,jLX,jB8 hw⟩
 have hil:i<xs.length:=(List.getElem?_eq_some_iff.1 hx).1
 have hok:OkN w V n:=h.r _ (List.mem_of_getElem? hx)
 have hgn:SmN n:=hg _ (List.mem_of_getElem? hx)
 rw[jDb e2 hx]
 obtain ⟨S,hS⟩:∃S,S=send n target ur text:=⟨_,rfl⟩
 rw[← hS]
 refine HL.jN (r:= .int .i64 (i:Int)) jRh I I (fun w1 hw1=>by rw[← e1];exact Z6 xs t source v w1 (h.s.ext hw1.jE) (by omega)) ?_
 repeat' (first|refine zh ?_|refine HL.jw (Rd.arg h.s) JV i I I I I hil ?_|refine HL.JB (us:=ndC V n) (Rd.arg h.s) I I I I (by simp) I (jF jZ hx) ?_|intro (bk:Nat))
 refine HL.JD (r:=fun x:NV×List Chunk=> .tuple ⟨[.agg ⟨ndC x.1 S.1⟩,.int .i64 S.2]⟩) (Q:=fun x=>Imp V n x.1 x.2 S.1) (G:=fun x=>[jD x.2]) fn56 I I (fun w1 hw1=>by rw[hS];exact jLS V n target ur text w1 (hok.ext hw1.jE) hgn htx) ?_
 rintro ⟨V2,G2⟩ hI2
 have hI2:Imp V n V2 G2 S.1:=hI2
 repeat' (first|refine zh ?_|intro (bk:Nat))
 refine HR.cond I (fun h2=>?_) (fun h2=>?_)
 ·have h2:S.2≠0:=by have h2:(S.2 != 0)=true:=h2;simpa using h2
  rw[if_pos h2]
  repeat' (first|refine zh ?_|intro (bk:Nat))
  refine HR.ret Tryz.func25 I [_,_] (fun w hw=>⟨⟨_,rfl,jP hw 2 I I I I rfl⟩,rfl,trivial⟩) ?_
  exact fun w' hw=>⟨((none,0),[],[]),rfl,jLX,jB8 hw⟩
 have h2:S.2=0:=by have h2:(S.2 != 0)=false:=h2;simpa using h2
 rw[if_neg (by rw[h2];decide)]
 generalize bk=b13
 repeat' (first|refine zh ?_|intro (bk:Nat))
 refine HL.JD (r:=fun y:SV=>meV t (sv y xs.length)) (Q:=fun _=>True) (G:=fun y=>[jK (sv y xs.length) 62 13 xs.length (cellsOf zR (xs.set i (V2,S.1)))]) fn57 I I (fun w1 hw1=>jCC t v xs i V2 S.1 w1 (h.s.ext hw1.jE) hil hl) ?_
 rintro y _
 repeat' (first|refine zh ?_|intro (bk:Nat))
 refine HR.ret Tryz.func25 I [_,_] (fun w hw=>⟨⟨_,rfl,jP hw 3 I I I I rfl⟩,rfl,trivial⟩) ?_
 exact fun w' hw=>⟨(y,xs.set i (V2,S.1),[jK (sv y xs.length) 62 13 xs.length (cellsOf zR (xs.set i (V2,S.1))),jD G2]),by rw[show (xs.set i (V2,S.1)).length=xs.length from List.length_set];rfl,jGn hx hI2,Ent.trans (Ent.pick (H':=[jK (sv y xs.length) 62 13 xs.length (cellsOf zR (xs.set i (V2,S.1))),jD G2]++[]) [0,2] I I) Ent.group w' hw⟩
theorem jGh (xs:List (NV×Nd)) (t a:Int) (v:Value) (w:World) (h:OkL w v xs) (hg:∀x∈xs,SmN x.2) (hl:xs.length≤1000):
  Calls Tryz.prog 27 #[meV t v,.int .i64 a] w fun e w'=>∃x:(SV×List (NV×Nd)×List Chunk)×SV,e= .returned (.tuple ⟨[meV t (sv x.1.1 x.1.2.1.length),sv x.2 (Me.jAN ⟨t,nds xs⟩ a).2.length]⟩)∧(RfL v xs x.1 (Me.jAN ⟨t,nds xs⟩ a).1.nodes∧∀w2,(jD x.1.2.2).p w2→Sl w2 (sv x.2 (Me.jAN ⟨t,nds xs⟩ a).2.length) (cellsOf deC (Me.jAN ⟨t,nds xs⟩ a).2) (Me.jAN ⟨t,nds xs⟩ a).2.length)∧Sat (base w) [jD x.1.2.2] w':=by
 refine jB Tryz.func27 I (Nat.le_of_ble_eq_true I) ?_
 refine HR.sub (σ':=[(0,meV t v),(1,.int .i64 a)]) ⟨I,I,trivial⟩ ?_
 refine HR.ctl I ?_
 refine HR.region ?_
 refine HL.box I I ?_
 intro b2
 refine HL.alloc I I ?_
 intro b4
 repeat' (first|refine zh ?_|intro (bk:Nat))
 rcases zU xs a with ⟨e1,e2⟩|⟨i,⟨V,n⟩,e1,e2,hx,hxa⟩
 ·rw [jDa e2]
  obtain ⟨av,cv,hv,_⟩:=h.s.2
  subst hv
  refine HL.jN (r:= .int .i64 (-1)) jRh I I (fun w1 hw1=>by rw[← e1];exact Z6 xs t a _ w1 (h.s.ext hw1.jE) (by omega)) ?_
  repeat' (first|refine zh ?_|intro (bk:Nat))
  refine HR.ret Tryz.func27 I [_,_] (fun w hw=>⟨⟨_,rfl,jP hw 0 I I I I rfl⟩,rfl,trivial⟩) ?_
  exact fun w' hw=>⟨(((av,cv),xs,[]),(none,0)),rfl,⟨jLY,fun w2 _=>Sl.nil w2⟩,jB8 hw⟩
 have hil:i<xs.length:=(List.getElem?_eq_some_iff.1 hx).1
 have hok:OkN w V n:=h.r _ (List.mem_of_getElem? hx)
 have hgn:SmN n:=hg _ (List.mem_of_getElem? hx)
 rw[jDZ e2 hx]
 obtain ⟨K,hK⟩:∃K,K=take n:=⟨_,rfl⟩
 rw[← hK]
 refine HL.jN (r:= .int .i64 (i:Int)) jRh I I (fun w1 hw1=>by rw[← e1];exact Z6 xs t a v w1 (h.s.ext hw1.jE) (by omega)) ?_
 repeat' (first|refine zh ?_|refine HL.jw (Rd.arg h.s) JV i I I I I hil ?_|refine HL.JB (us:=ndC V n) (Rd.arg h.s) I I I I (by simp) I (jF jZ hx) ?_|intro (bk:Nat))
 refine HL.JD (r:=fun x:(NV×SV)×List Chunk=> .tuple ⟨[.agg ⟨ndC x.1.1 K.1⟩,sv x.1.2 K.2.length]⟩) (Q:=fun x=>Imp V n x.1.1 x.2 K.1∧∀w2,(jD x.2).p w2→Sl w2 (sv x.1.2 K.2.length) (cellsOf deC K.2) K.2.length) (G:=fun x=>[jD x.2]) fn60 I I (fun w1 hw1=>by rw[hK];exact jGi V n w1 (hok.ext hw1.jE) hgn) ?_
 rintro ⟨⟨V2,vk⟩,G2⟩ ⟨hI2,hS2⟩
 have hI2:Imp V n V2 G2 K.1:=hI2
 have hS2:∀w2,(jD G2).p w2→Sl w2 (sv vk K.2.length) (cellsOf deC K.2) K.2.length:=hS2
 repeat' (first|refine zh ?_|intro (bk:Nat))
 generalize bk=b7
 refine HL.JD (r:=fun y:SV=>meV t (sv y xs.length)) (Q:=fun _=>True) (G:=fun y=>[jK (sv y xs.length) 62 13 xs.length (cellsOf zR (xs.set i (V2,K.1)))]) fn57 I I (fun w1 hw1=>jCC t v xs i V2 K.1 w1 (h.s.ext hw1.jE) hil hl) ?_
 rintro y _
 repeat' (first|refine zh ?_|intro (bk:Nat))
 refine HR.ret Tryz.func27 I [_,_] (fun w hw=>⟨⟨_,rfl,jP hw 3 I I I I rfl⟩,rfl,trivial⟩) ?_
 exact fun w' hw=>⟨((y,xs.set i (V2,K.1),[jK (sv y xs.length) 62 13 xs.length (cellsOf zR (xs.set i (V2,K.1))),jD G2]),vk),by rw[show (xs.set i (V2,K.1)).length=xs.length from List.length_set];rfl,⟨jGn hx hI2,fun w2 hg2=>hS2 w2 (jS hg2 (by simp))⟩,Ent.trans (Ent.pick (H':=[jK (sv y xs.length) 62 13 xs.length (cellsOf zR (xs.set i (V2,K.1))),jD G2]++[]) [0,2] I I) Ent.group w' hw⟩
theorem jCy (xs:List (NV×Nd)) (t a:Int) (v:Value) (w:World) (h:OkL w v xs) (hg:∀x∈xs,GdN x.2) (hl:xs.length≤1000):
  Calls Tryz.prog 30 #[meV t v,.int .i64 a] w fun e w'=>∃x:SV×List (NV×Nd)×List Chunk,e= .returned (meV t (sv x.1 x.2.1.length))∧RfL v xs x (Me.ZV ⟨t,nds xs⟩ a).nodes∧Sat (base w) [jD x.2.2] w':=by
 refine jB Tryz.func30 I (Nat.le_of_ble_eq_true I) ?_
 refine HR.sub (σ':=[(0,meV t v),(1,.int .i64 a)]) ⟨I,I,trivial⟩ ?_
 refine HR.ctl I ?_
 refine HR.region ?_
 refine HL.box I I ?_
 intro b2
 refine HL.alloc I I ?_
 intro b4
 repeat' (first|refine zh ?_|intro (bk:Nat))
 rcases zU xs a with ⟨e1,e2⟩|⟨i,⟨V,n⟩,e1,e2,hx,hxa⟩
 ·rw [jAo e2]
  obtain ⟨av,cv,hv,_⟩:=h.s.2
  subst hv
  refine HL.jN (r:= .int .i64 (-1)) jRh I I (fun w1 hw1=>by rw[← e1];exact Z6 xs t a _ w1 (h.s.ext hw1.jE) (by omega)) ?_
  repeat' (first|refine zh ?_|intro (bk:Nat))
  refine HR.ret Tryz.func30 I [_] (fun w hw=>⟨⟨_,rfl,jP hw 0 I I I I rfl⟩,trivial⟩) ?_
  exact fun w' hw=>⟨((av,cv),xs,[]),rfl,jLY,jB8 hw⟩
 have hil:i<xs.length:=(List.getElem?_eq_some_iff.1 hx).1
 have hok:OkN w V n:=h.r _ (List.mem_of_getElem? hx)
 have hgn:GdN n:=hg _ (List.mem_of_getElem? hx)
 have hta:n.table.length≤1000:=hgn.sm.ta
 rw[jAn e2 hx]
 refine HL.jN (r:= .int .i64 (i:Int)) jRh I I (fun w1 hw1=>by rw[← e1];exact Z6 xs t a v w1 (h.s.ext hw1.jE) (by omega)) ?_
 repeat' (first|refine zh ?_|refine HL.jw (Rd.arg h.s) JV i I I I I hil ?_|refine HL.JB (us:=ndC V n) (Rd.arg h.s) I I I I (by simp) I (jF jZ hx) ?_|intro (bk:Nat))
 generalize bk=b6
 refine HL.JD (r:=fun x:NV×List Chunk=> .agg ⟨ndC x.1 (new a n.poll)⟩) (Q:=fun x=>Imp V0 (n0 a n.poll) x.1 x.2 (new a n.poll)) (G:=fun x=>[jD x.2]) fn37 I I (fun w1 hw1=>jJp a n.poll w1) ?_
 rintro ⟨V2,G2⟩ hI2
 have hI2:Imp V0 (n0 a n.poll) V2 G2 (new a n.poll):=hI2
 repeat' (first|refine zh ?_|intro (bk:Nat))
 refine HL.Jy JE I ?_
 intro v1
 repeat' (first|refine zh ?_|intro (bk:Nat))
 refine HL.zD 0 I JE (Rd.arg hok.ta) I I I (jC jW _) (jT jD9 _) (by omega) (by omega) ?_
 intro v2
 refine HL.ent (Ent.JM (Nat.zero_add _) (List.nil_append _)) ?_
 refine HL.shape 0 I fun a3 c3 hv=>?_
 subst hv
 generalize bk=b7
 repeat' (first|refine zh ?_|intro (bk:Nat))
 refine HR.loop (ι:=Nat×SV×List Ro) (fun x=>x.1≤n.table.length∧x.2.2=Me.jF9 a (n.table.take x.1) n.table) (fun x=>[(1,.int .i64 a),(2,ptr b2),(4,ptr b4),(5,.int .i64 (i:Int)),(6,ptr b6),(7,ptr b7),(8,.int .i64 (x.1:Int))]) (fun x=>[jK (sv x.2.1 x.2.2.length) 94 4 x.2.2.length (cellsOf roC x.2.2),jU b7 (ndC { V2 with ta:=x.2.1 } { new a n.poll with seq:=n.seq,table:=x.2.2 }) 62,jD G2,jU b6 (ndC V n) 62,jU b4 meZ 26,meB b2 t v]) (fun x=>n.table.length-x.1) (0,(a3,c3),n.table) ⟨Nat.zero_le _,rfl⟩ ⟨I,I,I,I,I,I,I,trivial⟩ (Ent.pick [0,1,2,3,4,5] I I) ?_
 rintro ⟨k,y,T⟩ ⟨hk,hT⟩ ih
 have hk:k≤n.table.length:=hk
 have hT:T=Me.jF9 a (n.table.take k) n.table:=hT
 have hTl:T.length≤1000:=by rw[hT];exact jB1 a _ _ hta
 repeat' (first|refine zh ?_|refine HL.j4 (Rd.arg hok.ta) I I I ?_|intro (bk:Nat))
 refine HR.cond I (fun h2=>?_) (fun h2=>?_)
 ·have hlt:k<n.table.length:=by have:(k:Int)<(n.table.length:Int):=of_decide_eq_true h2;omega
  obtain ⟨r,hr⟩:=jH hlt
  have hst:=jJU a (t:=n.table) hr
  rw[← hT]at hst
  repeat' (first|refine zh ?_|refine HL.jw (Rd.arg hok.ta) JE k I I I I hlt ?_|refine HL.Jf (Rd.arg hok.ta) (by rw[jC jW];omega) I I I I I I ?_|refine HL.jY (Rd.arg hok.ta) I I I I (jR jW hr (i:=3) I) ?_|intro (bk:Nat))
  repeat' (first|refine zh ?_|apply zb ?_ ?_|exact zc|(refine zi fun hb=>?_;try simp at hb)|intro (bk:Nat))
  refine HR.cond I (fun h3=>?_) (fun h3=>?_)
  ·have h3:r.nx≠a∧r.nx≠255:=by have h3:((r.nx != a)&&(r.nx != 255))=true:=h3;simpa using h3
   rw[if_pos h3]at hst
   repeat' (first|refine zh ?_|intro (bk:Nat))
   refine HL.JN fn63 I I (fun w1 hw1=>jJz T a r.nx _ w1 ((Rd.own 0 rfl).at hw1) hTl) ?_
   intro v2
   refine HL.shape 0 I fun a4 c4 hv=>?_
   subst hv
   repeat' (first|refine zh ?_|intro (bk:Nat))
   exact ih (k+1,(a4,c4),jJx T a r.nx) _ _ ⟨hlt,hst.symm⟩ (by show n.table.length-(k+1)<n.table.length-k;omega) ⟨I,I,I,I,I,I,I,trivial⟩ (Ent.pick [0,2,3,4,5,6] I I)
  ·have h3:¬(r.nx≠a∧r.nx≠255):=by have h3:((r.nx != a)&&(r.nx != 255))=false:=h3;intro hh;simp[hh.1,hh.2]at h3
   rw[if_neg h3]at hst
   repeat' (first|refine zh ?_|intro (bk:Nat))
   exact ih (k+1,y,T) _ _ ⟨hlt,hst.symm⟩ (by show n.table.length-(k+1)<n.table.length-k;omega) ⟨I,I,I,I,I,I,I,trivial⟩ Ent.refl
 have hke:k=n.table.length:=by have:¬(k:Int)<(n.table.length:Int):=of_decide_eq_false h2;omega
 rw[hke,List.take_length]at hT
 obtain ⟨V3,hV3⟩:∃V3:NV,V3={ V2 with ta:=y }:=⟨_,rfl⟩
 have hA:Me.again n a={ new a n.poll with seq:=n.seq,table:=T }:=by rw[hT];rfl
 have hI3:Imp V n V3 [jK (sv y T.length) 94 4 T.length (cellsOf roC T),jD G2] (Me.again n a):=fun w2 h2 hg2=>by
  have hn:=hI2 w2 (okn0 _ _ w2) (jS hg2 (by simp))
  rw[hA,hV3]
  exact ⟨jP0 hg2.1,hn.li,hn.ou,hn.ch,hn.bo,hn.se,hn.pa,hn.ib,hn.eq⟩
 repeat' (first|refine zh ?_|intro (bk:Nat))
 refine HL.JD (r:=fun y:SV=>meV t (sv y xs.length)) (Q:=fun _=>True) (G:=fun y=>[jK (sv y xs.length) 62 13 xs.length (cellsOf zR (xs.set i (V3,Me.again n a)))]) fn57 I I (fun w1 hw1=>by rw[hA,hV3];exact jCC t v xs i _ _ w1 (h.s.ext hw1.jE) hil hl) ?_
 rintro z _
 repeat' (first|refine zh ?_|intro (bk:Nat))
 refine HR.ret Tryz.func30 I [_] (fun w hw=>⟨⟨_,rfl,jP hw 5 I I I I rfl⟩,trivial⟩) ?_
 exact fun w' hw=>⟨(z,xs.set i (V3,Me.again n a),[jK (sv z xs.length) 62 13 xs.length (cellsOf zR (xs.set i (V3,Me.again n a))),jD [jK (sv y T.length) 94 4 T.length (cellsOf roC T),jD G2]]),by rw[show (xs.set i (V3,Me.again n a)).length=xs.length from List.length_set];rfl,jGn hx hI3,Ent.trans (Ent.pick (H':=[jK (sv y T.length) 94 4 T.length (cellsOf roC T),jD G2]++[jK (sv z xs.length) 62 13 xs.length (cellsOf zR (xs.set i (V3,Me.again n a)))]) [1,3,0] I I) (Ent.trans Ent.group (Ent.trans (Ent.pick (H':=[jK (sv z xs.length) 62 13 xs.length (cellsOf zR (xs.set i (V3,Me.again n a))),jD [jK (sv y T.length) 94 4 T.length (cellsOf roC T),jD G2]]++[]) [1,0] I I) Ent.group)) w' hw⟩
end Go.Proofs.YtgfdoognildoeaaGreat
