/- A part of the proof: contracts of the program's functions. Conditions: none. -/
import Derived.Carry
import Derived.Deep.MidRow
import Derived.Deep.Quiet
import Derived.Laws.IdiomRangeMap
import Derived.Laws.MakeOwn
import Derived.Laws.StructEq
import Derived.Laws.Tables
import Derived.Lib.AppendStr
import Derived.Lib.AppendZerosOnto
import Derived.Lib.OthersKept
import Derived.Lib.Overlaps
import Derived.Lib.OwnBridge
import Derived.Lib.SlicesCompact
import Derived.MapKept
import Derived.Orders
import Derived.OrdersHeld
import Derived.Scope
import Derived.Sort.Grow
import Derived.StillTail
import Derived.Test.YtgfdoognildoeaaGreatProg
import Derived.Test.YtgfdoognildoeaaGreatShelf
import Derived.WalkKit
import Derived.WalkLawsBesides
import Derived.WalkSpells
import Derived.Test.YtgfdoognildoeaaGreatLB1
import Derived.Test.YtgfdoognildoeaaGreatLB2
import Derived.Test.YtgfdoognildoeaaGreatLB3
import Derived.Test.YtgfdoognildoeaaGreatLB4
import Derived.Test.YtgfdoognildoeaaGreatLB5
import Derived.Test.YtgfdoognildoeaaGreatLB6
set_option linter.unusedVariables false
set_option linter.unusedSectionVars false
set_option linter.unusedSimpArgs false
set_option maxRecDepth 100000
set_option maxHeartbeats 4000000
namespace Go.Proofs.YtgfdoognildoeaaGreat
open Go.GX Go.RowKit
attribute [local irreducible] Calls Run jZ jf JK HR HL HD jT jG JY Rd jK jY
open Nd
theorem jFH {α:Type} (p:α→Bool) {l:List α} {k:Nat} {x:α} (hx:l[k]? =some x):(l.take (k+1)).filter p=if p x=true then (l.take k).filter p++[x]else (l.take k).filter p:=by
 rw[jN hx,List.filter_append]
 split
 ·rename_i h;rw[List.filter_cons_of_pos h];rfl
 ·rename_i h;rw[List.filter_cons_of_neg h];simp
theorem jN5 (l:List Ma) (now life:Int) (v:Value) (w:World) (hv:Sl w v (cellsOf maC l) l.length) (hl:l.length≤1000):
  Calls Tryz.prog 151 #[v,.int .i64 now,.int .i64 life] w fun e w'=>∃v',e= .returned v'∧Sat (base w) [jG v' 166 10 (jBi l now life).length (cellsOf maC (jBi l now life))] w':=by
 have h16:(l.take 16).length≤16:=by simp;omega
 unfold jBi
 refine jD Tryz.func151 I (Nat.le_of_ble_eq_true I) ?_
 refine HR.sub (σ':=[(0,v),(1,.int .i64 now),(2,.int .i64 life)]) ⟨I,I,I,trivial⟩ ?_
 repeat' (first|refine zh ?_|intro (bk:Nat))
 refine HL.JC (r:=fun v':Value=>v') (Q:=fun v'=>Sl w v' (cellsOf maC (l.take 16)) (l.take 16).length) (G:=fun _=>[]) jQN I I (fun w1 _=>jDx l v w w1 hv) ?_
 intro vb hvb
 obtain ⟨T,hT⟩:∃T,T=l.take 16:=⟨_,rfl⟩
 rw[← hT]at h16 hvb ⊢
 repeat' (first|refine zh ?_|refine HL.JN (Rd.arg hvb) I I I ?_|intro (bk:Nat))
 refine HR.ZC 166 10 ?_
 refine HR.jA2 (α:=Nat) (β:=Value) (fun k o=>k≤T.length) (fun k o=>[(1,.int .i64 now),(2,.int .i64 life),(7,o),(11,vb),(12,.int .i64 (T.length:Int)),(13,.int .i64 (k:Int))]) (fun k o=>[jG o 166 10 ((T.take k).filter fun m=>!bold now life m).length (cellsOf maC ((T.take k).filter fun m=>!bold now life m))]) (fun k _=>T.length-k) 0 (.slice none 0 0) (Nat.zero_le _) ⟨I,I,I,I,I,I,trivial⟩ (Ent.pick [0] I I) ?_
 rintro k o hk ih
 have hfl:((T.take k).filter fun m=>!bold now life m).length≤16:=Nat.le_trans (List.length_filter_le _ _) (by simp;omega)
 repeat' (first|refine zh ?_|intro (bk:Nat))
 refine HR.cond I (fun h2=>?_) (fun h2=>?_)
 ·have hlt:k<T.length:=by have:=of_decide_eq_true h2;omega
  obtain ⟨x,hx⟩:=jJ hlt
  have hft:=jFH (fun m=>!bold now life m) hx
  repeat' (first|refine zh ?_|refine HL.JA (Rd.arg hvb) ZM k I I I I hlt ?_|refine HL.JW (Rd.arg hvb) I I I I (by simp) I (jH zU hx) ?_|refine HL.jR jRq I I (fun w _=>jBF x now life w) ?_|intro (bk:Nat))
  refine HR.cond I (fun h3=>?_) (fun h3=>?_)
  ·have h3:(!bold now life x)=true:=h3
   rw[if_pos h3]at hft
   repeat' (first|refine zh ?_|refine HL.jv ZM I I I I I (by decide) (by decide) ?_|intro (bk:Nat))
   intro va
   repeat' (first|refine zh ?_|refine HL.ZN 2 I ZM (Rd.own 0 I) I I I I (jF I) (by omega) (by omega) ?_|intro (bk:Nat))
   intro o2
   repeat' (first|refine zh ?_|intro (bk:Nat))
   refine ih (k+1) o2 _ _ hlt (by omega) ⟨I,I,I,I,I,I,trivial⟩ (Ent.trans (Ent.pick [2] I I) (Ent.JV ?_ ?_))
   ·rw [hft];simp
   ·rw [hft,jP];rfl
  ·have h3:(!bold now life x)=false:=h3
   rw[if_neg (by rw[h3];decide)]at hft
   repeat' (first|refine zh ?_|intro (bk:Nat))
   refine ih (k+1) o _ _ hlt (by omega) ⟨I,I,I,I,I,I,trivial⟩ (Ent.trans (Ent.pick [1] I I) (Ent.JV ?_ ?_))
   ·rw [hft]
   ·rw [hft]
 ·have hke:k=T.length:=by have:=of_decide_eq_false h2;omega
  subst hke
  rw[List.take_length]
  repeat' (first|refine zh ?_|intro (bk:Nat))
  refine HR.ret Tryz.func151 I [_] (fun _ _=>⟨I,trivial⟩) ?_
  exact fun w' hw=>⟨o,rfl,hw⟩
theorem jDU (to now life:Int):∀(l:List Ma) (s:Fr×List Ma×Bool),(l.foldl (zG to now life) s).2.1.length≤s.2.1.length+l.length
 |[],s=>by simp
 |m::l,s=>by
  have h1:(zG to now life s m).2.1.length≤s.2.1.length+1:=by
   unfold zG;split
   ·omega
   ·split<;>simp
  have:=jDU to now life l (zG to now life s m)
  simp only[List.foldl_cons,List.length_cons]
  omega
theorem jFW (l:List Ma) (to now life:Int) (v:Value) (w:World) (hv:Sl w v (cellsOf maC l) l.length) (hl:l.length≤1000):
  Calls Tryz.prog 221 #[v,.int .i64 to,.int .i64 now,.int .i64 life] w fun e w'=>∃v',e= .returned (.tuple ⟨[.agg ⟨frC (zu l to now life).1⟩,v',.bool (zu l to now life).2.2]⟩)∧True∧Sat (base w) [jG v' 166 10 (zu l to now life).2.1.length (cellsOf maC (zu l to now life).2.1)] w':=by
 have h16:(l.take 16).length≤16:=by simp;omega
 unfold zu
 refine jD Tryz.func221 I (Nat.le_of_ble_eq_true I) ?_
 refine HR.sub (σ':=[(0,v),(1,.int .i64 to),(2,.int .i64 now),(3,.int .i64 life)]) ⟨I,I,I,I,trivial⟩ ?_
 refine HR.ctl I ?_
 refine HR.region ?_
 refine HL.alloc I I ?_
 intro b8
 repeat' (first|refine zh ?_|intro (bk:Nat))
 refine HL.JC (r:=fun v':Value=>v') (Q:=fun v'=>Sl w v' (cellsOf maC (l.take 16)) (l.take 16).length) (G:=fun _=>[]) jQN I I (fun w1 _=>jDx l v w w1 hv) ?_
 intro vb hvb
 obtain ⟨T,hT⟩:∃T,T=l.take 16:=⟨_,rfl⟩
 rw[← hT]at h16 hvb ⊢
 repeat' (first|refine zh ?_|refine HL.JN (Rd.arg hvb) I I I ?_|intro (bk:Nat))
 refine HR.ZC 166 10 ?_
 obtain ⟨S,hS⟩:∃S:Nat→Fr×List Ma×Bool,S=fun k=>(T.take k).foldl (zG to now life) (fr0,[],false):=⟨_,rfl⟩
 refine HR.jA2 (α:=Nat) (β:=Value) (fun k o=>k≤T.length) (fun k o=>[(1,.int .i64 to),(2,.int .i64 now),(3,.int .i64 life),(8,.pointer (some ⟨b8,0,none⟩)),(11,o),(12,.pointer (some ⟨bk,0,none⟩)),(13,.bool (S k).2.2),(17,vb),(18,.int .i64 (T.length:Int)),(19,.int .i64 (k:Int))]) (fun k o=>[jG o 166 10 (S k).2.1.length (cellsOf maC (S k).2.1),jT bk (frC (S k).1) 75,jT b8 (frC fr0) 75]) (fun k _=>T.length-k) 0 (.slice none 0 0) (Nat.zero_le _) ⟨rfl,rfl,rfl,rfl,rfl,rfl,by rw[hS];rfl,rfl,rfl,rfl,trivial⟩ (by rw[hS];exact Ent.pick [0,1,2] I I) ?_
 rintro k o hk ih
 have hSl:(S k).2.1.length≤16:=by
  rw[hS]
  have:=jDU to now life (T.take k) (fr0,[],false)
  simp at this ⊢;omega
 repeat' (first|refine zh ?_|intro (bk:Nat))
 refine HR.cond I (fun h2=>?_) (fun h2=>?_)
 ·have hlt:k<T.length:=by have:=of_decide_eq_true h2;omega
  obtain ⟨x,hx⟩:=jJ hlt
  have hst:S (k+1)=zG to now life (S k) x:=by rw[hS];exact jCE _ _ hx
  repeat' (first|refine zh ?_|refine HL.JA (Rd.arg hvb) ZM k I I I I hlt ?_|refine HL.JW (Rd.arg hvb) I I I I (by simp) I (jH zU hx) ?_|refine HL.jR jRq I I (fun w _=>jBF x now life w) ?_|intro (bk:Nat))
  refine HR.cond I (fun h3=>?_) (fun h3=>?_)
  ·have h3:bold now life x=true:=h3
   have hst:S (k+1)=S k:=by rw[hst];unfold zG;rw[if_pos h3]
   repeat' (first|refine zh ?_|intro (bk:Nat))
   refine ih (k+1) o _ _ hlt (by omega) ⟨rfl,rfl,rfl,rfl,rfl,rfl,by rw[hst];rfl,rfl,rfl,rfl,trivial⟩ ?_
   rw[hst];exact Ent.pick [1,2,3] I I
  have h3:¬bold now life x=true:=by have h3:bold now life x=false:=h3;rw[h3];decide
  repeat' (first|refine zh ?_|apply zb ?_ ?_|exact zc|(refine zi fun hb=>?_;try simp at hb)|intro (bk:Nat))
  refine HR.cond I (fun h4=>?_) (fun h4=>?_)
  ·have h4:(!(S k).2.2&&(x.f.dst==to))=true:=h4
   have hst:S (k+1)=(x.f,(S k).2.1,true):=by rw[hst];unfold zG;rw[if_neg h3,if_pos h4]
   repeat' (first|refine zh ?_|intro (bk:Nat))
   refine ih (k+1) o _ _ hlt (by omega) ⟨rfl,rfl,rfl,rfl,rfl,rfl,by rw[hst];rfl,rfl,rfl,rfl,trivial⟩ ?_
   rw[hst];exact Ent.pick [1,2,3] I I
  ·have h4:(!(S k).2.2&&(x.f.dst==to))=false:=h4
   have hst:S (k+1)=((S k).1,(S k).2.1++[x],(S k).2.2):=by rw[hst];unfold zG;rw[if_neg h3,if_neg (by rw[h4];decide)]
   repeat' (first|refine zh ?_|refine HL.jv ZM I I I I I (by decide) (by decide) ?_|intro (bk:Nat))
   intro va
   repeat' (first|refine zh ?_|refine HL.ZN 2 I ZM (Rd.own 0 I) I I I I (jF I) (by omega) (by omega) ?_|intro (bk:Nat))
   intro o2
   repeat' (first|refine zh ?_|intro (bk:Nat))
   refine ih (k+1) o2 _ _ hlt (by omega) ⟨rfl,rfl,rfl,rfl,rfl,rfl,by rw[hst];rfl,rfl,rfl,rfl,trivial⟩ ?_
   rw[hst]
   refine Ent.trans (Ent.pick [2,3,4] I I) (Ent.JV (by simp) ?_)
   rw[jP];rfl
 ·have hke:k=T.length:=by have:=of_decide_eq_false h2;omega
  subst hke
  have hfin:T.foldl (zG to now life) (fr0,[],false)=S T.length:=by rw[hS];simp
  rw[hfin]
  repeat' (first|refine zh ?_|intro (bk:Nat))
  refine HR.ret Tryz.func221 I [_,_,_] (fun w hw=>⟨⟨_,rfl,jS hw 2 I I I I rfl⟩,rfl,rfl,trivial⟩) ?_
  exact fun w' hw=>⟨o,rfl,trivial,hw.pick [0] I rfl⟩
end Go.Proofs.YtgfdoognildoeaaGreat
namespace Go.Proofs.YtgfdoognildoeaaGreat
open Go.GX Go.RowKit
attribute [local irreducible] Calls Run jZ jf JK HR HL HD jT jG JY Rd jK jY
open Nd
theorem max0 (n:Nat):(if (n:Int)-32>0 then (n:Int)-32 else 0)=((n-32:Nat):Int):=by split<;>omega
theorem jL1 (l:List Pr) (p:Pr) (v:Value) (w:World) (hv:Sl w v (cellsOf prC l) l.length) (hl:l.length≤1000000):
  Calls Tryz.prog 302 #[v,.agg ⟨prC p⟩] w fun e w'=>e= .returned (.int .i64 (fidx (fun x=>decide (x=p)) l))∧Below w.heap.size w w':=by
 refine jD Tryz.func302 I (Nat.le_of_ble_eq_true I) ?_
 refine HR.sub (σ':=[(0,v),(1,.agg ⟨prC p⟩)]) ⟨I,I,trivial⟩ ?_
 repeat' (first|refine zh ?_|refine HL.JN (Rd.arg hv) I I I ?_|intro (bk:Nat))
 refine HR.loop (ι:=Nat) (fun k=>k≤l.length∧∀j b,j<k→l[j]? =some b→decide (b=p)=false) (fun k=>[(0,v),(3,.pointer (some ⟨bk,0,none⟩)),(7,.int .i64 (l.length:Int)),(8,.int .i64 (k:Int))]) (fun _=>[jT bk (prC p) 171]) (fun k=>l.length-k) 0 ⟨Nat.zero_le _,fun j b hj=>absurd hj (Nat.not_lt_zero _)⟩ ⟨I,I,I,I,trivial⟩ Ent.refl ?_
 rintro k ⟨hk,hno⟩ ih
 repeat' (first|refine zh ?_|intro (bk:Nat))
 refine HR.cond I (fun h2=>?_) (fun h2=>?_)
 ·have hlt:k<l.length:=by have:=of_decide_eq_true h2;omega
  obtain ⟨x,hx⟩:=jJ hlt
  repeat' (first|refine zh ?_|intro (bk:Nat))
  refine HR.JF Jc (by kernel_rfl) ?_
  repeat' (first|refine zq ?_|refine HQ.JA (Rd.arg hv) jFM k I I I I hlt ?_|refine HQ.JW (Rd.arg hv) I I I I (by simp) I (jH jAv hx) ?_|refine jf.eqS I (by kernel_rfl) (by kernel_rfl) I I I ?_|apply zb ?_ ?_|exact zc|(refine zi fun hb=>?_;try simp at hb))
  refine HR.cond I (fun h3=>?_) (fun h3=>?_)
  ·have h3:x=p:=by
    obtain ⟨a1,a2⟩:=x
    obtain ⟨b1,b2⟩:=p
    simp at h3
    simp[h3]
   repeat' (first|refine zh ?_|intro (bk:Nat))
   refine HR.ret Tryz.func302 I [_] (fun _ _=>⟨I,trivial⟩) ?_
   rw[kY hx (decide_eq_true h3) hno]
   exact fun w' hw=>⟨rfl,hw.jE⟩
  ·have h3:decide (x=p)=false:=by
    refine decide_eq_false fun e=>?_
    subst e
    simp at h3
   repeat' (first|refine zh ?_|intro (bk:Nat))
   refine ih (k+1) _ _ ⟨hlt,fun j b hj hb=>?_⟩ (by omega) ⟨I,I,I,I,trivial⟩ Ent.refl
   by_cases e:j=k
   ·subst e;rw[hx]at hb;cases hb;exact h3
   ·exact hno j b (by omega) hb
 ·have hke:k=l.length:=by have:=of_decide_eq_false h2;omega
  subst hke
  rw[zX hno]
  repeat' (first|refine zh ?_|intro (bk:Nat))
  refine HR.ret Tryz.func302 I [_] (fun _ _=>⟨I,trivial⟩) ?_
  exact fun w' hw=>⟨rfl,hw.jE⟩
theorem jQt (l:List Pr) (p:Pr):l.any (fun x=>decide (x=p))=decide (p∈l):=by
 by_cases h:p∈l
 ·rw [decide_eq_true h,List.any_eq_true];exact ⟨p,h,by simp⟩
 ·rw [decide_eq_false h,← Bool.not_eq_true,List.any_eq_true]
  rintro ⟨x,hx,e⟩
  exact h (of_decide_eq_true e▸hx)
theorem jJy (l:List Pr) (p:Pr) (v:Value) (w:World) (hv:Sl w v (cellsOf prC l) l.length) (hl:l.length≤1000000):
  Calls Tryz.prog 274 #[v,.agg ⟨prC p⟩] w fun e w'=>e= .returned (.bool (decide (p∈l)))∧Below w.heap.size w w':=by
 rw[← jQt,← jBf]
 refine jD Tryz.func274 I (Nat.le_of_ble_eq_true I) ?_
 refine HR.sub (σ':=[(0,v),(1,.agg ⟨prC p⟩)]) ⟨I,I,trivial⟩ ?_
 repeat' (first|refine zh ?_|refine HL.jR fn302 I I (fun w hw=>jL1 l p v w ((Rd.arg hv).at hw) hl) ?_|intro (bk:Nat))
 refine HR.ret Tryz.func274 I [_] (fun _ _=>⟨I,trivial⟩) ?_
 exact fun w' hw=>⟨rfl,hw.jE⟩
theorem lastl {α:Type} (l:List α):(last 32 l).length≤32∧(last 32 l).length≤l.length:=by unfold last;simp;omega
theorem jJS (l:List Pr) (p:Pr) (v:Value) (w:World) (hv:Sl w v (cellsOf prC l) l.length) (hl:l.length≤1000):
  Calls Tryz.prog 222 #[v,.agg ⟨prC p⟩] w fun e w'=>∃v',e= .returned (.tuple ⟨[v',.bool (Z7 l p).2]⟩)∧True∧Sat (base w) [jG v' 171 2 (Z7 l p).1.length (cellsOf prC (Z7 l p).1)] w':=by
 have hll:=lastl l
 refine jD Tryz.func222 I (Nat.le_of_ble_eq_true I) ?_
 refine HR.sub (σ':=[(0,v),(1,.agg ⟨prC p⟩)]) ⟨I,I,trivial⟩ ?_
 repeat' (first|refine zh ?_|refine HL.JN (Rd.arg hv) I I I ?_|intro (bk:Nat))
 refine HL.ZU 11 (v':= .int .i64 ((l.length-32:Nat):Int)) I (by rw[max0]) ?_
 have hR:=fun B H=>Rd.suf (B:=B) (H:=H) jAv (l:=l) (v:=v) (n:=l.length-32)
 have hS:=hR (base w) [jT bk (prC p) 171] (Rd.arg hv) (Nat.sub_le _ _)
 repeat' (first|refine zh ?_|refine HL.jAo (sz:=2) (l.length-32) l.length (Rd.arg hv) I I I I (.inr ⟨_,_,_,rfl,rfl,rfl⟩) (.inl ⟨rfl,rfl⟩) (Nat.sub_le _ _) (Nat.le_refl _) ?_|refine HL.JQ jQS I I (fun w hw=>jAF (last 32 l) _ w (hS.at hw) (by omega)) ?_|intro (bk:Nat))
 intro v1
 have hspec:Z7 l p=if p∈last 32 l then (last 32 l,false)else (last 32 (last 32 l++[p]),true):=rfl
 rw[hspec]
 obtain ⟨T,hT⟩:∃T,T=last 32 l:=⟨_,rfl⟩
 rw[← hT]at hll ⊢
 repeat' (first|refine zh ?_|refine HL.jR fn274 I I (fun w hw=>jJy T p v1 w ((Rd.own 0 rfl).at hw) (by omega)) ?_|intro (bk:Nat))
 refine HR.cond I (fun h2=>?_) (fun h2=>?_)
 ·have h2:p∈T:=of_decide_eq_true h2
  rw[if_pos h2]
  repeat' (first|refine zh ?_|intro (bk:Nat))
  refine HR.ret Tryz.func222 I [_,_] (fun _ _=>⟨I,I,trivial⟩) ?_
  exact fun w' hw=>⟨v1,rfl,trivial,hw.pick [0] I rfl⟩
 ·have h2:¬p∈T:=of_decide_eq_false h2
  rw[if_neg h2]
  repeat' (first|refine zh ?_|refine HL.jv jFM I I I I I (by decide) (by decide) ?_|intro (bk:Nat))
  intro va
  repeat' (first|refine zh ?_|intro (bk:Nat))
  refine HL.ZN 1 I jFM (Rd.own 0 I) I I I I (jF I) (by omega) (by omega) ?_
  intro v2
  refine HL.ent (H':=[jG v2 171 2 (T++[p]).length (cellsOf prC (T++[p]))]) (Ent.trans (Ent.pick [1] I I) (Ent.JV (by simp) (by rw[jP];rfl))) ?_
  obtain ⟨U,hU⟩:∃U,U=T++[p]:=⟨_,rfl⟩
  have hUl:U.length≤33:=by rw[hU];simp;omega
  rw[← hU]
  repeat' (first|refine zh ?_|refine HL.JN (Rd.own 0 I) I I I ?_|intro (bk:Nat))
  refine HL.ZU 26 (v':= .int .i64 ((U.length-32:Nat):Int)) I (by rw[max0]) ?_
  repeat' (first|refine zh ?_|refine HL.subO (sz:=2) (U.length-32) U.length 0 I I I I I (.inr ⟨_,_,rfl,rfl⟩) (.inl ⟨rfl,rfl⟩) (Nat.sub_le _ _) (Nat.le_refl _) ?_|intro (bk:Nat))
  refine HR.ret Tryz.func222 I [_,_] (fun _ _=>⟨I,I,trivial⟩) ?_
  refine fun w' hw=>⟨_,rfl,trivial,Ent.JV ?_ ?_ w' hw⟩
  ·unfold last;simp
  ·rw [JB jAv,List.take_of_length_le (by rw[jC jAv,List.length_drop];exact Nat.le_refl _)];rfl
end Go.Proofs.YtgfdoognildoeaaGreat
namespace Nd
open Go.GX Tp
def Kept (old t:List Ro):Prop:=∀r∈old,∃x∈t,x=r∨(x.dest=r.dest∧(x.sq>r.sq∨(x.sq=r.sq∧x.cost<r.cost)))
theorem Kept.refl (t:List Ro):Kept t t:=fun r hr=>⟨r,hr,.inl rfl⟩
theorem Kept.trans {a b c:List Ro} (h:Kept a b) (h':Kept b c):Kept a c:=by
 intro r hr
 obtain ⟨x,hx,h1⟩:=h r hr
 obtain ⟨y,hy,h2⟩:=h' x hx
 refine ⟨y,hy,?_⟩
 rcases h1 with rfl|⟨e1,h1⟩
 ·exact h2
 ·rcases h2 with rfl|⟨e2,h2⟩
  ·exact .inr ⟨e1,h1⟩
  ·exact .inr ⟨e2.trans e1,by omega⟩
theorem Tab.tab {t:List Ro} {self:Int} (h:Tab self t):Kg t self=t:=by
 unfold Kg;rw[jB6 h.ok,if_pos h.chk]
theorem jF5 {t:List Ro} {d:Int} {o:Ro} (ha:Asc (·.dest) t) (h:rat t d=some o):t[rpos t d]? =some o∧o.dest=d:=by
 have:=ha.pos (n:=d) h
 exact ⟨this.1,this.2.1⟩
theorem jDs {t t':List Ro} {self:Int} (h:(t.any fun r=>r.dest==self)=true) (hk:Kept t t'):(t'.any fun r=>r.dest==self)=true:=by
 obtain ⟨r,hr,he⟩:=List.any_eq_true.1 h
 obtain ⟨x,hx,h1⟩:=hk r hr
 refine List.any_eq_true.2 ⟨x,hx,?_⟩
 rcases h1 with rfl|⟨e,_⟩
 ·exact he
 ·rw [e];exact he
theorem jAs {t:List Ro} {fr:Int} {r x:Ro} (h:x∈JZ t fr r):x∈t∨x=r:=by
 unfold JZ at h
 split at h
 ·rename_i o ho
  by_cases hc:(if fin r=true then better r o else (o.nx==fr)&&decide (o.sq<r.sq))=true
  ·rw [if_pos hc]at h;exact List.mem_or_eq_of_mem_set h
  ·rw [if_neg hc]at h;exact .inl h
 ·split at h
  ·rcases List.mem_append.1 h with h|h
   ·exact .inl (List.mem_of_mem_take h)
   ·rcases List.mem_cons.1 h with h|h
    ·exact .inr h
    ·exact .inl (List.mem_of_mem_drop h)
  ·exact .inl h
theorem jFz {t:List Ro} {fr:Int} {r:Ro} (ha:Asc (·.dest) t):Kept t (JZ t fr r):=by
 unfold JZ;split
 ·rename_i o ho
  obtain ⟨h1,h2⟩:=jF5 ha ho
  by_cases hc:(if fin r=true then better r o else (o.nx==fr)&&decide (o.sq<r.sq))=true
  ·rw [if_pos hc]
   have hb:r.sq>o.sq∨(r.sq=o.sq∧r.cost<o.cost):=by
    by_cases hf:fin r=true
    ·rw [if_pos hf]at hc;simpa[better]using hc
    ·rw [if_neg hf]at hc;simp at hc;omega
   intro x hx
   obtain ⟨j,hj⟩:=List.getElem?_of_mem hx
   by_cases hji:j=rpos t r.dest
   ·subst hji;rw[h1]at hj;cases hj
    exact ⟨r,List.mem_of_getElem? (List.getElem?_set_self (List.getElem?_eq_some_iff.1 h1).1),.inr ⟨h2.symm,hb⟩⟩
   ·exact ⟨x,List.mem_of_getElem? (i:=j) (by rw[List.getElem?_set_ne (Ne.symm hji)];exact hj),.inl rfl⟩
  ·rw [if_neg hc];exact Kept.refl t
 ·split
  ·intro x hx
   refine ⟨x,?_,.inl rfl⟩
   rw[← List.take_append_drop (rpos t r.dest) t]at hx
   rcases List.mem_append.1 hx with h|h
   ·exact List.mem_append_left _ h
   ·exact List.mem_append_right _ (List.mem_cons_of_mem _ h)
  ·exact Kept.refl t
theorem jHz {t:List Ro} {self fr:Int} {r:Ro} (h:Tab self t) (hr:zR r=false) (hf:KE self r=false):Tab self (JZ t fr r)∧Kept t (JZ t fr r):=by
 have hk:=jFz (fr:=fr) (r:=r) h.asc
 refine ⟨⟨jC0 h.len,h.ok,fun x hx=>?_,jC1 h.asc,jDs h.own hk,fun x hx=>?_⟩,hk⟩
 ·rcases jAs hx with hx|rfl
  ·exact h.rng x hx
  ·exact hr
 ·rcases jAs hx with hx|rfl
  ·exact h.form x hx
  ·exact hf
theorem jKw {self fr cost:Int} {a:Ro} (h1:okN fr=true) (h2:fr≠self) (h3:1≤cost) (hs:okN self=true) (ha:usable a=true) (hd:a.dest≠self):
  zR (jAt fr cost a)=false∧KE self (jAt fr cost a)=false:=by
 rw[zT]at hs
 unfold usable at ha
 rw[Bool.and_eq_true,Bool.and_eq_true,Bool.not_eq_true',Bool.or_eq_false_iff,decide_eq_false_iff_not,decide_eq_false_iff_not]at ha
 obtain ⟨⟨h4,h5,h6⟩,h7⟩:=ha
 unfold jAt
 split
 ·rename_i hc
  have hc1:=hc.1
  unfold fin at hc1
  simp only[Bool.and_eq_true,decide_eq_true_eq]at hc1
  have h7:a.sq%2=0:=by simp at h7;omega
  have hfin:fin ⟨a.dest,a.sq,a.cost+cost,fr⟩=true:=by unfold fin;simp;omega
  refine ⟨?_,?_⟩
  ·unfold zR usable
   rw[hfin,h4,h1]
   simp[h7];omega
  ·unfold KE
   rw[if_neg hd]
   simp only[Bool.or_eq_false_iff,beq_eq_false_iff_ne,ne_eq]
   exact ⟨by omega,h2⟩
 ·have hfin:fin ⟨a.dest,a.sq,255,255⟩=false:=by unfold fin;simp
  refine ⟨?_,?_⟩
  ·unfold zR usable
   rw[hfin,h4]
   simp;omega
  ·unfold KE
   rw[if_neg hd]
   simp only[Bool.or_eq_false_iff,beq_eq_false_iff_ne,ne_eq]
   exact ⟨by decide,by omega⟩
theorem jKg {t:List Ro} {self fr cost:Int} {a:Ro} (h:Tab self t) (h1:okN fr=true) (h2:fr≠self) (h3:1≤cost):Tab self (ZA self fr cost t a)∧Kept t (ZA self fr cost t a):=by
 unfold ZA;split
 ·exact ⟨h,Kept.refl t⟩
 ·rename_i hn
  have hu:usable a=true:=by
   cases e:usable a
   ·exact absurd (Or.inl e) hn
   ·rfl
  have hd:a.dest≠self:=fun e=>hn (.inr (by rw[jB6 h.ok];exact e))
  obtain ⟨g1,g2⟩:=jKw (cost:=cost) h1 h2 h3 h.ok hu hd
  exact jHz h g1 g2
theorem jEY {self fr cost:Int} (h1:okN fr=true) (h2:fr≠self) (h3:1≤cost):∀ {adv t:List Ro},Tab self t→Tab self (adv.foldl (ZA self fr cost) t)∧Kept t (adv.foldl (ZA self fr cost) t)
 |[],t,h=>⟨h,Kept.refl t⟩
 |a::adv,t,h=>by
  obtain ⟨g1,g2⟩:=jKg (a:=a) h h1 h2 h3
  obtain ⟨g3,g4⟩:=jEY (cost:=cost) h1 h2 h3 (adv:=adv) g1
  exact ⟨g3,g2.trans g4⟩
theorem jAP {t:List Ro} {self fr cost:Int} {adv:List Ro} (h:Tab self t):Tab self (jEM t self fr cost adv)∧Kept t (jEM t self fr cost adv):=by
 unfold jEM
 rw[h.tab,jB6 h.ok]
 split
 ·exact ⟨h,Kept.refl t⟩
 ·rename_i hn
  have h1:okN fr=true:=by
   cases e:okN fr
   ·exact absurd (Or.inl e) hn
   ·rfl
  exact jEY h1 (fun e=>hn (.inr (.inl e))) (by omega) h
theorem jMa {α:Type} {key:α→Int} {l:List α} {i:Nat} {x y:α} (ha:Asc key l) (hx:l[i]? =some x) (hk:key y=key x):Asc key (l.set i y):=by
 have hg:∀(k:Nat) (a:α),(l.set i y)[k]? =some a→∃a':α,l[k]? =some a'∧key a'=key a:=by
  intro k a h
  by_cases e:k=i
  ·subst e
   rw[List.getElem?_set_self (List.getElem?_eq_some_iff.1 hx).1]at h
   cases h;exact ⟨x,hx,hk.symm⟩
  ·rw [List.getElem?_set_ne (Ne.symm e)]at h;exact ⟨a,h,rfl⟩
 refine jFb fun k a b h1 h2=>?_
 obtain ⟨a',e1,e2⟩:=hg k a h1
 obtain ⟨b',e3,e4⟩:=hg (k+1) b h2
 have:=ha.lt (Nat.lt_succ_self k) e1 e3
 omega
theorem jEk {t:List Ro} {self:Int} (h:Tab self t):Tab self (jCj t self)∧Kept t (jCj t self):=by
 unfold jCj
 rw[h.tab,jB6 h.ok]
 split
 ·rename_i r hr
  obtain ⟨h1,h2⟩:=jF5 h.asc hr
  have hm:=List.mem_of_getElem? h1
  split
  ·rename_i hlt
   have hk:Kept t (t.set (rpos t self) ⟨r.dest,r.sq+2,r.cost,r.nx⟩):=by
    intro x hx
    obtain ⟨j,hj⟩:=List.getElem?_of_mem hx
    by_cases hji:j=rpos t self
    ·subst hji;rw[h1]at hj;cases hj
     exact ⟨_,List.mem_of_getElem? (List.getElem?_set_self (List.getElem?_eq_some_iff.1 h1).1),.inr ⟨rfl,.inl (by show r.sq+2>r.sq;omega)⟩⟩
    ·exact ⟨x,List.mem_of_getElem? (i:=j) (by rw[List.getElem?_set_ne (Ne.symm hji)];exact hj),.inl rfl⟩
   refine ⟨⟨by rw[List.length_set];exact h.len,h.ok,fun x hx=>?_,jMa h.asc h1 rfl,jDs h.own hk,fun x hx=>?_⟩,hk⟩
   ·rcases List.mem_or_eq_of_mem_set hx with hx|rfl
    ·exact h.rng x hx
    ·have hg:=h.rng r hm
     have hf:=h.form r hm
     unfold KE at hf
     rw[if_pos h2]at hf
     simp only[Bool.not_eq_false',Bool.and_eq_true,beq_iff_eq]at hf
     have hs:=h.ok
     rw[zT]at hs
     unfold zR usable fin at hg ⊢
     rw[hf.1,hf.2,h2]at hg ⊢
     simp only[h.ok]at hg ⊢
     simp at hg ⊢
     omega
   ·rcases List.mem_or_eq_of_mem_set hx with hx|rfl
    ·exact h.form x hx
    ·have hf:=h.form r hm
     unfold KE at hf ⊢
     exact hf
  ·exact ⟨h,Kept.refl t⟩
 ·exact ⟨h,Kept.refl t⟩
theorem jDj {t:List Ro} {self next:Int} (h:Tab self t):Tab self (jH6 t self next)∧Kept t (jH6 t self next):=by
 rw[jDk,h.tab]
 have hs:=h.ok
 rw[zT]at hs
 have hb:∀r,jGo self next r=if okN next=true∧r.nx=next∧r.dest≠self then ⟨r.dest,r.sq+1,255,255⟩else r:=by
  intro r;unfold jGo;rw[jB6 h.ok]
 have hk:Kept t (t.map (jGo self next)):=by
  intro r hr
  refine ⟨jGo self next r,List.mem_map_of_mem hr,?_⟩
  rw[hb];split
  ·exact .inr ⟨rfl,.inl (by show r.sq+1>r.sq;omega)⟩
  ·exact .inl I
 refine ⟨⟨by rw[List.length_map];exact h.len,h.ok,fun x hx=>?_,?_,jDs h.own hk,fun x hx=>?_⟩,hk⟩
 ·obtain ⟨r,hr,rfl⟩:=List.mem_map.1 hx
  have hg:=h.rng r hr
  rw[hb];split
  ·rename_i hc
   obtain ⟨c1,c2,c3⟩:=hc
   rw[← c2]at c1
   have hn:=c1
   rw[zT]at hn
   unfold zR usable fin at hg ⊢
   simp only[c1]at hg
   simp at hg ⊢
   obtain ⟨⟨⟨g1,g2,g3⟩,g4⟩,g5⟩:=hg
   simp only[g1]
   simp;omega
  ·exact hg
 ·refine Asc.jNZ (key:=fun r:Ro=>r.dest) _ (fun a=>?_) h.asc
  rw[hb];split<;>rfl
 ·obtain ⟨r,hr,rfl⟩:=List.mem_map.1 hx
  have hf:=h.form r hr
  rw[hb];split
  ·rename_i hc
   unfold KE
   rw[if_neg hc.2.2]
   simp only[Bool.or_eq_false_iff,beq_eq_false_iff_ne,ne_eq]
   exact ⟨by decide,by omega⟩
  ·exact hf
theorem jDE {x:Li} {ok:Bool} (h:ze x=false):ze (jNb x ok)=false:=by
 obtain ⟨h1,h2,h3,h4,h5,h6⟩:=jAb h
 unfold ze at h
 simp only[Bool.or_eq_false_iff,decide_eq_false_iff_not]at h
 obtain ⟨_,h7⟩:=h
 have hb:(if ok=true then (1:Int)else 0)≤1∧0≤(if ok=true then (1:Int)else 0):=by split<;>omega
 unfold ze jNb
 simp only[Bool.or_eq_false_iff,decide_eq_false_iff_not]
 refine ⟨⟨⟨⟨by omega,by omega⟩,by omega⟩,by omega⟩,?_⟩
 rcases Int.lt_or_le x.ct 16 with hc|hc
 ·have e:(min (x.ct+1) 16).toNat=x.ct.toNat+1:=by omega
  rw[e,Int.pow_succ]
  omega
 ·have e:(min (x.ct+1) 16).toNat=16:=by omega
  rw[e]
  have:(2:Int) ^ 16=65536:=by decide
  rw[this];omega
theorem Km (l:List Li) (n:Int) (ok:Bool):jCA (ZE l n ok)=0:=by
 obtain ⟨h1,h2,h3⟩:=Ko (KS l)
 unfold ZE
 split
 ·exact KS l
 rename_i hr
 split
 ·rename_i x hx
  obtain ⟨hp,hk,_⟩:=h3.pos (n:=n) hx
  have hx':=List.mem_of_getElem? hp
  refine jGa (by rw[List.length_set];exact h1) (fun y hy=>?_) (jMa h3 (i:=zx (lval l) n) hp I)
  rcases List.mem_or_eq_of_mem_set hy with hy|rfl
  ·exact h2 y hy
  ·exact jDE (h2 x hx')
 ·rename_i hx
  split
  ·exact KS l
  ·rename_i hl
   refine jGa ?_ (fun y hy=>?_) ?_
   ·have:=jGW (lval l) n
    simp;omega
   ·rcases List.mem_append.1 hy with h|h
    ·exact h2 y (List.mem_of_mem_take h)
    ·rcases List.mem_cons.1 h with rfl|h
     ·refine jDE ?_
      unfold ze;simp;omega
     ·exact h2 y (List.mem_of_mem_drop h)
   ·obtain ⟨A,C,s⟩:=h3.split n
    rcases s.hi with ⟨g1,g2⟩|⟨y,D,rfl,hy,g2,g3⟩
    ·have hlp:zx (lval l) n=A.length:=by unfold zx;rw[s.tw]
     rw[hlp,s.eq,List.take_left,List.drop_left]
     exact Asc.ins (by rw[← s.eq];exact h3) s.lo g2 I
    ·exact absurd g2 (by unfold lat at hx;rw[hx];simp)
theorem jJY (l:List Li) (n:Int):jCA (kW l n)=0:=by
 obtain ⟨h1,h2,h3⟩:=Ko (KS l)
 unfold kW
 exact jGa (Nat.le_trans (List.length_filter_le _ _) h1) (fun x hx=>h2 x (List.mem_filter.1 hx).1) (h3.filter _)
structure Ord (n:Nd):Prop where
 addr:okN n.addr=true
 poll:n.poll=0∨4≤n.poll
 parent:n.parent=255∨(okN n.parent=true∧n.parent≠n.addr)
 table:Tab n.addr n.table
 links:jCA n.links=0
 out:n.out.length≤16
 kids:Asc id n.children
 kid:∀x∈n.children,okN x=true∧x≠n.addr
 boxes:n.boxes.length≤16
 seen:n.seen.length≤32
 inbox:n.inbox.length≤256
 seq:0≤n.seq∧n.seq≤65535
 lost:0≤n.lost∧n.lost≤JU
theorem jHg (n:Int):okN (clamp n 0 250)=true:=jHU n
theorem Ja (n:Nd):Ord (order n):=by
 have ha:=jHg n.addr
 refine ⟨ha,?_,?_,?_,KS _,?_,(Kq _ _).1,fun x hx=>(((Kq _ _).2 x).1 hx).2,?_,jD5 _ _,?_,?_,?_⟩
 ·show (if n.poll<1 then (0:Int)else max n.poll 4)=0∨4≤(if n.poll<1 then (0:Int)else max n.poll 4)
  split<;>omega
 ·show (if okN n.parent=false∨n.parent=clamp n.addr 0 250 then (255:Int)else n.parent)=255∨(okN (if okN n.parent=false∨n.parent=clamp n.addr 0 250 then (255:Int)else n.parent)=true∧(if okN n.parent=false∨n.parent=clamp n.addr 0 250 then (255:Int)else n.parent)≠clamp n.addr 0 250)
  split
  ·exact .inl I
  ·rename_i h
   refine .inr ⟨?_,fun e=>h (.inr e)⟩
   cases e:okN n.parent
   ·exact absurd (Or.inl e) h
   ·rfl
 ·show Tab (clamp n.addr 0 250) (if jAR n.table (clamp n.addr 0 250)=0 then n.table else [jG9 (clamp n.addr 0 250)])
  split
  ·rename_i h;exact jHC h
  ·exact jG7 ha
 ·show (n.out.take 16).length≤16
  simp;omega
 ·show (n.boxes.take 16).length≤16
  simp;omega
 ·show (n.inbox.take 256).length≤256
  simp;omega
 ·show 0≤(if n.seq<0∨n.seq>65535 then (0:Int)else n.seq)∧(if n.seq<0∨n.seq>65535 then (0:Int)else n.seq)≤65535
  split<;>omega
 ·show 0≤clamp n.lost 0 JU∧clamp n.lost 0 JU≤JU
  have:(0:Int)≤JU:=by decide
  unfold clamp;omega
theorem Ord.eq {n:Nd} (h:Ord n):order n=n:=by
 have e1:clamp n.addr 0 250=n.addr:=by have:=h.addr;rw[zT]at this;unfold clamp;omega
 have e2:(if n.poll<1 then (0:Int)else max n.poll 4)=n.poll:=by have:=h.poll;split<;>omega
 have e3:(if okN n.parent=false∨n.parent=n.addr then (255:Int)else n.parent)=n.parent:=by
  rcases h.parent with e|⟨h1,h2⟩
  ·split
   ·exact e.symm
   ·rfl
  ·rw [if_neg]
   rintro (h3|h3)
   ·rw [h1]at h3;cases h3
   ·exact h2 h3
 have e4:(if jAR n.table n.addr=0 then n.table else [jG9 n.addr])=n.table:=if_pos h.table.chk
 have e5:lval n.links=n.links:=if_pos h.links
 have e6:n.out.take 16=n.out:=List.take_of_length_le h.out
 have e7:Nd.kids n.addr n.children=n.children:=by
  refine jEK (Kq _ _).1 h.kids fun x=>?_
  rw[(Kq _ _).2 x]
  exact ⟨fun h=>h.1,fun hx=>⟨hx,h.kid x hx⟩⟩
 have e8:n.boxes.take 16=n.boxes:=List.take_of_length_le h.boxes
 have e9:last 32 n.seen=n.seen:=jP8 h.seen
 have e10:n.inbox.take 256=n.inbox:=List.take_of_length_le h.inbox
 have e11:(if n.seq<0∨n.seq>65535 then (0:Int)else n.seq)=n.seq:=by have:=h.seq;split<;>omega
 have e12:clamp n.lost 0 JU=n.lost:=by have:=h.lost;unfold clamp;omega
 unfold order
 simp only[e1,e2,e3,e4,e5,e6,e7,e8,e9,e10,e11,e12]
theorem Ord.lose {n:Nd} (h:Ord n):Ord (lose n):={ h with lost:=by have:=h.lost;show 0≤min (n.lost+1) JU∧min (n.lost+1) JU≤JU;omega }
theorem Ord.ZL {n:Nd} (h:Ord n) {q:List Sn} (hq:q.length≤16):Ord { n with out:=q }:={ h with out:=hq }
theorem Ord.zQ {n:Nd} (h:Ord n) {q:List Ma} (hq:q.length≤16):Ord { n with boxes:=q }:={ h with boxes:=hq }
theorem Ord.ZP {n:Nd} (h:Ord n) (q:List Pt):Ord { n with parts:=q }:={ h with }
theorem Ord.setTable {n:Nd} (h:Ord n) {t:List Ro} (ht:Tab n.addr t):Ord { n with table:=t }:={ h with table:=ht }
theorem Ord.kK {n:Nd} (h:Ord n) {t:List Li} (ht:jCA t=0):Ord { n with links:=t }:={ h with links:=ht }
theorem Ord.queue {n:Nd} (h:Ord n) (f:Fr):Ord (queue n f).1:=by
 unfold Nd.queue
 simp only
 split
 ·exact (h.ZL jBY).lose
 ·exact h.ZL jBY
theorem Ord.box {n:Nd} (h:Ord n) (f:Fr) (now:Int):Ord (box n f now):=by
 unfold Nd.box
 simp only
 split
 ·exact (h.zQ jBY).lose
 ·exact h.zQ jBY
theorem Ord.deliver {n:Nd} (h:Ord n) (d:De):Ord (deliver n d):=by
 unfold Nd.deliver
 split
 ·exact h.lose
 ·exact { h with inbox:=by show (n.inbox++[d]).length≤256;simp;omega }
theorem Zb (n:Nd) (f:Fr):(queue n f).1.table=n.table∧(queue n f).1.addr=n.addr:=by
 unfold queue;simp only;split<;>exact ⟨rfl,rfl⟩
theorem jFY (n:Nd) (f:Fr) (now:Int):(box n f now).table=n.table∧(box n f now).addr=n.addr:=by
 unfold box;simp only;split<;>exact ⟨rfl,rfl⟩
theorem jAj (n:Nd) (d:De):(deliver n d).table=n.table∧(deliver n d).addr=n.addr:=by
 unfold deliver;split<;>exact ⟨rfl,rfl⟩
theorem jEh {target:Int} {ur:Bool}:∀ {l:List By} {n m:Nd},Ord n→sends target ur l n=some m→Ord m∧m.table=n.table∧m.addr=n.addr
 |[],n,m,h,e=>by unfold sends at e;cases e;exact ⟨h,rfl,rfl⟩
 |p::l,n,m,h,e=>by
  unfold sends at e
  split at e
  ·have hq:=h.queue (KG n target ur p)
   have ht:=Zb n (KG n target ur p)
   obtain ⟨g1,g2,g3⟩:=jEh (l:=l) (show Ord { (queue n (KG n target ur p)).1 with seq:=(n.seq+1)%65536 } from { hq with seq:=by show 0≤(n.seq+1)%65536∧(n.seq+1)%65536≤65535;omega }) e
   exact ⟨g1,g2.trans ht.1,g3.trans ht.2⟩
  ·cases e
structure Good (n m:Nd):Prop where
 ord:Ord m
 addr:m.addr=n.addr
 kept:Kept n.table m.table
theorem Good.refl {n:Nd} (h:Ord n):Good n n:=⟨h,rfl,Kept.refl _⟩
theorem Good.trans {a b c:Nd} (h:Good a b) (h':Good b c):Good a c:=⟨h'.ord,h'.addr.trans h.addr,h.kept.trans h'.kept⟩
theorem Good.of_eq {n m:Nd} (h:Ord m) (h1:m.table=n.table) (h2:m.addr=n.addr):Good n m:=⟨h,h2,by rw[h1];exact Kept.refl _⟩
theorem Good.lose {n m:Nd} (h:Good n m):Good n (lose m):=⟨h.ord.lose,h.addr,h.kept⟩
theorem Good.queue {n m:Nd} (h:Good n m) (f:Fr):Good n (queue m f).1:=h.trans (.of_eq (h.ord.queue f) (Zb m f).1 (Zb m f).2)
theorem Good.box {n m:Nd} (h:Good n m) (f:Fr) (now:Int):Good n (box m f now):=h.trans (.of_eq (h.ord.box f now) (jFY m f now).1 (jFY m f now).2)
theorem Good.deliver {n m:Nd} (h:Good n m) (d:De):Good n (deliver m d):=h.trans (.of_eq (h.ord.deliver d) (jAj m d).1 (jAj m d).2)
theorem Good.out {n m:Nd} (h:Good n m) {q:List Sn} (hq:q.length≤16):Good n { m with out:=q }:=⟨h.ord.ZL hq,h.addr,h.kept⟩
theorem jKb {n:Nd} {target:Int} {ur:Bool} {text:By} (h:(send n target ur text).2=0):Good (order n) (send n target ur text).1:=by
 have ho:=Ja n
 unfold send at h ⊢
 simp only at h ⊢
 split at h
 ·cases h
 ·rename_i h1
  rw[if_neg h1]
  split at h
  ·rename_i h2;exact absurd h h2
  ·rename_i h2
   rw[if_neg h2]
   split at h
   ·rename_i h3
    rw[if_pos h3]
    exact (Good.refl ho).deliver _
   ·rename_i h3
    rw[if_neg h3]
    split at h
    ·rename_i m hm
     obtain ⟨g1,g2,g3⟩:=jEh ho hm
     exact .of_eq g1 g2 g3
    ·cases h
theorem Zj (q:List Sn) (i:Nat) (ok:Bool):(kU q i ok).1.length≤16:=by
 have h16:(q.take 16).length≤16:=by simp;omega
 have he:((q.take 16).eraseIdx i).length≤16:=Nat.le_trans (List.length_eraseIdx_le _ _) h16
 unfold kU
 split
 ·exact h16
 ·split
  ·exact he
  ·split
   ·exact he
   ·show ((q.take 16).set i _).length≤16
    rw[List.length_set];exact h16
theorem jA7 {n:Nd} (now:Int):∀(l:List Fr) {m:Nd},Good n m→Good n (l.foldl (fun n f=>box n f now) m)
 |[],_,h=>h
 |f::l,_,h=>jA7 now l (h.box f now)
theorem Zf {n m:Nd} (h:Good n m):Good n (bumped m):=by
 obtain ⟨g1,g2⟩:=jEk h.ord.table
 exact ⟨h.ord.setTable g1,h.addr,h.kept.trans g2⟩
theorem jCW {n m:Nd} (h:Good n m):Good n (J5 m):=by
 unfold J5;split
 ·exact (Zf h).queue _
 ·exact Zf h
theorem jK7 {n m:Nd} (h:Good n m):Good n (poll m):=by
 unfold poll;split
 ·exact (Zf h).queue _
 ·exact Zf h
theorem jCY {n m:Nd} (h:Good n m) (now:Int):Good n (asleep m now):=by
 unfold asleep
 exact jA7 now _ (h.out (Nat.le_trans (List.length_filter_le _ _) h.ord.out))
theorem jB3 (q:List Sn):(Z6 q).length≤16:=by unfold Z6;simp;omega
theorem jKJ (n:Nd) (now:Int):Good (order n) (Zr n now):=by
 have ho:=Ja n
 have h1:Good (order n) (asleep { order n with out:=Z6 (order n).out,boxes:=jBi (order n).boxes (tick now) 120,parts:=jCk (order n).parts (tick now) 120 } (tick now)):=
  jCY (n:=order n) ⟨((ho.ZL (jB3 (order n).out)).zQ (jBh (order n).boxes (tick now) 120)).ZP (jCk (order n).parts (tick now) 120),rfl,Kept.refl (order n).table⟩ (tick now)
 unfold Zr
 simp only
 generalize asleep { order n with out:=Z6 (order n).out,boxes:=jBi (order n).boxes (tick now) 120,parts:=jCk (order n).parts (tick now) 120 } (tick now)=a at h1 ⊢
 have h2:Good (order n) (if a.poll=0∧tick now%8=a.addr%8 then J5 a else a):=by
  split
  ·exact jCW h1
  ·exact h1
 generalize (if a.poll=0∧tick now%8=a.addr%8 then J5 a else a)=b at h2 ⊢
 split
 ·exact jK7 h2
 ·exact h2
theorem Zy {n:Nd} {now:Int}:∀(k:Nat) {m:Nd} {i:Nat},Good n m→Good n (Jo now k m i).1
 |0,m,i,h=>h
 |k+1,m,i,h=>by
  unfold Jo
  split
  ·exact h
  ·split
   ·exact Zy k h
   ·split
    ·exact h
    ·split
     ·exact Zy k ((h.out (Nat.le_trans (List.length_eraseIdx_le _ _) h.ord.out)).box _ _)
     ·split
      ·exact h
      ·split
       ·exact Zy k (h.out (Zj _ _ _)).lose
       ·exact Zy k (h.out (Zj _ _ _))
theorem jKL (n:Nd) (now:Int):Good (order n) (talk n now).1:=Zy _ (Good.refl (Ja n))
theorem jKM (n:Nd):Good (order n) (take n).1:=⟨{ Ja n with inbox:=Nat.zero_le _ },rfl,Kept.refl _⟩
theorem jCD {n m:Nd} (h:Good n m) (to:Int):Good n (giveUp m to):=by
 unfold giveUp;split
 ·exact h.lose
 ·obtain ⟨g1,g2⟩:=jDj (next:=to) h.ord.table
  have hl:=h.ord.lose
  refine ⟨{ hl with table:=g1,links:=jJY _ _,kids:=h.ord.kids.filter _,kid:=fun x hx=>h.ord.kid x (List.mem_filter.1 hx).1,parent:=?_ },h.addr,h.kept.trans g2⟩
  show (if m.parent=to then (255:Int)else m.parent)=255∨(okN (if m.parent=to then (255:Int)else m.parent)=true∧(if m.parent=to then (255:Int)else m.parent)≠m.addr)
  split
  ·exact .inl I
  ·exact h.ord.parent
theorem jF1 (n:Nd) (f:Fr) (ok:Bool):Good (order n) (result n f ok):=by
 have ho:=Good.refl (Ja n)
 unfold result
 simp only
 split
 ·exact ho
 ·rename_i i hi
  have k1:∀a,Good (order n) a→Good (order n) (if okN f.dst=true then { a with links:=ZE a.links f.dst ok } else a):=by
   intro a h1
   split
   ·exact ⟨h1.ord.kK (Km _ _ _),h1.addr,h1.kept⟩
   ·exact h1
  have h2:=k1 { order n with out:=(kU (order n).out i ok).1 } (ho.out (Zj _ _ _))
  split
  ·exact jCD h2 _
  ·exact h2
theorem jCb {n m:Nd} {f:Fr} (h:Good n m) (hf:okN f.fr=true) (hne:f.fr≠m.addr):Good n (JD m f):=by
 unfold JD
 simp only
 have k1:∀a:Nd,Good n a→a.addr=m.addr→Good n (if a.poll>0∧a.parent=255∧(kL (jAA f.da).1 0).2=true then { a with parent:=f.fr } else a):=by
  intro a h2 e2
  split
  ·exact ⟨{ h2.ord with parent:= .inr ⟨hf,fun e=>hne (e.trans e2)⟩ },h2.addr,h2.kept⟩
  ·exact h2
 have k2:∀a:Nd,Good n a→a.addr=m.addr→Good n { a with table:=jEM a.table a.addr f.fr (jB9 a.links f.fr) (jAA f.da).1 }:=by
  intro a h1 e1
  obtain ⟨g1,g2⟩:=jAP (fr:=f.fr) (cost:=jB9 a.links f.fr) (adv:=(jAA f.da).1) h1.ord.table
  exact ⟨h1.ord.setTable g1,h1.addr,h1.kept.trans g2⟩
 have h1:Good n { m with links:=ZE m.links f.fr true }:=⟨h.ord.kK (Km _ _ _),h.addr,h.kept⟩
 split
 ·exact h1
 ·exact k1 _ (k2 _ h1 I) I
theorem jDN {n:Nd} {fr now:Int}:∀(k:Nat) {m:Nd},Good n m→Good n (drain fr now k m)
 |0,_,h=>h
 |k+1,m,h=>by
  unfold drain
  simp only
  have hb:=(jCS m.boxes fr now 120).1
  split
  ·exact jDN k (Good.queue (m:={ m with boxes:=(zu m.boxes fr now 120).2.1 }) ⟨h.ord.zQ hb,h.addr,h.kept⟩ _)
  ·exact ⟨h.ord.zQ hb,h.addr,h.kept⟩
theorem jGC {n m:Nd} {f:Fr} {now:Int} (h:Good n m) (hf:okN f.fr=true) (hne:f.fr≠m.addr):Good n (polled m f now):=by
 unfold polled
 refine jDN _ ?_
 obtain ⟨g1,g2⟩:=jAP (fr:=f.fr) (cost:=10) (adv:=[⟨f.fr,f.sq,0,0⟩]) h.ord.table
 obtain ⟨c1,c2⟩:=kE h.ord.kids f.fr
 refine ⟨{ h.ord with table:=g1,kids:=c1,kid:=fun x hx=>?_ },h.addr,h.kept.trans g2⟩
 rcases (c2 x).1 hx with rfl|hx
 ·exact ⟨hf,hne⟩
 ·exact h.ord.kid x hx
theorem jA0 (l:List Pr) (p:Pr):(Z7 l p).1.length≤32:=by
 unfold Z7;split<;>exact jD5 _ _
theorem jDi {n m:Nd} {f:Fr} {now:Int} (h:Good n m):Good n (received m f now):=by
 unfold received
 simp only
 have h1:Good n { m with seen:=(Z7 m.seen ⟨f.so,f.sq⟩).1 }:=⟨{ h.ord with seen:=jA0 _ _ },h.addr,h.kept⟩
 have hp:∀q,Good n { m with seen:=(Z7 m.seen ⟨f.so,f.sq⟩).1,parts:=q }:=fun q=>⟨h1.ord.ZP q,h1.addr,h1.kept⟩
 split
 ·exact h1
 ·split
  ·split
   ·exact h1
   ·split
    ·exact (hp _).deliver _
    ·exact hp _
  ·split
   ·exact h1.lose
   ·exact h1.queue _
theorem jED {f:Fr} (h:jCe f=0):okN f.fr=true∧okN f.so=true∧0≤f.sq∧f.sq≤65535∧0≤f.hp∧f.hp≤15∧f.da.length≤109:=by
 unfold jCe at h
 split at h
 ·cases h
 ·split at h
  ·cases h
  ·rename_i h2
   split at h
   ·cases h
   ·rename_i h3
    have h2:jBL f=false:=by cases e:jBL f;rfl;exact absurd e h2
    unfold jBL at h2
    simp only[Bool.or_eq_false_iff,Bool.not_eq_false',decide_eq_false_iff_not]at h2
    obtain ⟨⟨⟨⟨⟨⟨⟨a,b⟩,c⟩,d⟩,e⟩,g⟩,i⟩,j⟩:=h2
    exact ⟨a,b,by omega,by omega,by omega,by omega,by omega⟩
theorem jFC (n:Nd) (now:Int) (f:Fr):Good (order n) (hear n now f):=by
 have ho:=Good.refl (Ja n)
 unfold hear
 simp only
 split
 ·exact ho
 ·rename_i h1
  have hc:jCe f=0:=by
   rcases Int.lt_trichotomy (jCe f) 0 with h|h|h
   ·exact absurd (Or.inl (by omega)) h1
   ·exact h
   ·exact absurd (Or.inl (by omega)) h1
  have hf:=(jED hc).1
  have hne:f.fr≠(order n).addr:=fun e=>h1 (.inr (.inl e))
  split
  ·exact jCb ho hf hne
  ·split
   ·exact jGC ho hf hne
   ·split
    ·exact jDi ho
    ·exact ho
end Nd
namespace Nd
open Go.GX Tp
theorem u8v {n:Int} (h:0≤n) (h2:n≤255):((u8 n).toNat:Int)=n:=by
 unfold u8;rw[UInt8.toNat_ofNat'];omega
def data (s:By) (i:Nat):By:=(s.drop (64*i)).take 64
theorem jNy (s:By) (i:Nat):(data s i).length=min 64 (s.length-64*i):=by unfold data;simp
end Nd
namespace Go.Proofs.YtgfdoognildoeaaGreat
open Go.GX Go.RowKit
attribute [local irreducible] Calls Run jZ jf JK HR HL HD jT jG JY Rd jK jY
open Nd
theorem jRg:IsFn Tryz.prog 294:=⟨⟨_,_,Tryz.func294,rfl,by decide⟩⟩
theorem fn275:IsFn Tryz.prog 275:=⟨⟨_,_,Tryz.func275,rfl,by decide⟩⟩
theorem fn117:IsFn Tryz.prog 117:=⟨⟨_,_,Tryz.func117,rfl,by decide⟩⟩
theorem jFK (i c n:Int) (w:World) (hc:-1000000≤c∧c≤1000000):Calls Tryz.prog 294 #[.int .i64 i,.int .i64 c,.int .i64 n] w fun e w'=>e= .returned (.bool (fits i c n))∧Below w.heap.size w w':=by
 unfold Nd.fits
 refine jD Tryz.func294 I (Nat.le_of_ble_eq_true I) ?_
 refine HR.sub (σ':=[(0,.int .i64 i),(1,.int .i64 c),(2,.int .i64 n)]) ⟨I,I,I,trivial⟩ ?_
 repeat' (first|refine zh ?_|intro (bk:Nat))
 refine HR.cond I (fun h=>?_) (fun h=>?_)
 ·have h:i≠c-1:=by have h:(i != c-1)=true:=h;simpa using h
  rw[if_pos h]
  repeat' (first|refine zh ?_|intro (bk:Nat))
  refine HR.ret Tryz.func294 I [_] (fun _ _=>⟨I,trivial⟩) ?_
  exact fun w' hw=>⟨rfl,hw.jE⟩
 have h:¬i≠c-1:=by have h:(i != c-1)=false:=h;simpa using h
 rw[if_neg h]
 repeat' (first|refine zh ?_|intro (bk:Nat))
 refine HR.cond I (fun h=>?_) (fun h=>?_)
 ·have h:c=1:=eq_of_beq h
  rw[if_pos h]
  repeat' (first|refine zh ?_|intro (bk:Nat))
  refine HR.ret Tryz.func294 I [_] (fun _ _=>⟨I,trivial⟩) ?_
  exact fun w' hw=>⟨rfl,hw.jE⟩
 have h:¬c=1:=by have h:(c==1)=false:=h;simpa using h
 rw[if_neg h]
 repeat' (first|refine zh ?_|intro (bk:Nat))
 refine HR.cond I (fun h=>?_) (fun h=>?_)
 ·have h:c=16:=eq_of_beq h
  rw[if_pos h]
  repeat' (first|refine zh ?_|apply zb ?_ ?_|exact zc|(refine zi fun hb=>?_;try simp at hb)|intro (bk:Nat))
  refine HR.ret Tryz.func294 I [_] (fun _ _=>⟨I,trivial⟩) ?_
  exact fun w' hw=>⟨rfl,hw.jE⟩
 have h:¬c=16:=by have h:(c==16)=false:=h;simpa using h
 rw[if_neg h]
 repeat' (first|refine zh ?_|apply zb ?_ ?_|exact zc|(refine zi fun hb=>?_;try simp at hb)|intro (bk:Nat))
 refine HR.ret Tryz.func294 I [_] (fun _ _=>⟨I,trivial⟩) ?_
 exact fun w' hw=>⟨rfl,hw.jE⟩
theorem jPw {s:By} {x1 x2:Int} (h:¬s.length<3) (h1:x1=b8 s 1) (h2:x2=b8 s 2):jFf s=if (((decide (x2<1)||decide (x2>16))||decide (x1≥x2))||!fits x1 x2 ((s.length:Int)-3))=true then 4 else 0:=by
 subst h1;subst h2
 unfold jFf
 rw[if_neg h]
 congr 1
 simp[Bool.or_assoc,or_assoc]
theorem jGf (s:By) (w:World) (hs:s.length≤9223372036854775807):Calls Tryz.prog 275 #[str s] w fun e w'=>e= .returned (.int .i64 (jFf s))∧Below w.heap.size w w':=by
 refine jD Tryz.func275 I (Nat.le_of_ble_eq_true I) ?_
 refine HR.sub (σ':=[(0,str s)]) ⟨I,trivial⟩ ?_
 repeat' (first|refine zh ?_|intro (bk:Nat))
 refine HR.cond I (fun h=>?_) (fun h=>?_)
 ·have h:s.length<3:=by have:=of_decide_eq_true h;omega
  rw[show jFf s=5 from if_pos h]
  repeat' (first|refine zh ?_|intro (bk:Nat))
  refine HR.ret Tryz.func275 I [_] (fun _ _=>⟨I,trivial⟩) ?_
  exact fun w' hw=>⟨rfl,hw.jE⟩
 have h:¬s.length<3:=by have:=of_decide_eq_false h;omega
 have b1:=(s.getD 1 0).toNat_lt
 have b2:=(s.getD 2 0).toNat_lt
 obtain ⟨x1,h1⟩:∃x1:Int,x1=b8 s 1:=⟨_,rfl⟩
 obtain ⟨x2,h2⟩:∃x2:Int,x2=b8 s 2:=⟨_,rfl⟩
 rw[jPw h h1 h2]
 repeat' (first|refine zh ?_|intro (bk:Nat))
 refine HR.JF Jc (by kernel_rfl) ?_
 repeat' (first|refine zq ?_|fail)
 refine HR.ZU 3 (v':= .int .i64 x1) I (by rw[h1];rfl) ?_
 refine HR.ZU 4 (v':= .int .i64 x2) I (by rw[h2];rfl) ?_
 have b1:0≤x1∧x1≤255:=by rw[h1];unfold b8;omega
 have b2:0≤x2∧x2≤255:=by rw[h2];unfold b8;omega
 repeat' (first|refine zh ?_|refine HL.jR jRg I I (fun w _=>jFK _ _ _ w (by omega)) ?_|apply zb ?_ ?_|exact zc|(refine zi fun hb=>?_;try simp at hb)|intro (bk:Nat))
 refine HR.cond I (fun h2=>?_) (fun h2=>?_)
 ·rw [if_pos h2]
  repeat' (first|refine zh ?_|intro (bk:Nat))
  refine HR.ret Tryz.func275 I [_] (fun _ _=>⟨I,trivial⟩) ?_
  exact fun w' hw=>⟨rfl,hw.jE⟩
 ·have h2:(((decide (x2<1)||decide (x2>16))||decide (x1≥x2))||!fits x1 x2 ((s.length:Int)-3))=false:=h2
  rw[if_neg (by rw[h2];decide)]
  repeat' (first|refine zh ?_|intro (bk:Nat))
  refine HR.ret Tryz.func275 I [_] (fun _ _=>⟨I,trivial⟩) ?_
  exact fun w' hw=>⟨rfl,hw.jE⟩
theorem jF9 {s:By} {id:Int} (h:s.length>1000):zF s id=([],3):=if_pos h
theorem jJE {s:By} {id:Int} (h:¬s.length>1000) (h2:id<0∨id>255):zF s id=([],2):=by unfold zF;rw[if_neg h,if_pos h2]
theorem jK4 {s:By} {id:Int} (h:¬s.length>1000) (h2:¬(id<0∨id>255)):zF s id=((List.range (jAX s.length)).map (piece s id),0):=by unfold zF;rw[if_neg h,if_neg h2]
theorem jGF (s:By) (id:Int) (k:Nat):(List.range (k+1)).map (piece s id)=(List.range k).map (piece s id)++[piece s id k]:=by rw[List.range_succ,List.map_append];rfl
theorem jJF {id:Int} {k c:Nat} (h1:0≤id∧id≤255) (h2:k≤255) (h3:c≤255):ZH [u8 id,u8 k,u8 c]=[.int .u8 id,.int .u8 (k:Int),.int .u8 (c:Int)]:=by
 unfold ZH
 simp only[List.map_cons,List.map_nil]
 rw[jCw h1,jCw (n:=k) (by omega),jCw (n:=c) (by omega)]
theorem jNz (s:By) (k:Nat):(s.drop (k*64)).take (min s.length (64*(k+1))-k*64)=data s k:=by
 unfold data
 have:∀m:Nat,(s.drop (k*64)).take (min s.length m-k*64)=(s.drop (k*64)).take (m-k*64):=by
  intro m
  rcases Nat.le_total s.length m with h|h
  ·rw [Nat.min_eq_left h,List.take_of_length_le (by simp),List.take_of_length_le (by simp;omega)]
  ·rw [Nat.min_eq_right h]
 rw[this,Nat.mul_comm k 64]
 congr 1
 omega
theorem jJj (s:By) (id:Int) (w:World) (hs:s.length≤9223372036854775807):
  Calls Tryz.prog 117 #[str s,.int .i64 id] w fun e w'=>∃v',e= .returned (.tuple ⟨[v',.int .i64 (zF s id).2]⟩)∧True∧Sat (base w) [jG v' 9 1 (zF s id).1.length (cellsOf sC (zF s id).1)] w':=by
 refine jD Tryz.func117 I (Nat.le_of_ble_eq_true I) ?_
 refine HR.sub (σ':=[(0,str s),(1,.int .i64 id)]) ⟨I,I,trivial⟩ ?_
 repeat' (first|refine zh ?_|intro (bk:Nat))
 refine HR.cond I (fun h=>?_) (fun h=>?_)
 ·have h:s.length>1000:=by have:=of_decide_eq_true h;omega
  rw[jF9 h]
  repeat' (first|refine zh ?_|intro (bk:Nat))
  refine HR.ZC 9 1 ?_
  refine HR.ret Tryz.func117 I [_,_] (fun _ _=>⟨I,I,trivial⟩) ?_
  exact fun w' hw=>⟨_,rfl,trivial,hw⟩
 have h:¬s.length>1000:=by have:=of_decide_eq_false h;omega
 repeat' (first|refine zh ?_|apply zb ?_ ?_|exact zc|(refine zi fun hb=>?_;try simp at hb)|intro (bk:Nat))
 refine HR.cond I (fun h2=>?_) (fun h2=>?_)
 ·have h2:(decide (id<0)||decide (id>255))=true:=h2
  rw[jJE h (by simpa using h2)]
  repeat' (first|refine zh ?_|intro (bk:Nat))
  refine HR.ZC 9 1 ?_
  refine HR.ret Tryz.func117 I [_,_] (fun _ _=>⟨I,I,trivial⟩) ?_
  exact fun w' hw=>⟨_,rfl,trivial,hw⟩
 have h2:(decide (id<0)||decide (id>255))=false:=h2
 have h2:¬(id<0∨id>255):=by simpa using h2
 rw[jK4 h h2]
 have hpd:jAX s.length=max 1 ((s.length+63) / 64):=rfl
 obtain ⟨c,hc⟩:∃c,c=jAX s.length:=⟨_,rfl⟩
 rw[← hc]at hpd ⊢
 repeat' (first|refine zh ?_|intro (bk:Nat))
 refine HR.ZU 6 (v':= .int .i64 (c:Int)) I (by congr 1;split<;>omega) ?_
 refine HR.ZU 25 (v':= .int .i64 (c:Int)) I (by congr 1;split<;>omega) ?_
 refine HR.ZC 9 1 ?_
 refine HR.jA2 (α:=Nat) (β:=Value) (fun k _=>k≤c) (fun k o=>[(0,str s),(1,.int .i64 id),(6,.int .i64 (c:Int)),(7,o),(25,.int .i64 (c:Int)),(26,.int .i64 (k:Int))]) (fun k o=>[jG o 9 1 ((List.range k).map (piece s id)).length (cellsOf sC ((List.range k).map (piece s id)))]) (fun k _=>c-k) 0 (.slice none 0 0) (Nat.zero_le _) ⟨I,I,I,I,I,I,trivial⟩ (Ent.pick [0] I I) ?_
 rintro k o hk ih
 repeat' (first|refine zh ?_|intro (bk:Nat))
 refine HR.cond I (fun h3=>?_) (fun h3=>?_)
 ·have hlt:k<c:=by have:=of_decide_eq_true h3;omega
  have hps:=jGF s id k
  obtain ⟨L,hL⟩:∃L,L=(List.range k).map (piece s id):=⟨_,rfl⟩
  have hLl:L.length≤16:=by rw[hL];simp;omega
  rw[← hL]at hps ⊢
  repeat' (first|refine zh ?_|intro (bk:Nat))
  refine HL.ZU 37 (v':= .int .i64 ((min s.length (64*(k+1)):Nat):Int)) I (by congr 1;split<;>omega) ?_
  repeat' (first|refine zh ?_|intro (bk:Nat))
  refine HL.ZU 9 (v':=str (data s k)) I (by rw[← jNz];try rfl) ?_
  refine HL.jv jML I I I I I (by decide) (by decide) ?_
  intro va
  refine HL.ent (H':=[jG va 5 1 [u8 id,u8 k,u8 c].length (ZH [u8 id,u8 k,u8 c]),jG o 9 1 L.length (cellsOf sC L)]) (Ent.JV I (by rw[jJF (by omega) (by omega) (by omega)];try rfl)) ?_
  refine HL.bstr (Rd.own 0 I) I I I I I ?_
  have hpk:[u8 id,u8 k,u8 c]++data s k=piece s id k:=by unfold piece data;rw[hc]
  have hdl:(data s k).length≤64:=by rw[jNy];omega
  repeat' (first|refine zn ?_|intro (bk:Nat))
  refine HL.jCg (v':=str (piece s id k)) (by rw[← hpk];try rfl) ?_
  refine HL.jv Kz I I I I I (by decide) (by decide) ?_
  intro vb
  refine HL.ZN 2 I Kz (Rd.own 0 I) I I I I (jF I) (by omega) (by omega) ?_
  intro o2
  repeat' (first|refine zh ?_|intro (bk:Nat))
  refine ih (k+1) o2 _ _ hlt (by omega) ⟨I,I,I,I,I,I,trivial⟩ (Ent.trans (Ent.pick [2] I I) (Ent.JV ?_ ?_))
  ·rw [hps];simp
  ·rw [hps,jP];rfl
 ·have hke:k=c:=by have:=of_decide_eq_false h3;omega
  subst hke
  repeat' (first|refine zh ?_|intro (bk:Nat))
  refine HR.ret Tryz.func117 I [_,_] (fun _ _=>⟨I,I,trivial⟩) ?_
  exact fun w' hw=>⟨o,rfl,trivial,hw⟩
end Go.Proofs.YtgfdoognildoeaaGreat
namespace Go.Proofs.YtgfdoognildoeaaGreat
open Go.GX Go.RowKit
attribute [local irreducible] Calls Run jZ jf JK HR HL HD jT jG JY Rd jK jY
open Nd
theorem fn260:IsFn Tryz.prog 260:=⟨⟨_,_,Tryz.func260,rfl,by decide⟩⟩
theorem fn262:IsFn Tryz.prog 262:=⟨⟨_,_,Tryz.func262,rfl,by decide⟩⟩
theorem jRh:IsFn Tryz.prog 261:=⟨⟨_,_,Tryz.func261,rfl,by decide⟩⟩
theorem jRp:IsFn Tryz.prog 207:=⟨⟨_,_,Tryz.func207,rfl,by decide⟩⟩
theorem jQK:IsFn Tryz.prog 276:=⟨⟨_,_,Tryz.func276,rfl,by decide⟩⟩
theorem fn152:IsFn Tryz.prog 152:=⟨⟨_,_,Tryz.func152,rfl,by decide⟩⟩
theorem fn223:IsFn Tryz.prog 223:=⟨⟨_,_,Tryz.func223,rfl,by decide⟩⟩
structure RdPt (w:World) (p:PtV):Prop where
 h:Sl w p.vh (cellsOf bC p.pt.hv) p.pt.hv.length
 d:Sl w p.vd (cellsOf sC p.pt.da) p.pt.da.length
theorem RdPt.ext {w w':World} {p:PtV} (h:RdPt w p) (hb:Below w.heap.size w w'):RdPt w' p:=⟨h.h.ext hb,h.d.ext hb⟩
def jER (p:Pt):Prop:=p.hv.length≤140737488355328∧p.da.length≤8796093022208∧∀s∈p.da,s.length≤9223372036854775807
theorem jKy {p:Pt} {k:Nat} (hk:k<p.hv.length) (h:jKA p k=false):zD p=false:=by
 unfold zD
 have:(List.range p.hv.length).all (jKA p)=false:=by
  rw[← Bool.not_eq_true,List.all_eq_true]
  intro h2
  rw[h2 k (List.mem_range.2 hk)]at h;cases h
 rw[this];simp
theorem jKz {p:Pt} (h:jGH p=true):zD p=false:=by unfold zD;rw[h];rfl
theorem jCq {f:Nat→Bool} {k:Nat} (h:(List.range k).all f=true) (h2:f k=true):(List.range (k+1)).all f=true:=by
 rw[List.range_succ,List.all_append,h];simp[h2]
theorem jJi (p:PtV) (w:World) (hr:RdPt w p) (hs:jER p.pt):Calls Tryz.prog 260 #[.agg ⟨ptC p⟩] w fun e w'=>e= .returned (.bool (zD p.pt))∧Below w.heap.size w w':=by
 obtain ⟨vh,vd,q⟩:=p
 obtain ⟨hh,hd⟩:=hr
 obtain ⟨s1,s2,s3⟩:=hs
 have hh:Sl w vh (cellsOf bC q.hv) q.hv.length:=hh
 have hd:Sl w vd (cellsOf sC q.da) q.da.length:=hd
 refine jD Tryz.func260 I (Nat.le_of_ble_eq_true I) ?_
 refine HR.sub (σ':=[(0,.agg ⟨ptC ⟨vh,vd,q⟩⟩)]) ⟨I,trivial⟩ ?_
 repeat' (first|refine zh ?_|refine HL.JN (Rd.arg hh) I I I ?_|refine HL.JN (Rd.arg hd) I I I ?_|apply zb ?_ ?_|exact zc|(refine zi fun hb=>?_;try simp at hb)|intro (bk:Nat))
 refine HR.cond I (fun h=>?_) (fun h=>?_)
 ·have h:jGH q=true:=h
  rw[jKz h]
  repeat' (first|refine zh ?_|intro (bk:Nat))
  refine HR.ret Tryz.func260 I [_] (fun _ _=>⟨I,trivial⟩) ?_
  exact fun w' hw=>⟨rfl,hw.jE⟩
 have h:jGH q=false:=h
 have H:=kR h
 have e1:=H.hv
 have e2:=H.da
 have c0:=H.ct0
 have c1:=H.ct1
 repeat' (first|refine zh ?_|refine HL.JN (Rd.arg hh) I I I ?_|intro (bk:Nat))
 refine HR.loop (ι:=Nat) (fun k=>k≤q.hv.length∧(List.range k).all (jKA q)=true) (fun k=>[(1,.pointer (some ⟨bk,0,none⟩)),(3,.int .i64 ((jLA (q.hv.take k):Nat):Int)),(51,vh),(52,.int .i64 (q.hv.length:Int)),(53,.int .i64 (k:Int))]) (fun _=>[jT bk (ptC ⟨vh,vd,q⟩) 173]) (fun k=>q.hv.length-k) 0 ⟨Nat.zero_le _,rfl⟩ ⟨I,I,I,I,I,trivial⟩ Ent.refl ?_
 rintro k ⟨hk,hall⟩ ih
 have hpl:=jPu (q.hv.take k)
 have htl:(q.hv.take k).length≤k:=by simp;omega
 repeat' (first|refine zh ?_|intro (bk:Nat))
 refine HR.cond I (fun h2=>?_) (fun h2=>?_)
 ·have hlt:k<q.hv.length:=by have:=of_decide_eq_true h2;omega
  obtain ⟨b,hb⟩:=jJ hlt
  obtain ⟨d,hdk⟩:=jJ (show k<q.da.length by omega)
  have hpo:jKA q k=if b then fits k q.ct (d.length:Int)else decide (d=[]):=by
   unfold jKA
   rw[List.getD_eq_getElem?_getD,List.getD_eq_getElem?_getD,hb,hdk];rfl
  have hps:=jK9 hb
  have hdl:=s3 d (List.mem_of_getElem? hdk)
  repeat' (first|refine zh ?_|refine HL.JA (Rd.arg hh) jA5 k I I I I hlt ?_|refine HL.ji (Rd.arg hh) I I I I (jW hb) ?_|intro (bk:Nat))
  refine HR.join (ι:=Unit) (fun _=>True) (fun _=>[(1,.pointer (some ⟨bk,0,none⟩)),(3,.int .i64 ((jLA (q.hv.take k):Nat):Int)),(5,.bool b),(51,vh),(52,.int .i64 (q.hv.length:Int)),(53,.int .i64 (k:Int)),(83,.bool (!jKA q k))]) (fun _=>[jT bk (ptC ⟨vh,vd,q⟩) 173]) (fun _ _=>?_) (fun hj=>?_)
  ·refine HR.cond I (fun h3=>?_) (fun h3=>?_)
   ·have h3:jKA q k=false:=by have h3:(!jKA q k)=true:=h3;simpa using h3
    rw[jKy hlt h3]
    repeat' (first|refine zh ?_|intro (bk:Nat))
    refine HR.ret Tryz.func260 I [_] (fun _ _=>⟨I,trivial⟩) ?_
    exact fun w' hw=>⟨rfl,hw.jE⟩
   ·have h3:jKA q k=true:=by have h3:(!jKA q k)=false:=h3;simpa using h3
    have hall':=jCq hall h3
    repeat' (first|refine zh ?_|intro (bk:Nat))
    refine HR.cond I (fun h4=>?_) (fun h4=>?_)
    ·have h4:b=true:=h4
     rw[h4,if_pos rfl]at hps
     repeat' (first|refine zh ?_|intro (bk:Nat))
     exact ih (k+1) _ _ ⟨hlt,hall'⟩ (by omega) ⟨rfl,by rw[hps];rfl,rfl,rfl,rfl,trivial⟩ Ent.refl
    ·have h4:b=false:=h4
     rw[h4,if_neg (by decide)]at hps
     repeat' (first|refine zh ?_|intro (bk:Nat))
     exact ih (k+1) _ _ ⟨hlt,hall'⟩ (by omega) ⟨rfl,by rw[hps];rfl,rfl,rfl,rfl,trivial⟩ Ent.refl
  ·refine HR.j4 [(0,true),(1,true),(2,true),(3,true),(4,true),(5,true),(6,true),(7,true),(8,true),(9,true),(10,true),(11,true),(12,true),(13,true),(14,true),(15,true),(16,true),(17,true),(18,true),(19,true),(20,true),(21,true),(22,false),(23,true),(24,true),(25,true)] [0] I I Jc (by kernel_rfl) ?_
   cases b with
   |true=>
    rw[if_pos rfl]at hpo
    rw[hpo]at hj
    repeat' (first|refine zd ?_|refine HD.jR [0] I I jRg I I I (fun w _=>jFK k q.ct d.length w (by omega)) ?_|refine HD.JA (Rd.arg hd) Kz k I I I I I (by omega) ?_|refine HD.ji (Rd.arg hd) I I I I I (jW hdk) ?_)
    refine HD.nil ?_
    exact hj () _ _ trivial ⟨I,I,I,I,I,I,I,trivial⟩ Ent.refl
   |false=>
    rw[if_neg (by decide)]at hpo
    rw[hpo]at hj
    by_cases hd0:d=[]
    ·subst hd0
     repeat' (first|refine zd ?_|refine HD.JA (Rd.arg hd) Kz k I I I I I (by omega) ?_|refine HD.ji (Rd.arg hd) I I I I I (jW hdk) ?_)
     refine HD.nil ?_
     exact hj () _ _ trivial ⟨I,I,I,I,I,I,I,trivial⟩ Ent.refl
    ·rw [decide_eq_false hd0]at hj
     repeat' (first|refine zd ?_|refine HD.JA (Rd.arg hd) Kz k I I I I I (by omega) ?_|refine HD.ji (Rd.arg hd) I I I I I (jW hdk) ?_)
     refine HD.jDc 68 true I (by show (d != ([]:By))=true;simpa using hd0) ?_
     repeat' (first|refine zd ?_|fail)
     refine HD.nil ?_
     exact hj () _ _ trivial ⟨I,I,I,I,I,I,I,trivial⟩ Ent.refl
 ·have hke:k=q.hv.length:=by have:=of_decide_eq_false h2;omega
  subst hke
  rw[List.take_length]
  have hpv:zD q=(decide (((jLA q.hv:Nat):Int)>0)&&decide (((jLA q.hv:Nat):Int)<q.ct)):=by
   unfold zD
   rw[h,hall]
   simp
  rw[hpv]
  repeat' (first|refine zh ?_|apply zb ?_ ?_|exact zc|(refine zi fun hb=>?_;try simp at hb)|intro (bk:Nat))
  refine HR.ret Tryz.func260 I [_] (fun _ _=>⟨I,trivial⟩) ?_
  exact fun w' hw=>⟨rfl,hw.jE⟩
end Go.Proofs.YtgfdoognildoeaaGreat
namespace Go.Proofs.YtgfdoognildoeaaGreat
open Go.GX Go.RowKit
attribute [local irreducible] Calls Run jZ jf JK HR HL HD jT jG JY Rd jK jY
open Nd
def pfi (l:List Pt) (s i:Int):Int:=fidx (pis s i) l
def pts (L:List PtV):List Pt:=L.map (·.pt)
theorem KL {L:List PtV} {k:Nat} {x:PtV} (h:L[k]? =some x):(pts L)[k]? =some x.pt:=by unfold pts;rw[List.getElem?_map,h];rfl
theorem JH (L:List PtV):(pts L).length=L.length:=by unfold pts;simp
def jA9 (p:PtV):Prop:=(∃ a n c,p.vh= .slice a n c)∧∃a n c,p.vd= .slice a n c
theorem RdPt.sh {w:World} {p:PtV} (h:RdPt w p):jA9 p:=by
 obtain ⟨a,c,e,_⟩:=h.h.2
 obtain ⟨a',c',e',_⟩:=h.d.2
 exact ⟨⟨a,_,c,e⟩,⟨a',_,c',e'⟩⟩
theorem jFL (L:List PtV) (s id:Int) (v:Value) (w:World) (hv:Sl w v (cellsOf ptC L) L.length) (hl:L.length≤1000000) (hsh:∀p∈L,jA9 p):
  Calls Tryz.prog 261 #[v,.int .i64 s,.int .i64 id] w fun e w'=>e= .returned (.int .i64 (pfi (pts L) s id))∧Below w.heap.size w w':=by
 refine jD Tryz.func261 I (Nat.le_of_ble_eq_true I) ?_
 refine HR.sub (σ':=[(0,v),(1,.int .i64 s),(2,.int .i64 id)]) ⟨I,I,I,trivial⟩ ?_
 repeat' (first|refine zh ?_|refine HL.JN (Rd.arg hv) I I I ?_|intro (bk:Nat))
 refine HR.loop (ι:=Nat) (fun k=>k≤L.length∧∀j b,j<k→(pts L)[j]? =some b→pis s id b=false) (fun k=>[(1,.int .i64 s),(2,.int .i64 id),(9,v),(10,.int .i64 (L.length:Int)),(11,.int .i64 (k:Int))]) (fun _=>[]) (fun k=>L.length-k) 0 ⟨Nat.zero_le _,fun j b hj=>absurd hj (Nat.not_lt_zero _)⟩ ⟨I,I,I,I,I,trivial⟩ Ent.refl ?_
 rintro k ⟨hk,hno⟩ ih
 repeat' (first|refine zh ?_|intro (bk:Nat))
 refine HR.cond I (fun h2=>?_) (fun h2=>?_)
 ·have hlt:k<L.length:=by have:=of_decide_eq_true h2;omega
  obtain ⟨x,hx⟩:=jJ hlt
  have hs:=hsh x (List.mem_of_getElem? hx)
  obtain ⟨xh,xd,q⟩:=x
  obtain ⟨⟨ah,nh,ch,e1⟩,⟨ad,nd,cd,e2⟩⟩:=hs
  have e1:xh=_:=e1
  have e2:xd=_:=e2
  subst e1
  subst e2
  repeat' (first|refine zh ?_|refine HL.JA (Rd.arg hv) JM k I I I I hlt ?_|refine HL.JW (Rd.arg hv) I I I I (by simp) I (jH JR hx) ?_|apply zb ?_ ?_|exact zc|(refine zi fun hb=>?_;try simp at hb)|intro (bk:Nat))
  refine HR.cond I (fun h3=>?_) (fun h3=>?_)
  ·have h3:pis s id q=true:=h3
   repeat' (first|refine zh ?_|intro (bk:Nat))
   refine HR.ret Tryz.func261 I [_] (fun _ _=>⟨I,trivial⟩) ?_
   have e:pfi (pts L) s id=k:=kY (KL hx) h3 hno
   rw[e]
   exact fun w' hw=>⟨rfl,hw.jE⟩
  ·have h3:pis s id q=false:=h3
   repeat' (first|refine zh ?_|intro (bk:Nat))
   refine ih (k+1) _ _ ⟨hlt,fun j b hj hb=>?_⟩ (by omega) ⟨I,I,I,I,I,trivial⟩ (Ent.pick [] I I)
   by_cases e:j=k
   ·subst e;rw[KL hx]at hb;cases hb;exact h3
   ·exact hno j b (by omega) hb
 ·have hke:k=L.length:=by have:=of_decide_eq_false h2;omega
  subst hke
  have e:pfi (pts L) s id= -1:=zX (fun j b hj hb=>hno j b (by rw[JH]at hj;exact hj) hb)
  rw[e]
  repeat' (first|refine zh ?_|intro (bk:Nat))
  refine HR.ret Tryz.func261 I [_] (fun _ _=>⟨I,trivial⟩) ?_
  exact fun w' hw=>⟨rfl,hw.jE⟩
def ptH (p:PtV):Chunk:=jG p.vh 4 1 p.pt.hv.length (cellsOf bC p.pt.hv)
def ptD (p:PtV):Chunk:=jG p.vd 9 1 p.pt.da.length (cellsOf sC p.pt.da)
theorem ZV {α:Type} {E:α→List Value} (hE:∀a,(E a).length=1) (l:List α):(cellsOf E l).length=l.length:=by rw[jC hE,Nat.mul_one]
theorem jNo (p:PtV) (w:World) (hr:RdPt w p) (h0:0<p.pt.hv.length) (h1:0<p.pt.da.length) (h2:p.pt.hv.length≤1000) (h3:p.pt.da.length≤1000):
  Calls Tryz.prog 262 #[.agg ⟨ptC p⟩] w fun e w'=>∃x:Value×Value,e= .returned (.agg ⟨ptC ⟨x.1,x.2,p.pt⟩⟩)∧True∧Sat (base w) [ptH ⟨x.1,x.2,p.pt⟩,ptD ⟨x.1,x.2,p.pt⟩] w':=by
 obtain ⟨vh,vd,q⟩:=p
 obtain ⟨hh,hd⟩:=hr
 have hh:Sl w vh (cellsOf bC q.hv) q.hv.length:=hh
 have hd:Sl w vd (cellsOf sC q.da) q.da.length:=hd
 have h0:0<q.hv.length:=h0
 have h1:0<q.da.length:=h1
 have h2:q.hv.length≤1000:=h2
 have h3:q.da.length≤1000:=h3
 obtain ⟨ah,ch,evh,_⟩:=hh.2
 obtain ⟨ad,cd,evd,_⟩:=hd.2
 subst evh
 subst evd
 refine jD Tryz.func262 I (Nat.le_of_ble_eq_true I) ?_
 refine HR.sub (σ':=[(0,.agg ⟨ptC ⟨.slice ah q.hv.length ch,.slice ad q.da.length cd,q⟩⟩)]) ⟨I,trivial⟩ ?_
 refine HR.ctl I ?_
 refine HR.region ?_
 refine HL.box I I ?_
 intro b1
 refine HL.alloc I I ?_
 intro b2
 repeat' (first|refine zh ?_|intro (bk:Nat))
 obtain ⟨zc,hzc⟩:∃zc:List Value,zc=[.int .i64 0,.int .i64 0,.int .i64 0,.int .i64 0,.slice none 0 0,.slice none 0 0]:=⟨_,rfl⟩
 refine HR.join (ι:=Value×Value) (fun _=>True) (fun x=>[(1,.pointer (some ⟨b1,0,none⟩)),(2,.pointer (some ⟨b2,0,none⟩)),(3,x.1),(4,x.2)]) (fun x=>[jG x.1 4 1 q.hv.length ((List.replicate q.hv.length (jd (.bool false))).flatten),jG x.2 9 1 q.da.length ((List.replicate q.da.length (jd (str []))).flatten),jT b2 [.int .i64 0,.int .i64 0,.int .i64 0,.int .i64 0,.slice none 0 0,.slice none 0 0] 173,jT b1 (ptC ⟨.slice ah q.hv.length ch,.slice ad q.da.length cd,q⟩) 173]) (fun x _=>?_) (fun hj=>?_)
 ·obtain ⟨x1,x2⟩:=x
  have e1:(cellsOf bC q.hv).take (q.hv.length*1)++((List.replicate q.hv.length (jd (.bool false))).flatten).drop (q.hv.length*1)=cellsOf bC q.hv:=by
   rw[List.take_of_length_le (by rw[ZV jHj];omega),List.drop_eq_nil_of_le (by rw[jV];exact Nat.le_refl _),List.append_nil]
  have e2:(cellsOf sC q.da).take (q.da.length*1)++((List.replicate q.da.length (jd (str []))).flatten).drop (q.da.length*1)=cellsOf sC q.da:=by
   rw[List.take_of_length_le (by rw[ZV jG2];omega),List.drop_eq_nil_of_le (by rw[jV];exact Nat.le_refl _),List.append_nil]
  refine HR.row 0 I h0 fun g1 o1 c1 hv1 _ _=>?_
  have hv1:x1=_:=hv1
  subst hv1
  refine HR.row 1 I h1 fun g2 o2 c2 hv2 _ _=>?_
  have hv2:x2=_:=hv2
  subst hv2
  repeat' (first|refine zh ?_|intro (bk:Nat))
  refine HL.copyV q.hv.length 0 I (Rd.arg hh) I I I I I (by rw[ZV jHj];omega) (fun u hu=>jU jPY _ u (List.mem_of_mem_take hu)) (Nat.min_self _) ?_
  repeat' (first|refine zh ?_|intro (bk:Nat))
  refine HL.copyV q.da.length 1 I (Rd.arg hd) I I I I I (by rw[ZV jG2];omega) (fun u hu=>jU jPD _ u (List.mem_of_mem_take hu)) (Nat.min_self _) ?_
  repeat' (first|refine zh ?_|intro (bk:Nat))
  refine HR.ret Tryz.func262 I [_] (fun w hw=>⟨⟨_,rfl,jS hw 2 I I I I rfl⟩,trivial⟩) ?_
  refine fun w' hw=>⟨(.slice (some ⟨g1,o1,none⟩) q.hv.length c1,.slice (some ⟨g2,o2,none⟩) q.da.length c2),rfl,trivial,?_⟩
  have:=hw.pick [0,1] I I
  rw[e1,e2]at this
  exact this
 ·refine HR.kM [1] I I Jc ?_
  refine za 0 ?_
  refine za 1 ?_
  refine za 2 ?_
  refine za 4 ?_
  refine za 5 ?_
  refine za 6 ?_
  refine HA.two 3 7 (by kernel_rfl) I I ?_ ?_
  ·refine HL.kV q.hv.length q.hv.length jA5 I I I I I I (Nat.le_refl _) (show 1*q.hv.length≤_ by omega) (by omega) ?_
   intro v3
   refine HL.jh [2] I I ?_
   refine za 8 ?_
   refine HA.one 7 (by kernel_rfl) I ?_
   refine HL.kV q.da.length q.da.length Kz I I I I I I (Nat.le_refl _) (show 16*q.da.length≤_ by omega) (by omega) ?_
   intro v4
   refine HL.jh [3] I I ?_
   refine za 9 ?_
   refine HA.done (by kernel_rfl) ?_
   exact hj (v3,v4) _ _ trivial ⟨I,I,I,I,trivial⟩ (Ent.pick [1,0,2,3] I I)
  ·refine HL.kV q.da.length q.da.length Kz I I I I I I (Nat.le_refl _) (show 16*q.da.length≤_ by omega) (by omega) ?_
   intro v4
   refine HL.jh [2] I I ?_
   refine HA.one 3 (by kernel_rfl) I ?_
   refine HL.kV q.hv.length q.hv.length jA5 I I I I I I (Nat.le_refl _) (show 1*q.hv.length≤_ by omega) (by omega) ?_
   intro v3
   refine HL.jh [3] I I ?_
   refine za 8 ?_
   refine za 9 ?_
   refine HA.done (by kernel_rfl) ?_
   exact hj (v3,v4) _ _ trivial ⟨I,I,I,I,trivial⟩ (Ent.pick [0,1,2,3] I I)
end Go.Proofs.YtgfdoognildoeaaGreat
namespace Go.Proofs.YtgfdoognildoeaaGreat
open Go.GX Go.RowKit
attribute [local irreducible] Calls Run jZ jf JK HR HL HD jT jG JY Rd jK jY
open Nd
theorem jA9.lit {p:PtV} (h:jA9 p):∃a n c a' n' c',p=⟨.slice a n c,.slice a' n' c',p.pt⟩:=by
 obtain ⟨⟨a,n,c,e⟩,⟨a',n',c',e'⟩⟩:=h
 obtain ⟨vh,vd,q⟩:=p
 have e:vh=_:=e
 have e':vd=_:=e'
 subst e;subst e'
 exact ⟨a,n,c,a',n',c',rfl⟩
theorem jA9.one {p:PtV} (h:jA9 p):J6 (ptC p)=true:=by
 obtain ⟨a,n,c,a',n',c',e⟩:=h.lit
 rw[e];rfl
theorem jK3 {L:List PtV} (h:∀p∈L,jA9 p):∀u∈cellsOf ptC L,u.oneCell'=true:=by
 intro u hu
 unfold cellsOf at hu
 obtain ⟨l,hl,hu⟩:=List.mem_flatten.1 hu
 obtain ⟨p,hp,rfl⟩:=List.mem_map.1 hl
 exact jF (h p hp).one u hu
def ptG (L:List PtV):List Chunk:=L.flatMap fun p=>[ptH p,ptD p]
theorem kN (L L':List PtV):ptG (L++L')=ptG L++ptG L':=List.flatMap_append
theorem jBw (p:PtV):ptG [p]=[ptH p,ptD p]:=by unfold ptG;simp
theorem jPr (L:List PtV) (d:Nat):(ptG L).Perm (ptG (L.drop d)++ptG (L.take d)):=by
 conv=>lhs;rw[← List.take_append_drop d L]
 rw[kN];exact List.perm_append_comm
theorem jAT {L:List PtV} {i:Nat} {p:PtV} (h:L[i]? =some p):(ptG L).Perm (ptG (L.eraseIdx i)++[ptH p,ptD p]):=by
 obtain ⟨hi,rfl⟩:=List.getElem?_eq_some_iff.1 h
 have e:L=L.take i++L[i]::L.drop (i+1):=by rw[List.getElem_cons_drop,List.take_append_drop]
 conv=>lhs;rw[e]
 rw[List.eraseIdx_eq_take_drop_succ,kN,show L[i]::L.drop (i+1)=[L[i]]++L.drop (i+1)from rfl,kN,kN,jBw,List.append_assoc]
 exact List.Perm.append_left _ List.perm_append_comm
theorem jJC (p:PtV→Bool) (L:List PtV):(ptG L).Perm (ptG (L.filter p)++ptG (L.filter fun x=>!p x)):=by
 rw[← kN]
 unfold ptG
 exact (List.filter_append_perm p L).symm.flatMap_right _
theorem jF6 (L L':List PtV):pts (L++L')=pts L++pts L':=List.map_append
theorem jNH {l:List Pt} {s i:Int}:(jAx l s i).isNone=decide (pfi l s i<0):=by
 unfold jAx pfi
 rcases Jk (pis s i) l with ⟨e1,e2,_⟩|⟨k,a,e1,e2,_⟩
 ·rw [e1,e2];rfl
 ·rw [e1,e2];simp
theorem jGA (l:List Pt) (k:Nat):((l.take k).foldl KM []).length≤k:=by
 have:=jC6 (l.take k) []
 simp at this ⊢;omega
theorem max0n (n m:Nat):(if (n:Int)-m>0 then (n:Int)-m else 0)=((n-m:Nat):Int):=by split<;>omega
structure RdPts (w:World) (v:Value) (l:List PtV):Prop where
 s:Sl w v (cellsOf ptC l) l.length
 r:∀p∈l,RdPt w p
theorem RdPts.ext {w w':World} {v:Value} {l:List PtV} (h:RdPts w v l) (hb:Below w.heap.size w w'):RdPts w' v l:=⟨h.s.ext hb,fun p hp=>(h.r p hp).ext hb⟩
def jEL (x:Value×List PtV) (l:List Pt):Prop:=pts x.2=l∧∀p∈x.2,jA9 p
abbrev jF7 (x:Value×List PtV):List Chunk:=[jG x.1 173 6 x.2.length (cellsOf ptC x.2),jB (ptG x.2)]
theorem jDJ (l:List PtV) (v:Value) (w:World) (hv:RdPts w v l) (hs:∀p∈l,jER p.pt) (hl:l.length≤1000):
  Calls Tryz.prog 207 #[v] w fun e w'=>∃x:Value×List PtV,e= .returned x.1∧jEL x (zM (pts l))∧Sat (base w) (jF7 x) w':=by
 refine jD Tryz.func207 I (Nat.le_of_ble_eq_true I) ?_
 refine HR.sub (σ':=[(0,v)]) ⟨I,trivial⟩ ?_
 repeat' (first|refine zh ?_|refine HL.JN (Rd.arg hv.s) I I I ?_|intro (bk:Nat))
 refine HR.ZC 173 6 ?_
 refine HR.ent (H':=[jG (.slice none 0 0) 173 6 0 [],jB []]) (Ent.trans Ent.jL8 (Ent.pick [1,0] I I)) ?_
 refine HR.jRS (α:=Nat) (β:=Value) (γ:=List PtV) (fun k o L=>k≤l.length∧pts L=((pts l).take k).foldl KM []∧∀p∈L,jA9 p) (fun k o L=>[(3,o),(6,v),(7,.int .i64 (l.length:Int)),(8,.int .i64 (k:Int))]) (fun k o L=>jF7 (o,L)) (fun k _ _=>l.length-k) 0 (.slice none 0 0) [] ⟨Nat.zero_le _,rfl,fun p hp=>by cases hp⟩ ⟨I,I,I,I,trivial⟩ Ent.refl ?_
 rintro k o L ⟨hk,hL,hsh⟩ ih
 have hLl:L.length≤k:=by have:=jGA (pts l) k;rw[← hL,JH]at this;exact this
 repeat' (first|refine zh ?_|intro (bk:Nat))
 refine HR.cond I (fun h2=>?_) (fun h2=>?_)
 ·have hlt:k<l.length:=by have:=of_decide_eq_true h2;omega
  obtain ⟨x,hx⟩:=jJ hlt
  have hxm:=List.mem_of_getElem? hx
  have hrx:=hv.r x hxm
  have hsx:=hs x hxm
  have hst:((pts l).take (k+1)).foldl KM []=KM (((pts l).take k).foldl KM []) x.pt:=jCE _ _ (KL hx)
  rw[← hL]at hst
  obtain ⟨a,n,c,a',n',c',ex⟩:=hrx.sh.lit
  obtain ⟨q,hq⟩:∃q,q=x.pt:=⟨_,rfl⟩
  rw[← hq]at hst ex hsx
  subst ex
  have hn:=jNH (l:=pts L) (s:=q.so) (i:=q.id)
  repeat' (first|refine zh ?_|refine HL.JA (Rd.arg hv.s) JM k I I I I hlt ?_|refine HL.JW (Rd.arg hv.s) I I I I (by simp) I (jH JR hx) ?_|refine HL.jR fn260 I I (fun w1 hw1=>jJi ⟨.slice a n c,.slice a' n' c',q⟩ w1 (hrx.ext hw1.jE) hsx) ?_|refine HL.jR jRh I I (fun w1 hw1=>jFL L q.so q.id o w1 ((Rd.own 1 rfl).at hw1) (by omega) hsh) ?_|apply zb ?_ ?_|exact zc|(refine zi fun hb=>?_;try simp at hb)|intro (bk:Nat))
  refine HR.cond I (fun h3=>?_) (fun h3=>?_)
  ·have h3:(zD q&&decide (pfi (pts L) q.so q.id<0))=true:=h3
   have hp:KM (pts L) q=pts L++[q]:=by unfold KM;rw[hn,if_pos h3]
   rw[hp]at hst
   have hpv:zD q=true:=by simp only[Bool.and_eq_true]at h3;exact h3.1
   have H:=kR (zk hpv)
   have i1:=H.hv
   have i2:=H.da
   have i3:=H.ct0
   have i4:=H.ct1
   repeat' (first|refine zh ?_|intro (bk:Nat))
   refine HL.JC (r:=fun y:Value×Value=> .agg ⟨ptC ⟨y.1,y.2,q⟩⟩) (Q:=fun _=>True) (G:=fun y=>[ptH ⟨y.1,y.2,q⟩,ptD ⟨y.1,y.2,q⟩]) fn262 I I (fun w1 hw1=>jNo ⟨.slice a n c,.slice a' n' c',q⟩ w1 (hrx.ext hw1.jE) (show 0<q.hv.length by omega) (show 0<q.da.length by omega) (show q.hv.length≤1000 by omega) (show q.da.length≤1000 by omega)) ?_
   rintro ⟨y1,y2⟩ _
   refine HL.row (v:=y1) (e:=4) (sz:=1) (n:=q.hv.length) (xs:=cellsOf bC q.hv) 0 I (by omega) fun g1 o1 c1 hv1 _ _=>?_
   subst hv1
   refine HL.row (v:=y2) (e:=9) (sz:=1) (n:=q.da.length) (xs:=cellsOf sC q.da) 1 I (by omega) fun g2 o2 c2 hv2 _ _=>?_
   subst hv2
   obtain ⟨P,hP⟩:∃P:PtV,P=⟨.slice (some ⟨g1,o1,none⟩) q.hv.length c1,.slice (some ⟨g2,o2,none⟩) q.da.length c2,q⟩:=⟨_,rfl⟩
   refine HL.jv JM I I I I I (by decide) (by decide) ?_
   intro va
   repeat' (first|refine zh ?_|intro (bk:Nat))
   refine HL.ZN 4 I JM (Rd.own 0 I) I I I I (jF I) (by show (L.length+1)*80≤_;omega) (by show L.length+1≤_;omega) ?_
   intro o3
   repeat' (first|refine zh ?_|intro (bk:Nat))
   refine ih (k+1) o3 (L++[P]) _ _ ⟨hlt,?_,?_⟩ (by omega) ⟨I,I,I,I,trivial⟩ ?_
   ·rw [jF6,hst,hP];rfl
   ·intro p hp
    rcases List.mem_append.1 hp with hp|hp
    ·exact hsh p hp
    ·rw [List.mem_singleton]at hp
     rw[hp,hP]
     exact ⟨⟨_,_,_,rfl⟩,⟨_,_,_,rfl⟩⟩
   ·refine Ent.trans (Ent.pick (H':=[ptH P,ptD P,jB (ptG L),jG o3 173 6 (L++[P]).length (cellsOf ptC (L++[P]))]) [1,2,5,4] ?_ I) (Ent.trans (Ent.group (G:=[ptH P,ptD P])) (Ent.trans Ent.jL9 ?_))
    ·rw [jP,hP];simp;rfl
    ·show Ent _ _ [_,jB (ptG (L++[P]))]
     rw[kN,jBw]
     exact Ent.pick [1,0] I I
  ·have h3:(zD q&&decide (pfi (pts L) q.so q.id<0))=false:=h3
   have hp:KM (pts L) q=pts L:=by unfold KM;rw[hn,h3];rfl
   rw[hp]at hst
   repeat' (first|refine zh ?_|intro (bk:Nat))
   exact ih (k+1) o L _ _ ⟨hlt,hst.symm,hsh⟩ (by omega) ⟨I,I,I,I,trivial⟩ (Ent.pick [1,2] I I)
 ·have hke:k=l.length:=by have:=of_decide_eq_false h2;omega
  subst hke
  have hpo:zM (pts l)=(pts L).drop (L.length-8):=by
   unfold zM last
   rw[hL,List.take_of_length_le (by rw[JH];exact Nat.le_refl _),← JH L,hL,List.take_of_length_le (by rw[JH];exact Nat.le_refl _)]
  repeat' (first|refine zh ?_|refine HL.JN (Rd.own 0 I) I I I ?_|intro (bk:Nat))
  refine HL.ZU 33 (v':= .int .i64 ((L.length-8:Nat):Int)) I (by rw[← max0n];rfl) ?_
  repeat' (first|refine zh ?_|refine HL.subO (sz:=6) (L.length-8) L.length 0 I I I I I (.inr ⟨_,_,rfl,rfl⟩) (.inl ⟨rfl,rfl⟩) (Nat.sub_le _ _) (Nat.le_refl _) ?_|intro (bk:Nat))
  refine HR.ret Tryz.func207 I [_] (fun _ _=>⟨I,trivial⟩) ?_
  refine fun w' hw=>⟨(_,L.drop (L.length-8)),rfl,⟨?_,fun p hp=>hsh p (List.mem_of_mem_drop hp)⟩,?_⟩
  ·rw [hpo];unfold pts;rw[List.map_drop]
  ·have hw2:=hw.pick [1,0] I I
   have hw3:=(Ent.jJh _ (jPr L (L.length-8))) w' hw2
   have hw4:=hw3.pick [1,0] I I
   refine Ent.JV (by simp) ?_ w' hw4
   rw[JB JR,List.take_of_length_le (by rw[jC JR,List.length_drop];exact Nat.le_refl _)]
theorem KV (L:List PtV) (i:Nat) (v:Value) (w:World) (hv:Sl w v (cellsOf ptC L) L.length) (hsh:∀p∈L,jA9 p) (hi:i<L.length) (hl:L.length≤1000):
  Calls Tryz.prog 276 #[v,.int .i64 (i:Int)] w fun e w'=>∃v',e= .returned v'∧Sat (base w) [jG v' 173 6 (L.eraseIdx i).length (cellsOf ptC (L.eraseIdx i))] w':=by
 refine jD Tryz.func276 I (Nat.le_of_ble_eq_true I) ?_
 refine HR.sub (σ':=[(0,v),(1,.int .i64 (i:Int))]) ⟨I,I,trivial⟩ ?_
 repeat' (first|refine zh ?_|refine HL.JN (Rd.arg hv) I I I ?_|intro (bk:Nat))
 refine HL.kV 0 L.length JM I I I I I I (Nat.zero_le _) (show 80*L.length≤_ by omega) (by omega) ?_
 intro v1
 have hR1:=Rd.pre (B:=base w) (H:=[jG v1 173 6 0 []]) JR (l:=L) (Rd.arg hv) (n:=i) (by omega)
 repeat' (first|refine zh ?_|refine HL.jAo (sz:=6) 0 i (Rd.arg hv) I I I I (.inl ⟨rfl,rfl⟩) (.inr ⟨_,_,_,rfl,rfl,rfl⟩) (Nat.zero_le _) (by omega) ?_|intro (bk:Nat))
 refine HL.ZN 0 I JM hR1 I I I (jC JR _) (jK3 fun p hp=>hsh p (List.mem_of_mem_take hp)) (by simp;omega) (by simp;omega) ?_
 intro v2
 have hR2:=Rd.suf (B:=base w) (H:=[jG v2 173 6 (0+(L.take i).length) ([]++cellsOf ptC (L.take i))]) JR (l:=L) (Rd.arg hv) (n:=i+1) (by omega)
 repeat' (first|refine zh ?_|refine HL.jAo (sz:=6) (i+1) L.length (Rd.arg hv) I I I I (.inr ⟨_,_,_,rfl,rfl,rfl⟩) (.inl ⟨rfl,rfl⟩) (by omega) (Nat.le_refl _) ?_|intro (bk:Nat))
 refine HL.ZN 0 I JM hR2 I I I (jC JR _) (jK3 fun p hp=>hsh p (List.mem_of_mem_drop hp)) (by simp;omega) (by simp;omega) ?_
 intro v3
 repeat' (first|refine zh ?_|intro (bk:Nat))
 refine HR.ret Tryz.func276 I [_] (fun _ _=>⟨I,trivial⟩) ?_
 refine fun w' hw=>⟨v3,rfl,Ent.JV ?_ ?_ w' hw⟩
 ·rw [List.eraseIdx_eq_take_drop_succ];simp
 ·rw [List.eraseIdx_eq_take_drop_succ,jP];rfl
end Go.Proofs.YtgfdoognildoeaaGreat
namespace Go.Proofs.YtgfdoognildoeaaGreat
open Go.GX Go.RowKit
attribute [local irreducible] Calls Run jZ jf JK HR HL HD jT jG JY Rd jK jY
open Nd
theorem jE6 (xs:List By):Lib.join xs []=xs.flatten:=by
 unfold Lib.join
 induction xs with
 |nil=>rfl
 |cons x xs ih=>
  cases xs with
  |nil=>simp[List.intercalate]
  |cons y ys=>
   have:([]:By).intercalate (x::y::ys)=x++([]:By).intercalate (y::ys):=by simp[List.intercalate]
   rw[this,ih];rfl
theorem jNf (l:List By) (v:Value) (w:World) (hv:Sl w v (cellsOf sC l) l.length) (h0:0<l.length) (hl:l.length≤1000000) (hb:l.flatten.length≤140737488355328):
  Calls Tryz.prog 277 #[v,str []] w fun e w'=>e= .returned (str l.flatten)∧Below w.heap.size w w':=by
 obtain ⟨h1,a,c,rfl,hc⟩:=hv
 rcases h1 with ⟨_,h2,_⟩|⟨b,off,cap,he,h1⟩
 ·omega
 ·cases he
  have hcell:∀(j:Nat) s,l[j]? =some s→w.cell? ⟨b,off+j,none⟩=some (str s):=by
   intro j s hj
   have:=h1 j (str s) (by rw[← jW (f:=fun s:By=>str s) hj,Nat.mul_one])
   exact this
  obtain ⟨x,hx⟩:=jJ h0
  have hbk:=World.block_lt_of_cell? w _ (hcell 0 x hx)
  have hm:((l.map fun s=>(⟨⟨s⟩⟩:ByteArray)).map (·.data.toList))=l:=by rw[List.map_map];exact List.map_id l
  have key:=Tryz.strings_Join b off c (l.map fun s=>⟨⟨s⟩⟩) ⟨#[]⟩ w (fun j y hy=>by
   rw[List.getElem?_map]at hy
   cases hs:l[j]? with
   |none=>rw[hs]at hy;cases hy
   |some s=>rw[hs]at hy;cases hy;exact hcell j s hs) hbk (by simp;omega) (by simp;omega) (by rw[hm];show (Lib.join l []).length≤_;rw[jE6];exact hb)
  rw[hm]at key
  have e2:Lib.join l (⟨#[]⟩:ByteArray).data.toList=l.flatten:=jE6 l
  rw[e2,List.length_map]at key
  exact key
theorem jNv (l:List PtV) (now life:Int) (v:Value) (w:World) (hv:RdPts w v l) (hs:∀p∈l,jER p.pt) (hl:l.length≤1000):
  Calls Tryz.prog 152 #[v,.int .i64 now,.int .i64 life] w fun e w'=>∃x:Value×List PtV,e= .returned x.1∧jEL x (jCk (pts l) now life)∧Sat (base w) (jF7 x) w':=by
 have t1:=jAM now
 have t3:=jAM life
 refine jD Tryz.func152 I (Nat.le_of_ble_eq_true I) ?_
 refine HR.sub (σ':=[(0,v),(1,.int .i64 now),(2,.int .i64 life)]) ⟨I,I,I,trivial⟩ ?_
 repeat' (first|refine zh ?_|intro (bk:Nat))
 refine HL.JC (r:=fun x:Value×List PtV=>x.1) (Q:=fun x=>jEL x (zM (pts l))) (G:=fun x=>jF7 x) jRp I I (fun w1 hw1=>jDJ l v w1 (hv.ext hw1.jE) hs hl) ?_
 rintro ⟨v1,L⟩ ⟨hL,hsh⟩
 have hL:pts L=zM (pts l):=hL
 have hsh:∀p∈L,jA9 p:=hsh
 have hLl:L.length≤8:=by have:=Kh (pts l);rw[← hL,JH]at this;exact this
 have hpv:∀p∈L,Head p.pt:=fun p hp=>kR (zk (ZB p.pt (by rw[← hL];exact List.mem_map_of_mem hp)))
 repeat' (first|refine zh ?_|refine HL.JN (Rd.own 0 I) I I I ?_|intro (bk:Nat))
 refine HR.ZC 173 6 ?_
 obtain ⟨p,hp⟩:∃p:PtV→Bool,p=fun x=>decide (tick now-x.pt.si≤tick life):=⟨_,rfl⟩
 refine HR.jA2 (α:=Nat) (β:=Value) (fun k o=>k≤L.length) (fun k o=>[(1,.int .i64 now),(2,.int .i64 life),(7,o),(11,v1),(12,.int .i64 (L.length:Int)),(13,.int .i64 (k:Int))]) (fun k o=>[jG o 173 6 ((L.take k).filter p).length (cellsOf ptC ((L.take k).filter p)),jG v1 173 6 L.length (cellsOf ptC L),jB (ptG L)]) (fun k _=>L.length-k) 0 (.slice none 0 0) (Nat.zero_le _) ⟨I,I,I,I,I,I,trivial⟩ (Ent.pick [0,1,2] I I) ?_
 rintro k o hk ih
 have hfl:((L.take k).filter p).length≤8:=Nat.le_trans (List.length_filter_le _ _) (by simp;omega)
 repeat' (first|refine zh ?_|intro (bk:Nat))
 refine HR.cond I (fun h2=>?_) (fun h2=>?_)
 ·have hlt:k<L.length:=by have:=of_decide_eq_true h2;omega
  obtain ⟨x,hx⟩:=jJ hlt
  have hxm:=List.mem_of_getElem? hx
  have hft:=jFH p hx
  have H:=hpv x hxm
  obtain ⟨a,n,c,a',n',c',ex⟩:=(hsh x hxm).lit
  obtain ⟨q,hq⟩:∃q,q=x.pt:=⟨_,rfl⟩
  rw[← hq]at ex H
  subst ex
  have s0:=H.si0
  have s1:q.si≤1099511627776:=H.si1
  repeat' (first|refine zh ?_|refine HL.JA (Rd.own 1 I) JM k I I I I hlt ?_|refine HL.JW (Rd.own 1 I) I I I I (by simp) I (jH JR hx) ?_|intro (bk:Nat))
  refine HR.j4 [(0,true),(2,true),(3,true),(5,true),(1,false),(4,true),(6,false),(7,true)] [0] I I Jc (by kernel_rfl) ?_
  repeat' (first|refine zd ?_|refine HD.jR [0] I I jJn I I I (fun w _=>Kt _ w) ?_)
  refine HD.nil ?_
  refine HR.cond I (fun h3=>?_) (fun h3=>?_)
  ·have h3:p ⟨.slice a n c,.slice a' n' c',q⟩=true:=by rw[hp];exact h3
   rw[if_pos h3]at hft
   repeat' (first|refine zh ?_|refine HL.jv JM I I I I I (by decide) (by decide) ?_|intro (bk:Nat))
   intro va
   repeat' (first|refine zh ?_|intro (bk:Nat))
   refine HL.ZN 2 I JM (Rd.own 0 I) I I I I (jF I) (by omega) (by omega) ?_
   intro o2
   repeat' (first|refine zh ?_|intro (bk:Nat))
   refine ih (k+1) o2 _ _ hlt (by omega) ⟨I,I,I,I,I,I,trivial⟩ (Ent.trans (Ent.pick [2,3,4] I I) (Ent.JV ?_ ?_))
   ·rw [hft];simp
   ·rw [hft,jP];rfl
  ·have h3:p ⟨.slice a n c,.slice a' n' c',q⟩=false:=by rw[hp];exact h3
   rw[if_neg (by rw[h3];decide)]at hft
   repeat' (first|refine zh ?_|intro (bk:Nat))
   refine ih (k+1) o _ _ hlt (by omega) ⟨I,I,I,I,I,I,trivial⟩ (Ent.trans (Ent.pick [1,2,3] I I) (Ent.JV ?_ ?_))
   ·rw [hft]
   ·rw [hft]
 ·have hke:k=L.length:=by have:=of_decide_eq_false h2;omega
  subst hke
  rw[List.take_length]
  repeat' (first|refine zh ?_|intro (bk:Nat))
  refine HR.ret Tryz.func152 I [_] (fun _ _=>⟨I,trivial⟩) ?_
  refine fun w' hw=>⟨(o,L.filter p),rfl,⟨?_,fun y hy=>hsh y (List.mem_filter.1 hy).1⟩,?_⟩
  ·unfold jCk
   rw[← hL,hp]
   unfold pts
   rw[List.filter_map];rfl
  ·have hw2:=hw.pick [2,0] I I
   have hw3:=(Ent.jJh _ (jJC p L)) w' hw2
   exact hw3.pick [1,0] I I
end Go.Proofs.YtgfdoognildoeaaGreat
