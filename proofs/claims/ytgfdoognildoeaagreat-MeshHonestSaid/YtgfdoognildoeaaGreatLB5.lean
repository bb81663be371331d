/- A part of the proof: contracts of the program's functions. Conditions: none. -/
import Derived.Carry
import Derived.Deep.MidRow
import Derived.Deep.Quiet
import Derived.Laws.IdiomRangeMap
import Derived.Laws.MakeOwn
import Derived.Laws.StructEq
import Derived.Laws.Tables
import Derived.Lib.AppendStr
import Derived.Lib.AppendZerosOnto
import Derived.Lib.OthersKept
import Derived.Lib.Overlaps
import Derived.Lib.OwnBridge
import Derived.Lib.SlicesCompact
import Derived.MapKept
import Derived.Orders
import Derived.OrdersHeld
import Derived.Sort.Grow
import Derived.StillTail
import Derived.Test.YtgfdoognildoeaaGreatProg
import Derived.WalkKit
import Derived.WalkLawsBesides
import Derived.WalkSpells
import Derived.Test.YtgfdoognildoeaaGreatLB1
import Derived.Test.YtgfdoognildoeaaGreatLB2
import Derived.Test.YtgfdoognildoeaaGreatLB3
import Derived.Test.YtgfdoognildoeaaGreatLB4
set_option linter.unusedVariables false
set_option linter.unusedSectionVars false
set_option linter.unusedSimpArgs false
set_option maxRecDepth 100000
set_option maxHeartbeats 4000000
namespace Go.Proofs.YtgfdoognildoeaaGreat
open Go.GX Go.RowKit
attribute [local irreducible] Calls Run jZ jf JK HR HL HD jT jG JY Rd jK jY
open Nd
theorem jRk:IsFn Tryz.prog 214:=⟨⟨_,_,Tryz.func214,rfl,by decide⟩⟩
theorem fn215:IsFn Tryz.prog 215:=⟨⟨_,_,Tryz.func215,rfl,by decide⟩⟩
theorem fn162:IsFn Tryz.prog 162:=⟨⟨_,_,Tryz.func162,rfl,by decide⟩⟩
theorem jME:IsFn Tryz.prog 125:=⟨⟨_,_,Tryz.func125,rfl,by decide⟩⟩
theorem Ky:IsFn Tryz.prog 115:=⟨⟨_,_,Tryz.func115,rfl,by decide⟩⟩
theorem jNq:IsFn Tryz.prog 198:=⟨⟨_,_,Tryz.func198,rfl,by decide⟩⟩
theorem jNt:IsFn Tryz.prog 123:=⟨⟨_,_,Tryz.func123,rfl,by decide⟩⟩
theorem jRu:IsFn Tryz.prog 140:=⟨⟨_,_,Tryz.func140,rfl,by decide⟩⟩
theorem fn69:IsFn Tryz.prog 69:=⟨⟨_,_,Tryz.func69,rfl,by decide⟩⟩
theorem fn299:IsFn Tryz.prog 299:=⟨⟨_,_,Tryz.func299,rfl,by decide⟩⟩
theorem jRd:IsFn Tryz.prog 91:=⟨⟨_,_,Tryz.func91,rfl,by decide⟩⟩
theorem jQV:IsFn Tryz.prog 129:=⟨⟨_,_,Tryz.func129,rfl,by decide⟩⟩
theorem jJn:IsFn Tryz.prog 208:=⟨⟨_,_,Tryz.func208,rfl,by decide⟩⟩
theorem jQM:IsFn Tryz.prog 259:=⟨⟨_,_,Tryz.func259,rfl,by decide⟩⟩
theorem jRe:IsFn Tryz.prog 301:=⟨⟨_,_,Tryz.func301,rfl,by decide⟩⟩
theorem fn272:IsFn Tryz.prog 272:=⟨⟨_,_,Tryz.func272,rfl,by decide⟩⟩
theorem jFF (n:Int) (w:World):Calls Tryz.prog 214 #[.int .i64 n] w fun e w'=>e= .returned (.bool (Tp.okN n))∧Below w.heap.size w w':=by
 refine jD Tryz.func214 I (Nat.le_of_ble_eq_true I) ?_
 refine HR.sub (σ':=[(0,.int .i64 n)]) ⟨I,trivial⟩ ?_
 repeat' (first|refine zh ?_|apply zb ?_ ?_|exact zc|(refine zi fun hb=>?_;try simp at hb)|intro (bk:Nat))
 refine HR.ret Tryz.func214 I [_] (fun _ _=>⟨I,trivial⟩) ?_
 exact fun w' hw=>⟨rfl,hw.jE⟩
theorem Z4 (n:Int) (w:World):Calls Tryz.prog 125 #[.int .i64 n] w fun e w'=>e= .returned (.bool (Tp.okN n))∧Below w.heap.size w w':=by
 refine jD Tryz.func125 I (Nat.le_of_ble_eq_true I) ?_
 refine HR.sub (σ':=[(0,.int .i64 n)]) ⟨I,trivial⟩ ?_
 repeat' (first|refine zh ?_|apply zb ?_ ?_|exact zc|(refine zi fun hb=>?_;try simp at hb)|intro (bk:Nat))
 refine HR.ret Tryz.func125 I [_] (fun _ _=>⟨I,trivial⟩) ?_
 exact fun w' hw=>⟨rfl,hw.jE⟩
theorem Z9 (n:Int) (w:World):Calls Tryz.prog 91 #[.int .i64 n] w fun e w'=>e= .returned (.bool (Tp.okN n))∧Below w.heap.size w w':=by
 refine jD Tryz.func91 I (Nat.le_of_ble_eq_true I) ?_
 refine HR.sub (σ':=[(0,.int .i64 n)]) ⟨I,trivial⟩ ?_
 repeat' (first|refine zh ?_|apply zb ?_ ?_|exact zc|(refine zi fun hb=>?_;try simp at hb)|intro (bk:Nat))
 refine HR.ret Tryz.func91 I [_] (fun _ _=>⟨I,trivial⟩) ?_
 exact fun w' hw=>⟨rfl,hw.jE⟩
theorem jHp (n:Int) (w:World):Calls Tryz.prog 215 #[.int .i64 n] w fun e w'=>e= .returned (.bool (okT n))∧Below w.heap.size w w':=by
 refine jD Tryz.func215 I (Nat.le_of_ble_eq_true I) ?_
 refine HR.sub (σ':=[(0,.int .i64 n)]) ⟨I,trivial⟩ ?_
 repeat' (first|refine zh ?_|refine HL.jR jRk I I (fun w _=>jFF n w) ?_|apply zb ?_ ?_|exact zc|(refine zi fun hb=>?_;try simp at hb)|intro (bk:Nat))
 refine HR.ret Tryz.func215 I [_] (fun _ _=>⟨I,trivial⟩) ?_
 exact fun w' hw=>⟨rfl,hw.jE⟩
theorem Ji (r:Ro) (w:World):Calls Tryz.prog 115 #[.agg ⟨roC r⟩] w fun e w'=>e= .returned (.bool (fin r))∧Below w.heap.size w w':=by
 refine jD Tryz.func115 I (Nat.le_of_ble_eq_true I) ?_
 refine HR.sub (σ':=[(0,.agg ⟨roC r⟩)]) ⟨I,trivial⟩ ?_
 repeat' (first|refine zh ?_|apply zb ?_ ?_|exact zc|(refine zi fun hb=>?_;try simp at hb)|intro (bk:Nat))
 refine HR.ret Tryz.func115 I [_] (fun _ _=>⟨I,trivial⟩) ?_
 exact fun w' hw=>⟨rfl,hw.jE⟩
theorem Kc (r:Ro) (w:World):Calls Tryz.prog 198 #[.agg ⟨roC r⟩] w fun e w'=>e= .returned (.bool (usable r))∧Below w.heap.size w w':=by
 refine jD Tryz.func198 I (Nat.le_of_ble_eq_true I) ?_
 refine HR.sub (σ':=[(0,.agg ⟨roC r⟩)]) ⟨I,trivial⟩ ?_
 repeat' (first|refine zh ?_|refine HL.jR jME I I (fun w _=>Z4 _ w) ?_|apply zb ?_ ?_|exact zc|(refine zi fun hb=>?_;try simp at hb)|intro (bk:Nat))
 refine HR.cond I (fun h=>?_) (fun h=>?_)
 ·have h:((!Tp.okN r.dest||decide (r.sq<0))||decide (r.sq>65535))=true:=h
  repeat' (first|refine zh ?_|apply zb ?_ ?_|exact zc|(refine zi fun hb=>?_;try simp at hb)|intro (bk:Nat))
  refine HR.ret Tryz.func198 I [_] (fun _ _=>⟨I,trivial⟩) ?_
  refine fun w' hw=>⟨?_,hw.jE⟩
  have:usable r=false:=by unfold usable;revert h;cases Tp.okN r.dest<;>cases decide (r.sq<0)<;>cases decide (r.sq>65535)<;>simp
  rw[this];rfl
 ·have h:((!Tp.okN r.dest||decide (r.sq<0))||decide (r.sq>65535))=false:=h
  have h':=h
  simp only[Bool.or_eq_false_iff,Bool.not_eq_false',decide_eq_false_iff_not]at h'
  have h0:0≤r.sq:=by omega
  repeat' (first|refine zh ?_|refine HL.jR Ky I I (fun w _=>Ji r w) ?_|apply zb ?_ ?_|exact zc|(refine zi fun hb=>?_;try simp at hb)|intro (bk:Nat))
  refine HR.ret Tryz.func198 I [_] (fun _ _=>⟨I,trivial⟩) ?_
  refine fun w' hw=>⟨?_,hw.jE⟩
  have:usable r=((fin r&&(r.sq%2==0))||(r.cost==255)):=by
   unfold usable
   have e1:decide (r.sq<0)=false:=decide_eq_false h'.1.2
   have e2:decide (r.sq>65535)=false:=decide_eq_false h'.2
   rw[h'.1.1,e1,e2];rfl
  rw[this];rfl
theorem jBV (n:Int) (w:World):Calls Tryz.prog 123 #[.int .i64 n] w fun e w'=>e= .returned (.int .i64 (lim n))∧Below w.heap.size w w':=by
 refine jD Tryz.func123 I (Nat.le_of_ble_eq_true I) ?_
 refine HR.sub (σ':=[(0,.int .i64 n)]) ⟨I,trivial⟩ ?_
 repeat' (first|refine zh ?_|apply zb ?_ ?_|exact zc|(refine zi fun hb=>?_;try simp at hb)|intro (bk:Nat))
 refine HR.ret Tryz.func123 I [_] (fun _ _=>⟨I,trivial⟩) ?_
 refine fun w' hw=>⟨?_,hw.jE⟩
 simp only[jC2]
 congr 2
 unfold lim clamp
 split<;>split<;>omega
theorem jG8 (n s:Int) (w:World):Calls Tryz.prog 140 #[.int .i64 n,.int .i64 s] w fun e w'=>e= .returned (.agg ⟨roC ⟨n,s,0,n⟩⟩)∧Below w.heap.size w w':=by
 refine jD Tryz.func140 I (Nat.le_of_ble_eq_true I) ?_
 refine HR.sub (σ':=[(0,.int .i64 n),(1,.int .i64 s)]) ⟨I,I,trivial⟩ ?_
 repeat' (first|refine zh ?_|apply zb ?_ ?_|exact zc|(refine zi fun hb=>?_;try simp at hb)|intro (bk:Nat))
 refine HR.ret Tryz.func140 I [_] (fun w hw=>⟨⟨_,rfl,jS hw 0 I I I I rfl⟩,trivial⟩) ?_
 exact fun w' hw=>⟨rfl,hw.jE⟩
theorem jDh (n:Int) (w:World):Calls Tryz.prog 69 #[.int .i64 n] w fun e w'=>∃v,e= .returned v∧Sat (base w) [jG v 94 4 (jKm n).length (cellsOf roC (jKm n))] w':=by
 refine jD Tryz.func69 I (Nat.le_of_ble_eq_true I) ?_
 refine HR.sub (σ':=[(0,.int .i64 n)]) ⟨I,trivial⟩ ?_
 repeat' (first|refine zh ?_|refine HL.jR jNt I I (fun w _=>jBV n w) ?_|refine HL.jR jRu I I (fun w _=>jG8 (lim n) 0 w) ?_|refine HL.jv Je I I I I I (by decide) (by decide) ?_|apply zb ?_ ?_|exact zc|(refine zi fun hb=>?_;try simp at hb)|intro (bk:Nat))
 intro v
 repeat' (first|refine zh ?_|apply zb ?_ ?_|exact zc|(refine zi fun hb=>?_;try simp at hb)|intro (bk:Nat))
 refine HR.ret Tryz.func69 I [_] (fun _ _=>⟨I,trivial⟩) ?_
 exact fun w' hw=>⟨v,rfl,hw⟩
theorem jF4 (a b:Ro) (w:World):Calls Tryz.prog 299 #[.agg ⟨roC a⟩,.agg ⟨roC b⟩] w fun e w'=>e= .returned (.bool (better a b))∧Below w.heap.size w w':=by
 refine jD Tryz.func299 I (Nat.le_of_ble_eq_true I) ?_
 refine HR.sub (σ':=[(0,.agg ⟨roC a⟩),(1,.agg ⟨roC b⟩)]) ⟨I,I,trivial⟩ ?_
 repeat' (first|refine zh ?_|apply zb ?_ ?_|exact zc|(refine zi fun hb=>?_;try simp at hb)|intro (bk:Nat))
 refine HR.ret Tryz.func299 I [_] (fun _ _=>⟨I,trivial⟩) ?_
 exact fun w' hw=>⟨rfl,hw.jE⟩
theorem jDt (n lo hi:Int) (w:World):Calls Tryz.prog 129 #[.int .i64 n,.int .i64 lo,.int .i64 hi] w fun e w'=>e= .returned (.int .i64 (clamp n lo hi))∧Below w.heap.size w w':=by
 refine jD Tryz.func129 I (Nat.le_of_ble_eq_true I) ?_
 refine HR.sub (σ':=[(0,.int .i64 n),(1,.int .i64 lo),(2,.int .i64 hi)]) ⟨I,I,I,trivial⟩ ?_
 repeat' (first|refine zh ?_|apply zb ?_ ?_|exact zc|(refine zi fun hb=>?_;try simp at hb)|intro (bk:Nat))
 refine HR.ret Tryz.func129 I [_] (fun _ _=>⟨I,trivial⟩) ?_
 refine fun w' hw=>⟨?_,hw.jE⟩
 simp only[jC2]
 congr 2
 unfold clamp
 split<;>split<;>omega
theorem Kt (n:Int) (w:World):Calls Tryz.prog 208 #[.int .i64 n] w fun e w'=>e= .returned (.int .i64 (tick n))∧Below w.heap.size w w':=by
 refine jD Tryz.func208 I (Nat.le_of_ble_eq_true I) ?_
 refine HR.sub (σ':=[(0,.int .i64 n)]) ⟨I,trivial⟩ ?_
 repeat' (first|refine zh ?_|apply zb ?_ ?_|exact zc|(refine zi fun hb=>?_;try simp at hb)|intro (bk:Nat))
 refine HR.ret Tryz.func208 I [_] (fun _ _=>⟨I,trivial⟩) ?_
 refine fun w' hw=>⟨?_,hw.jE⟩
 simp only[jC2]
 congr 2
 unfold tick clamp JU
 split<;>split<;>omega
theorem jGS (n:Int) (w:World):Calls Tryz.prog 259 #[.int .i64 n] w fun e w'=>e= .returned (.int .i64 (tick n))∧Below w.heap.size w w':=by
 refine jD Tryz.func259 I (Nat.le_of_ble_eq_true I) ?_
 refine HR.sub (σ':=[(0,.int .i64 n)]) ⟨I,trivial⟩ ?_
 repeat' (first|refine zh ?_|apply zb ?_ ?_|exact zc|(refine zi fun hb=>?_;try simp at hb)|intro (bk:Nat))
 refine HR.ret Tryz.func259 I [_] (fun _ _=>⟨I,trivial⟩) ?_
 refine fun w' hw=>⟨?_,hw.jE⟩
 simp only[jC2]
 congr 2
 unfold tick clamp JU
 split<;>split<;>omega
end Go.Proofs.YtgfdoognildoeaaGreat
namespace Go.Proofs.YtgfdoognildoeaaGreat
open Go.GX Go.RowKit
attribute [local irreducible] Calls Run jZ jf JK HR HL HD jT jG JY Rd jK jY
open Nd
theorem fn300:IsFn Tryz.prog 300:=⟨⟨_,_,Tryz.func300,rfl,by decide⟩⟩
theorem fn169:IsFn Tryz.prog 169:=⟨⟨_,_,Tryz.func169,rfl,by decide⟩⟩
theorem fn246:IsFn Tryz.prog 246:=⟨⟨_,_,Tryz.func246,rfl,by decide⟩⟩
theorem fn269:IsFn Tryz.prog 269:=⟨⟨_,_,Tryz.func269,rfl,by decide⟩⟩
theorem jLv (l:List Ro) (x:Ro) (i:Nat) (v va:Value) (B0:Base) (w:World) (hw0:Sat B0 [jG va 94 4 1 (roC x),jG v 94 4 l.length (cellsOf roC l)] w) (hi:i≤l.length) (hl:l.length≤1000):
  Calls Tryz.prog 300 #[v,.int .i64 (i:Int),va] w fun e w'=>∃r:Value,e= .returned r∧True∧Sat ⟨w,Zn [jG va 94 4 1 (roC x),jG v 94 4 l.length (cellsOf roC l)]⟩ [jG r 94 4 (l.take i++x::l.drop i).length (cellsOf roC (l.take i++x::l.drop i))] w':=by
 obtain ⟨ga,oa,ca,rfl,hnca,hcma⟩:=Vw.row (Sat.vw hw0 (i:=0) I) (by decide)
 have hlen:(l.take i++x::l.drop i).length=l.length+1:=by simp;omega
 have hcl:(cellsOf roC l).length=l.length*4:=jC jq l
 have hcells:cellsOf roC (l.take i++x::l.drop i)=(cellsOf roC l).take (i*4)++roC x++(cellsOf roC l).drop (i*4):=by
  rw[JJ jq,JB jq,jP,List.append_assoc];rfl
 have ha1:∀u∈cellsOf roC l,u.oneCell'=true:=jU jKk _
 refine jg [jG (.slice (some ⟨ga,oa,none⟩) 1 ca) 94 4 1 (roC x),jG v 94 4 l.length (cellsOf roC l)] (hw0) Tryz.func300 I (Nat.le_of_ble_eq_true I) ?_
 refine HR.sub (σ':=[(0,v),(1,.int .i64 (i:Int)),(2,.slice (some ⟨ga,oa,none⟩) 1 ca)]) ⟨I,I,I,trivial⟩ ?_
 repeat' (first|refine zh ?_|refine HL.JN (Rd.own 1 I) I I I ?_|refine HL.jAo (sz:=4) i l.length (Rd.own 1 I) I I I I (.inr ⟨_,_,_,rfl,rfl,rfl⟩) (.inl ⟨rfl,rfl⟩) hi (Nat.le_refl _) ?_|apply zb ?_ ?_|exact zc|(refine zi fun hb=>?_;try simp at hb)|intro (bk:Nat))
 refine HR.cond I (fun h=>?_) (fun h=>?_)
 ·have hil:i=l.length:=by have:=eq_of_beq h;omega
  repeat' (first|refine zh ?_|refine HL.ZN 1 I Je (Rd.own 0 I) I I I I (jF I) (by omega) (by omega) ?_|apply zb ?_ ?_|exact zc|(refine zi fun hb=>?_;try simp at hb)|intro (bk:Nat))
  intro v2
  repeat' (first|refine zh ?_|apply zb ?_ ?_|exact zc|(refine zi fun hb=>?_;try simp at hb)|intro (bk:Nat))
  refine HR.ret Tryz.func300 I [_] (fun _ _=>⟨I,trivial⟩) ?_
  refine fun w' hw=>⟨_,rfl,trivial,Ent.JV ?_ ?_ w' (hw.pick [1] I rfl)⟩
  ·rw [hlen]
  ·subst hil;rw[hcells,List.take_of_length_le (by omega),List.drop_eq_nil_of_le (by omega),List.append_nil]
 have hlt:i<l.length:=by have h:((i:Int)==(l.length:Int))=false:=h;simp at h;omega
 refine HR.row 1 I (by omega) fun g off c hv hnc hcm=>?_
 subst hv
 have hcm:c≤9223372036854775807:=hcm
 repeat' (first|refine zh ?_|refine HL.JN (Rd.own 1 I) I I I ?_|refine HL.jSD I I I ?_|apply zb ?_ ?_|exact zc|(refine zi fun hb=>?_;try simp at hb)|intro (bk:Nat))
 refine HR.cond I (fun h2=>?_) (fun h2=>?_)
 ·have hc:c<l.length+1:=by have:=of_decide_eq_true h2;omega
  repeat' (first|refine zh ?_|refine HL.jAo (sz:=4) 0 i (Rd.own 1 I) I I I I (.inl ⟨rfl,rfl⟩) (.inr ⟨_,_,_,rfl,rfl,rfl⟩) (Nat.zero_le _) hi ?_|refine HL.jCZ i (l.length+1-i) 1 I Je I I I I I (by omega) hi (by omega) hnc (by omega) (by omega) (by omega) ?_|apply zb ?_ ?_|exact zc|(refine zi fun hb=>?_;try simp at hb)|intro (bk:Nat))
  intro v2
  have hN:i+(l.length+1-i)=l.length+1:=by omega
  rw[hN]
  refine HL.row 0 I (by omega) fun g2 o2 c2 hv2 hnc2 hcm2=>?_
  subst hv2
  repeat' (first|refine zh ?_|refine HL.jAo (sz:=4) i (l.length+1) (Rd.own 0 I) I I I I (.inr ⟨_,_,_,rfl,rfl,rfl⟩) (.inl ⟨rfl,rfl⟩) (by omega) (Nat.le_refl _) ?_|refine HL.Zv i 1 0 I (Rd.own 1 I) I I I I I I (jF I) (Nat.min_eq_left (by omega)) (by decide) ?_|apply zb ?_ ?_|exact zc|(refine zi fun hb=>?_;try simp at hb)|intro (bk:Nat))
  refine HR.j4 [(0,true),(1,true),(2,true),(3,true),(4,true),(5,true),(6,true),(7,true),(8,false)] [] I I Jc (by kernel_rfl) ?_
  repeat' (first|refine HD.ev I I I ?_|refine HD.evc I I I (by first|omega|(simp;done)|(simp;omega)) ?_|refine HD.cut (sz:=4) (i+1) (l.length+1) c2 I I I I I (.inr ⟨_,_,rfl,rfl⟩) (.inl ⟨rfl,rfl,rfl⟩) (.inl ⟨rfl,rfl⟩) (by omega) hnc2 (Nat.le_refl _) ?_|refine HD.cut (sz:=4) i l.length c I I I I I (.inr ⟨_,_,rfl,rfl⟩) (.inl ⟨rfl,rfl,rfl⟩) (.inl ⟨rfl,rfl⟩) hi hnc (Nat.le_refl _) ?_|refine HD.L 0 I I I I I ?_|refine HD.L 1 I I I I I ?_|refine HD.L 2 I I I I I ?_|refine HD.L 3 I I I I I ?_|refine HD.build I I I ?_|refine HD.field I I I ?_|refine HD.skip I I I ?_|refine HD.kH I I I ?_|(refine HD.one I ?_;first|refine HL.ev I I ?_|refine HL.Zv (i+1) (l.length-i) 0 I (Rd.sub (Rd.own 2 I) hcl hi (Nat.le_refl _)) I I I I I (by rw[List.length_take,List.length_drop,hcl];omega) (fun u hu=>ha1 u (List.mem_of_mem_drop (List.mem_of_mem_take (List.mem_of_mem_take hu)))) (Nat.min_eq_left (by omega)) (by omega) ?_|(refine HL.isLoad ?_;first|refine HL.L 0 I I I I ?_|refine HL.L 1 I I I I ?_|refine HL.L 2 I I I I ?_|refine HL.L 3 I I I I ?_)|(refine HL.jL ?_;first|refine HL.S 0 I I I I I ?_|refine HL.S 1 I I I I I ?_|refine HL.S 2 I I I I I ?_|refine HL.S 3 I I I I I ?_)|(refine HL.alloc I I ?_;intro bk))|refine HL.back [] rfl rfl ?_|refine HD.nil ?_)
  repeat' (first|refine zh ?_|apply zb ?_ ?_|exact zc|(refine zi fun hb=>?_;try simp at hb)|intro (bk:Nat))
  refine HR.ret Tryz.func300 I [_] (fun _ _=>⟨I,trivial⟩) ?_
  refine fun w' hw=>⟨_,rfl,trivial,Ent.JV ?_ ?_ w' (hw.pick [0] I rfl)⟩
  ·rw [hlen]
  ·rw [hcells,← jAc (xs:=cellsOf roC l) (X:=roC x) (Z:=(List.replicate (l.length+1-i) (roC ⟨0,0,0,0⟩)).flatten) (p:=i*4) (q:=4) (s:=(l.length-i)*4) (by rw[hcl];omega) I (by rw[jV];simp;omega)]
   rw[show (i+1)*4=i*4+4 by omega]
   rfl
 ·have hc:l.length+1≤c:=by have:=of_decide_eq_false h2;omega
  repeat' (first|refine zh ?_|refine HL.jR3 (sz:=4) (l.length+1) 1 I I I I I I I (by omega) hc ?_|apply zb ?_ ?_|exact zc|(refine zi fun hb=>?_;try simp at hb)|intro (bk:Nat))
  intro junk hj
  repeat' (first|refine zh ?_|refine HL.cut (sz:=4) (i+1) (l.length+1) c I I I I (.inr ⟨_,_,rfl,rfl⟩) (.inl ⟨rfl,rfl,rfl⟩) (.inl ⟨rfl,rfl⟩) (by omega) hc (Nat.le_refl _) ?_|intro (bk:Nat))
  refine HL.jCg (zy (by omega)) ?_
  refine HL.ovl 0 1 I I (by decide) I I I (tS:=55) (tR:=4) I I (by omega) (by decide) I (by kernel_rfl) (by kernel_rfl) (by kernel_rfl) (by kernel_rfl) ?_
  repeat' (first|refine zh ?_|apply zb ?_ ?_|exact zc|(refine zi fun hb=>?_;try simp at hb)|intro (bk:Nat))
  refine HR.j4 [(0,true),(1,true),(2,true),(3,true),(4,true),(5,true),(6,true),(7,true),(8,false)] [] I I Jc (by kernel_rfl) ?_
  repeat' (first|refine HD.ev I I I ?_|refine HD.evc I I I (by first|omega|(simp;done)|(simp;omega)) ?_|refine HD.cut (sz:=4) (i+1) (l.length+1) c I I I I I (.inr ⟨_,_,rfl,rfl⟩) (.inl ⟨rfl,rfl,rfl⟩) (.inl ⟨rfl,rfl⟩) (by omega) hc (Nat.le_refl _) ?_|refine HD.cut (sz:=4) i (l.length+1) c I I I I I (.inr ⟨_,_,rfl,rfl⟩) (.inl ⟨rfl,rfl,rfl⟩) (.inl ⟨rfl,rfl⟩) (by omega) hc (Nat.le_refl _) ?_|refine HD.L 0 I I I I I ?_|refine HD.L 1 I I I I I ?_|refine HD.L 2 I I I I I ?_|refine HD.L 3 I I I I I ?_|refine HD.build I I I ?_|refine HD.field I I I ?_|refine HD.skip I I I ?_|refine HD.kH I I I ?_|(refine HD.one I ?_;first|refine HL.ev I I ?_|refine HL.Zv (i+1) (l.length-i) 1 I (Rd.sub (sz:=4) (l:=i) (h:=l.length+1) (Rd.own 1 I) (by rw[List.length_append,hcl,hj];omega) (by omega) (Nat.le_refl _)) I I I I I (by rw[List.length_take,List.length_drop,List.length_append,hcl,hj];omega) (fun u hu=>ha1 u (KF (p:=i*4) (s:=(l.length-i)*4) (u:=(l.length+1-i)*4) (by rw[hcl];omega) (by omega) hu)) (show min (l.length+1-i) (l.length+1-(i+1))=l.length-i by omega) (by omega) ?_|(refine HL.isLoad ?_;first|refine HL.L 0 I I I I ?_|refine HL.L 1 I I I I ?_|refine HL.L 2 I I I I ?_|refine HL.L 3 I I I I ?_)|(refine HL.jL ?_;first|refine HL.S 0 I I I I I ?_|refine HL.S 1 I I I I I ?_|refine HL.S 2 I I I I I ?_|refine HL.S 3 I I I I I ?_)|(refine HL.alloc I I ?_;intro bk))|refine HL.back [] rfl rfl ?_|refine HD.nil ?_)
  repeat' (first|refine zh ?_|refine HL.jAo (sz:=4) i (l.length+1) (Rd.own 1 I) I I I I (.inr ⟨_,_,_,rfl,rfl,rfl⟩) (.inl ⟨rfl,rfl⟩) (by omega) (Nat.le_refl _) ?_|refine HL.Zv i 1 1 I (Rd.own 0 I) I I I I I I (jF I) (Nat.min_eq_left (by omega)) (by decide) ?_|apply zb ?_ ?_|exact zc|(refine zi fun hb=>?_;try simp at hb)|intro (bk:Nat))
  refine HR.ret Tryz.func300 I [_] (fun _ _=>⟨I,trivial⟩) ?_
  refine fun w' hw=>⟨_,rfl,trivial,Ent.JV ?_ ?_ w' (hw.pick [1] I rfl)⟩
  ·rw [hlen]
  ·rw [hcells,← KU (xs:=cellsOf roC l) (X:=roC x) (J:=junk) (p:=i*4) (q:=4) (s:=(l.length-i)*4) (u:=(l.length+1-i)*4) (by rw[hcl];omega) I (by rw[hj];omega) (by omega)]
   rw[show (i+1)*4=i*4+4 by omega]
theorem jLy (l:List Li) (x:Li) (i:Nat) (v va:Value) (B0:Base) (w:World) (hw0:Sat B0 [jG va 162 3 1 (liC x),jG v 162 3 l.length (cellsOf liC l)] w) (hi:i≤l.length) (hl:l.length≤1000):
  Calls Tryz.prog 169 #[v,.int .i64 (i:Int),va] w fun e w'=>∃r:Value,e= .returned r∧True∧Sat ⟨w,Zn [jG va 162 3 1 (liC x),jG v 162 3 l.length (cellsOf liC l)]⟩ [jG r 162 3 (l.take i++x::l.drop i).length (cellsOf liC (l.take i++x::l.drop i))] w':=by
 obtain ⟨ga,oa,ca,rfl,hnca,hcma⟩:=Vw.row (Sat.vw hw0 (i:=0) I) (by decide)
 have hlen:(l.take i++x::l.drop i).length=l.length+1:=by simp;omega
 have hcl:(cellsOf liC l).length=l.length*3:=jC JL l
 have hcells:cellsOf liC (l.take i++x::l.drop i)=(cellsOf liC l).take (i*3)++liC x++(cellsOf liC l).drop (i*3):=by
  rw[JJ JL,JB JL,jP,List.append_assoc];rfl
 have ha1:∀u∈cellsOf liC l,u.oneCell'=true:=jU jD4 _
 refine jg [jG (.slice (some ⟨ga,oa,none⟩) 1 ca) 162 3 1 (liC x),jG v 162 3 l.length (cellsOf liC l)] (hw0) Tryz.func169 I (Nat.le_of_ble_eq_true I) ?_
 refine HR.sub (σ':=[(0,v),(1,.int .i64 (i:Int)),(2,.slice (some ⟨ga,oa,none⟩) 1 ca)]) ⟨I,I,I,trivial⟩ ?_
 repeat' (first|refine zh ?_|refine HL.JN (Rd.own 1 I) I I I ?_|refine HL.jAo (sz:=3) i l.length (Rd.own 1 I) I I I I (.inr ⟨_,_,_,rfl,rfl,rfl⟩) (.inl ⟨rfl,rfl⟩) hi (Nat.le_refl _) ?_|apply zb ?_ ?_|exact zc|(refine zi fun hb=>?_;try simp at hb)|intro (bk:Nat))
 refine HR.cond I (fun h=>?_) (fun h=>?_)
 ·have hil:i=l.length:=by have:=eq_of_beq h;omega
  repeat' (first|refine zh ?_|refine HL.ZN 1 I Ze (Rd.own 0 I) I I I I (jF I) (by omega) (by omega) ?_|apply zb ?_ ?_|exact zc|(refine zi fun hb=>?_;try simp at hb)|intro (bk:Nat))
  intro v2
  repeat' (first|refine zh ?_|apply zb ?_ ?_|exact zc|(refine zi fun hb=>?_;try simp at hb)|intro (bk:Nat))
  refine HR.ret Tryz.func169 I [_] (fun _ _=>⟨I,trivial⟩) ?_
  refine fun w' hw=>⟨_,rfl,trivial,Ent.JV ?_ ?_ w' (hw.pick [1] I rfl)⟩
  ·rw [hlen]
  ·subst hil;rw[hcells,List.take_of_length_le (by omega),List.drop_eq_nil_of_le (by omega),List.append_nil]
 have hlt:i<l.length:=by have h:((i:Int)==(l.length:Int))=false:=h;simp at h;omega
 refine HR.row 1 I (by omega) fun g off c hv hnc hcm=>?_
 subst hv
 have hcm:c≤9223372036854775807:=hcm
 repeat' (first|refine zh ?_|refine HL.JN (Rd.own 1 I) I I I ?_|refine HL.jSD I I I ?_|apply zb ?_ ?_|exact zc|(refine zi fun hb=>?_;try simp at hb)|intro (bk:Nat))
 refine HR.cond I (fun h2=>?_) (fun h2=>?_)
 ·have hc:c<l.length+1:=by have:=of_decide_eq_true h2;omega
  repeat' (first|refine zh ?_|refine HL.jAo (sz:=3) 0 i (Rd.own 1 I) I I I I (.inl ⟨rfl,rfl⟩) (.inr ⟨_,_,_,rfl,rfl,rfl⟩) (Nat.zero_le _) hi ?_|refine HL.jCZ i (l.length+1-i) 1 I Ze I I I I I (by omega) hi (by omega) hnc (by omega) (by omega) (by omega) ?_|apply zb ?_ ?_|exact zc|(refine zi fun hb=>?_;try simp at hb)|intro (bk:Nat))
  intro v2
  have hN:i+(l.length+1-i)=l.length+1:=by omega
  rw[hN]
  refine HL.row 0 I (by omega) fun g2 o2 c2 hv2 hnc2 hcm2=>?_
  subst hv2
  repeat' (first|refine zh ?_|refine HL.jAo (sz:=3) i (l.length+1) (Rd.own 0 I) I I I I (.inr ⟨_,_,_,rfl,rfl,rfl⟩) (.inl ⟨rfl,rfl⟩) (by omega) (Nat.le_refl _) ?_|refine HL.Zv i 1 0 I (Rd.own 1 I) I I I I I I (jF I) (Nat.min_eq_left (by omega)) (by decide) ?_|apply zb ?_ ?_|exact zc|(refine zi fun hb=>?_;try simp at hb)|intro (bk:Nat))
  refine HR.j4 [(0,true),(1,true),(2,true),(3,true),(4,true),(5,true),(6,true),(7,true),(8,false)] [] I I Jc (by kernel_rfl) ?_
  repeat' (first|refine HD.ev I I I ?_|refine HD.evc I I I (by first|omega|(simp;done)|(simp;omega)) ?_|refine HD.cut (sz:=3) (i+1) (l.length+1) c2 I I I I I (.inr ⟨_,_,rfl,rfl⟩) (.inl ⟨rfl,rfl,rfl⟩) (.inl ⟨rfl,rfl⟩) (by omega) hnc2 (Nat.le_refl _) ?_|refine HD.cut (sz:=3) i l.length c I I I I I (.inr ⟨_,_,rfl,rfl⟩) (.inl ⟨rfl,rfl,rfl⟩) (.inl ⟨rfl,rfl⟩) hi hnc (Nat.le_refl _) ?_|refine HD.L 0 I I I I I ?_|refine HD.L 1 I I I I I ?_|refine HD.L 2 I I I I I ?_|refine HD.L 3 I I I I I ?_|refine HD.build I I I ?_|refine HD.field I I I ?_|refine HD.skip I I I ?_|refine HD.kH I I I ?_|(refine HD.one I ?_;first|refine HL.ev I I ?_|refine HL.Zv (i+1) (l.length-i) 0 I (Rd.sub (Rd.own 2 I) hcl hi (Nat.le_refl _)) I I I I I (by rw[List.length_take,List.length_drop,hcl];omega) (fun u hu=>ha1 u (List.mem_of_mem_drop (List.mem_of_mem_take (List.mem_of_mem_take hu)))) (Nat.min_eq_left (by omega)) (by omega) ?_|(refine HL.isLoad ?_;first|refine HL.L 0 I I I I ?_|refine HL.L 1 I I I I ?_|refine HL.L 2 I I I I ?_|refine HL.L 3 I I I I ?_)|(refine HL.jL ?_;first|refine HL.S 0 I I I I I ?_|refine HL.S 1 I I I I I ?_|refine HL.S 2 I I I I I ?_|refine HL.S 3 I I I I I ?_)|(refine HL.alloc I I ?_;intro bk))|refine HL.back [] rfl rfl ?_|refine HD.nil ?_)
  repeat' (first|refine zh ?_|apply zb ?_ ?_|exact zc|(refine zi fun hb=>?_;try simp at hb)|intro (bk:Nat))
  refine HR.ret Tryz.func169 I [_] (fun _ _=>⟨I,trivial⟩) ?_
  refine fun w' hw=>⟨_,rfl,trivial,Ent.JV ?_ ?_ w' (hw.pick [0] I rfl)⟩
  ·rw [hlen]
  ·rw [hcells,← jAc (xs:=cellsOf liC l) (X:=liC x) (Z:=(List.replicate (l.length+1-i) (liC ⟨0,0,0⟩)).flatten) (p:=i*3) (q:=3) (s:=(l.length-i)*3) (by rw[hcl];omega) I (by rw[jV];simp;omega)]
   rw[show (i+1)*3=i*3+3 by omega]
   rfl
 ·have hc:l.length+1≤c:=by have:=of_decide_eq_false h2;omega
  repeat' (first|refine zh ?_|refine HL.jR3 (sz:=3) (l.length+1) 1 I I I I I I I (by omega) hc ?_|apply zb ?_ ?_|exact zc|(refine zi fun hb=>?_;try simp at hb)|intro (bk:Nat))
  intro junk hj
  repeat' (first|refine zh ?_|refine HL.cut (sz:=3) (i+1) (l.length+1) c I I I I (.inr ⟨_,_,rfl,rfl⟩) (.inl ⟨rfl,rfl,rfl⟩) (.inl ⟨rfl,rfl⟩) (by omega) hc (Nat.le_refl _) ?_|intro (bk:Nat))
  refine HL.jCg (zy (by omega)) ?_
  refine HL.ovl 0 1 I I (by decide) I I I (tS:=56) (tR:=4) I I (by omega) (by decide) I (by kernel_rfl) (by kernel_rfl) (by kernel_rfl) (by kernel_rfl) ?_
  repeat' (first|refine zh ?_|apply zb ?_ ?_|exact zc|(refine zi fun hb=>?_;try simp at hb)|intro (bk:Nat))
  refine HR.j4 [(0,true),(1,true),(2,true),(3,true),(4,true),(5,true),(6,true),(7,true),(8,false)] [] I I Jc (by kernel_rfl) ?_
  repeat' (first|refine HD.ev I I I ?_|refine HD.evc I I I (by first|omega|(simp;done)|(simp;omega)) ?_|refine HD.cut (sz:=3) (i+1) (l.length+1) c I I I I I (.inr ⟨_,_,rfl,rfl⟩) (.inl ⟨rfl,rfl,rfl⟩) (.inl ⟨rfl,rfl⟩) (by omega) hc (Nat.le_refl _) ?_|refine HD.cut (sz:=3) i (l.length+1) c I I I I I (.inr ⟨_,_,rfl,rfl⟩) (.inl ⟨rfl,rfl,rfl⟩) (.inl ⟨rfl,rfl⟩) (by omega) hc (Nat.le_refl _) ?_|refine HD.L 0 I I I I I ?_|refine HD.L 1 I I I I I ?_|refine HD.L 2 I I I I I ?_|refine HD.L 3 I I I I I ?_|refine HD.build I I I ?_|refine HD.field I I I ?_|refine HD.skip I I I ?_|refine HD.kH I I I ?_|(refine HD.one I ?_;first|refine HL.ev I I ?_|refine HL.Zv (i+1) (l.length-i) 1 I (Rd.sub (sz:=3) (l:=i) (h:=l.length+1) (Rd.own 1 I) (by rw[List.length_append,hcl,hj];omega) (by omega) (Nat.le_refl _)) I I I I I (by rw[List.length_take,List.length_drop,List.length_append,hcl,hj];omega) (fun u hu=>ha1 u (KF (p:=i*3) (s:=(l.length-i)*3) (u:=(l.length+1-i)*3) (by rw[hcl];omega) (by omega) hu)) (show min (l.length+1-i) (l.length+1-(i+1))=l.length-i by omega) (by omega) ?_|(refine HL.isLoad ?_;first|refine HL.L 0 I I I I ?_|refine HL.L 1 I I I I ?_|refine HL.L 2 I I I I ?_|refine HL.L 3 I I I I ?_)|(refine HL.jL ?_;first|refine HL.S 0 I I I I I ?_|refine HL.S 1 I I I I I ?_|refine HL.S 2 I I I I I ?_|refine HL.S 3 I I I I I ?_)|(refine HL.alloc I I ?_;intro bk))|refine HL.back [] rfl rfl ?_|refine HD.nil ?_)
  repeat' (first|refine zh ?_|refine HL.jAo (sz:=3) i (l.length+1) (Rd.own 1 I) I I I I (.inr ⟨_,_,_,rfl,rfl,rfl⟩) (.inl ⟨rfl,rfl⟩) (by omega) (Nat.le_refl _) ?_|refine HL.Zv i 1 1 I (Rd.own 0 I) I I I I I I (jF I) (Nat.min_eq_left (by omega)) (by decide) ?_|apply zb ?_ ?_|exact zc|(refine zi fun hb=>?_;try simp at hb)|intro (bk:Nat))
  refine HR.ret Tryz.func169 I [_] (fun _ _=>⟨I,trivial⟩) ?_
  refine fun w' hw=>⟨_,rfl,trivial,Ent.JV ?_ ?_ w' (hw.pick [1] I rfl)⟩
  ·rw [hlen]
  ·rw [hcells,← KU (xs:=cellsOf liC l) (X:=liC x) (J:=junk) (p:=i*3) (q:=3) (s:=(l.length-i)*3) (u:=(l.length+1-i)*3) (by rw[hcl];omega) I (by rw[hj];omega) (by omega)]
   rw[show (i+1)*3=i*3+3 by omega]
theorem jLu (l:List Sn) (x:Sn) (i:Nat) (v va:Value) (B0:Base) (w:World) (hw0:Sat B0 [jG va 131 11 1 (snC x),jG v 131 11 l.length (cellsOf snC l)] w) (hi:i≤l.length) (hl:l.length≤1000):
  Calls Tryz.prog 246 #[v,.int .i64 (i:Int),va] w fun e w'=>∃r:Value,e= .returned r∧True∧Sat ⟨w,Zn [jG va 131 11 1 (snC x),jG v 131 11 l.length (cellsOf snC l)]⟩ [jG r 131 11 (l.take i++x::l.drop i).length (cellsOf snC (l.take i++x::l.drop i))] w':=by
 obtain ⟨ga,oa,ca,rfl,hnca,hcma⟩:=Vw.row (Sat.vw hw0 (i:=0) I) (by decide)
 have hlen:(l.take i++x::l.drop i).length=l.length+1:=by simp;omega
 have hcl:(cellsOf snC l).length=l.length*11:=jC JE l
 have hcells:cellsOf snC (l.take i++x::l.drop i)=(cellsOf snC l).take (i*11)++snC x++(cellsOf snC l).drop (i*11):=by
  rw[JJ JE,JB JE,jP,List.append_assoc];rfl
 have ha1:∀u∈cellsOf snC l,u.oneCell'=true:=jU jFs _
 refine jg [jG (.slice (some ⟨ga,oa,none⟩) 1 ca) 131 11 1 (snC x),jG v 131 11 l.length (cellsOf snC l)] (hw0) Tryz.func246 I (Nat.le_of_ble_eq_true I) ?_
 refine HR.sub (σ':=[(0,v),(1,.int .i64 (i:Int)),(2,.slice (some ⟨ga,oa,none⟩) 1 ca)]) ⟨I,I,I,trivial⟩ ?_
 repeat' (first|refine zh ?_|refine HL.JN (Rd.own 1 I) I I I ?_|refine HL.jAo (sz:=11) i l.length (Rd.own 1 I) I I I I (.inr ⟨_,_,_,rfl,rfl,rfl⟩) (.inl ⟨rfl,rfl⟩) hi (Nat.le_refl _) ?_|apply zb ?_ ?_|exact zc|(refine zi fun hb=>?_;try simp at hb)|intro (bk:Nat))
 refine HR.cond I (fun h=>?_) (fun h=>?_)
 ·have hil:i=l.length:=by have:=eq_of_beq h;omega
  repeat' (first|refine zh ?_|refine HL.ZN 1 I zf (Rd.own 0 I) I I I I (jF I) (by omega) (by omega) ?_|apply zb ?_ ?_|exact zc|(refine zi fun hb=>?_;try simp at hb)|intro (bk:Nat))
  intro v2
  repeat' (first|refine zh ?_|apply zb ?_ ?_|exact zc|(refine zi fun hb=>?_;try simp at hb)|intro (bk:Nat))
  refine HR.ret Tryz.func246 I [_] (fun _ _=>⟨I,trivial⟩) ?_
  refine fun w' hw=>⟨_,rfl,trivial,Ent.JV ?_ ?_ w' (hw.pick [1] I rfl)⟩
  ·rw [hlen]
  ·subst hil;rw[hcells,List.take_of_length_le (by omega),List.drop_eq_nil_of_le (by omega),List.append_nil]
 have hlt:i<l.length:=by have h:((i:Int)==(l.length:Int))=false:=h;simp at h;omega
 refine HR.row 1 I (by omega) fun g off c hv hnc hcm=>?_
 subst hv
 have hcm:c≤9223372036854775807:=hcm
 repeat' (first|refine zh ?_|refine HL.JN (Rd.own 1 I) I I I ?_|refine HL.jSD I I I ?_|apply zb ?_ ?_|exact zc|(refine zi fun hb=>?_;try simp at hb)|intro (bk:Nat))
 refine HR.cond I (fun h2=>?_) (fun h2=>?_)
 ·have hc:c<l.length+1:=by have:=of_decide_eq_true h2;omega
  repeat' (first|refine zh ?_|refine HL.jAo (sz:=11) 0 i (Rd.own 1 I) I I I I (.inl ⟨rfl,rfl⟩) (.inr ⟨_,_,_,rfl,rfl,rfl⟩) (Nat.zero_le _) hi ?_|refine HL.jCZ i (l.length+1-i) 1 I zf I I I I I (by omega) hi (by omega) hnc (by omega) (by omega) (by omega) ?_|apply zb ?_ ?_|exact zc|(refine zi fun hb=>?_;try simp at hb)|intro (bk:Nat))
  intro v2
  have hN:i+(l.length+1-i)=l.length+1:=by omega
  rw[hN]
  refine HL.row 0 I (by omega) fun g2 o2 c2 hv2 hnc2 hcm2=>?_
  subst hv2
  repeat' (first|refine zh ?_|refine HL.jAo (sz:=11) i (l.length+1) (Rd.own 0 I) I I I I (.inr ⟨_,_,_,rfl,rfl,rfl⟩) (.inl ⟨rfl,rfl⟩) (by omega) (Nat.le_refl _) ?_|refine HL.Zv i 1 0 I (Rd.own 1 I) I I I I I I (jF I) (Nat.min_eq_left (by omega)) (by decide) ?_|apply zb ?_ ?_|exact zc|(refine zi fun hb=>?_;try simp at hb)|intro (bk:Nat))
  refine HR.j4 [(0,true),(1,true),(2,true),(3,true),(4,true),(5,true),(6,true),(7,true),(8,false)] [] I I Jc (by kernel_rfl) ?_
  repeat' (first|refine HD.ev I I I ?_|refine HD.evc I I I (by first|omega|(simp;done)|(simp;omega)) ?_|refine HD.cut (sz:=11) (i+1) (l.length+1) c2 I I I I I (.inr ⟨_,_,rfl,rfl⟩) (.inl ⟨rfl,rfl,rfl⟩) (.inl ⟨rfl,rfl⟩) (by omega) hnc2 (Nat.le_refl _) ?_|refine HD.cut (sz:=11) i l.length c I I I I I (.inr ⟨_,_,rfl,rfl⟩) (.inl ⟨rfl,rfl,rfl⟩) (.inl ⟨rfl,rfl⟩) hi hnc (Nat.le_refl _) ?_|refine HD.L 0 I I I I I ?_|refine HD.L 1 I I I I I ?_|refine HD.L 2 I I I I I ?_|refine HD.L 3 I I I I I ?_|refine HD.build I I I ?_|refine HD.field I I I ?_|refine HD.skip I I I ?_|refine HD.kH I I I ?_|(refine HD.one I ?_;first|refine HL.ev I I ?_|refine HL.Zv (i+1) (l.length-i) 0 I (Rd.sub (Rd.own 2 I) hcl hi (Nat.le_refl _)) I I I I I (by rw[List.length_take,List.length_drop,hcl];omega) (fun u hu=>ha1 u (List.mem_of_mem_drop (List.mem_of_mem_take (List.mem_of_mem_take hu)))) (Nat.min_eq_left (by omega)) (by omega) ?_|(refine HL.isLoad ?_;first|refine HL.L 0 I I I I ?_|refine HL.L 1 I I I I ?_|refine HL.L 2 I I I I ?_|refine HL.L 3 I I I I ?_)|(refine HL.jL ?_;first|refine HL.S 0 I I I I I ?_|refine HL.S 1 I I I I I ?_|refine HL.S 2 I I I I I ?_|refine HL.S 3 I I I I I ?_)|(refine HL.alloc I I ?_;intro bk))|refine HL.back [] rfl rfl ?_|refine HD.nil ?_)
  repeat' (first|refine zh ?_|apply zb ?_ ?_|exact zc|(refine zi fun hb=>?_;try simp at hb)|intro (bk:Nat))
  refine HR.ret Tryz.func246 I [_] (fun _ _=>⟨I,trivial⟩) ?_
  refine fun w' hw=>⟨_,rfl,trivial,Ent.JV ?_ ?_ w' (hw.pick [0] I rfl)⟩
  ·rw [hlen]
  ·rw [hcells,← jAc (xs:=cellsOf snC l) (X:=snC x) (Z:=(List.replicate (l.length+1-i) (snC ⟨fr0,0,0⟩)).flatten) (p:=i*11) (q:=11) (s:=(l.length-i)*11) (by rw[hcl];omega) I (by rw[jV];simp;omega)]
   rw[show (i+1)*11=i*11+11 by omega]
   rfl
 ·have hc:l.length+1≤c:=by have:=of_decide_eq_false h2;omega
  repeat' (first|refine zh ?_|refine HL.jR3 (sz:=11) (l.length+1) 1 I I I I I I I (by omega) hc ?_|apply zb ?_ ?_|exact zc|(refine zi fun hb=>?_;try simp at hb)|intro (bk:Nat))
  intro junk hj
  repeat' (first|refine zh ?_|refine HL.cut (sz:=11) (i+1) (l.length+1) c I I I I (.inr ⟨_,_,rfl,rfl⟩) (.inl ⟨rfl,rfl,rfl⟩) (.inl ⟨rfl,rfl⟩) (by omega) hc (Nat.le_refl _) ?_|intro (bk:Nat))
  refine HL.jCg (zy (by omega)) ?_
  refine HL.ovl 0 1 I I (by decide) I I I (tS:=57) (tR:=4) I I (by omega) (by decide) I (by kernel_rfl) (by kernel_rfl) (by kernel_rfl) (by kernel_rfl) ?_
  repeat' (first|refine zh ?_|apply zb ?_ ?_|exact zc|(refine zi fun hb=>?_;try simp at hb)|intro (bk:Nat))
  refine HR.j4 [(0,true),(1,true),(2,true),(3,true),(4,true),(5,true),(6,true),(7,true),(8,false)] [] I I Jc (by kernel_rfl) ?_
  repeat' (first|refine HD.ev I I I ?_|refine HD.evc I I I (by first|omega|(simp;done)|(simp;omega)) ?_|refine HD.cut (sz:=11) (i+1) (l.length+1) c I I I I I (.inr ⟨_,_,rfl,rfl⟩) (.inl ⟨rfl,rfl,rfl⟩) (.inl ⟨rfl,rfl⟩) (by omega) hc (Nat.le_refl _) ?_|refine HD.cut (sz:=11) i (l.length+1) c I I I I I (.inr ⟨_,_,rfl,rfl⟩) (.inl ⟨rfl,rfl,rfl⟩) (.inl ⟨rfl,rfl⟩) (by omega) hc (Nat.le_refl _) ?_|refine HD.L 0 I I I I I ?_|refine HD.L 1 I I I I I ?_|refine HD.L 2 I I I I I ?_|refine HD.L 3 I I I I I ?_|refine HD.build I I I ?_|refine HD.field I I I ?_|refine HD.skip I I I ?_|refine HD.kH I I I ?_|(refine HD.one I ?_;first|refine HL.ev I I ?_|refine HL.Zv (i+1) (l.length-i) 1 I (Rd.sub (sz:=11) (l:=i) (h:=l.length+1) (Rd.own 1 I) (by rw[List.length_append,hcl,hj];omega) (by omega) (Nat.le_refl _)) I I I I I (by rw[List.length_take,List.length_drop,List.length_append,hcl,hj];omega) (fun u hu=>ha1 u (KF (p:=i*11) (s:=(l.length-i)*11) (u:=(l.length+1-i)*11) (by rw[hcl];omega) (by omega) hu)) (show min (l.length+1-i) (l.length+1-(i+1))=l.length-i by omega) (by omega) ?_|(refine HL.isLoad ?_;first|refine HL.L 0 I I I I ?_|refine HL.L 1 I I I I ?_|refine HL.L 2 I I I I ?_|refine HL.L 3 I I I I ?_)|(refine HL.jL ?_;first|refine HL.S 0 I I I I I ?_|refine HL.S 1 I I I I I ?_|refine HL.S 2 I I I I I ?_|refine HL.S 3 I I I I I ?_)|(refine HL.alloc I I ?_;intro bk))|refine HL.back [] rfl rfl ?_|refine HD.nil ?_)
  repeat' (first|refine zh ?_|refine HL.jAo (sz:=11) i (l.length+1) (Rd.own 1 I) I I I I (.inr ⟨_,_,_,rfl,rfl,rfl⟩) (.inl ⟨rfl,rfl⟩) (by omega) (Nat.le_refl _) ?_|refine HL.Zv i 1 1 I (Rd.own 0 I) I I I I I I (jF I) (Nat.min_eq_left (by omega)) (by decide) ?_|apply zb ?_ ?_|exact zc|(refine zi fun hb=>?_;try simp at hb)|intro (bk:Nat))
  refine HR.ret Tryz.func246 I [_] (fun _ _=>⟨I,trivial⟩) ?_
  refine fun w' hw=>⟨_,rfl,trivial,Ent.JV ?_ ?_ w' (hw.pick [1] I rfl)⟩
  ·rw [hlen]
  ·rw [hcells,← KU (xs:=cellsOf snC l) (X:=snC x) (J:=junk) (p:=i*11) (q:=11) (s:=(l.length-i)*11) (u:=(l.length+1-i)*11) (by rw[hcl];omega) I (by rw[hj];omega) (by omega)]
   rw[show (i+1)*11=i*11+11 by omega]
theorem jLx (l:List Ma) (x:Ma) (i:Nat) (v va:Value) (B0:Base) (w:World) (hw0:Sat B0 [jG va 166 10 1 (maC x),jG v 166 10 l.length (cellsOf maC l)] w) (hi:i≤l.length) (hl:l.length≤1000):
  Calls Tryz.prog 269 #[v,.int .i64 (i:Int),va] w fun e w'=>∃r:Value,e= .returned r∧True∧Sat ⟨w,Zn [jG va 166 10 1 (maC x),jG v 166 10 l.length (cellsOf maC l)]⟩ [jG r 166 10 (l.take i++x::l.drop i).length (cellsOf maC (l.take i++x::l.drop i))] w':=by
 obtain ⟨ga,oa,ca,rfl,hnca,hcma⟩:=Vw.row (Sat.vw hw0 (i:=0) I) (by decide)
 have hlen:(l.take i++x::l.drop i).length=l.length+1:=by simp;omega
 have hcl:(cellsOf maC l).length=l.length*10:=jC zU l
 have hcells:cellsOf maC (l.take i++x::l.drop i)=(cellsOf maC l).take (i*10)++maC x++(cellsOf maC l).drop (i*10):=by
  rw[JJ zU,JB zU,jP,List.append_assoc];rfl
 have ha1:∀u∈cellsOf maC l,u.oneCell'=true:=jU jGV _
 refine jg [jG (.slice (some ⟨ga,oa,none⟩) 1 ca) 166 10 1 (maC x),jG v 166 10 l.length (cellsOf maC l)] (hw0) Tryz.func269 I (Nat.le_of_ble_eq_true I) ?_
 refine HR.sub (σ':=[(0,v),(1,.int .i64 (i:Int)),(2,.slice (some ⟨ga,oa,none⟩) 1 ca)]) ⟨I,I,I,trivial⟩ ?_
 repeat' (first|refine zh ?_|refine HL.JN (Rd.own 1 I) I I I ?_|refine HL.jAo (sz:=10) i l.length (Rd.own 1 I) I I I I (.inr ⟨_,_,_,rfl,rfl,rfl⟩) (.inl ⟨rfl,rfl⟩) hi (Nat.le_refl _) ?_|apply zb ?_ ?_|exact zc|(refine zi fun hb=>?_;try simp at hb)|intro (bk:Nat))
 refine HR.cond I (fun h=>?_) (fun h=>?_)
 ·have hil:i=l.length:=by have:=eq_of_beq h;omega
  repeat' (first|refine zh ?_|refine HL.ZN 1 I ZM (Rd.own 0 I) I I I I (jF I) (by omega) (by omega) ?_|apply zb ?_ ?_|exact zc|(refine zi fun hb=>?_;try simp at hb)|intro (bk:Nat))
  intro v2
  repeat' (first|refine zh ?_|apply zb ?_ ?_|exact zc|(refine zi fun hb=>?_;try simp at hb)|intro (bk:Nat))
  refine HR.ret Tryz.func269 I [_] (fun _ _=>⟨I,trivial⟩) ?_
  refine fun w' hw=>⟨_,rfl,trivial,Ent.JV ?_ ?_ w' (hw.pick [1] I rfl)⟩
  ·rw [hlen]
  ·subst hil;rw[hcells,List.take_of_length_le (by omega),List.drop_eq_nil_of_le (by omega),List.append_nil]
 have hlt:i<l.length:=by have h:((i:Int)==(l.length:Int))=false:=h;simp at h;omega
 refine HR.row 1 I (by omega) fun g off c hv hnc hcm=>?_
 subst hv
 have hcm:c≤9223372036854775807:=hcm
 repeat' (first|refine zh ?_|refine HL.JN (Rd.own 1 I) I I I ?_|refine HL.jSD I I I ?_|apply zb ?_ ?_|exact zc|(refine zi fun hb=>?_;try simp at hb)|intro (bk:Nat))
 refine HR.cond I (fun h2=>?_) (fun h2=>?_)
 ·have hc:c<l.length+1:=by have:=of_decide_eq_true h2;omega
  repeat' (first|refine zh ?_|refine HL.jAo (sz:=10) 0 i (Rd.own 1 I) I I I I (.inl ⟨rfl,rfl⟩) (.inr ⟨_,_,_,rfl,rfl,rfl⟩) (Nat.zero_le _) hi ?_|refine HL.jCZ i (l.length+1-i) 1 I ZM I I I I I (by omega) hi (by omega) hnc (by omega) (by omega) (by omega) ?_|apply zb ?_ ?_|exact zc|(refine zi fun hb=>?_;try simp at hb)|intro (bk:Nat))
  intro v2
  have hN:i+(l.length+1-i)=l.length+1:=by omega
  rw[hN]
  refine HL.row 0 I (by omega) fun g2 o2 c2 hv2 hnc2 hcm2=>?_
  subst hv2
  repeat' (first|refine zh ?_|refine HL.jAo (sz:=10) i (l.length+1) (Rd.own 0 I) I I I I (.inr ⟨_,_,_,rfl,rfl,rfl⟩) (.inl ⟨rfl,rfl⟩) (by omega) (Nat.le_refl _) ?_|refine HL.Zv i 1 0 I (Rd.own 1 I) I I I I I I (jF I) (Nat.min_eq_left (by omega)) (by decide) ?_|apply zb ?_ ?_|exact zc|(refine zi fun hb=>?_;try simp at hb)|intro (bk:Nat))
  refine HR.j4 [(0,true),(1,true),(2,true),(3,true),(4,true),(5,true),(6,true),(7,true),(8,false)] [] I I Jc (by kernel_rfl) ?_
  repeat' (first|refine HD.ev I I I ?_|refine HD.evc I I I (by first|omega|(simp;done)|(simp;omega)) ?_|refine HD.cut (sz:=10) (i+1) (l.length+1) c2 I I I I I (.inr ⟨_,_,rfl,rfl⟩) (.inl ⟨rfl,rfl,rfl⟩) (.inl ⟨rfl,rfl⟩) (by omega) hnc2 (Nat.le_refl _) ?_|refine HD.cut (sz:=10) i l.length c I I I I I (.inr ⟨_,_,rfl,rfl⟩) (.inl ⟨rfl,rfl,rfl⟩) (.inl ⟨rfl,rfl⟩) hi hnc (Nat.le_refl _) ?_|refine HD.L 0 I I I I I ?_|refine HD.L 1 I I I I I ?_|refine HD.L 2 I I I I I ?_|refine HD.L 3 I I I I I ?_|refine HD.build I I I ?_|refine HD.field I I I ?_|refine HD.skip I I I ?_|refine HD.kH I I I ?_|(refine HD.one I ?_;first|refine HL.ev I I ?_|refine HL.Zv (i+1) (l.length-i) 0 I (Rd.sub (Rd.own 2 I) hcl hi (Nat.le_refl _)) I I I I I (by rw[List.length_take,List.length_drop,hcl];omega) (fun u hu=>ha1 u (List.mem_of_mem_drop (List.mem_of_mem_take (List.mem_of_mem_take hu)))) (Nat.min_eq_left (by omega)) (by omega) ?_|(refine HL.isLoad ?_;first|refine HL.L 0 I I I I ?_|refine HL.L 1 I I I I ?_|refine HL.L 2 I I I I ?_|refine HL.L 3 I I I I ?_)|(refine HL.jL ?_;first|refine HL.S 0 I I I I I ?_|refine HL.S 1 I I I I I ?_|refine HL.S 2 I I I I I ?_|refine HL.S 3 I I I I I ?_)|(refine HL.alloc I I ?_;intro bk))|refine HL.back [] rfl rfl ?_|refine HD.nil ?_)
  repeat' (first|refine zh ?_|apply zb ?_ ?_|exact zc|(refine zi fun hb=>?_;try simp at hb)|intro (bk:Nat))
  refine HR.ret Tryz.func269 I [_] (fun _ _=>⟨I,trivial⟩) ?_
  refine fun w' hw=>⟨_,rfl,trivial,Ent.JV ?_ ?_ w' (hw.pick [0] I rfl)⟩
  ·rw [hlen]
  ·rw [hcells,← jAc (xs:=cellsOf maC l) (X:=maC x) (Z:=(List.replicate (l.length+1-i) (maC ⟨fr0,0⟩)).flatten) (p:=i*10) (q:=10) (s:=(l.length-i)*10) (by rw[hcl];omega) I (by rw[jV];simp;omega)]
   rw[show (i+1)*10=i*10+10 by omega]
   rfl
 ·have hc:l.length+1≤c:=by have:=of_decide_eq_false h2;omega
  repeat' (first|refine zh ?_|refine HL.jR3 (sz:=10) (l.length+1) 1 I I I I I I I (by omega) hc ?_|apply zb ?_ ?_|exact zc|(refine zi fun hb=>?_;try simp at hb)|intro (bk:Nat))
  intro junk hj
  repeat' (first|refine zh ?_|refine HL.cut (sz:=10) (i+1) (l.length+1) c I I I I (.inr ⟨_,_,rfl,rfl⟩) (.inl ⟨rfl,rfl,rfl⟩) (.inl ⟨rfl,rfl⟩) (by omega) hc (Nat.le_refl _) ?_|intro (bk:Nat))
  refine HL.jCg (zy (by omega)) ?_
  refine HL.ovl 0 1 I I (by decide) I I I (tS:=58) (tR:=4) I I (by omega) (by decide) I (by kernel_rfl) (by kernel_rfl) (by kernel_rfl) (by kernel_rfl) ?_
  repeat' (first|refine zh ?_|apply zb ?_ ?_|exact zc|(refine zi fun hb=>?_;try simp at hb)|intro (bk:Nat))
  refine HR.j4 [(0,true),(1,true),(2,true),(3,true),(4,true),(5,true),(6,true),(7,true),(8,false)] [] I I Jc (by kernel_rfl) ?_
  repeat' (first|refine HD.ev I I I ?_|refine HD.evc I I I (by first|omega|(simp;done)|(simp;omega)) ?_|refine HD.cut (sz:=10) (i+1) (l.length+1) c I I I I I (.inr ⟨_,_,rfl,rfl⟩) (.inl ⟨rfl,rfl,rfl⟩) (.inl ⟨rfl,rfl⟩) (by omega) hc (Nat.le_refl _) ?_|refine HD.cut (sz:=10) i (l.length+1) c I I I I I (.inr ⟨_,_,rfl,rfl⟩) (.inl ⟨rfl,rfl,rfl⟩) (.inl ⟨rfl,rfl⟩) (by omega) hc (Nat.le_refl _) ?_|refine HD.L 0 I I I I I ?_|refine HD.L 1 I I I I I ?_|refine HD.L 2 I I I I I ?_|refine HD.L 3 I I I I I ?_|refine HD.build I I I ?_|refine HD.field I I I ?_|refine HD.skip I I I ?_|refine HD.kH I I I ?_|(refine HD.one I ?_;first|refine HL.ev I I ?_|refine HL.Zv (i+1) (l.length-i) 1 I (Rd.sub (sz:=10) (l:=i) (h:=l.length+1) (Rd.own 1 I) (by rw[List.length_append,hcl,hj];omega) (by omega) (Nat.le_refl _)) I I I I I (by rw[List.length_take,List.length_drop,List.length_append,hcl,hj];omega) (fun u hu=>ha1 u (KF (p:=i*10) (s:=(l.length-i)*10) (u:=(l.length+1-i)*10) (by rw[hcl];omega) (by omega) hu)) (show min (l.length+1-i) (l.length+1-(i+1))=l.length-i by omega) (by omega) ?_|(refine HL.isLoad ?_;first|refine HL.L 0 I I I I ?_|refine HL.L 1 I I I I ?_|refine HL.L 2 I I I I ?_|refine HL.L 3 I I I I ?_)|(refine HL.jL ?_;first|refine HL.S 0 I I I I I ?_|refine HL.S 1 I I I I I ?_|refine HL.S 2 I I I I I ?_|refine HL.S 3 I I I I I ?_)|(refine HL.alloc I I ?_;intro bk))|refine HL.back [] rfl rfl ?_|refine HD.nil ?_)
  repeat' (first|refine zh ?_|refine HL.jAo (sz:=10) i (l.length+1) (Rd.own 1 I) I I I I (.inr ⟨_,_,_,rfl,rfl,rfl⟩) (.inl ⟨rfl,rfl⟩) (by omega) (Nat.le_refl _) ?_|refine HL.Zv i 1 1 I (Rd.own 0 I) I I I I I I (jF I) (Nat.min_eq_left (by omega)) (by decide) ?_|apply zb ?_ ?_|exact zc|(refine zi fun hb=>?_;try simp at hb)|intro (bk:Nat))
  refine HR.ret Tryz.func269 I [_] (fun _ _=>⟨I,trivial⟩) ?_
  refine fun w' hw=>⟨_,rfl,trivial,Ent.JV ?_ ?_ w' (hw.pick [1] I rfl)⟩
  ·rw [hlen]
  ·rw [hcells,← KU (xs:=cellsOf maC l) (X:=maC x) (J:=junk) (p:=i*10) (q:=10) (s:=(l.length-i)*10) (u:=(l.length+1-i)*10) (by rw[hcl];omega) I (by rw[hj];omega) (by omega)]
   rw[show (i+1)*10=i*10+10 by omega]
end Go.Proofs.YtgfdoognildoeaaGreat
namespace Nd
open Go.GX Tp
theorem jM8 (f:Nat):pop f 0=0:=by cases f<;>simp[pop]
theorem jM9 {f b:Nat} (h:0<b) (hb:b<2 ^ f):∃f',f=f'+1∧b / 2<2 ^ f'∧pop f b=((b%2:Nat):Int)+pop f' (b / 2):=by
 cases f with
 |zero=>simp at hb;omega
 |succ f=>exact ⟨f,rfl,by rw[Nat.pow_succ]at hb;omega,by simp[pop];omega⟩
theorem jHH:∀f b,0≤pop f b∧pop f b≤f
 |0,b=>by simp[pop]
 |f+1,b=>by
  have:=jHH f (b / 2)
  unfold pop
  split<;>omega
theorem jPy (b:Int):0≤ones b∧ones b≤64:=by
 have:=jHH 64 b.toNat
 unfold ones;omega
theorem jFT {a b:Int} (ha:0≤a) (hb:0<b):cdiv a b=if a%b≠0 then a / b+1 else a / b:=by
 have h1:=Int.mul_ediv_add_emod a b
 have h2:=Int.emod_nonneg a (show b≠0 by omega)
 have h3:=Int.emod_lt_of_pos a hb
 unfold cdiv
 split
 ·rename_i h
  have e:-a=(b-a%b)+b*(-(a / b)-1):=by rw[Int.mul_sub,Int.mul_neg,Int.mul_one];omega
  have e2:(-a) / b=(b-a%b) / b+(-(a / b)-1):=by rw[e,Int.add_mul_ediv_left _ _ (show b≠0 by omega)]
  have z:(b-a%b) / b=0:=Int.ediv_eq_zero_of_lt (by omega) (by omega)
  rw[z]at e2
  omega
 ·rename_i h
  have e:-a=0+b*(-(a / b)):=by rw[Int.mul_neg];omega
  have e2:(-a) / b=0 / b+(-(a / b)):=by rw[e,Int.add_mul_ediv_left _ _ (show b≠0 by omega)]
  rw[Int.zero_ediv]at e2
  omega
def li0:Li:=⟨0,0,0⟩
def ro0:Ro:=⟨0,0,0,0⟩
def jLn (l:List Li) (n:Int):Bool:=match l[zx l n]? with
 |some x=>x.nd==n
 |none=>false
def jPE (l:List Ro) (n:Int):Bool:=match l[rpos l n]? with
 |some x=>x.dest==n
 |none=>false
theorem jB7 {l:List Li} {n:Int} (h:jLn l n=true):∃x,l[zx l n]? =some x∧x.nd=n:=by
 unfold jLn at h
 cases hx:l[zx l n]? with
 |none=>rw[hx]at h;cases h
 |some x=>rw[hx]at h;exact ⟨x,rfl,by simpa using h⟩
theorem jA3 {l:List Li} {n:Int} (h:jLn l n=false):∀x,l[zx l n]? =some x→¬x.nd=n:=by
 intro x hx
 unfold jLn at h
 rw[hx]at h;simpa using h
theorem jP4 {l:List Li} {n:Int} {k:Nat} (hk:k≤l.length) (h1:∀j a,j<k→l[j]? =some a→a.nd<n) (h2:∀a,l[k]? =some a→n≤a.nd):zx l n=k:=jKG hk h1 h2
theorem jPh {l:List Ro} {n:Int} {k:Nat} (hk:k≤l.length) (h1:∀j a,j<k→l[j]? =some a→a.dest<n) (h2:∀a,l[k]? =some a→n≤a.dest):rpos l n=k:=jKG hk h1 h2
def succ (l:List Li) (n:Int):Int×Int:=match lat (lval l) n with
 |some x=>(ones x.bi,x.ct)
 |none=>(0,0)
theorem jDF (l:List Li) (n:Int):jB9 l n=if (succ l n).1=0 then 255 else cdiv (10*(succ l n).2) (succ l n).1:=by
 unfold jB9 succ
 cases lat (lval l) n<;>simp
theorem jD3 {l:List Li} {x:Li} (h:x∈lval l):ze x=false:=(Ko (KS l)).2.1 x h
theorem jP7 {l:List Li} {n:Int} {x:Li} (h:lat l n=some x):x∈l∧x.nd=n:=⟨List.mem_of_find?_eq_some h,by simpa using List.find?_some h⟩
end Nd
namespace Nd
open Go.GX Tp
theorem jH7 {l:List Ro} {k:Nat} {x:Ro} (hx:l[k]? =some x) (h:zR x=true):jCd l k=2:=by unfold jCd;rw[hx];simp only;rw[if_pos h]
theorem jH8 {l:List Ro} {k:Nat} {x y:Ro} (hx:l[k]? =some x) (h:zR x=false) (h0:0<k) (hy:l[k-1]? =some y) (hle:x.dest≤y.dest):jCd l k=14:=by
 unfold jCd;rw[hx];simp only;rw[if_neg (by rw[h];decide),if_pos ⟨h0,by rw[hy];exact decide_eq_true hle⟩]
theorem jPo {l:List Ro} {k:Nat} {x:Ro} (hx:l[k]? =some x) (h:zR x=false) (h2:∀y,0<k→l[k-1]? =some y→¬x.dest≤y.dest):jCd l k=0:=by
 unfold jCd;rw[hx];simp only
 rw[if_neg (by rw[h];decide),if_neg]
 rintro ⟨h0,hh⟩
 cases hy:l[k-1]? with
 |none=>rw[hy]at hh;cases hh
 |some y=>rw[hy]at hh;exact h2 y h0 hy (of_decide_eq_true hh)
theorem jC3 {t:List Ro} {self:Int} {k:Nat} (h:t.length≤24) (h0:okN self=true) (h1:jc (jCd t) k=0) (h2:jCd t k≠0) (hk:k<t.length):jAR t self=jCd t k:=by
 have e:=KX h1 h2 hk
 unfold jAR;rw[if_neg (by omega),if_neg (by rw[h0];decide),if_pos (by rw[e];exact h2),e]
theorem jQ8 {t:List Ro} {self:Int} (h:t.length≤24) (h0:okN self=true) (h1:jc (jCd t) t.length=0) (h2:(t.any fun r=>r.dest==self)=false):jAR t self=8:=by
 unfold jAR;rw[if_neg (by omega),if_neg (by rw[h0];decide),if_neg (by simp[h1]),if_pos h2]
theorem jQ9 {t:List Ro} {self:Int} (h:t.length≤24) (h0:okN self=true) (h1:jc (jCd t) t.length=0) (h2:(t.any fun r=>r.dest==self)=true) (h3:t.any (KE self)=true):jAR t self=4:=by
 unfold jAR;rw[if_neg (by omega),if_neg (by rw[h0];decide),if_neg (by simp[h1]),if_neg (by rw[h2];decide),if_pos h3]
theorem jRA {t:List Ro} {self:Int} (h:t.length≤24) (h0:okN self=true) (h1:jc (jCd t) t.length=0) (h2:(t.any fun r=>r.dest==self)=true) (h3:t.any (KE self)=false):jAR t self=0:=by
 unfold jAR;rw[if_neg (by omega),if_neg (by rw[h0];decide),if_neg (by simp[h1]),if_neg (by rw[h2];decide),if_neg (by rw[h3];decide)]
theorem jMH {t:List Ro} (h:jc (jCd t) t.length=0):(∀ r∈t,zR r=false)∧Asc (·.dest) t:=by
 have h3:=zo h
 refine ⟨fun x hx=>?_,jFb fun i a b ha hb=>?_⟩
 ·obtain ⟨i,hi⟩:=List.getElem?_of_mem hx
  exact (jAS hi (h3 i (List.getElem?_eq_some_iff.1 hi).1)).1
 ·exact (jAS hb (h3 (i+1) (List.getElem?_eq_some_iff.1 hb).1)).2 a (by omega) (by simpa using ha)
def At (t:List Ro) (self:Int) (k:Nat) (a:Int):Prop:=(a= -1∧∀j r,j<k→t[j]? =some r→r.dest≠self)∨∃i:Nat,i<k∧a=i∧∃r,t[i]? =some r∧r.dest=self
theorem At.jMp {t:List Ro} {self:Int} {k:Nat} {r:Ro} (hr:t[k]? =some r) (h:r.dest=self):At t self (k+1) k:= .inr ⟨k,by omega,rfl,r,hr,h⟩
theorem At.jPe {t:List Ro} {self:Int} {k:Nat} {a:Int} {r:Ro} (hA:At t self k a) (hr:t[k]? =some r) (h:r.dest≠self):At t self (k+1) a:=by
 rcases hA with ⟨h1,h2⟩|⟨i,h1,h2,h3⟩
 ·refine .inl ⟨h1,fun j x hj hx=>?_⟩
  by_cases hjk:j=k
  ·subst hjk;rw[hr]at hx;cases hx;exact h
  ·exact h2 j x (by omega) hx
 ·exact .inr ⟨i,by omega,h2,h3⟩
theorem At.neg {t:List Ro} {self:Int} {a:Int} (h:At t self t.length a) (ha:a<0):(t.any fun r=>r.dest==self)=false:=by
 rcases h with ⟨_,h2⟩|⟨i,_,h2,_⟩
 ·rw [← Bool.not_eq_true,List.any_eq_true]
  rintro ⟨r,hr,he⟩
  obtain ⟨j,hj⟩:=List.getElem?_of_mem hr
  exact h2 j r (List.getElem?_eq_some_iff.1 hj).1 hj (by simpa using he)
 ·omega
theorem At.pos {t:List Ro} {self:Int} {a:Int} (h:At t self t.length a) (ha:¬a<0):∃i:Nat,a=i∧i<t.length∧∃r,t[i]? =some r∧r.dest=self:=by
 rcases h with ⟨h1,_⟩|⟨i,h1,h2,h3⟩
 ·omega
 ·exact ⟨i,h2,h1,h3⟩
theorem jJ7 {t:List Ro} {self:Int} {i:Nat} {r:Ro} (hr:t[i]? =some r) (h:r.dest=self):(t.any fun r=>r.dest==self)=true:=List.any_eq_true.2 ⟨r,List.mem_of_getElem? hr,by simpa using h⟩
theorem jPx {t:List Ro} {self:Int} (ha:Asc (·.dest) t) {i k:Nat} {r x:Ro} (hi:t[i]? =some r) (hd:r.dest=self) (hx:t[k]? =some x):x.dest=self↔k=i:=by
 constructor
 ·intro h
  rcases Nat.lt_trichotomy k i with hlt|he|hlt
  ·have:=ha.lt hlt hx hi;omega
  ·exact he
  ·have:=ha.lt hlt hi hx;omega
 ·intro h;subst h;rw[hi]at hx;cases hx;exact hd
theorem jN7 {p:Ro→Bool} {t:List Ro} {k:Nat} {x:Ro} (hx:t[k]? =some x) (h:(t.take k).any p=false) (h2:p x=false):(t.take (k+1)).any p=false:=by
 rw[jN hx,List.any_append,h];simp[h2]
theorem jSE {p:Ro→Bool} {t:List Ro} {k:Nat} {x:Ro} (hx:t[k]? =some x) (h2:p x=true):t.any p=true:=List.any_eq_true.2 ⟨x,List.mem_of_getElem? hx,h2⟩
theorem jBt {r:Ro} (h:zR r=false):usable r=true∧okN r.dest=true∧0≤r.sq∧r.sq≤65535∧0≤r.cost∧r.cost≤255:=by
 have hu:usable r=true:=by
  simp only[zR,Bool.or_eq_false_iff,Bool.not_eq_false']at h
  exact h.1.1
 refine ⟨hu,?_⟩
 simp only[usable,fin,Bool.and_eq_true,Bool.or_eq_true,Bool.not_eq_true',Bool.or_eq_false_iff,decide_eq_false_iff_not,decide_eq_true_eq,beq_iff_eq]at hu
 exact ⟨hu.1.1,by omega,by omega,by omega,by omega⟩
theorem Zx {r:Ro} (h:usable r=true):okN r.dest=true∧0≤r.sq∧r.sq≤65535∧0≤r.cost∧r.cost≤255:=by
 simp only[usable,fin,Bool.and_eq_true,Bool.or_eq_true,Bool.not_eq_true',Bool.or_eq_false_iff,decide_eq_false_iff_not,decide_eq_true_eq,beq_iff_eq]at h
 exact ⟨h.1.1,by omega,by omega,by omega,by omega⟩
theorem zT (n:Int):okN n=true↔0≤n∧n≤250:=by simp[okN]
end Nd
namespace Nd
open Go.GX Tp
theorem jKv {t:List Ro} {self:Int} {x:Ro} (hx:(Kg t self)[rpos (Kg t self) (lim self)]? =some x) (hd:x.dest=lim self):jCj t self=if x.sq<65534 then (Kg t self).set (rpos (Kg t self) (lim self)) ⟨x.dest,x.sq+2,x.cost,x.nx⟩else Kg t self:=by
 have:=((Zh t self).asc.jHG hx hd).2
 unfold jCj rat;rw[this]
theorem jMy (t:List Ro) (self:Int):∃x,(Kg t self)[rpos (Kg t self) (lim self)]? =some x∧x.dest=lim self∧rat (Kg t self) (lim self)=some x:=by
 obtain ⟨x,h1,h2,_⟩:=(Zh t self).get
 exact ⟨x,((Zh t self).asc.pos h1).1,h2,h1⟩
theorem jKo {t:List Ro} {d:Int} {x:Ro} (hx:t[rpos t d]? =some x) (hd:x.dest=d):jPE t d=true:=by unfold jPE;rw[hx];simpa using hd
theorem jG6 {t:List Ro} {self:Int}:∀r∈Kg t self,okN r.dest=true:=fun r hr=>(jBt ((Zh t self).rng r hr)).2.1
theorem jKn {t:List Ro} {fr:Int} {r:Ro} (h:∀x∈t,okN x.dest=true) (hr:okN r.dest=true):∀x∈JZ t fr r,okN x.dest=true:=by
 intro x hx
 unfold JZ at hx
 cases ho:rat t r.dest<;>rw[ho]at hx<;>simp only at hx
 rotate_left
 ·have key:∀b:Bool,x∈(if b=true then t.set (rpos t r.dest) r else t)→okN x.dest=true:=by
   intro b hb
   cases b
   ·exact h x hb
   ·rcases List.mem_or_eq_of_mem_set hb with hb|hb
    ·exact h x hb
    ·subst hb;exact hr
  exact key _ hx
 ·split at hx
  ·rcases List.mem_append.1 hx with hx|hx
   ·exact h x (List.mem_of_mem_take hx)
   ·rcases List.mem_cons.1 hx with hx|hx
    ·subst hx;exact hr
    ·exact h x (List.mem_of_mem_drop hx)
  ·exact h x hx
theorem jMz {t:List Ro} {self fr cost:Int} {a:Ro} (h:∀x∈t,okN x.dest=true):∀x∈ZA self fr cost t a,okN x.dest=true:=by
 unfold ZA
 split
 ·exact h
 ·rename_i hc
  refine jKn h ?_
  rw[jEn]
  have:usable a=true:=by
   cases hu:usable a with
   |true=>rfl
   |false=>exact absurd (.inl hu) hc
  exact (Zx this).1
theorem jGz {self fr cost:Int}:∀ {adv t:List Ro},(∀ x∈t,okN x.dest=true)→∀x∈adv.foldl (ZA self fr cost) t,okN x.dest=true
 |[],t,h=>h
 |a::adv,t,h=>jGz (adv:=adv) (jMz h)
def jGo (self next:Int) (r:Ro):Ro:=if okN next=true∧r.nx=next∧r.dest≠lim self then ⟨r.dest,r.sq+1,255,255⟩else r
theorem jDk (t:List Ro) (self next:Int):jH6 t self next=(Kg t self).map (jGo self next):=rfl
theorem jBb {α:Type} (f:α→α) {l:List α} {k:Nat} {x:α} (hx:l[k]? =some x):((l.take k).map f++l.drop k).set k (f x)=(l.take (k+1)).map f++l.drop (k+1):=by
 have hl:((l.take k).map f).length=k:=by
  have:=(List.getElem?_eq_some_iff.1 hx).1
  simp;omega
 rw[kZ hx,Nd.set_mid hl,jN hx];simp
theorem jAZ {α:Type} (f:α→α) {l:List α} {k:Nat} {x:α} (hx:l[k]? =some x) (hf:f x=x):(l.take k).map f++l.drop k=(l.take (k+1)).map f++l.drop (k+1):=by
 rw[kZ hx,jN hx];simp[hf]
theorem Zk {α:Type} (f:α→α) {l:List α} {k:Nat} {x:α} (hx:l[k]? =some x):((l.take k).map f++l.drop k)[k]? =some x:=by
 have hl:((l.take k).map f).length=k:=by
  have:=(List.getElem?_eq_some_iff.1 hx).1
  simp;omega
 rw[kZ hx];exact jGe hl
theorem jBG {α:Type} (f:α→α) (l:List α) (k:Nat):((l.take k).map f++l.drop k).length=l.length:=by simp;omega
end Nd
namespace Go.GX
open Go.RowKit
section
variable {P : Program} {f : FuncId} {N : Nat} {k : List Item} {σ : Store} {B : Base} {H : List Chunk} {R : Ending → World → Prop} {ops l : List Oper} {o : Oper} {K : Act → World → Prop}
variable {d : Nat} {d' : Option Nat} {ty : TypeId} {pos : String} {af : Array Edge} {gd : Option (Nat × Bool)} {u v : Value}
theorem HL.copyZ {t t' e sz:TypeId} {x y:Operand} {ad as1:Option Addr} {dl dc sl sc:Nat} (hs:stat N ops ⟨some d,.call ⟨.builtin .copy,#[x,y],#[t,t']⟩,ty,pos,af,gd⟩ σ=true) (hu:P.underlying t=some (.slice e)) (hS:(P.info? e).map (·.size)=some sz)
  (hx:lookO σ x=some (.slice ad dl dc)) (hy:lookO σ y=some (.slice as1 sl sc)) (hm:min sl dl=0)
  (h:HL P N ops l ((d,.int .i64 0)::σ) B H K):HL P N ops (⟨some d,.call ⟨.builtin .copy,#[x,y],#[t,t']⟩,ty,pos,af,gd⟩::l) σ B H K:=by
 refine HL.rd hs (fun w _=>?_) h
 cases hq:P.info? e with
 |none=>rw[hq]at hS;cases hS
 |some ti=>
  have hm':Nat.min sl dl=0:=hm
  cases ad<;>cases as1<;>simp[execOp,resolve,jA hx,jA hy,invoke,builtin,Builtin.copy_,run_underlying hu,Builtin.lenOf,Builtin.firstCells,sizeOf,typeInfo,hq,hm',loadCells,loadCellsFrom,storeCells,goInt]
theorem subV0 (sz:Nat) (ad:Option Addr) (n c:Nat):kF sz (.slice ad n c) 0 n= .slice ad n c:=by
 simp only[kF]
 split<;>cases ad<;>simp[Addr.add]
theorem HL.copyV {t t' e sz:TypeId} {x y:Operand} {n m2:Nat} {xs ns:List Value} {v2:Value} (m:Nat) (i:Nat) (hi:zH H i=some (jG v e sz n xs)) (hv2:Rd B H v2 ns m2) (hs:stat N ops ⟨some d,.call ⟨.builtin .copy,#[x,y],#[t,t']⟩,ty,pos,af,gd⟩ σ=true)
  (hu:P.underlying t=some (.slice e)) (hS:(P.info? e).map (·.size)=some sz) (hx:lookO σ x=some v) (hy:lookO σ y=some v2) (hl:ns.length=m2*sz) (h1:∀u∈ns.take (m*sz),u.oneCell'=true) (hm:min m2 n=m)
  (h:HL P N ops l ((d,.int .i64 (m:Int))::σ) B (jAp H i (jG v e sz n (ns.take (m*sz)++xs.drop (m*sz)))) K):HL P N ops (⟨some d,.call ⟨.builtin .copy,#[x,y],#[t,t']⟩,ty,pos,af,gd⟩::l) σ B H K:=by
 refine HL.know (Q:=(∃ a c,v= .slice a n c)∧∃a c,v2= .slice a m2 c) (fun w hw=>⟨(Sat.vw hw hi).shape,let ⟨a,c,h,_⟩:=(hv2.at hw).2;⟨a,c,h⟩⟩) ?_
 rintro ⟨⟨a,c,rfl⟩,a2,c2,rfl⟩
 by_cases h0:0<m
 ·refine HL.Zv 0 m i hi hv2 hs hu hS (by rw[hx,subV0]) hy hl h1 (by rw[Nat.sub_zero];exact hm) h0 ?_
  simpa using h
 ·have hm0:m=0:=by omega
  subst hm0
  refine HL.copyZ hs hu hS hx hy (by rw[hm]) ?_
  refine HL.ent (fun w hw=>?_) h
  refine Sat.as (c':=jG (.slice a n c) e sz n (ns.take (0*sz)++xs.drop (0*sz))) i hw hi (fun h=>?_) (fun _ h=>h)
  simpa using h
theorem zW {α:Type} {l:List α} {k:Nat} (h:k<l.length) (d:α):l[k]? =some (l.getD k d):=by
 rw[List.getD_eq_getElem?_getD,List.getElem?_eq_getElem h];rfl
end
end Go.GX
namespace Go.Proofs.YtgfdoognildoeaaGreat
open Go.GX Go.RowKit
attribute [local irreducible] Calls Run jZ jf JK HR HL HD jT jG JY Rd jK jY
open Nd
theorem jRz:IsFn Tryz.prog 130:=⟨⟨_,_,Tryz.func130,rfl,by decide⟩⟩
theorem jQW:IsFn Tryz.prog 124:=⟨⟨_,_,Tryz.func124,rfl,by decide⟩⟩
theorem fn50:IsFn Tryz.prog 50:=⟨⟨_,_,Tryz.func50,rfl,by decide⟩⟩
theorem jQL:IsFn Tryz.prog 263:=⟨⟨_,_,Tryz.func263,rfl,by decide⟩⟩
theorem jRf:IsFn Tryz.prog 296:=⟨⟨_,_,Tryz.func296,rfl,by decide⟩⟩
theorem fn295:IsFn Tryz.prog 295:=⟨⟨_,_,Tryz.func295,rfl,by decide⟩⟩
theorem jH1 {t:List Ro} {self:Int} (ha:Asc (·.dest) t) {i k:Nat} {r x:Ro} (hi:t[i]? =some r) (hd:r.dest=self) (hx:t[k]? =some x):
  ((((k:Int)==(i:Int))&&!((x.dest==self)&&((x.sq==x.sq)&&((x.cost==0)&&((x.nx==self)&&true)))))||(((k:Int) != (i:Int))&&((x.cost==0)||(x.nx==self))))=KE self x:=by
 have hown:=jPx ha hi hd hx
 unfold KE
 by_cases hk:k=i
 ·have hxd:=hown.2 hk
  have e1:((k:Int)==(i:Int))=true:=by rw[hk];simp
  have e2:((k:Int) != (i:Int))=false:=by rw[hk];simp
  have e3:(x.dest==self)=true:=by simpa using hxd
  rw[if_pos hxd,e1,e2,e3]
  simp
 ·have hxd:¬x.dest=self:=fun h=>hk (hown.1 h)
  have e1:((k:Int)==(i:Int))=false:=by simp;omega
  have e2:((k:Int) != (i:Int))=true:=by simp;omega
  rw[if_neg hxd,e1,e2]
  simp
theorem jC4 (t:List Ro) (self:Int) (v:Value) (w:World) (hv:Sl w v (cellsOf roC t) t.length) (hl:t.length≤1000):
  Calls Tryz.prog 130 #[v,.int .i64 self] w fun e w'=>e= .returned (.int .i64 (jAR t self))∧Below w.heap.size w w':=by
 refine jD Tryz.func130 I (Nat.le_of_ble_eq_true I) ?_
 refine HR.sub (σ':=[(0,v),(1,.int .i64 self)]) ⟨I,I,trivial⟩ ?_
 repeat' (first|refine zh ?_|refine HL.JN (Rd.arg hv) I I I ?_|apply zb ?_ ?_|exact zc|(refine zi fun hb=>?_;try simp at hb)|intro (bk:Nat))
 refine HR.cond I (fun h=>?_) (fun h=>?_)
 ·have h:t.length>24:=by have:=of_decide_eq_true h;omega
  repeat' (first|refine zh ?_|apply zb ?_ ?_|exact zc|(refine zi fun hb=>?_;try simp at hb)|intro (bk:Nat))
  refine HR.ret Tryz.func130 I [_] (fun _ _=>⟨I,trivial⟩) ?_
  exact fun w' hw=>⟨by rw[jAR,if_pos h];rfl,hw.jE⟩
 have h:t.length≤24:=by have:=of_decide_eq_false h;omega
 repeat' (first|refine zh ?_|refine HL.jR jME I I (fun w _=>Z4 self w) ?_|apply zb ?_ ?_|exact zc|(refine zi fun hb=>?_;try simp at hb)|intro (bk:Nat))
 refine HR.cond I (fun h0=>?_) (fun h0=>?_)
 ·have h0:Tp.okN self=false:=by simpa using h0
  repeat' (first|refine zh ?_|apply zb ?_ ?_|exact zc|(refine zi fun hb=>?_;try simp at hb)|intro (bk:Nat))
  refine HR.ret Tryz.func130 I [_] (fun _ _=>⟨I,trivial⟩) ?_
  exact fun w' hw=>⟨by rw[jAR,if_neg (by omega),if_pos h0];rfl,hw.jE⟩
 have h0:Tp.okN self=true:=by simpa using h0
 repeat' (first|refine zh ?_|refine HL.JN (Rd.arg hv) I I I ?_|apply zb ?_ ?_|exact zc|(refine zi fun hb=>?_;try simp at hb)|intro (bk:Nat))
 refine HR.jA2 (α:=Nat) (β:=Int) (fun k a=>k≤t.length∧jc (jCd t) k=0∧At t self k a) (fun k a=>[(0,v),(1,.int .i64 self),(5,.int .i64 a),(16,v),(17,.int .i64 (t.length:Int)),(18,.int .i64 (k:Int))]) (fun _ _=>[]) (fun k _=>t.length-k) 0 (-1) ⟨Nat.zero_le _,rfl,.inl ⟨rfl,fun j r hj=>by omega⟩⟩ ⟨I,I,I,I,I,I,trivial⟩ Ent.refl ?_
 rintro k a ⟨hk,hg,hA⟩ ih
 repeat' (first|refine zh ?_|apply zb ?_ ?_|exact zc|(refine zi fun hb=>?_;try simp at hb)|intro (bk:Nat))
 refine HR.cond I (fun h2=>?_) (fun h2=>?_)
 ·have hlt:k<t.length:=by have:=of_decide_eq_true h2;omega
  obtain ⟨x,hx⟩:=jJ hlt
  repeat' (first|refine zh ?_|refine HL.JA (Rd.arg hv) Je k I I I I hlt ?_|refine HL.JW (Rd.arg hv) I I I I (by simp) I (jH jq hx) ?_|refine HL.jR jNq I I (fun w _=>Kc _ w) ?_|refine HL.jR Ky I I (fun w _=>Ji _ w) ?_|refine HL.jR jME I I (fun w _=>Z4 _ w) ?_|apply zb ?_ ?_|exact zc|(refine zi fun hb=>?_;try simp at hb)|intro (bk:Nat))
  refine HR.cond I (fun h3=>?_) (fun h3=>?_)
  ·have h3:zR x=true:=h3
   repeat' (first|refine zh ?_|apply zb ?_ ?_|exact zc|(refine zi fun hb=>?_;try simp at hb)|intro (bk:Nat))
   refine HR.ret Tryz.func130 I [_] (fun _ _=>⟨I,trivial⟩) ?_
   refine fun w' hw=>⟨?_,hw.jE⟩
   have e:=jH7 hx h3
   rw[jC3 h h0 hg (by rw[e];decide) hlt,e];rfl
  have h3:zR x=false:=h3
  obtain ⟨y,hy⟩:=jJ (l:=t) (j:=k-1) (by omega)
  repeat' (first|refine zh ?_|apply zb ?_ ?_|exact zc|(refine zi fun hb=>?_;try simp at hb)|intro (bk:Nat))
  refine HR.JF Jc (by kernel_rfl) ?_
  repeat' (first|refine zq ?_|refine HQ.JA (Rd.arg hv) Je (k-1) I I I (by omega) (by omega) ?_|refine HQ.Jt (Rd.arg hv) (by rw[jC jq];omega) I I I I I I ?_|refine HQ.ji (Rd.arg hv) I I I I (jQ jq hy (i:=0) I) ?_|apply zb ?_ ?_|exact zc|(refine zi fun hb=>?_;try simp at hb))
  refine HR.cond I (fun h4=>?_) (fun h4=>?_)
  ·have h4:(decide ((k:Int)>0)&&decide (x.dest≤y.dest))=true:=h4
   simp only[Bool.and_eq_true,decide_eq_true_eq]at h4
   repeat' (first|refine zh ?_|apply zb ?_ ?_|exact zc|(refine zi fun hb=>?_;try simp at hb)|intro (bk:Nat))
   refine HR.ret Tryz.func130 I [_] (fun _ _=>⟨I,trivial⟩) ?_
   refine fun w' hw=>⟨?_,hw.jE⟩
   have e:=jH8 hx h3 (by omega) hy h4.2
   rw[jC3 h h0 hg (by rw[e];decide) hlt,e];rfl
  have h4:(decide ((k:Int)>0)&&decide (x.dest≤y.dest))=false:=h4
  have hg2:jc (jCd t) (k+1)=0:=Zd hg (jPo hx h3 fun y' h0 hy' hle=>by
   rw[hy]at hy'
   cases hy'
   rw[decide_eq_true (show (k:Int)>0 by omega),decide_eq_true hle]at h4
   cases h4)
  repeat' (first|refine zh ?_|apply zb ?_ ?_|exact zc|(refine zi fun hb=>?_;try simp at hb)|intro (bk:Nat))
  refine HR.cond I (fun h5=>?_) (fun h5=>?_)
  ·have h5:x.dest=self:=eq_of_beq h5
   repeat' (first|refine zh ?_|apply zb ?_ ?_|exact zc|(refine zi fun hb=>?_;try simp at hb)|intro (bk:Nat))
   exact ih (k+1) k _ _ ⟨hlt,hg2,At.jMp hx h5⟩ (by omega) ⟨I,I,I,I,I,I,trivial⟩ (Ent.pick [] I I)
  ·have h5:¬x.dest=self:=by simpa using h5
   repeat' (first|refine zh ?_|apply zb ?_ ?_|exact zc|(refine zi fun hb=>?_;try simp at hb)|intro (bk:Nat))
   exact ih (k+1) a _ _ ⟨hlt,hg2,hA.jPe hx h5⟩ (by omega) ⟨I,I,I,I,I,I,trivial⟩ (Ent.pick [] I I)
 have hke:k=t.length:=by have:=of_decide_eq_false h2;omega
 subst hke
 obtain ⟨hrr,hasc⟩:=jMH hg
 repeat' (first|refine zh ?_|apply zb ?_ ?_|exact zc|(refine zi fun hb=>?_;try simp at hb)|intro (bk:Nat))
 refine HR.cond I (fun h6=>?_) (fun h6=>?_)
 ·have h6:a<0:=of_decide_eq_true h6
  repeat' (first|refine zh ?_|apply zb ?_ ?_|exact zc|(refine zi fun hb=>?_;try simp at hb)|intro (bk:Nat))
  refine HR.ret Tryz.func130 I [_] (fun _ _=>⟨I,trivial⟩) ?_
  exact fun w' hw=>⟨by rw[jQ8 h h0 hg (hA.neg h6)];rfl,hw.jE⟩
 have h6:¬a<0:=of_decide_eq_false h6
 obtain ⟨i,rfl,hil,r,hr,hrd⟩:=hA.pos h6
 have hany:=jJ7 hr hrd
 repeat' (first|refine zh ?_|refine HL.JN (Rd.arg hv) I I I ?_|apply zb ?_ ?_|exact zc|(refine zi fun hb=>?_;try simp at hb)|intro (bk:Nat))
 refine HR.loop (ι:=Nat) (fun k=>k≤t.length∧(t.take k).any (KE self)=false) (fun k=>[(1,.int .i64 self),(5,.int .i64 (i:Int)),(67,v),(68,.int .i64 (t.length:Int)),(69,.int .i64 (k:Int))]) (fun _=>[]) (fun k=>t.length-k) 0 ⟨Nat.zero_le _,rfl⟩ ⟨I,I,I,I,I,trivial⟩ Ent.refl ?_
 rintro k ⟨hk,hf⟩ ih
 repeat' (first|refine zh ?_|apply zb ?_ ?_|exact zc|(refine zi fun hb=>?_;try simp at hb)|intro (bk:Nat))
 refine HR.cond I (fun h2=>?_) (fun h2=>?_)
 ·have hlt:k<t.length:=by have:=of_decide_eq_true h2;omega
  obtain ⟨x,hx⟩:=jJ hlt
  have hfc:=jH1 hasc hr hrd hx
  repeat' (first|refine zh ?_|refine HL.JA (Rd.arg hv) Je k I I I I hlt ?_|refine HL.JW (Rd.arg hv) I I I I (by simp) I (jH jq hx) ?_|intro (bk:Nat))
  refine HR.JF Jc (by kernel_rfl) ?_
  repeat' (first|refine zq ?_|refine HQ.jR jRu I I (fun w _=>jG8 self x.sq w) ?_|refine jf.neS I (by kernel_rfl) (by kernel_rfl) I I I ?_|apply zb ?_ ?_|exact zc|(refine zi fun hb=>?_;try simp at hb))
  refine HR.cond I (fun h3=>?_) (fun h3=>?_)
  ·have h3:KE self x=true:=by rw[← hfc];exact h3
   repeat' (first|refine zh ?_|apply zb ?_ ?_|exact zc|(refine zi fun hb=>?_;try simp at hb)|intro (bk:Nat))
   refine HR.ret Tryz.func130 I [_] (fun _ _=>⟨I,trivial⟩) ?_
   exact fun w' hw=>⟨by rw[jQ9 h h0 hg hany (jSE hx h3)];rfl,hw.jE⟩
  ·have h3:KE self x=false:=by rw[← hfc];exact h3
   repeat' (first|refine zh ?_|apply zb ?_ ?_|exact zc|(refine zi fun hb=>?_;try simp at hb)|intro (bk:Nat))
   exact ih (k+1) _ _ ⟨hlt,jN7 hx hf h3⟩ (by omega) ⟨I,I,I,I,I,trivial⟩ (Ent.pick [] I I)
 ·have hke:k=t.length:=by have:=of_decide_eq_false h2;omega
  subst hke
  rw[List.take_length]at hf
  repeat' (first|refine zh ?_|apply zb ?_ ?_|exact zc|(refine zi fun hb=>?_;try simp at hb)|intro (bk:Nat))
  refine HR.ret Tryz.func130 I [_] (fun _ _=>⟨I,trivial⟩) ?_
  exact fun w' hw=>⟨by rw[jRA h h0 hg hany hf];rfl,hw.jE⟩
theorem jDd (t:List Ro) (self:Int) (v:Value) (w:World) (hv:Sl w v (cellsOf roC t) t.length) (hl:t.length≤1000):
  Calls Tryz.prog 124 #[v,.int .i64 (lim self)] w fun e w'=>∃v',e= .returned v'∧Sat (base w) [jG v' 94 4 (Kg t self).length (cellsOf roC (Kg t self))] w':=by
 refine jD Tryz.func124 I (Nat.le_of_ble_eq_true I) ?_
 refine HR.sub (σ':=[(0,v),(1,.int .i64 (lim self))]) ⟨I,I,trivial⟩ ?_
 repeat' (first|refine zh ?_|refine HL.jR jRz I I (fun w hw=>jC4 t (lim self) v w ((Rd.arg hv).at hw) hl) ?_|apply zb ?_ ?_|exact zc|(refine zi fun hb=>?_;try simp at hb)|intro (bk:Nat))
 refine HR.cond I (fun h=>?_) (fun h=>?_)
 ·have h:¬jAR t (lim self)=0:=by simpa using h
  repeat' (first|refine zh ?_|refine HL.JQ fn69 I I (fun w _=>jDh (lim self) w) ?_|intro (bk:Nat))
  intro v1
  repeat' (first|refine zh ?_|intro (bk:Nat))
  refine HR.ret Tryz.func124 I [_] (fun _ _=>⟨I,trivial⟩) ?_
  refine fun w' hw=>⟨v1,rfl,?_⟩
  have:Kg t self=jKm (lim self):=by unfold Kg;rw[if_neg h];unfold jKm;rw[jB6 (jHU self)]
  rw[this];exact hw
 ·have h:jAR t (lim self)=0:=by simpa using h
  repeat' (first|refine zh ?_|refine HL.JQ fn61 I I (fun w hw=>ku t v w ((Rd.arg hv).at hw) hl) ?_|intro (bk:Nat))
  intro v1
  repeat' (first|refine zh ?_|intro (bk:Nat))
  refine HR.ret Tryz.func124 I [_] (fun _ _=>⟨I,trivial⟩) ?_
  refine fun w' hw=>⟨v1,rfl,?_⟩
  have:Kg t self=t:=by unfold Kg;rw[if_pos h]
  rw[this];exact hw
theorem jHB (r:Ro) (d:Int) (w:World) (h1:Tp.okN r.dest=true) (h2:Tp.okN d=true):Calls Tryz.prog 296 #[.agg ⟨roC r⟩,.int .i64 d] w fun e w'=>e= .returned (.int .i64 (r.dest-d))∧Below w.heap.size w w':=by
 rw[zT]at h1 h2
 refine jD Tryz.func296 I (Nat.le_of_ble_eq_true I) ?_
 refine HR.sub (σ':=[(0,.agg ⟨roC r⟩),(1,.int .i64 d)]) ⟨I,I,trivial⟩ ?_
 repeat' (first|refine zh ?_|apply zb ?_ ?_|exact zc|(refine zi fun hb=>?_;try simp at hb)|intro (bk:Nat))
 refine HR.ret Tryz.func296 I [_] (fun _ _=>⟨I,trivial⟩) ?_
 exact fun w' hw=>⟨rfl,hw.jE⟩
theorem jGn (t:List Ro) (d:Int) (v:Value) (w:World) (hv:Sl w v (cellsOf roC t) t.length) (hl:t.length≤1000) (hasc:Asc (·.dest) t) (hr:∀r∈t,Tp.okN r.dest=true) (hd:Tp.okN d=true):
  Calls Tryz.prog 295 #[v,.int .i64 d,.func (.func 296) #[] #[]] w fun e w'=>e= .returned (.tuple ⟨[.int .i64 (rpos t d:Int),.bool (jPE t d)]⟩)∧Below w.heap.size w w':=by
 refine jD Tryz.func295 I (Nat.le_of_ble_eq_true I) ?_
 refine HR.sub (σ':=[(0,v),(1,.int .i64 d),(2,.func (.func 296) #[] #[])]) ⟨I,I,I,trivial⟩ ?_
 repeat' (first|refine zh ?_|refine HL.JN (Rd.arg hv) I I I ?_|apply zb ?_ ?_|exact zc|(refine zi fun hb=>?_;try simp at hb)|intro (bk:Nat))
 refine HR.jA2 (α:=Nat) (β:=Nat) (fun i j=>i≤j∧j≤t.length∧(∀ k a,k<i→t[k]? =some a→a.dest<d)∧∀k a,j≤k→t[k]? =some a→d≤a.dest) (fun i j=>[(0,v),(1,.int .i64 d),(2,.func (.func 296) #[] #[]),(8,.int .i64 (t.length:Int)),(9,.int .i64 (i:Int)),(10,.int .i64 (j:Int))]) (fun _ _=>[]) (fun i j=>j-i) 0 t.length ⟨Nat.zero_le _,Nat.le_refl _,fun k a hk=>by omega,fun k a hk ha=>by have:=(List.getElem?_eq_some_iff.1 ha).1;omega⟩ ⟨I,I,I,I,I,I,trivial⟩ Ent.refl ?_
 rintro i j ⟨hij,hj,hlo,hhi⟩ ih
 repeat' (first|refine zh ?_|apply zb ?_ ?_|exact zc|(refine zi fun hb=>?_;try simp at hb)|intro (bk:Nat))
 refine HR.cond I (fun h2=>?_) (fun h2=>?_)
 ·have hlt:i<j:=by have:=of_decide_eq_true h2;omega
  obtain ⟨m,hm⟩:∃m,m=(i+j) / 2:=⟨_,rfl⟩
  obtain ⟨x,hx⟩:=jJ (l:=t) (j:=m) (by omega)
  have hxo:=hr x (List.mem_of_getElem? hx)
  repeat' (first|refine zh ?_|apply zb ?_ ?_|exact zc|(refine zi fun hb=>?_;try simp at hb)|intro (bk:Nat))
  have hmi:((i:Int)+(j:Int)) / 2=(m:Int):=by omega
  refine HL.ZU 11 (v':= .int .i64 (m:Int)) I (by rw[hmi]) ?_
  refine HL.ZU 26 (v':= .int .i64 (m:Int)) I (by rw[hmi]) ?_
  repeat' (first|refine zh ?_|refine HL.JA (Rd.arg hv) Je m I I I I (by omega) ?_|refine HL.JW (Rd.arg hv) I I I I (by simp) I (jH jq hx) ?_|refine HL.jEF (caps:=[]) jRf I I I (fun w _=>jHB x d w hxo hd) ?_|apply zb ?_ ?_|exact zc|(refine zi fun hb=>?_;try simp at hb)|intro (bk:Nat))
  refine HR.cond I (fun h3=>?_) (fun h3=>?_)
  ·have h3:x.dest-d<0:=of_decide_eq_true h3
   repeat' (first|refine zh ?_|apply zb ?_ ?_|exact zc|(refine zi fun hb=>?_;try simp at hb)|intro (bk:Nat))
   refine ih (m+1) j _ _ ⟨by omega,hj,fun k a hk ha=>?_,hhi⟩ (by omega) ⟨I,I,I,I,I,I,trivial⟩ (Ent.pick [] I I)
   by_cases hkm:k=m
   ·subst hkm;rw[hx]at ha;cases ha;omega
   ·have:=hasc.lt (show k<m by omega) ha hx
    omega
  ·have h3:¬x.dest-d<0:=of_decide_eq_false h3
   repeat' (first|refine zh ?_|apply zb ?_ ?_|exact zc|(refine zi fun hb=>?_;try simp at hb)|intro (bk:Nat))
   refine ih i m _ _ ⟨by omega,by omega,hlo,fun k a hk ha=>?_⟩ (by omega) ⟨I,I,I,I,I,I,trivial⟩ (Ent.pick [] I I)
   by_cases hkm:k=m
   ·subst hkm;rw[hx]at ha;cases ha;omega
   ·have:=hasc.lt (show m<k by omega) hx ha
    omega
 ·have hij':i=j:=by have:=of_decide_eq_false h2;omega
  subst hij'
  have hp:rpos t d=i:=jPh hj hlo fun a ha=>hhi i a (Nat.le_refl _) ha
  repeat' (first|refine zh ?_|refine HL.JA (Rd.arg hv) Je i I I I I (by omega) ?_|refine HL.JW (Rd.arg hv) I I I I (by simp) I (jH jq (zW (by omega) ro0)) ?_|refine HL.jEF (caps:=[]) jRf I I I (fun w _=>jHB (t.getD i ro0) d w (hr _ (List.mem_of_getElem? (zW (by omega) ro0))) hd) ?_|apply zb ?_ ?_|exact zc|(refine zi fun hb=>?_;try simp at hb)|intro (bk:Nat))
  refine HR.ret Tryz.func295 I [_,_] (fun _ _=>⟨I,I,trivial⟩) ?_
  refine fun w' hw=>⟨?_,hw.jE⟩
  have hh:jPE t d=(decide ((i:Int)<t.length)&&((t.getD i ro0).dest-d==0)):=by
   unfold jPE
   rw[hp]
   by_cases hlt:i<t.length
   ·rw [zW hlt ro0,decide_eq_true (show (i:Int)<t.length by omega),Bool.true_and]
    simp only
    rw[Bool.eq_iff_iff];simp only[beq_iff_eq];omega
   ·rw [List.getElem?_eq_none (by omega),decide_eq_false (show ¬(i:Int)<t.length by omega)];rfl
  rw[hh,hp];rfl
theorem jBu (t:List Ro) (d:Int) (v:Value) (w:World) (hv:Sl w v (cellsOf roC t) t.length) (hl:t.length≤1000) (hasc:Asc (·.dest) t) (hr:∀r∈t,Tp.okN r.dest=true) (hd:Tp.okN d=true):
  Calls Tryz.prog 263 #[v,.int .i64 d] w fun e w'=>e= .returned (.tuple ⟨[.int .i64 (rpos t d:Int),.bool (jPE t d)]⟩)∧Below w.heap.size w w':=by
 refine jD Tryz.func263 I (Nat.le_of_ble_eq_true I) ?_
 refine HR.sub (σ':=[(0,v),(1,.int .i64 d)]) ⟨I,I,trivial⟩ ?_
 repeat' (first|refine zh ?_|refine HL.jR fn295 I I (fun w hw=>jGn t d v w ((Rd.arg hv).at hw) hl hasc hr hd) ?_|apply zb ?_ ?_|exact zc|(refine zi fun hb=>?_;try simp at hb)|intro (bk:Nat))
 refine HR.ret Tryz.func263 I [_,_] (fun _ _=>⟨I,I,trivial⟩) ?_
 exact fun w' hw=>⟨rfl,hw.jE⟩
end Go.Proofs.YtgfdoognildoeaaGreat
namespace Go.Proofs.YtgfdoognildoeaaGreat
open Go.GX Go.RowKit
attribute [local irreducible] Calls Run jZ jf JK HR HL HD jT jG JY Rd jK jY
open Nd
theorem jBW (t:List Ro) (d:Int) (v:Value) (w:World) (hv:Sl w v (cellsOf roC t) t.length) (hl:t.length≤1000):
  Calls Tryz.prog 50 #[v,.int .i64 d] w fun e w'=>e= .returned (.tuple ⟨[.int .i64 (kL t d).1,.bool (kL t d).2]⟩)∧Below w.heap.size w w':=by
 refine jD Tryz.func50 I (Nat.le_of_ble_eq_true I) ?_
 refine HR.sub (σ':=[(0,v),(1,.int .i64 d)]) ⟨I,I,trivial⟩ ?_
 repeat' (first|refine zh ?_|refine HL.JN (Rd.arg hv) I I I ?_|apply zb ?_ ?_|exact zc|(refine zi fun hb=>?_;try simp at hb)|intro (bk:Nat))
 refine HR.loop (ι:=Nat) (fun k=>k≤t.length∧∀j a,j<k→t[j]? =some a→(a.dest==d)=false) (fun k=>[(1,.int .i64 d),(8,v),(9,.int .i64 (t.length:Int)),(10,.int .i64 (k:Int))]) (fun _=>[]) (fun k=>t.length-k) 0 ⟨Nat.zero_le _,fun j a hj=>by omega⟩ ⟨I,I,I,I,trivial⟩ Ent.refl ?_
 rintro k ⟨hk,hg⟩ ih
 repeat' (first|refine zh ?_|apply zb ?_ ?_|exact zc|(refine zi fun hb=>?_;try simp at hb)|intro (bk:Nat))
 refine HR.cond I (fun h2=>?_) (fun h2=>?_)
 ·have hlt:k<t.length:=by have:=of_decide_eq_true h2;omega
  obtain ⟨x,hx⟩:=jJ hlt
  repeat' (first|refine zh ?_|refine HL.JA (Rd.arg hv) Je k I I I I hlt ?_|refine HL.JW (Rd.arg hv) I I I I (by simp) I (jH jq hx) ?_|apply zb ?_ ?_|exact zc|(refine zi fun hb=>?_;try simp at hb)|intro (bk:Nat))
  refine HR.cond I (fun h3=>?_) (fun h3=>?_)
  ·have h3:(x.dest==d)=true:=h3
   have hf:rat t d=some x:=jA4 hx h3 hg
   repeat' (first|refine zh ?_|refine HL.jR Ky I I (fun w _=>Ji _ w) ?_|apply zb ?_ ?_|exact zc|(refine zi fun hb=>?_;try simp at hb)|intro (bk:Nat))
   refine HR.cond I (fun h4=>?_) (fun h4=>?_)
   ·have h4:fin x=false:=by simpa using h4
    repeat' (first|refine zh ?_|apply zb ?_ ?_|exact zc|(refine zi fun hb=>?_;try simp at hb)|intro (bk:Nat))
    refine HR.ret Tryz.func50 I [_,_] (fun _ _=>⟨I,I,trivial⟩) ?_
    exact fun w' hw=>⟨by rw[kL,hf];simp only[h4];rfl,hw.jE⟩
   ·have h4:fin x=true:=by simpa using h4
    repeat' (first|refine zh ?_|apply zb ?_ ?_|exact zc|(refine zi fun hb=>?_;try simp at hb)|intro (bk:Nat))
    refine HR.ret Tryz.func50 I [_,_] (fun _ _=>⟨I,I,trivial⟩) ?_
    exact fun w' hw=>⟨by rw[kL,hf];simp only[h4];rfl,hw.jE⟩
  ·have h3:(x.dest==d)=false:=h3
   repeat' (first|refine zh ?_|apply zb ?_ ?_|exact zc|(refine zi fun hb=>?_;try simp at hb)|intro (bk:Nat))
   refine ih (k+1) _ _ ⟨hlt,fun j a hj ha=>?_⟩ (by omega) ⟨I,I,I,I,trivial⟩ (Ent.pick [] I I)
   by_cases hjk:j=k
   ·subst hjk;rw[hx]at ha;cases ha;exact h3
   ·exact hg j a (by omega) ha
 ·have hke:k=t.length:=by have:=of_decide_eq_false h2;omega
  subst hke
  have hf:rat t d=none:=List.find?_eq_none.2 fun a ha=>by
   obtain ⟨j,hj⟩:=List.getElem?_of_mem ha
   have:=hg j a (List.getElem?_eq_some_iff.1 hj).1 hj
   simp[this]
  repeat' (first|refine zh ?_|apply zb ?_ ?_|exact zc|(refine zi fun hb=>?_;try simp at hb)|intro (bk:Nat))
  refine HR.ret Tryz.func50 I [_,_] (fun _ _=>⟨I,I,trivial⟩) ?_
  exact fun w' hw=>⟨by rw[kL,hf];rfl,hw.jE⟩
end Go.Proofs.YtgfdoognildoeaaGreat
namespace Go.GX
open Go.RowKit
section
variable {P : Program} {ops : Array Oper} {Q : Exit → Act → World → Prop} {md : Region.Mode} {S : World → Prop} {z : Nat}
def jET (P:Program) (md:Region.Mode) (ops:Array Oper) (Q:Exit→Act→World→Prop) (S:World→Prop) (z:Nat):Nat→Array Bool→Act→World→Prop
 |0,listed,a,w=>Region.ready md ops listed=[]∧Q .normal a w
 |fuel+1,listed,a,w=>
  (Region.ready md ops listed=[]→Q .normal a w)∧
  ∀i∈Region.ready md ops listed,wpOp P ops Q i (fun a' w'=>(i=z∨S w')∧jET P md ops Q S z fuel (listed.setIfInBounds i true) a' w') a w
theorem jCt:∀(fuel:Nat) (listed:Array Bool) (a:Act) (w:World),jET P md ops Q S z fuel listed a w→wpAny P md ops Q fuel listed a w
 |0,_,_,_,h=>h
 |fuel+1,_,_,_,h=>⟨h.1,fun i hi=>wpOp_mono (fun a' w' h'=>jCt fuel _ a' w' h'.2) (h.2 i hi)⟩
end
def KZ (P:Program) (ops:List Oper) (z:Nat) (K:Act→World→Prop):Act→World→Prop:=fun a w=>wpOp P ops.toArray (QN K) z K a w
section
variable {P : Program} {f : FuncId} {N : Nat} {k : List Item} {σ : Store} {B : Base} {H F : List Chunk} {R : Ending → World → Prop} {ops l : List Oper} {o : Oper} {K : Act → World → Prop} {S : World → Prop} {z : Nat}
theorem HD.last (ho:ops[z]? =some o) (h:HL P N ops [o] σ B H K):HD P N ops [] σ B H F (KZ P ops z K):=by
 intro w hw _ a ha
 replace h:=h w hw a ha
 show wpOp P ops.toArray (QN K) z K a w
 simp only[wpOp,show ops.toArray[z]? =some o by simpa using ho]
 unfold wpList at h
 split
 ·rename_i hw'
  rw[if_pos hw']at h
  rcases h with h|h
  ·left
   have h2:o.wp P a w (fun a' w'=>(QN K) .normal a' w') (QN K):=h
   exact Oper.wp_mono (fun a' w' h'=>h'.2) h2
  ·exact (Kw (K:=K) h.2).elim
 ·rename_i hw'
  rw[if_neg hw']at h
  exact h.2
theorem HD.Jt {d i:Nat} {p:List (Nat×Bool)} {ty:TypeId} {pos:String} {af:Array Edge} {gd:Option (Nat×Bool)} {v:Value} {s:TypeId} {x:Operand} {fl:List Field} {fi j n:Nat} {fd:Field} {ti:TypeInfo} {cs:List Value} (hv:Rd B F v cs n) (hj:j<cs.length) (ho:ops[i]? =some ⟨some d,.fieldAddr s x fi,ty,pos,af,gd⟩) (hs:stat N ops ⟨some d,.fieldAddr s x fi,ty,pos,af,gd⟩ σ=true) (hT:P.underlying s=some (.struct ⟨fl⟩)) (hf:jJL fl fi=some fd) (hti:P.info? fd.type=some ti) (hz:Nat.ble 1 ti.size=true) (hx:lookO σ x=some (jk v j))
  (h:HD P N ops p ((d,jk v (j+fd.offset))::σ) B H F K):HD P N ops ((i,true)::p) σ B H F K:=HD.rd ho hs (jCB hv hj hT hf hti hz hx) h
end
end Go.GX
namespace Go.Proofs.YtgfdoognildoeaaGreat
open Go.GX Go.RowKit
attribute [local irreducible] Calls Run jZ jf JK HR HL HD jT jG JY Rd jK jY
open Nd
theorem jRo:IsFn Tryz.prog 209:=⟨⟨_,_,Tryz.func209,rfl,by decide⟩⟩
theorem fn270:IsFn Tryz.prog 270:=⟨⟨_,_,Tryz.func270,rfl,by decide⟩⟩
theorem jRj:IsFn Tryz.prog 217:=⟨⟨_,_,Tryz.func217,rfl,by decide⟩⟩
theorem fn62:IsFn Tryz.prog 62:=⟨⟨_,_,Tryz.func62,rfl,by decide⟩⟩
theorem jEm (t:List Ro) (self:Int) (v:Value) (w:World) (hv:Sl w v (cellsOf roC t) t.length) (hl:t.length≤1000):
  Calls Tryz.prog 209 #[v,.int .i64 self] w fun e w'=>∃v',e= .returned v'∧Sat (base w) [jG v' 94 4 (jCj t self).length (cellsOf roC (jCj t self))] w':=by
 have ht:=Zh t self
 obtain ⟨x,hx,hd,hat⟩:=jMy t self
 have hxo:=jBt (ht.rng x (List.mem_of_getElem? hx))
 have hlt:=(List.getElem?_eq_some_iff.1 hx).1
 have hrb:=jKv hx hd
 have hhas:=jKo hx hd
 have h24:=ht.len
 refine jD Tryz.func209 I (Nat.le_of_ble_eq_true I) ?_
 refine HR.sub (σ':=[(0,v),(1,.int .i64 self)]) ⟨I,I,trivial⟩ ?_
 repeat' (first|refine zh ?_|refine HL.jR jNt I I (fun w _=>jBV self w) ?_|intro (bk:Nat))
 repeat' (first|refine zh ?_|refine HL.JQ jQW I I (fun w hw=>jDd t self v w ((Rd.arg hv).at hw) hl) ?_|intro (bk:Nat))
 intro v1
 obtain ⟨T,hT⟩:∃T,T=Kg t self:=⟨_,rfl⟩
 rw[← hT]at hx hlt hrb hhas h24 ⊢
 obtain ⟨P,hP⟩:∃P,P=rpos T (lim self):=⟨_,rfl⟩
 rw[← hP]at hx hlt hrb
 repeat' (first|refine zh ?_|refine HL.jR jQL I I (fun w hw=>by have:=jBu T (lim self) v1 w ((Rd.own 0 rfl).at hw) (by omega) (hT▸ht.asc) (hT▸jG6) (jHU self);rw[hhas,← hP]at this;exact this) ?_|refine HL.JA (Rd.own 0 I) Je P I I I I hlt ?_|refine HL.Jt (Rd.own 0 I) (by rw[jC jq];omega) I I I I I I ?_|refine HL.ji (Rd.own 0 I) I I I I (jQ jq hx (i:=1) I) ?_|intro (bk:Nat))
 refine HR.cond I (fun h=>?_) (fun h=>?_)
 ·have h:x.sq<65534:=of_decide_eq_true h
  rw[if_pos h]at hrb
  repeat' (first|refine zh ?_|refine HL.JA (Rd.own 0 I) Je P I I I I hlt ?_|refine HL.Jt (Rd.own 0 I) (by rw[jC jq];omega) I I I I I I ?_|refine HL.ji (Rd.own 0 I) I I I I (jQ jq hx (i:=1) I) ?_|refine HL.KA (j:=P*4+1) 0 I I I I I I I (by rw[jC jq];omega) ?_|intro (bk:Nat))
  refine HR.ret Tryz.func209 I [_] (fun _ _=>⟨I,trivial⟩) ?_
  refine fun w' hw=>⟨v1,rfl,Ent.JV ?_ ?_ w' hw⟩
  ·rw [hrb,List.length_set]
  ·rw [hrb];exact Jv (i:=1) jq hx I (by decide)
 ·have h:¬x.sq<65534:=of_decide_eq_false h
  rw[if_neg h]at hrb
  repeat' (first|refine zh ?_|intro (bk:Nat))
  refine HR.ret Tryz.func209 I [_] (fun _ _=>⟨I,trivial⟩) ?_
  refine fun w' hw=>⟨v1,rfl,?_⟩
  rw[hrb];exact hw
theorem jHE (t:List Ro) (self next:Int) (v:Value) (w:World) (hv:Sl w v (cellsOf roC t) t.length) (hl:t.length≤1000):
  Calls Tryz.prog 62 #[v,.int .i64 self,.int .i64 next] w fun e w'=>∃v',e= .returned v'∧Sat (base w) [jG v' 94 4 (jH6 t self next).length (cellsOf roC (jH6 t self next))] w':=by
 have ht:=Zh t self
 have h24:=ht.len
 rw[jDk]
 refine jD Tryz.func62 I (Nat.le_of_ble_eq_true I) ?_
 refine HR.sub (σ':=[(0,v),(1,.int .i64 self),(2,.int .i64 next)]) ⟨I,I,I,trivial⟩ ?_
 repeat' (first|refine zh ?_|refine HL.jR jNt I I (fun w _=>jBV self w) ?_|intro (bk:Nat))
 repeat' (first|refine zh ?_|refine HL.JQ jQW I I (fun w hw=>jDd t self v w ((Rd.arg hv).at hw) hl) ?_|intro (bk:Nat))
 intro v1
 have hrng:=ht.rng
 obtain ⟨T,hT⟩:∃T,T=Kg t self:=⟨_,rfl⟩
 rw[← hT]at h24 hrng ⊢
 repeat' (first|refine zh ?_|refine HL.jR jME I I (fun w _=>Z4 next w) ?_|intro (bk:Nat))
 refine HR.cond I (fun h0=>?_) (fun h0=>?_)
 ·have h0:Tp.okN next=false:=by simpa using h0
  repeat' (first|refine zh ?_|intro (bk:Nat))
  refine HR.ret Tryz.func62 I [_] (fun _ _=>⟨I,trivial⟩) ?_
  refine fun w' hw=>⟨v1,rfl,?_⟩
  rw[show T.map (jGo self next)=T from (List.map_congr_left fun a _=>by unfold jGo;rw[if_neg (by rw[h0];simp)];rfl).trans (List.map_id T)]
  exact hw
 have h0:Tp.okN next=true:=by simpa using h0
 repeat' (first|refine zh ?_|refine HL.JN (Rd.own 0 I) I I I ?_|intro (bk:Nat))
 refine HR.loop (ι:=Nat) (fun k=>k≤T.length) (fun k=>[(0,v1),(1,.int .i64 (lim self)),(2,.int .i64 next),(18,v1),(19,.int .i64 (T.length:Int)),(20,.int .i64 (k:Int))]) (fun k=>[jG v1 94 4 T.length (cellsOf roC ((T.take k).map (jGo self next)++T.drop k))]) (fun k=>T.length-k) 0 (Nat.zero_le _) ⟨I,I,I,I,I,I,trivial⟩ Ent.refl ?_
 intro k hk ih
 have hml:=jBG (jGo self next) T k
 repeat' (first|refine zh ?_|intro (bk:Nat))
 refine HR.cond I (fun h2=>?_) (fun h2=>?_)
 ·have hlt:k<T.length:=by have:=of_decide_eq_true h2;omega
  obtain ⟨x,hx⟩:=jJ hlt
  have hmg:=Zk (jGo self next) hx
  have hms:=jBb (jGo self next) hx
  have hxo:=jBt (hrng x (List.mem_of_getElem? hx))
  repeat' (first|refine zh ?_|refine HL.JA (Rd.own 0 I) Je k I I I I hlt ?_|refine HL.JW (Rd.own 0 I) I I I I (by simp) I (jH jq hmg) ?_|intro (bk:Nat))
  repeat' (first|refine zh ?_|apply zb ?_ ?_|exact zc|(refine zi fun hb=>?_;try simp at hb)|intro (bk:Nat))
  refine HR.cond I (fun h3=>?_) (fun h3=>?_)
  ·have h3:((x.nx==next)&&(x.dest != lim self))=true:=h3
   simp only[Bool.and_eq_true,beq_iff_eq,bne_iff_ne,ne_eq]at h3
   have hb:jGo self next x=⟨x.dest,x.sq+1,255,255⟩:=by unfold jGo;rw[if_pos ⟨h0,h3.1,h3.2⟩]
   rw[hb]at hms
   repeat' (first|refine zh ?_|refine HL.JA (Rd.own 1 I) Je k I I I I hlt ?_|refine HL.zP (us:=roC ⟨x.dest,x.sq+1,255,255⟩) (j:=k*4) 1 I I I I I I I (by rw[jC jq,hml];show k*4+4≤_;omega) (by simp) ?_|apply zb ?_ ?_|exact zc|(refine zi fun hb=>?_;try simp at hb)|intro (bk:Nat))
   refine ih (k+1) _ _ hlt (by omega) ⟨I,I,I,I,I,I,trivial⟩ (Ent.trans (Ent.pick (H':=[jG v1 94 4 T.length _]) [1] I I) (Ent.JV I ?_))
   rw[← hms]
   exact Jg (i:=0) jq hmg I (show 0+4≤4 by decide)
  ·have h3:((x.nx==next)&&(x.dest != lim self))=false:=h3
   have hb:jGo self next x=x:=by
    unfold jGo
    rw[if_neg]
    rintro ⟨_,e1,e2⟩
    rw[show (x.nx==next)=true by simpa using e1,show (x.dest != lim self)=true by simpa using e2]at h3
    cases h3
   repeat' (first|refine zh ?_|apply zb ?_ ?_|exact zc|(refine zi fun hb=>?_;try simp at hb)|intro (bk:Nat))
   refine ih (k+1) _ _ hlt (by omega) ⟨I,I,I,I,I,I,trivial⟩ (Ent.trans (Ent.pick [1] I I) (Ent.JV I ?_))
   rw[jAZ _ hx hb]
 ·have hke:k=T.length:=by have:=of_decide_eq_false h2;omega
  subst hke
  rw[List.take_length,List.drop_length,List.append_nil]
  repeat' (first|refine zh ?_|intro (bk:Nat))
  refine HR.ret Tryz.func62 I [_] (fun _ _=>⟨I,trivial⟩) ?_
  exact fun w' hw=>⟨v1,rfl,Ent.JV (by simp) I w' hw⟩
end Go.Proofs.YtgfdoognildoeaaGreat
