/- A part of the proof: contracts of the program's functions. Conditions: none. -/
import Derived.Carry
import Derived.Deep.MidRow
import Derived.Deep.Quiet
import Derived.Laws.IdiomRangeMap
import Derived.Laws.MakeOwn
import Derived.Laws.StructEq
import Derived.Laws.Tables
import Derived.Lib.AppendStr
import Derived.Lib.AppendZerosOnto
import Derived.Lib.OthersKept
import Derived.Lib.Overlaps
import Derived.Lib.OwnBridge
import Derived.Lib.SlicesCompact
import Derived.MapKept
import Derived.Orders
import Derived.OrdersHeld
import Derived.Scope
import Derived.Sort.Grow
import Derived.StillTail
import Derived.Test.YtgfdoognildoeaaGreatProg
import Derived.Test.YtgfdoognildoeaaGreatShelf
import Derived.WalkKit
import Derived.WalkLawsBesides
import Derived.WalkSpells
import Derived.Test.YtgfdoognildoeaaGreatLB1
import Derived.Test.YtgfdoognildoeaaGreatLB2
import Derived.Test.YtgfdoognildoeaaGreatLB3
import Derived.Test.YtgfdoognildoeaaGreatLB4
import Derived.Test.YtgfdoognildoeaaGreatLB5
import Derived.Test.YtgfdoognildoeaaGreatLB6
import Derived.Test.YtgfdoognildoeaaGreatLB7
import Derived.Test.YtgfdoognildoeaaGreatLB8
set_option linter.unusedVariables false
set_option linter.unusedSectionVars false
set_option linter.unusedSimpArgs false
set_option maxRecDepth 100000
set_option maxHeartbeats 4000000
namespace Go.Proofs.YtgfdoognildoeaaGreat
open Go.GX Go.RowKit
attribute [local irreducible] Calls Run jZ jf JK HR HL HD jT jG JY Rd jK jY
theorem jR9:Elem Tryz.prog 32 206 2 16:=⟨rfl,⟨_,_,rfl,rfl,rfl,rfl,rfl⟩,by decide⟩
theorem jNe:KeyK Tryz.prog 3 (fun z:Int=>Value.int .i64 z):=jP9 I
theorem fn258:IsFn Tryz.prog 258:=⟨⟨_,_,Tryz.func258,rfl,by decide⟩⟩
theorem jRr:IsFn Tryz.prog 202:=⟨⟨_,_,Tryz.func202,rfl,by decide⟩⟩
theorem jNp:IsFn Tryz.prog 203:=⟨⟨_,_,Tryz.func203,rfl,by decide⟩⟩
theorem fn147:IsFn Tryz.prog 147:=⟨⟨_,_,Tryz.func147,rfl,by decide⟩⟩
theorem jNQ (n:Int) (w:World):Calls Tryz.prog 258 #[.int .i64 n] w fun e w'=>e= .returned (.bool (Tp.okN n))∧Below w.heap.size w w':=by
 refine jD Tryz.func258 I (Nat.le_of_ble_eq_true I) ?_
 refine HR.sub (σ':=[(0,.int .i64 n)]) ⟨I,trivial⟩ ?_
 repeat' (first|(refine HL.Jy ?_;first|refine HL.ev I I ?_|refine HL.evc I I (by first|omega|(simp;done)|(simp;omega)) ?_|(refine HL.isLoad ?_;first|refine HL.L 0 I I I I ?_|refine HL.L 1 I I I I ?_|refine HL.L 2 I I I I ?_|refine HL.L 3 I I I I ?_)|(refine HL.jL ?_;first|refine HL.S 0 I I I I I ?_|refine HL.S 1 I I I I I ?_|refine HL.S 2 I I I I I ?_|refine HL.S 3 I I I I I ?_)|refine HL.build I I ?_|refine HL.field I I ?_|(refine HL.box I I ?_;intro bk)|(refine HL.alloc I I ?_;intro bk)|refine HL.skip rfl rfl ?_|refine HL.jw rfl ?_|apply HL.zN rfl rfl rfl rfl rfl rfl rfl rfl|apply HL.orB rfl rfl rfl rfl rfl rfl rfl rfl)|refine HL.nil ?_|refine HR.ctl rfl ?_|refine HR.region ?_|refine HR.jy rfl ?_|refine HR.jr rfl ?_|exact HL.jX rfl rfl Ent.refl|(refine fun (hb:(_:Bool)=_)=>?_;try simp at hb))
 refine HR.ret Tryz.func258 I [_] (fun _ _=>⟨I,trivial⟩) ?_
 exact fun w' hw=>⟨rfl,hw.jE⟩
theorem jEX (e:Ed) (w:World):Calls Tryz.prog 202 #[.agg ⟨edC e⟩] w fun e' w'=>e'= .returned (.bool (Tp.okE e))∧Below w.heap.size w w':=by
 refine jD Tryz.func202 I (Nat.le_of_ble_eq_true I) ?_
 refine HR.sub (σ':=[(0,.agg ⟨edC e⟩)]) ⟨I,trivial⟩ ?_
 repeat' (first|(refine HL.Jy ?_;first|refine HL.ev I I ?_|refine HL.evc I I (by first|omega|(simp;done)|(simp;omega)) ?_|refine HL.jR fn258 I I (fun w _=>jNQ _ w) ?_|(refine HL.isLoad ?_;first|refine HL.L 0 I I I I ?_|refine HL.L 1 I I I I ?_|refine HL.L 2 I I I I ?_|refine HL.L 3 I I I I ?_)|(refine HL.jL ?_;first|refine HL.S 0 I I I I I ?_|refine HL.S 1 I I I I I ?_|refine HL.S 2 I I I I I ?_|refine HL.S 3 I I I I I ?_)|refine HL.build I I ?_|refine HL.field I I ?_|(refine HL.box I I ?_;intro bk)|(refine HL.alloc I I ?_;intro bk)|refine HL.skip rfl rfl ?_|refine HL.jw rfl ?_|apply HL.zN rfl rfl rfl rfl rfl rfl rfl rfl|apply HL.orB rfl rfl rfl rfl rfl rfl rfl rfl)|refine HL.nil ?_|refine HR.ctl rfl ?_|refine HR.region ?_|refine HR.jy rfl ?_|refine HR.jr rfl ?_|exact HL.jX rfl rfl Ent.refl|(refine fun (hb:(_:Bool)=_)=>?_;try simp at hb))
 refine HR.ret Tryz.func202 I [_] (fun _ _=>⟨I,trivial⟩) ?_
 exact fun w' hw=>⟨rfl,hw.jE⟩
theorem jBd (e:Ed) (w:World):Calls Tryz.prog 203 #[.agg ⟨edC e⟩] w fun e' w'=>e'= .returned (.agg ⟨edC (Tp.link e)⟩)∧Below w.heap.size w w':=by
 refine jD Tryz.func203 I (Nat.le_of_ble_eq_true I) ?_
 refine HR.sub (σ':=[(0,.agg ⟨edC e⟩)]) ⟨I,trivial⟩ ?_
 repeat' (first|(refine HL.Jy ?_;first|refine HL.ev I I ?_|refine HL.evc I I (by first|omega|(simp;done)|(simp;omega)) ?_|(refine HL.isLoad ?_;first|refine HL.L 0 I I I I ?_|refine HL.L 1 I I I I ?_|refine HL.L 2 I I I I ?_|refine HL.L 3 I I I I ?_)|(refine HL.jL ?_;first|refine HL.S 0 I I I I I ?_|refine HL.S 1 I I I I I ?_|refine HL.S 2 I I I I I ?_|refine HL.S 3 I I I I I ?_)|refine HL.build I I ?_|refine HL.field I I ?_|(refine HL.box I I ?_;intro bk)|(refine HL.alloc I I ?_;intro bk)|refine HL.skip rfl rfl ?_|refine HL.jw rfl ?_|apply HL.zN rfl rfl rfl rfl rfl rfl rfl rfl|apply HL.orB rfl rfl rfl rfl rfl rfl rfl rfl)|refine HL.nil ?_|refine HR.ctl rfl ?_|refine HR.region ?_|refine HR.jy rfl ?_|refine HR.jr rfl ?_|exact HL.jX rfl rfl Ent.refl|(refine fun (hb:(_:Bool)=_)=>?_;try simp at hb))
 refine HR.ret Tryz.func203 I [_] (fun w hw=>⟨⟨_,rfl,jS hw 0 I I I I rfl⟩,trivial⟩) ?_
 exact fun w' hw=>⟨rfl,hw.jE⟩
end Go.Proofs.YtgfdoognildoeaaGreat
namespace Go.Proofs.YtgfdoognildoeaaGreat
open Go.GX Go.RowKit
attribute [local irreducible] Calls Run jZ jf JK HR HL HD jT jG JY Rd jK jY
theorem keyE:KeyK Tryz.prog 206 (fun e:Ed=>Value.agg ⟨edC e⟩):=by
 refine jJd I (fun a b w=>?_) (fun e k w=>?_) (fun k w=>?_) (fun a b h=>?_)
 ·rw [KY (xs:=edC a) (ys:=edC b) (by kernel_rfl) I w]
  congr 1
  obtain ⟨a1,a2⟩:=a
  obtain ⟨b1,b2⟩:=b
  rw[Bool.eq_iff_iff]
  simp
 ·exact jCQ (fl:=_) I I e 9998 w
 ·exact jFm (by intro v hv;simp[edC]at hv;rcases hv with rfl|rfl<;>simp[Instr.sameBits]) w
 ·obtain ⟨a1,a2⟩:=a
  obtain ⟨b1,b2⟩:=b
  simpa[edC]using h
theorem jMS (l:List Ed) (vl:Value) (w:World) (hl:Sl w vl (cellsOf edC l) l.length) (hll:l.length≤1000000):
  Calls Tryz.prog 147 #[vl] w fun e' w'=>e'= .returned (.int .i64 (Tp.check l))∧Below w.heap.size w w':=by
 refine jD Tryz.func147 I (Nat.le_of_ble_eq_true I) ?_
 refine HR.sub (σ':=[(0,vl)]) ⟨I,trivial⟩ ?_
 repeat' (first|(refine HL.Jy ?_;first|refine HL.ev I I ?_|refine HL.evc I I (by first|omega|(simp;done)|(simp;omega)) ?_|refine HL.JN (Rd.arg hl) I I I ?_|(refine HL.isLoad ?_;first|refine HL.L 0 I I I I ?_|refine HL.L 1 I I I I ?_|refine HL.L 2 I I I I ?_|refine HL.L 3 I I I I ?_)|(refine HL.jL ?_;first|refine HL.S 0 I I I I I ?_|refine HL.S 1 I I I I I ?_|refine HL.S 2 I I I I I ?_|refine HL.S 3 I I I I I ?_)|refine HL.build I I ?_|refine HL.field I I ?_|(refine HL.box I I ?_;intro bk)|(refine HL.alloc I I ?_;intro bk)|refine HL.skip rfl rfl ?_|refine HL.jw rfl ?_|apply HL.zN rfl rfl rfl rfl rfl rfl rfl rfl|apply HL.orB rfl rfl rfl rfl rfl rfl rfl rfl)|refine HL.nil ?_|refine HR.ctl rfl ?_|refine HR.region ?_|refine HR.jy rfl ?_|refine HR.jr rfl ?_|exact HL.jX rfl rfl Ent.refl|(refine fun (hb:(_:Bool)=_)=>?_;try simp at hb))
 refine HR.cond I (fun h1=>?_) (fun h1=>?_)
 ·repeat' (first|(refine HL.Jy ?_;first|refine HL.ev I I ?_|refine HL.evc I I (by first|omega|(simp;done)|(simp;omega)) ?_|(refine HL.isLoad ?_;first|refine HL.L 0 I I I I ?_|refine HL.L 1 I I I I ?_|refine HL.L 2 I I I I ?_|refine HL.L 3 I I I I ?_)|(refine HL.jL ?_;first|refine HL.S 0 I I I I I ?_|refine HL.S 1 I I I I I ?_|refine HL.S 2 I I I I I ?_|refine HL.S 3 I I I I I ?_)|refine HL.build I I ?_|refine HL.field I I ?_|(refine HL.box I I ?_;intro bk)|(refine HL.alloc I I ?_;intro bk)|refine HL.skip rfl rfl ?_|refine HL.jw rfl ?_|apply HL.zN rfl rfl rfl rfl rfl rfl rfl rfl|apply HL.orB rfl rfl rfl rfl rfl rfl rfl rfl)|refine HL.nil ?_|refine HR.ctl rfl ?_|refine HR.region ?_|refine HR.jy rfl ?_|refine HR.jr rfl ?_|exact HL.jX rfl rfl Ent.refl|(refine fun (hb:(_:Bool)=_)=>?_;try simp at hb))
  refine HR.ret Tryz.func147 I [_] (fun _ _=>⟨I,trivial⟩) ?_
  have:l.length>256:=by have:=of_decide_eq_true h1;omega
  exact fun w' hw=>⟨by simp[Tp.check,this,jC2],hw.jE⟩
 have hl6:¬l.length>256:=by have:=of_decide_eq_false h1;omega
 have hck:Tp.check l=Tp.chk (l.take 0) (l.drop 0):=by simp[Tp.check,hl6]
 repeat' (first|(refine HL.Jy ?_;first|refine HL.ev I I ?_|refine HL.evc I I (by first|omega|(simp;done)|(simp;omega)) ?_|refine HL.jLe (fun e:Ed=>Value.agg ⟨edC e⟩) I ?_|(refine HL.isLoad ?_;first|refine HL.L 0 I I I I ?_|refine HL.L 1 I I I I ?_|refine HL.L 2 I I I I ?_|refine HL.L 3 I I I I ?_)|(refine HL.jL ?_;first|refine HL.S 0 I I I I I ?_|refine HL.S 1 I I I I I ?_|refine HL.S 2 I I I I I ?_|refine HL.S 3 I I I I I ?_)|refine HL.build I I ?_|refine HL.field I I ?_|(refine HL.box I I ?_;intro bk)|(refine HL.alloc I I ?_;intro bk)|refine HL.skip rfl rfl ?_|refine HL.jw rfl ?_|apply HL.zN rfl rfl rfl rfl rfl rfl rfl rfl|apply HL.orB rfl rfl rfl rfl rfl rfl rfl rfl)|refine HL.nil ?_|refine HR.ctl rfl ?_|refine HR.region ?_|refine HR.jy rfl ?_|refine HR.jr rfl ?_|exact HL.jX rfl rfl Ent.refl|(refine fun (hb:(_:Bool)=_)=>?_;try simp at hb))
 intro b
 repeat' (first|(refine HL.Jy ?_;first|refine HL.ev I I ?_|refine HL.evc I I (by first|omega|(simp;done)|(simp;omega)) ?_|refine HL.JN (Rd.arg hl) I I I ?_|(refine HL.isLoad ?_;first|refine HL.L 0 I I I I ?_|refine HL.L 1 I I I I ?_|refine HL.L 2 I I I I ?_|refine HL.L 3 I I I I ?_)|(refine HL.jL ?_;first|refine HL.S 0 I I I I I ?_|refine HL.S 1 I I I I I ?_|refine HL.S 2 I I I I I ?_|refine HL.S 3 I I I I I ?_)|refine HL.build I I ?_|refine HL.field I I ?_|(refine HL.box I I ?_;intro bk)|(refine HL.alloc I I ?_;intro bk)|refine HL.skip rfl rfl ?_|refine HL.jw rfl ?_|apply HL.zN rfl rfl rfl rfl rfl rfl rfl rfl|apply HL.orB rfl rfl rfl rfl rfl rfl rfl rfl)|refine HL.nil ?_|refine HR.ctl rfl ?_|refine HR.region ?_|refine HR.jy rfl ?_|refine HR.jr rfl ?_|exact HL.jX rfl rfl Ent.refl|(refine fun (hb:(_:Bool)=_)=>?_;try simp at hb))
 refine HR.jA2 (α:=Nat) (β:=List (Ed×Value)) (fun k m=>k≤l.length∧Tp.check l=Tp.chk (l.take k) (l.drop k)∧∀z,(getM z m).getD (.bool false)= .bool (decide (z∈(l.take k).map Tp.link))) (fun k m=>[(3,.map (some b)),(10,vl),(11,.int .i64 (l.length:Int)),(12,.int .i64 (k:Int))]) (fun k m=>[JY (fun e:Ed=>Value.agg ⟨edC e⟩) b m]) (fun k m=>l.length-k) 0 [] ⟨Nat.zero_le _,hck,fun z=>by simp[getM]⟩ ⟨I,I,I,I,trivial⟩ Ent.refl ?_
 rintro k m ⟨hk,hc,hg⟩ ih
 repeat' (first|(refine HL.Jy ?_;first|refine HL.ev I I ?_|refine HL.evc I I (by first|omega|(simp;done)|(simp;omega)) ?_|(refine HL.isLoad ?_;first|refine HL.L 0 I I I I ?_|refine HL.L 1 I I I I ?_|refine HL.L 2 I I I I ?_|refine HL.L 3 I I I I ?_)|(refine HL.jL ?_;first|refine HL.S 0 I I I I I ?_|refine HL.S 1 I I I I I ?_|refine HL.S 2 I I I I I ?_|refine HL.S 3 I I I I I ?_)|refine HL.build I I ?_|refine HL.field I I ?_|(refine HL.box I I ?_;intro bk)|(refine HL.alloc I I ?_;intro bk)|refine HL.skip rfl rfl ?_|refine HL.jw rfl ?_|apply HL.zN rfl rfl rfl rfl rfl rfl rfl rfl|apply HL.orB rfl rfl rfl rfl rfl rfl rfl rfl)|refine HL.nil ?_|refine HR.ctl rfl ?_|refine HR.region ?_|refine HR.jy rfl ?_|refine HR.jr rfl ?_|exact HL.jX rfl rfl Ent.refl|(refine fun (hb:(_:Bool)=_)=>?_;try simp at hb))
 refine HR.cond I (fun h2=>?_) (fun h2=>?_)
 ·have hlt:k<l.length:=by have:=of_decide_eq_true h2;omega
  obtain ⟨e,he⟩:=jJ hlt
  repeat' (first|(refine HL.Jy ?_;first|refine HL.ev I I ?_|refine HL.evc I I (by first|omega|(simp;done)|(simp;omega)) ?_|refine HL.JA (Rd.arg hl) jR9 k I I I I hlt ?_|refine HL.JW (Rd.arg hl) I I I I (by simp[edC]) I (jH jGg he) ?_|refine HL.jR jRr I I (fun w _=>jEX e w) ?_|(refine HL.isLoad ?_;first|refine HL.L 0 I I I I ?_|refine HL.L 1 I I I I ?_|refine HL.L 2 I I I I ?_|refine HL.L 3 I I I I ?_)|(refine HL.jL ?_;first|refine HL.S 0 I I I I I ?_|refine HL.S 1 I I I I I ?_|refine HL.S 2 I I I I I ?_|refine HL.S 3 I I I I I ?_)|refine HL.build I I ?_|refine HL.field I I ?_|(refine HL.box I I ?_;intro bk)|(refine HL.alloc I I ?_;intro bk)|refine HL.skip rfl rfl ?_|refine HL.jw rfl ?_|apply HL.zN rfl rfl rfl rfl rfl rfl rfl rfl|apply HL.orB rfl rfl rfl rfl rfl rfl rfl rfl)|refine HL.nil ?_|refine HR.ctl rfl ?_|refine HR.region ?_|refine HR.jy rfl ?_|refine HR.jr rfl ?_|exact HL.jX rfl rfl Ent.refl|(refine fun (hb:(_:Bool)=_)=>?_;try simp at hb))
  refine HR.cond I (fun h3=>?_) (fun h3=>?_)
  ·repeat' (first|(refine HL.Jy ?_;first|refine HL.ev I I ?_|refine HL.evc I I (by first|omega|(simp;done)|(simp;omega)) ?_|(refine HL.isLoad ?_;first|refine HL.L 0 I I I I ?_|refine HL.L 1 I I I I ?_|refine HL.L 2 I I I I ?_|refine HL.L 3 I I I I ?_)|(refine HL.jL ?_;first|refine HL.S 0 I I I I I ?_|refine HL.S 1 I I I I I ?_|refine HL.S 2 I I I I I ?_|refine HL.S 3 I I I I I ?_)|refine HL.build I I ?_|refine HL.field I I ?_|(refine HL.box I I ?_;intro bk)|(refine HL.alloc I I ?_;intro bk)|refine HL.skip rfl rfl ?_|refine HL.jw rfl ?_|apply HL.zN rfl rfl rfl rfl rfl rfl rfl rfl|apply HL.orB rfl rfl rfl rfl rfl rfl rfl rfl)|refine HL.nil ?_|refine HR.ctl rfl ?_|refine HR.region ?_|refine HR.jy rfl ?_|refine HR.jr rfl ?_|exact HL.jX rfl rfl Ent.refl|(refine fun (hb:(_:Bool)=_)=>?_;try simp at hb))
   refine HR.ret Tryz.func147 I [_] (fun _ _=>⟨I,trivial⟩) ?_
   exact fun w' hw=>⟨by rw[hc,Tp.jQn he (by simpa using h3)];rfl,hw.jE⟩
  have hok:Tp.okE e=true:=by simpa using h3
  repeat' (first|(refine HL.Jy ?_;first|refine HL.ev I I ?_|refine HL.evc I I (by first|omega|(simp;done)|(simp;omega)) ?_|refine HL.jR jNp I I (fun w _=>jBd e w) ?_|refine HL.jGX 1 I keyE I I I I I (hg _) ?_|(refine HL.isLoad ?_;first|refine HL.L 0 I I I I ?_|refine HL.L 1 I I I I ?_|refine HL.L 2 I I I I ?_|refine HL.L 3 I I I I ?_)|(refine HL.jL ?_;first|refine HL.S 0 I I I I I ?_|refine HL.S 1 I I I I I ?_|refine HL.S 2 I I I I I ?_|refine HL.S 3 I I I I I ?_)|refine HL.build I I ?_|refine HL.field I I ?_|(refine HL.box I I ?_;intro bk)|(refine HL.alloc I I ?_;intro bk)|refine HL.skip rfl rfl ?_|refine HL.jw rfl ?_|apply HL.zN rfl rfl rfl rfl rfl rfl rfl rfl|apply HL.orB rfl rfl rfl rfl rfl rfl rfl rfl)|refine HL.nil ?_|refine HR.ctl rfl ?_|refine HR.region ?_|refine HR.jy rfl ?_|refine HR.jr rfl ?_|exact HL.jX rfl rfl Ent.refl|(refine fun (hb:(_:Bool)=_)=>?_;try simp at hb))
  refine HR.cond I (fun h4=>?_) (fun h4=>?_)
  ·repeat' (first|(refine HL.Jy ?_;first|refine HL.ev I I ?_|refine HL.evc I I (by first|omega|(simp;done)|(simp;omega)) ?_|(refine HL.isLoad ?_;first|refine HL.L 0 I I I I ?_|refine HL.L 1 I I I I ?_|refine HL.L 2 I I I I ?_|refine HL.L 3 I I I I ?_)|(refine HL.jL ?_;first|refine HL.S 0 I I I I I ?_|refine HL.S 1 I I I I I ?_|refine HL.S 2 I I I I I ?_|refine HL.S 3 I I I I I ?_)|refine HL.build I I ?_|refine HL.field I I ?_|(refine HL.box I I ?_;intro bk)|(refine HL.alloc I I ?_;intro bk)|refine HL.skip rfl rfl ?_|refine HL.jw rfl ?_|apply HL.zN rfl rfl rfl rfl rfl rfl rfl rfl|apply HL.orB rfl rfl rfl rfl rfl rfl rfl rfl)|refine HL.nil ?_|refine HR.ctl rfl ?_|refine HR.region ?_|refine HR.jy rfl ?_|refine HR.jr rfl ?_|exact HL.jX rfl rfl Ent.refl|(refine fun (hb:(_:Bool)=_)=>?_;try simp at hb))
   refine HR.ret Tryz.func147 I [_] (fun _ _=>⟨I,trivial⟩) ?_
   exact fun w' hw=>⟨by rw[hc,Tp.jQm he hok (of_decide_eq_true h4)];rfl,hw.jE⟩
  repeat' (first|(refine HL.Jy ?_;first|refine HL.ev I I ?_|refine HL.evc I I (by first|omega|(simp;done)|(simp;omega)) ?_|refine HL.jR jNp I I (fun w _=>jBd e w) ?_|refine HL.jQv 1 I keyE I I I I I ?_|(refine HL.isLoad ?_;first|refine HL.L 0 I I I I ?_|refine HL.L 1 I I I I ?_|refine HL.L 2 I I I I ?_|refine HL.L 3 I I I I ?_)|(refine HL.jL ?_;first|refine HL.S 0 I I I I I ?_|refine HL.S 1 I I I I I ?_|refine HL.S 2 I I I I I ?_|refine HL.S 3 I I I I I ?_)|refine HL.build I I ?_|refine HL.field I I ?_|(refine HL.box I I ?_;intro bk)|(refine HL.alloc I I ?_;intro bk)|refine HL.skip rfl rfl ?_|refine HL.jw rfl ?_|apply HL.zN rfl rfl rfl rfl rfl rfl rfl rfl|apply HL.orB rfl rfl rfl rfl rfl rfl rfl rfl)|refine HL.nil ?_|refine HR.ctl rfl ?_|refine HR.region ?_|refine HR.jy rfl ?_|refine HR.jr rfl ?_|exact HL.jX rfl rfl Ent.refl|(refine fun (hb:(_:Bool)=_)=>?_;try simp at hb))
  refine ih (k+1) _ _ _ ⟨hlt,?_,fun z=>?_⟩ (by omega) ⟨I,I,I,I,trivial⟩ (Ent.pick [1] I I)
  ·rw [hc,Tp.jSC he hok (of_decide_eq_false h4)]
  ·rw [zV,jN he]
   by_cases hz:z=Tp.link e
   ·simp [hz]
   ·rw [if_neg hz,hg]
    simp[hz]
 ·have hke:k=l.length:=by have:=of_decide_eq_false h2;omega
  subst hke
  repeat' (first|(refine HL.Jy ?_;first|refine HL.ev I I ?_|refine HL.evc I I (by first|omega|(simp;done)|(simp;omega)) ?_|(refine HL.isLoad ?_;first|refine HL.L 0 I I I I ?_|refine HL.L 1 I I I I ?_|refine HL.L 2 I I I I ?_|refine HL.L 3 I I I I ?_)|(refine HL.jL ?_;first|refine HL.S 0 I I I I I ?_|refine HL.S 1 I I I I I ?_|refine HL.S 2 I I I I I ?_|refine HL.S 3 I I I I I ?_)|refine HL.build I I ?_|refine HL.field I I ?_|(refine HL.box I I ?_;intro bk)|(refine HL.alloc I I ?_;intro bk)|refine HL.skip rfl rfl ?_|refine HL.jw rfl ?_|apply HL.zN rfl rfl rfl rfl rfl rfl rfl rfl|apply HL.orB rfl rfl rfl rfl rfl rfl rfl rfl)|refine HL.nil ?_|refine HR.ctl rfl ?_|refine HR.region ?_|refine HR.jy rfl ?_|refine HR.jr rfl ?_|exact HL.jX rfl rfl Ent.refl|(refine fun (hb:(_:Bool)=_)=>?_;try simp at hb))
  refine HR.ret Tryz.func147 I [_] (fun _ _=>⟨I,trivial⟩) ?_
  exact fun w' hw=>⟨by rw[hc];simp[Tp.chk,jC2],hw.jE⟩
end Go.Proofs.YtgfdoognildoeaaGreat
namespace Go.GX
def jFr (l:List Int):List Int:=l.mergeSort fun x y=>decide (x≤y)
theorem jCz (l:List Int):(jFr l).Perm l:=List.mergeSort_perm _ _
theorem jEb (l:List Int):(jFr l).Pairwise (·≤·):=by
 have:=List.pairwise_mergeSort (le:=fun x y:Int=>decide (x≤y)) (by intro a b c h1 h2;simp at *;omega) (by intro a b;simp;omega) l
 exact this.imp fun h=>by simpa using h
theorem jKX (l:List Int):(jFr l).length=l.length:=(jCz l).length_eq
theorem jEc:jFr []=[]:=by simp[jFr]
namespace Tp
theorem Adj.sorted {l:List Ed} {adj:Int→List Int} (h:Adj l adj) (n:Int):jFr (adj n)=jAK l n:=
 jFq (jCz _) (jEb _) (h.nodup n) (jGQ l n) fun x=>by rw[h.mem,jNY]
end Tp
end Go.GX
namespace Go.Proofs.YtgfdoognildoeaaGreat
open Go.GX Go.RowKit
attribute [local irreducible] Calls Run jZ jf JK HR HL HD jT jG JY Rd jK jY
theorem fn161:IsFn Tryz.prog 161:=⟨⟨_,_,Tryz.func161,rfl,by decide⟩⟩
abbrev encI:Int→Value:=fun z=>Value.int .i64 z
abbrev jR7:Ed→Value:=fun e=>Value.agg ⟨edC e⟩
theorem jL7 (l:List Ed) (vl:Value) (w:World) (hl:Sl w vl (cellsOf edC l) l.length) (hll:l.length≤1000):
  Calls Tryz.prog 161 #[vl] w fun e w'=>∃x:Nat×List (Int×Value),e= .returned (.map (some x.1))∧(∀ n,getM n x.2=none→Tp.jAK l n=[])∧Sat (base w) [jK 3 x.2 (Tp.jAK l),JY encI x.1 x.2] w':=by
 refine jD Tryz.func161 I (Nat.le_of_ble_eq_true I) ?_
 refine HR.sub (σ':=[(0,vl)]) ⟨I,trivial⟩ ?_
 repeat' (first|(refine HL.Jy ?_;first|refine HL.ev I I ?_|refine HL.evc I I (by first|omega|(simp;done)|(simp;omega)) ?_|refine HL.jLe encI I ?_|(refine HL.isLoad ?_;first|refine HL.L 0 I I I I ?_|refine HL.L 1 I I I I ?_|refine HL.L 2 I I I I ?_|refine HL.L 3 I I I I ?_)|(refine HL.jL ?_;first|refine HL.S 0 I I I I I ?_|refine HL.S 1 I I I I I ?_|refine HL.S 2 I I I I I ?_|refine HL.S 3 I I I I I ?_)|refine HL.build I I ?_|refine HL.field I I ?_|(refine HL.box I I ?_;intro bk)|(refine HL.alloc I I ?_;intro bk)|refine HL.skip rfl rfl ?_|refine HL.jw rfl ?_|apply HL.zN rfl rfl rfl rfl rfl rfl rfl rfl|apply HL.orB rfl rfl rfl rfl rfl rfl rfl rfl)|refine HL.nil ?_|refine HR.ctl rfl ?_|refine HR.region ?_|refine HR.jy rfl ?_|refine HR.jr rfl ?_|exact HL.jX rfl rfl Ent.refl|(refine fun (hb:(_:Bool)=_)=>?_;try simp at hb))
 intro b
 repeat' (first|(refine HL.Jy ?_;first|refine HL.ev I I ?_|refine HL.evc I I (by first|omega|(simp;done)|(simp;omega)) ?_|refine HL.jLe jR7 I ?_|(refine HL.isLoad ?_;first|refine HL.L 0 I I I I ?_|refine HL.L 1 I I I I ?_|refine HL.L 2 I I I I ?_|refine HL.L 3 I I I I ?_)|(refine HL.jL ?_;first|refine HL.S 0 I I I I I ?_|refine HL.S 1 I I I I I ?_|refine HL.S 2 I I I I I ?_|refine HL.S 3 I I I I I ?_)|refine HL.build I I ?_|refine HL.field I I ?_|(refine HL.box I I ?_;intro bk)|(refine HL.alloc I I ?_;intro bk)|refine HL.skip rfl rfl ?_|refine HL.jw rfl ?_|apply HL.zN rfl rfl rfl rfl rfl rfl rfl rfl|apply HL.orB rfl rfl rfl rfl rfl rfl rfl rfl)|refine HL.nil ?_|refine HR.ctl rfl ?_|refine HR.region ?_|refine HR.jy rfl ?_|refine HR.jr rfl ?_|exact HL.jX rfl rfl Ent.refl|(refine fun (hb:(_:Bool)=_)=>?_;try simp at hb))
 intro bs
 repeat' (first|(refine HL.Jy ?_;first|refine HL.ev I I ?_|refine HL.evc I I (by first|omega|(simp;done)|(simp;omega)) ?_|refine HL.JN (Rd.arg hl) I I I ?_|(refine HL.isLoad ?_;first|refine HL.L 0 I I I I ?_|refine HL.L 1 I I I I ?_|refine HL.L 2 I I I I ?_|refine HL.L 3 I I I I ?_)|(refine HL.jL ?_;first|refine HL.S 0 I I I I I ?_|refine HL.S 1 I I I I I ?_|refine HL.S 2 I I I I I ?_|refine HL.S 3 I I I I I ?_)|refine HL.build I I ?_|refine HL.field I I ?_|(refine HL.box I I ?_;intro bk)|(refine HL.alloc I I ?_;intro bk)|refine HL.skip rfl rfl ?_|refine HL.jw rfl ?_|apply HL.zN rfl rfl rfl rfl rfl rfl rfl rfl|apply HL.orB rfl rfl rfl rfl rfl rfl rfl rfl)|refine HL.nil ?_|refine HR.ctl rfl ?_|refine HR.region ?_|refine HR.jy rfl ?_|refine HR.jr rfl ?_|exact HL.jX rfl rfl Ent.refl|(refine fun (hb:(_:Bool)=_)=>?_;try simp at hb))
 refine HR.loop4 (α:=Nat) (β:=List (Int×Value)) (γ:=Int→List Int) (δ:=List (Ed×Value))
  (fun k m adj sm=>k≤l.length∧zY m∧Tp.Adj (l.take k) adj∧(∀ n,getM n m=none→adj n=[])∧∀z,(getM z sm).getD (.bool false)= .bool (decide (∃ e∈l.take k,Tp.okE e=true∧Tp.link e=z)))
  (fun k m adj sm=>[(3,.map (some b)),(4,.map (some bs)),(11,vl),(12,.int .i64 (l.length:Int)),(13,.int .i64 (k:Int))])
  (fun k m adj sm=>[jK 3 m adj,JY encI b m,JY jR7 bs sm]) (fun k m adj sm=>l.length-k) 0 [] (fun _=>[]) [] ⟨Nat.zero_le _,List.nodup_nil,Tp.Adj.nil,fun _ _=>rfl,fun z=>by simp[getM]⟩ ⟨I,I,I,I,I,trivial⟩ ?_ ?_
 ·exact Ent.trans (Ent.pick [1,0] I I) Ent.jR8
 rintro k m adj sm ⟨hk,hnd,hadj,hnil,hsm⟩ ih
 repeat' (first|(refine HL.Jy ?_;first|refine HL.ev I I ?_|refine HL.evc I I (by first|omega|(simp;done)|(simp;omega)) ?_|(refine HL.isLoad ?_;first|refine HL.L 0 I I I I ?_|refine HL.L 1 I I I I ?_|refine HL.L 2 I I I I ?_|refine HL.L 3 I I I I ?_)|(refine HL.jL ?_;first|refine HL.S 0 I I I I I ?_|refine HL.S 1 I I I I I ?_|refine HL.S 2 I I I I I ?_|refine HL.S 3 I I I I I ?_)|refine HL.build I I ?_|refine HL.field I I ?_|(refine HL.box I I ?_;intro bk)|(refine HL.alloc I I ?_;intro bk)|refine HL.skip rfl rfl ?_|refine HL.jw rfl ?_|apply HL.zN rfl rfl rfl rfl rfl rfl rfl rfl|apply HL.orB rfl rfl rfl rfl rfl rfl rfl rfl)|refine HL.nil ?_|refine HR.ctl rfl ?_|refine HR.region ?_|refine HR.jy rfl ?_|refine HR.jr rfl ?_|exact HL.jX rfl rfl Ent.refl|(refine fun (hb:(_:Bool)=_)=>?_;try simp at hb))
 refine HR.cond I (fun h2=>?_) (fun h2=>?_)
 ·have hlt:k<l.length:=by have:=of_decide_eq_true h2;omega
  obtain ⟨e,he⟩:=jJ hlt
  have hsmN:∀z,(getM z (kJ (Tp.link e) (.bool true) sm)).getD (.bool false)= .bool (decide (z=Tp.link e∨∃e∈l.take k,Tp.okE e=true∧Tp.link e=z)):=fun z=>by
   rw[zV]
   by_cases hz:z=Tp.link e
   ·simp [hz]
   ·rw [if_neg hz,hsm];simp[hz]
  repeat' (first|(refine HL.Jy ?_;first|refine HL.ev I I ?_|refine HL.evc I I (by first|omega|(simp;done)|(simp;omega)) ?_|refine HL.JA (Rd.arg hl) jR9 k I I I I hlt ?_|refine HL.JW (Rd.arg hl) I I I I (by simp[edC]) I (jH jGg he) ?_|refine HL.jR jRr I I (fun w _=>jEX e w) ?_|refine HL.jR jNp I I (fun w _=>jBd e w) ?_|refine HL.jGX 3 I keyE I I I I I (hsm _) ?_|(refine HL.isLoad ?_;first|refine HL.L 0 I I I I ?_|refine HL.L 1 I I I I ?_|refine HL.L 2 I I I I ?_|refine HL.L 3 I I I I ?_)|(refine HL.jL ?_;first|refine HL.S 0 I I I I I ?_|refine HL.S 1 I I I I I ?_|refine HL.S 2 I I I I I ?_|refine HL.S 3 I I I I I ?_)|refine HL.build I I ?_|refine HL.field I I ?_|(refine HL.box I I ?_;intro bk)|(refine HL.alloc I I ?_;intro bk)|refine HL.skip rfl rfl ?_|refine HL.jw rfl ?_|apply HL.zN rfl rfl rfl rfl rfl rfl rfl rfl|apply HL.orB rfl rfl rfl rfl rfl rfl rfl rfl)|refine HL.nil ?_|refine HR.ctl rfl ?_|refine HR.region ?_|refine HR.jy rfl ?_|refine HR.jr rfl ?_|exact HL.jX rfl rfl Ent.refl|(refine fun (hb:(_:Bool)=_)=>?_;try simp at hb))
  refine HR.cond I (fun h3=>?_) (fun h3=>?_)
  ·obtain ⟨hok,hnew⟩:=Bool.and_eq_true_iff.1 h3
   have hnew:∀e'∈l.take k,Tp.okE e'=true→Tp.link e'≠Tp.link e:=by
    intro e' h4 h5 h6
    simp only[Bool.not_eq_true',decide_eq_false_iff_not]at hnew
    exact hnew ⟨e',h4,h5,h6⟩
   have hab:e.a≠e.b:=by simp[Tp.okE]at hok;exact hok.2
   have hadd:=hadj.add hok hnew
   have hl1:=hadj.len e.a
   have hl2:=hadj.len e.b
   repeat' (first|(refine HL.Jy ?_;first|refine HL.ev I I ?_|refine HL.evc I I (by first|omega|(simp;done)|(simp;omega)) ?_|refine HL.jR jNp I I (fun w _=>jBd e w) ?_|refine HL.jQv 3 I keyE I I I I I ?_|(refine HL.isLoad ?_;first|refine HL.L 0 I I I I ?_|refine HL.L 1 I I I I ?_|refine HL.L 2 I I I I ?_|refine HL.L 3 I I I I ?_)|(refine HL.jL ?_;first|refine HL.S 0 I I I I I ?_|refine HL.S 1 I I I I I ?_|refine HL.S 2 I I I I I ?_|refine HL.S 3 I I I I I ?_)|refine HL.build I I ?_|refine HL.field I I ?_|(refine HL.box I I ?_;intro bk)|(refine HL.alloc I I ?_;intro bk)|refine HL.skip rfl rfl ?_|refine HL.jw rfl ?_|apply HL.zN rfl rfl rfl rfl rfl rfl rfl rfl|apply HL.orB rfl rfl rfl rfl rfl rfl rfl rfl)|refine HL.nil ?_|refine HR.ctl rfl ?_|refine HR.region ?_|refine HR.jy rfl ?_|refine HR.jr rfl ?_|exact HL.jX rfl rfl Ent.refl|(refine fun (hb:(_:Bool)=_)=>?_;try simp at hb))
   refine HR.join (ι:=Value) (fun v=>True) (fun v=>[(3,.map (some b)),(4,.map (some bs)),(6,.pointer (some ⟨bk,0,none⟩)),(11,vl),(12,.int .i64 (l.length:Int)),(13,.int .i64 (k:Int))])
    (fun v=>[jK 3 (kJ e.a v m) (Tp.upd adj e.a (adj e.a++[e.b])),jT bk [.int .i64 e.a,.int .i64 e.b] 206,JY encI b (kJ e.a v m),JY jR7 bs (kJ (Tp.link e) (.bool true) sm)]) (fun v _=>?_) (fun hj=>?_)
   ·have hba:e.b≠e.a:=fun h=>hab h.symm
    have hadj1:Tp.upd adj e.a (adj e.a++[e.b]) e.b=adj e.b:=by simp[Tp.upd,hba]
    have hnil1:getM e.b (kJ e.a v m)=none→Tp.upd adj e.a (adj e.a++[e.b]) e.b=[]:=by
     rw[zV,if_neg hba,hadj1];exact hnil _
    refine HR.ent (H':=[jG ((getM e.b (kJ e.a v m)).getD (.slice none 0 0)) 3 1 (adj e.b).length (cellsOf iC (adj e.b)),jK 3 (jKC e.b (kJ e.a v m)) (Tp.upd adj e.a (adj e.a++[e.b])),jT bk [.int .i64 e.a,.int .i64 e.b] 206,JY encI b (kJ e.a v m),JY jR7 bs (kJ (Tp.link e) (.bool true) sm)]) (by rw[← hadj1];exact Ent.jMn (J8 hnd) hnil1 I) ?_
    repeat' (first|(refine HL.Jy ?_;first|refine HL.ev I I ?_|refine HL.evc I I (by first|omega|(simp;done)|(simp;omega)) ?_|(refine HL.isLoad ?_;first|refine HL.L 0 I I I I ?_|refine HL.L 1 I I I I ?_|refine HL.L 2 I I I I ?_|refine HL.L 3 I I I I ?_)|(refine HL.jL ?_;first|refine HL.S 0 I I I I I ?_|refine HL.S 1 I I I I I ?_|refine HL.S 2 I I I I I ?_|refine HL.S 3 I I I I I ?_)|refine HL.build I I ?_|refine HL.field I I ?_|(refine HL.box I I ?_;intro bk)|(refine HL.alloc I I ?_;intro bk)|refine HL.skip rfl rfl ?_|refine HL.jw rfl ?_|apply HL.zN rfl rfl rfl rfl rfl rfl rfl rfl|apply HL.orB rfl rfl rfl rfl rfl rfl rfl rfl)|refine HL.nil ?_|refine HR.ctl rfl ?_|refine HR.region ?_|refine HR.jy rfl ?_|refine HR.jr rfl ?_|exact HL.jX rfl rfl Ent.refl|(refine fun (hb:(_:Bool)=_)=>?_;try simp at hb))
    refine HR.kM [2] I I Jc ?_
    first|refine HA.ev 0 (by kernel_rfl) I I I ?_|refine HA.evc 0 (by kernel_rfl) I I I (by first|omega|(simp;done)|(simp;omega)) ?_|refine HA.j6 0 0 (by kernel_rfl) I I I I I I I ?_|refine HA.j6 0 1 (by kernel_rfl) I I I I I I I ?_|refine HA.j6 0 2 (by kernel_rfl) I I I I I I I ?_|refine HA.j6 0 3 (by kernel_rfl) I I I I I I I ?_|refine HA.j5 0 0 (by kernel_rfl) I I I I I I I I ?_|refine HA.j5 0 1 (by kernel_rfl) I I I I I I I I ?_|refine HA.j5 0 2 (by kernel_rfl) I I I I I I I I ?_|refine HA.j5 0 3 (by kernel_rfl) I I I I I I I I ?_|refine HA.build 0 (by kernel_rfl) I I I ?_
    first|refine HA.ev 1 (by kernel_rfl) I I I ?_|refine HA.evc 1 (by kernel_rfl) I I I (by first|omega|(simp;done)|(simp;omega)) ?_|refine HA.j6 1 0 (by kernel_rfl) I I I I I I I ?_|refine HA.j6 1 1 (by kernel_rfl) I I I I I I I ?_|refine HA.j6 1 2 (by kernel_rfl) I I I I I I I ?_|refine HA.j6 1 3 (by kernel_rfl) I I I I I I I ?_|refine HA.j5 1 0 (by kernel_rfl) I I I I I I I I ?_|refine HA.j5 1 1 (by kernel_rfl) I I I I I I I I ?_|refine HA.j5 1 2 (by kernel_rfl) I I I I I I I I ?_|refine HA.j5 1 3 (by kernel_rfl) I I I I I I I I ?_|refine HA.build 1 (by kernel_rfl) I I I ?_
    first|refine HA.ev 2 (by kernel_rfl) I I I ?_|refine HA.evc 2 (by kernel_rfl) I I I (by first|omega|(simp;done)|(simp;omega)) ?_|refine HA.j6 2 0 (by kernel_rfl) I I I I I I I ?_|refine HA.j6 2 1 (by kernel_rfl) I I I I I I I ?_|refine HA.j6 2 2 (by kernel_rfl) I I I I I I I ?_|refine HA.j6 2 3 (by kernel_rfl) I I I I I I I ?_|refine HA.j5 2 0 (by kernel_rfl) I I I I I I I I ?_|refine HA.j5 2 1 (by kernel_rfl) I I I I I I I I ?_|refine HA.j5 2 2 (by kernel_rfl) I I I I I I I I ?_|refine HA.j5 2 3 (by kernel_rfl) I I I I I I I I ?_|refine HA.build 2 (by kernel_rfl) I I I ?_
    first|refine HA.ev 3 (by kernel_rfl) I I I ?_|refine HA.evc 3 (by kernel_rfl) I I I (by first|omega|(simp;done)|(simp;omega)) ?_|refine HA.j6 3 0 (by kernel_rfl) I I I I I I I ?_|refine HA.j6 3 1 (by kernel_rfl) I I I I I I I ?_|refine HA.j6 3 2 (by kernel_rfl) I I I I I I I ?_|refine HA.j6 3 3 (by kernel_rfl) I I I I I I I ?_|refine HA.j5 3 0 (by kernel_rfl) I I I I I I I I ?_|refine HA.j5 3 1 (by kernel_rfl) I I I I I I I I ?_|refine HA.j5 3 2 (by kernel_rfl) I I I I I I I I ?_|refine HA.j5 3 3 (by kernel_rfl) I I I I I I I I ?_|refine HA.build 3 (by kernel_rfl) I I I ?_
    first|refine HA.ev 4 (by kernel_rfl) I I I ?_|refine HA.evc 4 (by kernel_rfl) I I I (by first|omega|(simp;done)|(simp;omega)) ?_|refine HA.j6 4 0 (by kernel_rfl) I I I I I I I ?_|refine HA.j6 4 1 (by kernel_rfl) I I I I I I I ?_|refine HA.j6 4 2 (by kernel_rfl) I I I I I I I ?_|refine HA.j6 4 3 (by kernel_rfl) I I I I I I I ?_|refine HA.j5 4 0 (by kernel_rfl) I I I I I I I I ?_|refine HA.j5 4 1 (by kernel_rfl) I I I I I I I I ?_|refine HA.j5 4 2 (by kernel_rfl) I I I I I I I I ?_|refine HA.j5 4 3 (by kernel_rfl) I I I I I I I I ?_|refine HA.build 4 (by kernel_rfl) I I I ?_
    first|refine HA.ev 5 (by kernel_rfl) I I I ?_|refine HA.evc 5 (by kernel_rfl) I I I (by first|omega|(simp;done)|(simp;omega)) ?_|refine HA.j6 5 0 (by kernel_rfl) I I I I I I I ?_|refine HA.j6 5 1 (by kernel_rfl) I I I I I I I ?_|refine HA.j6 5 2 (by kernel_rfl) I I I I I I I ?_|refine HA.j6 5 3 (by kernel_rfl) I I I I I I I ?_|refine HA.j5 5 0 (by kernel_rfl) I I I I I I I I ?_|refine HA.j5 5 1 (by kernel_rfl) I I I I I I I I ?_|refine HA.j5 5 2 (by kernel_rfl) I I I I I I I I ?_|refine HA.j5 5 3 (by kernel_rfl) I I I I I I I I ?_|refine HA.build 5 (by kernel_rfl) I I I ?_
    first|refine HA.ev 7 (by kernel_rfl) I I I ?_|refine HA.evc 7 (by kernel_rfl) I I I (by first|omega|(simp;done)|(simp;omega)) ?_|refine HA.j6 7 0 (by kernel_rfl) I I I I I I I ?_|refine HA.j6 7 1 (by kernel_rfl) I I I I I I I ?_|refine HA.j6 7 2 (by kernel_rfl) I I I I I I I ?_|refine HA.j6 7 3 (by kernel_rfl) I I I I I I I ?_|refine HA.j5 7 0 (by kernel_rfl) I I I I I I I I ?_|refine HA.j5 7 1 (by kernel_rfl) I I I I I I I I ?_|refine HA.j5 7 2 (by kernel_rfl) I I I I I I I I ?_|refine HA.j5 7 3 (by kernel_rfl) I I I I I I I I ?_|refine HA.build 7 (by kernel_rfl) I I I ?_
    first|refine HA.ev 8 (by kernel_rfl) I I I ?_|refine HA.evc 8 (by kernel_rfl) I I I (by first|omega|(simp;done)|(simp;omega)) ?_|refine HA.j6 8 0 (by kernel_rfl) I I I I I I I ?_|refine HA.j6 8 1 (by kernel_rfl) I I I I I I I ?_|refine HA.j6 8 2 (by kernel_rfl) I I I I I I I ?_|refine HA.j6 8 3 (by kernel_rfl) I I I I I I I ?_|refine HA.j5 8 0 (by kernel_rfl) I I I I I I I I ?_|refine HA.j5 8 1 (by kernel_rfl) I I I I I I I I ?_|refine HA.j5 8 2 (by kernel_rfl) I I I I I I I I ?_|refine HA.j5 8 3 (by kernel_rfl) I I I I I I I I ?_|refine HA.build 8 (by kernel_rfl) I I I ?_
    refine HA.two 6 9 (by kernel_rfl) I I ?_ ?_
    ·refine HL.jGX 3 I jNe I I I I I I ?_
     refine HL.jh [2] I I ?_
     refine HA.one 9 (by kernel_rfl) I ?_
     refine HL.jv Jw I I I I I (by decide) (by decide) ?_
     intro v1
     refine HL.jh [3] I I ?_
     refine HA.one 10 (by kernel_rfl) I ?_
     refine HL.ZN 1 I Jw (Rd.own 0 I) I I I I (jF I) (by omega) (by omega) ?_
     intro v2
     refine HL.jh [3] I I ?_
     refine HA.one 11 (by kernel_rfl) I ?_
     refine HL.jQv 4 I jNe I I I I I ?_
     refine HL.jh [3] I I ?_
     refine HA.done (by kernel_rfl) ?_
     repeat' (first|(refine HL.Jy ?_;first|refine HL.ev I I ?_|refine HL.evc I I (by first|omega|(simp;done)|(simp;omega)) ?_|(refine HL.isLoad ?_;first|refine HL.L 0 I I I I ?_|refine HL.L 1 I I I I ?_|refine HL.L 2 I I I I ?_|refine HL.L 3 I I I I ?_)|(refine HL.jL ?_;first|refine HL.S 0 I I I I I ?_|refine HL.S 1 I I I I I ?_|refine HL.S 2 I I I I I ?_|refine HL.S 3 I I I I I ?_)|refine HL.build I I ?_|refine HL.field I I ?_|(refine HL.box I I ?_;intro bk)|(refine HL.alloc I I ?_;intro bk)|refine HL.skip rfl rfl ?_|refine HL.jw rfl ?_|apply HL.zN rfl rfl rfl rfl rfl rfl rfl rfl|apply HL.orB rfl rfl rfl rfl rfl rfl rfl rfl)|refine HL.nil ?_|refine HR.ctl rfl ?_|refine HR.region ?_|refine HR.jy rfl ?_|refine HR.jr rfl ?_|exact HL.jX rfl rfl Ent.refl|(refine fun (hb:(_:Bool)=_)=>?_;try simp at hb))
     refine ih (k+1) (kJ e.b v2 (kJ e.a v m)) (Tp.upd (Tp.upd adj e.a (adj e.a++[e.b])) e.b (adj e.b++[e.a])) (kJ (Tp.link e) (.bool true) sm) _ _ ⟨hlt,J8 (J8 hnd),by rw[jN he];exact hadd,?_,?_⟩ (by omega) ⟨I,I,I,I,I,trivial⟩ ?_
     ·intro n hn
      rw[zV,zV]at hn
      by_cases h1:n=e.b
      ·rw [if_pos h1]at hn;cases hn
      ·rw [if_neg h1]at hn
       by_cases h2:n=e.a
       ·rw [if_pos h2]at hn;cases hn
       ·rw [if_neg h2]at hn;simp[Tp.upd,h1,h2,hnil n hn]
     ·intro z;rw[hsmN,jN he];congr 2;simp only[List.mem_append,List.mem_singleton,eq_iff_iff];constructor
      ·rintro (h|⟨e',h4,h5⟩)
       ·exact ⟨e,.inr rfl,hok,h.symm⟩
       ·exact ⟨e',.inl h4,h5⟩
      ·rintro ⟨e',h4|rfl,h5,h6⟩
       ·exact .inr ⟨e',h4,h5,h6⟩
       ·exact .inl h6.symm
     ·refine Ent.trans (Ent.pick [1,2,4,5] I I) (Ent.trans (Ent.JV ?_ ?_) (Ent.jMA (adj':=Tp.upd (Tp.upd adj e.a (adj e.a++[e.b])) e.b (adj e.b++[e.a])) (J8 hnd) ?_))
      ·simp [Tp.upd,hba]
      ·simp [Tp.upd,jP,J2]
      ·intro n hn;simp[Tp.upd,hn]
    ·refine HL.jv Jw I I I I I (by decide) (by decide) ?_
     intro v1
     refine HL.jh [3] I I ?_
     refine HA.one 6 (by kernel_rfl) I ?_
     refine HL.jGX 4 I jNe I I I I I I ?_
     refine HL.jh [3] I I ?_
     refine HA.one 10 (by kernel_rfl) I ?_
     refine HL.ZN 1 I Jw (Rd.own 0 I) I I I I (jF I) (by omega) (by omega) ?_
     intro v2
     refine HL.jh [3] I I ?_
     refine HA.one 11 (by kernel_rfl) I ?_
     refine HL.jQv 4 I jNe I I I I I ?_
     refine HL.jh [3] I I ?_
     refine HA.done (by kernel_rfl) ?_
     repeat' (first|(refine HL.Jy ?_;first|refine HL.ev I I ?_|refine HL.evc I I (by first|omega|(simp;done)|(simp;omega)) ?_|(refine HL.isLoad ?_;first|refine HL.L 0 I I I I ?_|refine HL.L 1 I I I I ?_|refine HL.L 2 I I I I ?_|refine HL.L 3 I I I I ?_)|(refine HL.jL ?_;first|refine HL.S 0 I I I I I ?_|refine HL.S 1 I I I I I ?_|refine HL.S 2 I I I I I ?_|refine HL.S 3 I I I I I ?_)|refine HL.build I I ?_|refine HL.field I I ?_|(refine HL.box I I ?_;intro bk)|(refine HL.alloc I I ?_;intro bk)|refine HL.skip rfl rfl ?_|refine HL.jw rfl ?_|apply HL.zN rfl rfl rfl rfl rfl rfl rfl rfl|apply HL.orB rfl rfl rfl rfl rfl rfl rfl rfl)|refine HL.nil ?_|refine HR.ctl rfl ?_|refine HR.region ?_|refine HR.jy rfl ?_|refine HR.jr rfl ?_|exact HL.jX rfl rfl Ent.refl|(refine fun (hb:(_:Bool)=_)=>?_;try simp at hb))
     refine ih (k+1) (kJ e.b v2 (kJ e.a v m)) (Tp.upd (Tp.upd adj e.a (adj e.a++[e.b])) e.b (adj e.b++[e.a])) (kJ (Tp.link e) (.bool true) sm) _ _ ⟨hlt,J8 (J8 hnd),by rw[jN he];exact hadd,?_,?_⟩ (by omega) ⟨I,I,I,I,I,trivial⟩ ?_
     ·intro n hn
      rw[zV,zV]at hn
      by_cases h1:n=e.b
      ·rw [if_pos h1]at hn;cases hn
      ·rw [if_neg h1]at hn
       by_cases h2:n=e.a
       ·rw [if_pos h2]at hn;cases hn
       ·rw [if_neg h2]at hn;simp[Tp.upd,h1,h2,hnil n hn]
     ·intro z;rw[hsmN,jN he];congr 2;simp only[List.mem_append,List.mem_singleton,eq_iff_iff];constructor
      ·rintro (h|⟨e',h4,h5⟩)
       ·exact ⟨e,.inr rfl,hok,h.symm⟩
       ·exact ⟨e',.inl h4,h5⟩
      ·rintro ⟨e',h4|rfl,h5,h6⟩
       ·exact .inr ⟨e',h4,h5,h6⟩
       ·exact .inl h6.symm
     ·refine Ent.trans (Ent.pick [1,2,4,5] I I) (Ent.trans (Ent.JV ?_ ?_) (Ent.jMA (adj':=Tp.upd (Tp.upd adj e.a (adj e.a++[e.b])) e.b (adj e.b++[e.a])) (J8 hnd) ?_))
      ·simp [Tp.upd,hba]
      ·simp [Tp.upd,jP,J2]
      ·intro n hn;simp[Tp.upd,hn]
   ·refine HR.ent (H':=[jG ((getM e.a m).getD (.slice none 0 0)) 3 1 (adj e.a).length (cellsOf iC (adj e.a)),jK 3 (jKC e.a m) adj,jT bk [.int .i64 e.a,.int .i64 e.b] 206,JY encI b m,JY jR7 bs (kJ (Tp.link e) (.bool true) sm)]) (Ent.trans (Ent.pick [1,0,2,3] I I) (Ent.jMn hnd (hnil _) I)) ?_
    refine HR.kM [2] I I Jc ?_
    first|refine HA.ev 0 (by kernel_rfl) I I I ?_|refine HA.evc 0 (by kernel_rfl) I I I (by first|omega|(simp;done)|(simp;omega)) ?_|refine HA.j6 0 0 (by kernel_rfl) I I I I I I I ?_|refine HA.j6 0 1 (by kernel_rfl) I I I I I I I ?_|refine HA.j6 0 2 (by kernel_rfl) I I I I I I I ?_|refine HA.j6 0 3 (by kernel_rfl) I I I I I I I ?_|refine HA.j5 0 0 (by kernel_rfl) I I I I I I I I ?_|refine HA.j5 0 1 (by kernel_rfl) I I I I I I I I ?_|refine HA.j5 0 2 (by kernel_rfl) I I I I I I I I ?_|refine HA.j5 0 3 (by kernel_rfl) I I I I I I I I ?_|refine HA.build 0 (by kernel_rfl) I I I ?_
    first|refine HA.ev 1 (by kernel_rfl) I I I ?_|refine HA.evc 1 (by kernel_rfl) I I I (by first|omega|(simp;done)|(simp;omega)) ?_|refine HA.j6 1 0 (by kernel_rfl) I I I I I I I ?_|refine HA.j6 1 1 (by kernel_rfl) I I I I I I I ?_|refine HA.j6 1 2 (by kernel_rfl) I I I I I I I ?_|refine HA.j6 1 3 (by kernel_rfl) I I I I I I I ?_|refine HA.j5 1 0 (by kernel_rfl) I I I I I I I I ?_|refine HA.j5 1 1 (by kernel_rfl) I I I I I I I I ?_|refine HA.j5 1 2 (by kernel_rfl) I I I I I I I I ?_|refine HA.j5 1 3 (by kernel_rfl) I I I I I I I I ?_|refine HA.build 1 (by kernel_rfl) I I I ?_
    first|refine HA.ev 2 (by kernel_rfl) I I I ?_|refine HA.evc 2 (by kernel_rfl) I I I (by first|omega|(simp;done)|(simp;omega)) ?_|refine HA.j6 2 0 (by kernel_rfl) I I I I I I I ?_|refine HA.j6 2 1 (by kernel_rfl) I I I I I I I ?_|refine HA.j6 2 2 (by kernel_rfl) I I I I I I I ?_|refine HA.j6 2 3 (by kernel_rfl) I I I I I I I ?_|refine HA.j5 2 0 (by kernel_rfl) I I I I I I I I ?_|refine HA.j5 2 1 (by kernel_rfl) I I I I I I I I ?_|refine HA.j5 2 2 (by kernel_rfl) I I I I I I I I ?_|refine HA.j5 2 3 (by kernel_rfl) I I I I I I I I ?_|refine HA.build 2 (by kernel_rfl) I I I ?_
    first|refine HA.ev 3 (by kernel_rfl) I I I ?_|refine HA.evc 3 (by kernel_rfl) I I I (by first|omega|(simp;done)|(simp;omega)) ?_|refine HA.j6 3 0 (by kernel_rfl) I I I I I I I ?_|refine HA.j6 3 1 (by kernel_rfl) I I I I I I I ?_|refine HA.j6 3 2 (by kernel_rfl) I I I I I I I ?_|refine HA.j6 3 3 (by kernel_rfl) I I I I I I I ?_|refine HA.j5 3 0 (by kernel_rfl) I I I I I I I I ?_|refine HA.j5 3 1 (by kernel_rfl) I I I I I I I I ?_|refine HA.j5 3 2 (by kernel_rfl) I I I I I I I I ?_|refine HA.j5 3 3 (by kernel_rfl) I I I I I I I I ?_|refine HA.build 3 (by kernel_rfl) I I I ?_
    first|refine HA.ev 4 (by kernel_rfl) I I I ?_|refine HA.evc 4 (by kernel_rfl) I I I (by first|omega|(simp;done)|(simp;omega)) ?_|refine HA.j6 4 0 (by kernel_rfl) I I I I I I I ?_|refine HA.j6 4 1 (by kernel_rfl) I I I I I I I ?_|refine HA.j6 4 2 (by kernel_rfl) I I I I I I I ?_|refine HA.j6 4 3 (by kernel_rfl) I I I I I I I ?_|refine HA.j5 4 0 (by kernel_rfl) I I I I I I I I ?_|refine HA.j5 4 1 (by kernel_rfl) I I I I I I I I ?_|refine HA.j5 4 2 (by kernel_rfl) I I I I I I I I ?_|refine HA.j5 4 3 (by kernel_rfl) I I I I I I I I ?_|refine HA.build 4 (by kernel_rfl) I I I ?_
    first|refine HA.ev 5 (by kernel_rfl) I I I ?_|refine HA.evc 5 (by kernel_rfl) I I I (by first|omega|(simp;done)|(simp;omega)) ?_|refine HA.j6 5 0 (by kernel_rfl) I I I I I I I ?_|refine HA.j6 5 1 (by kernel_rfl) I I I I I I I ?_|refine HA.j6 5 2 (by kernel_rfl) I I I I I I I ?_|refine HA.j6 5 3 (by kernel_rfl) I I I I I I I ?_|refine HA.j5 5 0 (by kernel_rfl) I I I I I I I I ?_|refine HA.j5 5 1 (by kernel_rfl) I I I I I I I I ?_|refine HA.j5 5 2 (by kernel_rfl) I I I I I I I I ?_|refine HA.j5 5 3 (by kernel_rfl) I I I I I I I I ?_|refine HA.build 5 (by kernel_rfl) I I I ?_
    first|refine HA.ev 7 (by kernel_rfl) I I I ?_|refine HA.evc 7 (by kernel_rfl) I I I (by first|omega|(simp;done)|(simp;omega)) ?_|refine HA.j6 7 0 (by kernel_rfl) I I I I I I I ?_|refine HA.j6 7 1 (by kernel_rfl) I I I I I I I ?_|refine HA.j6 7 2 (by kernel_rfl) I I I I I I I ?_|refine HA.j6 7 3 (by kernel_rfl) I I I I I I I ?_|refine HA.j5 7 0 (by kernel_rfl) I I I I I I I I ?_|refine HA.j5 7 1 (by kernel_rfl) I I I I I I I I ?_|refine HA.j5 7 2 (by kernel_rfl) I I I I I I I I ?_|refine HA.j5 7 3 (by kernel_rfl) I I I I I I I I ?_|refine HA.build 7 (by kernel_rfl) I I I ?_
    first|refine HA.ev 8 (by kernel_rfl) I I I ?_|refine HA.evc 8 (by kernel_rfl) I I I (by first|omega|(simp;done)|(simp;omega)) ?_|refine HA.j6 8 0 (by kernel_rfl) I I I I I I I ?_|refine HA.j6 8 1 (by kernel_rfl) I I I I I I I ?_|refine HA.j6 8 2 (by kernel_rfl) I I I I I I I ?_|refine HA.j6 8 3 (by kernel_rfl) I I I I I I I ?_|refine HA.j5 8 0 (by kernel_rfl) I I I I I I I I ?_|refine HA.j5 8 1 (by kernel_rfl) I I I I I I I I ?_|refine HA.j5 8 2 (by kernel_rfl) I I I I I I I I ?_|refine HA.j5 8 3 (by kernel_rfl) I I I I I I I I ?_|refine HA.build 8 (by kernel_rfl) I I I ?_
    refine HA.two 6 9 (by kernel_rfl) I I ?_ ?_
    ·refine HL.jGX 3 I jNe I I I I I I ?_
     refine HL.jh [2] I I ?_
     refine HA.one 9 (by kernel_rfl) I ?_
     refine HL.jv Jw I I I I I (by decide) (by decide) ?_
     intro v1
     refine HL.jh [3] I I ?_
     refine HA.one 10 (by kernel_rfl) I ?_
     refine HL.ZN 1 I Jw (Rd.own 0 I) I I I I (jF I) (by omega) (by omega) ?_
     intro v2
     refine HL.jh [3] I I ?_
     refine HA.one 11 (by kernel_rfl) I ?_
     refine HL.jQv 4 I jNe I I I I I ?_
     refine HL.jh [3] I I ?_
     refine HA.done (by kernel_rfl) ?_
     refine hj v2 _ _ trivial ⟨I,I,I,I,I,I,trivial⟩ (Ent.trans (Ent.pick [1,2,3,4,5] I I) (Ent.trans (Ent.JV ?_ ?_) (Ent.jMA (adj':=Tp.upd adj e.a (adj e.a++[e.b])) hnd ?_)))
     ·simp [Tp.upd]
     ·simp [Tp.upd,jP,J2]
     ·intro n hn;simp[Tp.upd,hn]
    ·refine HL.jv Jw I I I I I (by decide) (by decide) ?_
     intro v1
     refine HL.jh [3] I I ?_
     refine HA.one 6 (by kernel_rfl) I ?_
     refine HL.jGX 4 I jNe I I I I I I ?_
     refine HL.jh [3] I I ?_
     refine HA.one 10 (by kernel_rfl) I ?_
     refine HL.ZN 1 I Jw (Rd.own 0 I) I I I I (jF I) (by omega) (by omega) ?_
     intro v2
     refine HL.jh [3] I I ?_
     refine HA.one 11 (by kernel_rfl) I ?_
     refine HL.jQv 4 I jNe I I I I I ?_
     refine HL.jh [3] I I ?_
     refine HA.done (by kernel_rfl) ?_
     refine hj v2 _ _ trivial ⟨I,I,I,I,I,I,trivial⟩ (Ent.trans (Ent.pick [1,2,3,4,5] I I) (Ent.trans (Ent.JV ?_ ?_) (Ent.jMA (adj':=Tp.upd adj e.a (adj e.a++[e.b])) hnd ?_)))
     ·simp [Tp.upd]
     ·simp [Tp.upd,jP,J2]
     ·intro n hn;simp[Tp.upd,hn]
  ·repeat' (first|(refine HL.Jy ?_;first|refine HL.ev I I ?_|refine HL.evc I I (by first|omega|(simp;done)|(simp;omega)) ?_|(refine HL.isLoad ?_;first|refine HL.L 0 I I I I ?_|refine HL.L 1 I I I I ?_|refine HL.L 2 I I I I ?_|refine HL.L 3 I I I I ?_)|(refine HL.jL ?_;first|refine HL.S 0 I I I I I ?_|refine HL.S 1 I I I I I ?_|refine HL.S 2 I I I I I ?_|refine HL.S 3 I I I I I ?_)|refine HL.build I I ?_|refine HL.field I I ?_|(refine HL.box I I ?_;intro bk)|(refine HL.alloc I I ?_;intro bk)|refine HL.skip rfl rfl ?_|refine HL.jw rfl ?_|apply HL.zN rfl rfl rfl rfl rfl rfl rfl rfl|apply HL.orB rfl rfl rfl rfl rfl rfl rfl rfl)|refine HL.nil ?_|refine HR.ctl rfl ?_|refine HR.region ?_|refine HR.jy rfl ?_|refine HR.jr rfl ?_|exact HL.jX rfl rfl Ent.refl|(refine fun (hb:(_:Bool)=_)=>?_;try simp at hb))
   have hst:Tp.okE e=false∨∃e'∈l.take k,Tp.okE e'=true∧Tp.link e'=Tp.link e:=by
    rcases Bool.and_eq_false_iff.1 h3 with h|h
    ·exact .inl h
    ·right;simpa using h
   refine ih (k+1) m adj sm _ _ ⟨hlt,hnd,by rw[jN he];exact hadj.skip hst,hnil,?_⟩ (by omega) ⟨I,I,I,I,I,trivial⟩ (Ent.pick [1,2,3] I I)
   intro z
   rw[hsm,jN he]
   congr 2
   simp only[List.mem_append,List.mem_singleton,eq_iff_iff]
   constructor
   ·rintro ⟨e',h4,h5⟩;exact ⟨e',.inl h4,h5⟩
   ·rintro ⟨e',h4|rfl,h5,h6⟩
    ·exact ⟨e',h4,h5,h6⟩
    ·rcases hst with h|⟨e2,g1,g2,g3⟩
     ·rw [h]at h5;cases h5
     ·exact ⟨e2,g1,g2,by rw[g3,h6]⟩
 ·have hke:k=l.length:=by have:=of_decide_eq_false h2;omega
  subst hke
  rw[List.take_length]at hadj
  repeat' (first|(refine HL.Jy ?_;first|refine HL.ev I I ?_|refine HL.evc I I (by first|omega|(simp;done)|(simp;omega)) ?_|refine HL.jRB 1 I I I I ?_|(refine HL.isLoad ?_;first|refine HL.L 0 I I I I ?_|refine HL.L 1 I I I I ?_|refine HL.L 2 I I I I ?_|refine HL.L 3 I I I I ?_)|(refine HL.jL ?_;first|refine HL.S 0 I I I I I ?_|refine HL.S 1 I I I I I ?_|refine HL.S 2 I I I I I ?_|refine HL.S 3 I I I I I ?_)|refine HL.build I I ?_|refine HL.field I I ?_|(refine HL.box I I ?_;intro bk)|(refine HL.alloc I I ?_;intro bk)|refine HL.skip rfl rfl ?_|refine HL.jw rfl ?_|apply HL.zN rfl rfl rfl rfl rfl rfl rfl rfl|apply HL.orB rfl rfl rfl rfl rfl rfl rfl rfl)|refine HL.nil ?_|refine HR.ctl rfl ?_|refine HR.region ?_|refine HR.jy rfl ?_|refine HR.jr rfl ?_|exact HL.jX rfl rfl Ent.refl|(refine fun (hb:(_:Bool)=_)=>?_;try simp at hb))
  intro r
  repeat' (first|(refine HL.Jy ?_;first|refine HL.ev I I ?_|refine HL.evc I I (by first|omega|(simp;done)|(simp;omega)) ?_|(refine HL.isLoad ?_;first|refine HL.L 0 I I I I ?_|refine HL.L 1 I I I I ?_|refine HL.L 2 I I I I ?_|refine HL.L 3 I I I I ?_)|(refine HL.jL ?_;first|refine HL.S 0 I I I I I ?_|refine HL.S 1 I I I I I ?_|refine HL.S 2 I I I I I ?_|refine HL.S 3 I I I I I ?_)|refine HL.build I I ?_|refine HL.field I I ?_|(refine HL.box I I ?_;intro bk)|(refine HL.alloc I I ?_;intro bk)|refine HL.skip rfl rfl ?_|refine HL.jw rfl ?_|apply HL.zN rfl rfl rfl rfl rfl rfl rfl rfl|apply HL.orB rfl rfl rfl rfl rfl rfl rfl rfl)|refine HL.nil ?_|refine HR.ctl rfl ?_|refine HR.region ?_|refine HR.jy rfl ?_|refine HR.jr rfl ?_|exact HL.jX rfl rfl Ent.refl|(refine fun (hb:(_:Bool)=_)=>?_;try simp at hb))
  have hsame:∀n,(if n∈([]:List Int)then Tp.jAK l n else adj n)=adj n:=fun n=>by simp
  refine HR.loop (ι:=List Int) (fun seen=>seen.Nodup∧seen.Subset (m.map (·.1))) (fun seen=>[(3,.map (some b)),(53,.pointer (some ⟨r,0,none⟩))]) (fun seen=>[jK 3 m (fun n=>if n∈seen then Tp.jAK l n else adj n),jY encI r b m seen]) (fun seen=>m.length-seen.length) [] ⟨List.nodup_nil,by intro x hx;cases hx⟩ ⟨I,I,trivial⟩ (Ent.trans (Ent.pick [0,1] I I) (Ent.asS fun n=>(hsame n).symm)) ?_
  rintro seen ⟨hsn,hss⟩ ih2
  repeat' (first|(refine HL.Jy ?_;first|refine HL.ev I I ?_|refine HL.evc I I (by first|omega|(simp;done)|(simp;omega)) ?_|(refine HL.isLoad ?_;first|refine HL.L 0 I I I I ?_|refine HL.L 1 I I I I ?_|refine HL.L 2 I I I I ?_|refine HL.L 3 I I I I ?_)|(refine HL.jL ?_;first|refine HL.S 0 I I I I I ?_|refine HL.S 1 I I I I I ?_|refine HL.S 2 I I I I I ?_|refine HL.S 3 I I I I I ?_)|refine HL.build I I ?_|refine HL.field I I ?_|(refine HL.box I I ?_;intro bk)|(refine HL.alloc I I ?_;intro bk)|refine HL.skip rfl rfl ?_|refine HL.jw rfl ?_|apply HL.zN rfl rfl rfl rfl rfl rfl rfl rfl|apply HL.orB rfl rfl rfl rfl rfl rfl rfl rfl)|refine HL.nil ?_|refine HR.ctl rfl ?_|refine HR.region ?_|refine HR.jy rfl ?_|refine HR.jr rfl ?_|exact HL.jX rfl rfl Ent.refl|(refine fun (hb:(_:Bool)=_)=>?_;try simp at hb))
  refine HL.nextM 1 I (fun a b h=>by simpa using h) I I (fun hend=>?_) (fun a u hau hns=>?_)
  ·repeat' (first|(refine HL.Jy ?_;first|refine HL.ev I I ?_|refine HL.evc I I (by first|omega|(simp;done)|(simp;omega)) ?_|(refine HL.isLoad ?_;first|refine HL.L 0 I I I I ?_|refine HL.L 1 I I I I ?_|refine HL.L 2 I I I I ?_|refine HL.L 3 I I I I ?_)|(refine HL.jL ?_;first|refine HL.S 0 I I I I I ?_|refine HL.S 1 I I I I I ?_|refine HL.S 2 I I I I I ?_|refine HL.S 3 I I I I I ?_)|refine HL.build I I ?_|refine HL.field I I ?_|(refine HL.box I I ?_;intro bk)|(refine HL.alloc I I ?_;intro bk)|refine HL.skip rfl rfl ?_|refine HL.jw rfl ?_|apply HL.zN rfl rfl rfl rfl rfl rfl rfl rfl|apply HL.orB rfl rfl rfl rfl rfl rfl rfl rfl)|refine HL.nil ?_|refine HR.ctl rfl ?_|refine HR.region ?_|refine HR.jy rfl ?_|refine HR.jr rfl ?_|exact HL.jX rfl rfl Ent.refl|(refine fun (hb:(_:Bool)=_)=>?_;try simp at hb))
   refine HR.jQA 1 I ?_
   have hfin:∀n,(if n∈seen then Tp.jAK l n else adj n)=Tp.jAK l n:=by
    intro n
    by_cases hn:n∈seen
    ·rw [if_pos hn]
    ·rw [if_neg hn]
     have h0:adj n=[]:=by
      refine hnil n (getM_none.2 fun hm=>?_)
      obtain ⟨p,hp,rfl⟩:=List.mem_map.1 hm
      exact hn (hend p hp)
     rw[h0,← hadj.sorted n,h0,jEc]
   refine HR.ent (Ent.asS hfin) ?_
   refine HR.ret Tryz.func161 I [_] (fun _ _=>⟨I,trivial⟩) ?_
   refine fun w' hw=>⟨(b,m),rfl,fun n hn=>?_,hw⟩
   rw[← hadj.sorted n,hnil n hn,jEc]
  ·have hg:=zL hnd hau
   have hla:=hadj.len a
   repeat' (first|(refine HL.Jy ?_;first|refine HL.ev I I ?_|refine HL.evc I I (by first|omega|(simp;done)|(simp;omega)) ?_|refine HL.jR6 1 I (fun a b h=>by simpa using h) hau I I ?_|(refine HL.isLoad ?_;first|refine HL.L 0 I I I I ?_|refine HL.L 1 I I I I ?_|refine HL.L 2 I I I I ?_|refine HL.L 3 I I I I ?_)|(refine HL.jL ?_;first|refine HL.S 0 I I I I I ?_|refine HL.S 1 I I I I I ?_|refine HL.S 2 I I I I I ?_|refine HL.S 3 I I I I I ?_)|refine HL.build I I ?_|refine HL.field I I ?_|(refine HL.box I I ?_;intro bk)|(refine HL.alloc I I ?_;intro bk)|refine HL.skip rfl rfl ?_|refine HL.jw rfl ?_|apply HL.zN rfl rfl rfl rfl rfl rfl rfl rfl|apply HL.orB rfl rfl rfl rfl rfl rfl rfl rfl)|refine HL.nil ?_|refine HR.ctl rfl ?_|refine HR.region ?_|refine HR.jy rfl ?_|refine HR.jr rfl ?_|exact HL.jX rfl rfl Ent.refl|(refine fun (hb:(_:Bool)=_)=>?_;try simp at hb))
   refine HL.ent (Ent.jMn (v:=u) hnd (fun h=>by rw[hg]at h;cases h) (by simp[hg])) ?_
   rw[if_neg hns]
   refine HL.Jh (r:=fun _:Unit=> .tuple #[]) (Q:=fun _=>True) (G:=fun _=>[jG u 3 1 (adj a).length (cellsOf iC (jFr (adj a)))]) jQT I I I (fun w hw=>jBo u _ _ w (by have:=hw.nth (i:=0) rfl;unfold jG at this;exact this) (by omega)) ?_
   intro _ _
   repeat' (first|(refine HL.Jy ?_;first|refine HL.ev I I ?_|refine HL.evc I I (by first|omega|(simp;done)|(simp;omega)) ?_|(refine HL.isLoad ?_;first|refine HL.L 0 I I I I ?_|refine HL.L 1 I I I I ?_|refine HL.L 2 I I I I ?_|refine HL.L 3 I I I I ?_)|(refine HL.jL ?_;first|refine HL.S 0 I I I I I ?_|refine HL.S 1 I I I I I ?_|refine HL.S 2 I I I I I ?_|refine HL.S 3 I I I I I ?_)|refine HL.build I I ?_|refine HL.field I I ?_|(refine HL.box I I ?_;intro bk)|(refine HL.alloc I I ?_;intro bk)|refine HL.skip rfl rfl ?_|refine HL.jw rfl ?_|apply HL.zN rfl rfl rfl rfl rfl rfl rfl rfl|apply HL.orB rfl rfl rfl rfl rfl rfl rfl rfl)|refine HL.nil ?_|refine HR.ctl rfl ?_|refine HR.region ?_|refine HR.jy rfl ?_|refine HR.jr rfl ?_|exact HL.jX rfl rfl Ent.refl|(refine fun (hb:(_:Bool)=_)=>?_;try simp at hb))
   have hlen:(Tp.jAK l a).length=(adj a).length:=by rw[← hadj.sorted a,jKX]
   have hin:(a::seen).Nodup∧(a::seen).Subset (m.map (·.1)):=⟨List.nodup_cons.2 ⟨hns,hsn⟩,fun x hx=>by rcases List.mem_cons.1 hx with rfl|hx;exact List.mem_map.2 ⟨_,hau,rfl⟩;exact hss hx⟩
   have hlt:(a::seen).length≤m.length:=by
    have:=List.Nodup.length_le_of_subset hin.1 hin.2
    simpa using this
   refine ih2 (a::seen) _ _ hin (by simp at hlt ⊢;omega) ⟨I,I,trivial⟩ (Ent.trans (Ent.JV (n':=(if a∈a::seen then Tp.jAK l a else adj a).length) (xs':=cellsOf iC (if a∈a::seen then Tp.jAK l a else adj a)) ?_ ?_) ?_)
   ·simp [hlen]
   ·simp [hadj.sorted a]
   ·have:=Ent.jMA (B:=base w) (H:=[jY encI r b m (a::seen)]) (e:=3) (v:=u) (a:=a) (adj:=fun n=>if n∈seen then Tp.jAK l n else adj n) (adj':=fun n=>if n∈a::seen then Tp.jAK l n else adj n) hnd (fun n hn=>by simp[hn])
    rw[jEf hg]at this
    exact this
end Go.Proofs.YtgfdoognildoeaaGreat
namespace Go.Proofs.YtgfdoognildoeaaGreat
open Go.GX Go.RowKit
attribute [local irreducible] Calls Run jZ jf JK HR HL HD jT jG JY Rd jK jY
theorem fn83:IsFn Tryz.prog 83:=⟨⟨_,_,Tryz.func83,rfl,by decide⟩⟩
theorem jNT (l:List Ed) (n:Int) (vl:Value) (w:World) (hl:Sl w vl (cellsOf edC l) l.length) (hll:l.length≤1000):
  Calls Tryz.prog 83 #[vl,.int .i64 n] w fun e w'=>∃v,e= .returned v∧Sat (base w) [jG v 3 1 (Tp.jAK l n).length (cellsOf iC (Tp.jAK l n))] w':=by
 refine jD Tryz.func83 I (Nat.le_of_ble_eq_true I) ?_
 refine HR.sub (σ':=[(0,vl),(1,.int .i64 n)]) ⟨I,I,trivial⟩ ?_
 repeat' (first|(refine HL.Jy ?_;first|refine HL.ev I I ?_|refine HL.evc I I (by first|omega|(simp;done)|(simp;omega)) ?_|(refine HL.isLoad ?_;first|refine HL.L 0 I I I I ?_|refine HL.L 1 I I I I ?_|refine HL.L 2 I I I I ?_|refine HL.L 3 I I I I ?_)|(refine HL.jL ?_;first|refine HL.S 0 I I I I I ?_|refine HL.S 1 I I I I I ?_|refine HL.S 2 I I I I I ?_|refine HL.S 3 I I I I I ?_)|refine HL.build I I ?_|refine HL.field I I ?_|(refine HL.box I I ?_;intro bk)|(refine HL.alloc I I ?_;intro bk)|refine HL.skip rfl rfl ?_|refine HL.jw rfl ?_|apply HL.zN rfl rfl rfl rfl rfl rfl rfl rfl|apply HL.orB rfl rfl rfl rfl rfl rfl rfl rfl)|refine HL.nil ?_|refine HR.ctl rfl ?_|refine HR.region ?_|refine HR.jy rfl ?_|refine HR.jr rfl ?_|exact HL.jX rfl rfl Ent.refl|(refine fun (hb:(_:Bool)=_)=>?_;try simp at hb))
 refine HL.JC fn161 I I (fun w hw=>jL7 l vl w ((Rd.arg hl).at hw) hll) ?_
 rintro ⟨b,m⟩ h0
 refine HL.know (Q:=zY m) (fun w hw=>hw.jRQ (i:=1) I) fun hnd=>?_
 repeat' (first|(refine HL.Jy ?_;first|refine HL.ev I I ?_|refine HL.evc I I (by first|omega|(simp;done)|(simp;omega)) ?_|refine HL.jGX 1 I jNe I I I I I I ?_|(refine HL.isLoad ?_;first|refine HL.L 0 I I I I ?_|refine HL.L 1 I I I I ?_|refine HL.L 2 I I I I ?_|refine HL.L 3 I I I I ?_)|(refine HL.jL ?_;first|refine HL.S 0 I I I I I ?_|refine HL.S 1 I I I I I ?_|refine HL.S 2 I I I I I ?_|refine HL.S 3 I I I I I ?_)|refine HL.build I I ?_|refine HL.field I I ?_|(refine HL.box I I ?_;intro bk)|(refine HL.alloc I I ?_;intro bk)|refine HL.skip rfl rfl ?_|refine HL.jw rfl ?_|apply HL.zN rfl rfl rfl rfl rfl rfl rfl rfl|apply HL.orB rfl rfl rfl rfl rfl rfl rfl rfl)|refine HL.nil ?_|refine HR.ctl rfl ?_|refine HR.region ?_|refine HR.jy rfl ?_|refine HR.jr rfl ?_|exact HL.jX rfl rfl Ent.refl|(refine fun (hb:(_:Bool)=_)=>?_;try simp at hb))
 refine HR.ret Tryz.func83 I [_] (fun _ _=>⟨I,trivial⟩) ?_
 exact fun w' hw=>⟨_,rfl,(Ent.jMn hnd (h0 n) I w' hw).pick [0] I rfl⟩
end Go.Proofs.YtgfdoognildoeaaGreat
namespace Go.Proofs.YtgfdoognildoeaaGreat
open Go.GX Go.RowKit
attribute [local irreducible] Calls Run jZ jf JK HR HL HD jT jG JY Rd jK jY
open Ra
theorem fn77:IsFn Tryz.prog 77:=⟨⟨_,_,Tryz.func77,rfl,by decide⟩⟩
theorem fn82:IsFn Tryz.prog 82:=⟨⟨_,_,Tryz.func82,rfl,by decide⟩⟩
theorem fn81:IsFn Tryz.prog 81:=⟨⟨_,_,Tryz.func81,rfl,by decide⟩⟩
theorem jQg:Elem Tryz.prog 184 22 1 24:=⟨rfl,⟨_,_,rfl,rfl,rfl,rfl,rfl⟩,by decide⟩
abbrev jKD (ve vo vn:Value):Value:= .agg ⟨[ve,vo,vn]⟩
structure OkA (w:World) (a:Air) (ve vo vn:Value):Prop where
 e:Sl w ve (cellsOf edC a.e) a.e.length
 o:Sl w vo (cellsOf iC a.o) a.o.length
 n:Sl w vn (cellsOf iC a.n) a.n.length
 le:a.e.length≤300
 lo:a.o.length≤60
 ln:a.n.length≤60
theorem OkA.at {w0 w:World} {a:Air} {ve vo vn:Value} (h:OkA w0 a ve vo vn) {H:List Chunk} (hw:Sat (base w0) H w):OkA w a ve vo vn:=⟨(Rd.arg h.e).at hw,(Rd.arg h.o).at hw,(Rd.arg h.n).at hw,h.le,h.lo,h.ln⟩
theorem jJe (ls:List (Value×List Int)) (vl:Value) (w:World) (hl:Sl w vl (cellsOf (fun p:Value×List Int=>[p.1]) ls) ls.length) (hs:∀p∈ls,Sl w p.1 (cellsOf iC p.2) p.2.length) (hlen:ls.length≤2) (hb:∀p∈ls,p.2.length≤1000):
  Calls Tryz.prog 82 #[vl] w fun e w'=>∃v,e= .returned v∧Sat (base w) [jG v 3 1 (ls.map (·.2)).flatten.length (cellsOf iC (ls.map (·.2)).flatten)] w':=by
 refine jD Tryz.func82 I (Nat.le_of_ble_eq_true I) ?_
 refine HR.sub (σ':=[(0,vl)]) ⟨I,trivial⟩ ?_
 repeat' (first|(refine HL.Jy ?_;first|refine HL.ev I I ?_|refine HL.evc I I (by first|omega|(simp;done)|(simp;omega)) ?_|refine HL.JN (Rd.arg hl) I I I ?_|(refine HL.isLoad ?_;first|refine HL.L 0 I I I I ?_|refine HL.L 1 I I I I ?_|refine HL.L 2 I I I I ?_|refine HL.L 3 I I I I ?_)|(refine HL.jL ?_;first|refine HL.S 0 I I I I I ?_|refine HL.S 1 I I I I I ?_|refine HL.S 2 I I I I I ?_|refine HL.S 3 I I I I I ?_)|refine HL.build I I ?_|refine HL.field I I ?_|(refine HL.box I I ?_;intro bk)|(refine HL.alloc I I ?_;intro bk)|refine HL.skip rfl rfl ?_|refine HL.jw rfl ?_|apply HL.zN rfl rfl rfl rfl rfl rfl rfl rfl|apply HL.orB rfl rfl rfl rfl rfl rfl rfl rfl)|refine HL.nil ?_|refine HR.ctl rfl ?_|refine HR.region ?_|refine HR.jy rfl ?_|refine HR.jr rfl ?_|exact HL.jX rfl rfl Ent.refl|(refine fun (hb:(_:Bool)=_)=>?_;try simp at hb))
 refine HR.ZC 3 1 ?_
 refine HR.jA2 (α:=Nat) (β:=Value) (fun k v=>k≤ls.length∧((ls.take k).map (·.2)).flatten.length≤1000*k) (fun k v=>[(3,v),(6,vl),(7,.int .i64 (ls.length:Int)),(8,.int .i64 (k:Int))]) (fun k v=>[jG v 3 1 ((ls.take k).map (·.2)).flatten.length (cellsOf iC ((ls.take k).map (·.2)).flatten)]) (fun k v=>ls.length-k) 0 (.slice none 0 0) ⟨Nat.zero_le _,by simp⟩ ⟨I,I,I,I,trivial⟩ Ent.refl ?_
 rintro k v ⟨hk,hkl⟩ ih
 repeat' (first|(refine HL.Jy ?_;first|refine HL.ev I I ?_|refine HL.evc I I (by first|omega|(simp;done)|(simp;omega)) ?_|(refine HL.isLoad ?_;first|refine HL.L 0 I I I I ?_|refine HL.L 1 I I I I ?_|refine HL.L 2 I I I I ?_|refine HL.L 3 I I I I ?_)|(refine HL.jL ?_;first|refine HL.S 0 I I I I I ?_|refine HL.S 1 I I I I I ?_|refine HL.S 2 I I I I I ?_|refine HL.S 3 I I I I I ?_)|refine HL.build I I ?_|refine HL.field I I ?_|(refine HL.box I I ?_;intro bk)|(refine HL.alloc I I ?_;intro bk)|refine HL.skip rfl rfl ?_|refine HL.jw rfl ?_|apply HL.zN rfl rfl rfl rfl rfl rfl rfl rfl|apply HL.orB rfl rfl rfl rfl rfl rfl rfl rfl)|refine HL.nil ?_|refine HR.ctl rfl ?_|refine HR.region ?_|refine HR.jy rfl ?_|refine HR.jr rfl ?_|exact HL.jX rfl rfl Ent.refl|(refine fun (hb:(_:Bool)=_)=>?_;try simp at hb))
 refine HR.cond I (fun h2=>?_) (fun h2=>?_)
 ·have hlt:k<ls.length:=by have:=of_decide_eq_true h2;omega
  obtain ⟨p,hp⟩:=jJ hlt
  have hpl:=hb p (List.mem_of_getElem? hp)
  have hps:=hs p (List.mem_of_getElem? hp)
  repeat' (first|(refine HL.Jy ?_;first|refine HL.ev I I ?_|refine HL.evc I I (by first|omega|(simp;done)|(simp;omega)) ?_|refine HL.JA (Rd.arg hl) jQg k I I I I hlt ?_|refine HL.ji (Rd.arg hl) I I I I (jW (f:=fun p:Value×List Int=>p.1) hp) ?_|refine HL.ZN 0 I Jw (Rd.arg hps) I I I (jC jAd _) (jU (fun _=>rfl) _) (by omega) (by omega) ?_|(refine HL.isLoad ?_;first|refine HL.L 0 I I I I ?_|refine HL.L 1 I I I I ?_|refine HL.L 2 I I I I ?_|refine HL.L 3 I I I I ?_)|(refine HL.jL ?_;first|refine HL.S 0 I I I I I ?_|refine HL.S 1 I I I I I ?_|refine HL.S 2 I I I I I ?_|refine HL.S 3 I I I I I ?_)|refine HL.build I I ?_|refine HL.field I I ?_|(refine HL.box I I ?_;intro bk)|(refine HL.alloc I I ?_;intro bk)|refine HL.skip rfl rfl ?_|refine HL.jw rfl ?_|apply HL.zN rfl rfl rfl rfl rfl rfl rfl rfl|apply HL.orB rfl rfl rfl rfl rfl rfl rfl rfl)|refine HL.nil ?_|refine HR.ctl rfl ?_|refine HR.region ?_|refine HR.jy rfl ?_|refine HR.jr rfl ?_|exact HL.jX rfl rfl Ent.refl|(refine fun (hb:(_:Bool)=_)=>?_;try simp at hb))
  intro v2
  repeat' (first|(refine HL.Jy ?_;first|refine HL.ev I I ?_|refine HL.evc I I (by first|omega|(simp;done)|(simp;omega)) ?_|(refine HL.isLoad ?_;first|refine HL.L 0 I I I I ?_|refine HL.L 1 I I I I ?_|refine HL.L 2 I I I I ?_|refine HL.L 3 I I I I ?_)|(refine HL.jL ?_;first|refine HL.S 0 I I I I I ?_|refine HL.S 1 I I I I I ?_|refine HL.S 2 I I I I I ?_|refine HL.S 3 I I I I I ?_)|refine HL.build I I ?_|refine HL.field I I ?_|(refine HL.box I I ?_;intro bk)|(refine HL.alloc I I ?_;intro bk)|refine HL.skip rfl rfl ?_|refine HL.jw rfl ?_|apply HL.zN rfl rfl rfl rfl rfl rfl rfl rfl|apply HL.orB rfl rfl rfl rfl rfl rfl rfl rfl)|refine HL.nil ?_|refine HR.ctl rfl ?_|refine HR.region ?_|refine HR.jy rfl ?_|refine HR.jr rfl ?_|exact HL.jX rfl rfl Ent.refl|(refine fun (hb:(_:Bool)=_)=>?_;try simp at hb))
  have et:((ls.take (k+1)).map (·.2)).flatten=((ls.take k).map (·.2)).flatten++p.2:=by rw[jN hp];simp
  refine ih (k+1) v2 _ _ ⟨hlt,by rw[et,List.length_append];omega⟩ (by omega) ⟨I,I,I,I,trivial⟩ (Ent.JV ?_ ?_)
  ·rw [et,List.length_append]
  ·rw [et,jP]
 ·have hke:k=ls.length:=by have:=of_decide_eq_false h2;omega
  subst hke
  repeat' (first|(refine HL.Jy ?_;first|refine HL.ev I I ?_|refine HL.evc I I (by first|omega|(simp;done)|(simp;omega)) ?_|(refine HL.isLoad ?_;first|refine HL.L 0 I I I I ?_|refine HL.L 1 I I I I ?_|refine HL.L 2 I I I I ?_|refine HL.L 3 I I I I ?_)|(refine HL.jL ?_;first|refine HL.S 0 I I I I I ?_|refine HL.S 1 I I I I I ?_|refine HL.S 2 I I I I I ?_|refine HL.S 3 I I I I I ?_)|refine HL.build I I ?_|refine HL.field I I ?_|(refine HL.box I I ?_;intro bk)|(refine HL.alloc I I ?_;intro bk)|refine HL.skip rfl rfl ?_|refine HL.jw rfl ?_|apply HL.zN rfl rfl rfl rfl rfl rfl rfl rfl|apply HL.orB rfl rfl rfl rfl rfl rfl rfl rfl)|refine HL.nil ?_|refine HR.ctl rfl ?_|refine HR.region ?_|refine HR.jy rfl ?_|refine HR.jr rfl ?_|exact HL.jX rfl rfl Ent.refl|(refine fun (hb:(_:Bool)=_)=>?_;try simp at hb))
  refine HR.ret Tryz.func82 I [_] (fun _ _=>⟨I,trivial⟩) ?_
  rw[List.take_length]
  exact fun w' hw=>⟨v,rfl,hw⟩
theorem jLs {l m:List Int} {v1 v2 vl:Value} {w:World} (hl:Sl w vl [v1,v2] 2) (h1:Sl w v1 (cellsOf iC l) l.length) (h2:Sl w v2 (cellsOf iC m) m.length) (b1:l.length≤60) (b2:m.length≤60):
  Calls Tryz.prog 82 #[vl] w fun e w'=>∃v,e= .returned v∧Sat (base w) [jG v 3 1 (l++m).length (cellsOf iC (l++m))] w':=by
 have:=jJe [(v1,l),(v2,m)] vl w hl (fun p hp=>by simp only[List.mem_cons,List.not_mem_nil,or_false]at hp;rcases hp with rfl|rfl;exact h1;exact h2) (Nat.le_refl _) (fun p hp=>by simp at hp;rcases hp with rfl|rfl<;>simp<;>omega)
 simpa using this
theorem jAJ (a:Air) (ve vo vn:Value) (w:World) (hv:OkA w a ve vo vn):
  Calls Tryz.prog 77 #[jKD ve vo vn] w fun e w'=>e= .returned (.int .i64 (Ra.check a))∧Below w.heap.size w w':=by
 have le:=hv.le
 have lo:=hv.lo
 have ln:=hv.ln
 obtain ⟨o1,o2,rfl,_⟩:=hv.o.2
 obtain ⟨n1,n2,rfl,_⟩:=hv.n.2
 refine jD Tryz.func77 I (Nat.le_of_ble_eq_true I) ?_
 refine HR.sub (σ':=[(0,jKD ve (.slice o1 a.o.length o2) (.slice n1 a.n.length n2))]) ⟨I,trivial⟩ ?_
 repeat' (first|(refine HL.Jy ?_;first|refine HL.ev I I ?_|refine HL.evc I I (by first|omega|(simp;done)|(simp;omega)) ?_|refine HL.jR fn147 I I (fun w hw=>jMS a.e ve w ((Rd.arg hv.e).at hw) (by omega)) ?_|(refine HL.isLoad ?_;first|refine HL.L 0 I I I I ?_|refine HL.L 1 I I I I ?_|refine HL.L 2 I I I I ?_|refine HL.L 3 I I I I ?_)|(refine HL.jL ?_;first|refine HL.S 0 I I I I I ?_|refine HL.S 1 I I I I I ?_|refine HL.S 2 I I I I I ?_|refine HL.S 3 I I I I I ?_)|refine HL.build I I ?_|refine HL.field I I ?_|(refine HL.box I I ?_;intro bk)|(refine HL.alloc I I ?_;intro bk)|refine HL.skip rfl rfl ?_|refine HL.jw rfl ?_|apply HL.zN rfl rfl rfl rfl rfl rfl rfl rfl|apply HL.orB rfl rfl rfl rfl rfl rfl rfl rfl)|refine HL.nil ?_|refine HR.ctl rfl ?_|refine HR.region ?_|refine HR.jy rfl ?_|refine HR.jr rfl ?_|exact HL.jX rfl rfl Ent.refl|(refine fun (hb:(_:Bool)=_)=>?_;try simp at hb))
 refine HR.cond I (fun h=>?_) (fun h=>?_)
 ·repeat' (first|(refine HL.Jy ?_;first|refine HL.ev I I ?_|refine HL.evc I I (by first|omega|(simp;done)|(simp;omega)) ?_|(refine HL.isLoad ?_;first|refine HL.L 0 I I I I ?_|refine HL.L 1 I I I I ?_|refine HL.L 2 I I I I ?_|refine HL.L 3 I I I I ?_)|(refine HL.jL ?_;first|refine HL.S 0 I I I I I ?_|refine HL.S 1 I I I I I ?_|refine HL.S 2 I I I I I ?_|refine HL.S 3 I I I I I ?_)|refine HL.build I I ?_|refine HL.field I I ?_|(refine HL.box I I ?_;intro bk)|(refine HL.alloc I I ?_;intro bk)|refine HL.skip rfl rfl ?_|refine HL.jw rfl ?_|apply HL.zN rfl rfl rfl rfl rfl rfl rfl rfl|apply HL.orB rfl rfl rfl rfl rfl rfl rfl rfl)|refine HL.nil ?_|refine HR.ctl rfl ?_|refine HR.region ?_|refine HR.jy rfl ?_|refine HR.jr rfl ?_|exact HL.jX rfl rfl Ent.refl|(refine fun (hb:(_:Bool)=_)=>?_;try simp at hb))
  refine HR.ret Tryz.func77 I [_] (fun _ _=>⟨I,trivial⟩) ?_
  exact fun w' hw=>⟨by rw[jQo (by simpa using h)];rfl,hw.jE⟩
 have h0:Tp.check a.e=0:=by simpa using h
 repeat' (first|(refine HL.Jy ?_;first|refine HL.ev I I ?_|refine HL.evc I I (by first|omega|(simp;done)|(simp;omega)) ?_|(refine HL.isLoad ?_;first|refine HL.L 0 I I I I ?_|refine HL.L 1 I I I I ?_|refine HL.L 2 I I I I ?_|refine HL.L 3 I I I I ?_)|(refine HL.jL ?_;first|refine HL.S 0 I I I I I ?_|refine HL.S 1 I I I I I ?_|refine HL.S 2 I I I I I ?_|refine HL.S 3 I I I I I ?_)|refine HL.build I I ?_|refine HL.field I I ?_|(refine HL.box I I ?_;intro bk)|(refine HL.alloc I I ?_;intro bk)|refine HL.skip rfl rfl ?_|refine HL.jw rfl ?_|apply HL.zN rfl rfl rfl rfl rfl rfl rfl rfl|apply HL.orB rfl rfl rfl rfl rfl rfl rfl rfl)|refine HL.nil ?_|refine HR.ctl rfl ?_|refine HR.region ?_|refine HR.jy rfl ?_|refine HR.jr rfl ?_|exact HL.jX rfl rfl Ent.refl|(refine fun (hb:(_:Bool)=_)=>?_;try simp at hb))
 refine HL.jv jQg I I I I I (by decide) (by decide) ?_
 intro v1
 refine HL.JQ fn82 I I (fun w hw=>jLs ((Rd.own 0 rfl).at hw) ((Rd.arg hv.o).at hw) ((Rd.arg hv.n).at hw) hv.lo hv.ln) ?_
 intro v2
 have hal:(a.o++a.n).length≤120:=by rw[List.length_append];omega
 repeat' (first|(refine HL.Jy ?_;first|refine HL.ev I I ?_|refine HL.evc I I (by first|omega|(simp;done)|(simp;omega)) ?_|refine HL.JN (Rd.own 0 I) I I I ?_|(refine HL.isLoad ?_;first|refine HL.L 0 I I I I ?_|refine HL.L 1 I I I I ?_|refine HL.L 2 I I I I ?_|refine HL.L 3 I I I I ?_)|(refine HL.jL ?_;first|refine HL.S 0 I I I I I ?_|refine HL.S 1 I I I I I ?_|refine HL.S 2 I I I I I ?_|refine HL.S 3 I I I I I ?_)|refine HL.build I I ?_|refine HL.field I I ?_|(refine HL.box I I ?_;intro bk)|(refine HL.alloc I I ?_;intro bk)|refine HL.skip rfl rfl ?_|refine HL.jw rfl ?_|apply HL.zN rfl rfl rfl rfl rfl rfl rfl rfl|apply HL.orB rfl rfl rfl rfl rfl rfl rfl rfl)|refine HL.nil ?_|refine HR.ctl rfl ?_|refine HR.region ?_|refine HR.jy rfl ?_|refine HR.jr rfl ?_|exact HL.jX rfl rfl Ent.refl|(refine fun (hb:(_:Bool)=_)=>?_;try simp at hb))
 refine HR.loop (ι:=Nat) (fun k=>k≤(a.o++a.n).length∧((a.o++a.n).take k).all Tp.okN=true) (fun k=>[(1,.pointer (some ⟨bk,0,none⟩)),(17,v2),(18,.int .i64 ((a.o++a.n).length:Int)),(19,.int .i64 (k:Int))]) (fun _=>[jG v2 3 1 (a.o++a.n).length (cellsOf iC (a.o++a.n)),jT bk [ve,.slice o1 a.o.length o2,.slice n1 a.n.length n2] 34]) (fun k=>(a.o++a.n).length-k) 0 ⟨Nat.zero_le _,by simp⟩ ⟨I,I,I,I,trivial⟩ (Ent.pick [0,2] I I) ?_
 rintro k ⟨hk,hg⟩ ih
 repeat' (first|(refine HL.Jy ?_;first|refine HL.ev I I ?_|refine HL.evc I I (by first|omega|(simp;done)|(simp;omega)) ?_|(refine HL.isLoad ?_;first|refine HL.L 0 I I I I ?_|refine HL.L 1 I I I I ?_|refine HL.L 2 I I I I ?_|refine HL.L 3 I I I I ?_)|(refine HL.jL ?_;first|refine HL.S 0 I I I I I ?_|refine HL.S 1 I I I I I ?_|refine HL.S 2 I I I I I ?_|refine HL.S 3 I I I I I ?_)|refine HL.build I I ?_|refine HL.field I I ?_|(refine HL.box I I ?_;intro bk)|(refine HL.alloc I I ?_;intro bk)|refine HL.skip rfl rfl ?_|refine HL.jw rfl ?_|apply HL.zN rfl rfl rfl rfl rfl rfl rfl rfl|apply HL.orB rfl rfl rfl rfl rfl rfl rfl rfl)|refine HL.nil ?_|refine HR.ctl rfl ?_|refine HR.region ?_|refine HR.jy rfl ?_|refine HR.jr rfl ?_|exact HL.jX rfl rfl Ent.refl|(refine fun (hb:(_:Bool)=_)=>?_;try simp at hb))
 refine HR.cond I (fun h2=>?_) (fun h2=>?_)
 ·have hlt:k<(a.o++a.n).length:=by have:=of_decide_eq_true h2;omega
  obtain ⟨x,hx⟩:=jJ hlt
  repeat' (first|(refine HL.Jy ?_;first|refine HL.ev I I ?_|refine HL.evc I I (by first|omega|(simp;done)|(simp;omega)) ?_|refine HL.JA (Rd.own 0 I) Jw k I I I I hlt ?_|refine HL.ji (Rd.own 0 I) I I I I (jW hx) ?_|(refine HL.isLoad ?_;first|refine HL.L 0 I I I I ?_|refine HL.L 1 I I I I ?_|refine HL.L 2 I I I I ?_|refine HL.L 3 I I I I ?_)|(refine HL.jL ?_;first|refine HL.S 0 I I I I I ?_|refine HL.S 1 I I I I I ?_|refine HL.S 2 I I I I I ?_|refine HL.S 3 I I I I I ?_)|refine HL.build I I ?_|refine HL.field I I ?_|(refine HL.box I I ?_;intro bk)|(refine HL.alloc I I ?_;intro bk)|refine HL.skip rfl rfl ?_|refine HL.jw rfl ?_|apply HL.zN rfl rfl rfl rfl rfl rfl rfl rfl|apply HL.orB rfl rfl rfl rfl rfl rfl rfl rfl)|refine HL.nil ?_|refine HR.ctl rfl ?_|refine HR.region ?_|refine HR.jy rfl ?_|refine HR.jr rfl ?_|exact HL.jX rfl rfl Ent.refl|(refine fun (hb:(_:Bool)=_)=>?_;try simp at hb))
  have hx2:(decide (x<0)||decide (x>250))=!Tp.okN x:=by
   rw[Bool.eq_iff_iff];simp only[Tp.okN,Bool.or_eq_true,decide_eq_true_eq,Bool.not_eq_true',Bool.and_eq_false_iff,decide_eq_false_iff_not];omega
  refine HR.cond I (fun h3=>?_) (fun h3=>?_)
  ·rw [hx2]at h3
   repeat' (first|(refine HL.Jy ?_;first|refine HL.ev I I ?_|refine HL.evc I I (by first|omega|(simp;done)|(simp;omega)) ?_|(refine HL.isLoad ?_;first|refine HL.L 0 I I I I ?_|refine HL.L 1 I I I I ?_|refine HL.L 2 I I I I ?_|refine HL.L 3 I I I I ?_)|(refine HL.jL ?_;first|refine HL.S 0 I I I I I ?_|refine HL.S 1 I I I I I ?_|refine HL.S 2 I I I I I ?_|refine HL.S 3 I I I I I ?_)|refine HL.build I I ?_|refine HL.field I I ?_|(refine HL.box I I ?_;intro bk)|(refine HL.alloc I I ?_;intro bk)|refine HL.skip rfl rfl ?_|refine HL.jw rfl ?_|apply HL.zN rfl rfl rfl rfl rfl rfl rfl rfl|apply HL.orB rfl rfl rfl rfl rfl rfl rfl rfl)|refine HL.nil ?_|refine HR.ctl rfl ?_|refine HR.region ?_|refine HR.jy rfl ?_|refine HR.jr rfl ?_|exact HL.jX rfl rfl Ent.refl|(refine fun (hb:(_:Bool)=_)=>?_;try simp at hb))
   refine HR.ret Tryz.func77 I [_] (fun _ _=>⟨I,trivial⟩) ?_
   exact fun w' hw=>⟨by rw[jQq h0 (jSF hx (by simpa using h3))];rfl,hw.jE⟩
  ·rw [hx2]at h3
   repeat' (first|(refine HL.Jy ?_;first|refine HL.ev I I ?_|refine HL.evc I I (by first|omega|(simp;done)|(simp;omega)) ?_|(refine HL.isLoad ?_;first|refine HL.L 0 I I I I ?_|refine HL.L 1 I I I I ?_|refine HL.L 2 I I I I ?_|refine HL.L 3 I I I I ?_)|(refine HL.jL ?_;first|refine HL.S 0 I I I I I ?_|refine HL.S 1 I I I I I ?_|refine HL.S 2 I I I I I ?_|refine HL.S 3 I I I I I ?_)|refine HL.build I I ?_|refine HL.field I I ?_|(refine HL.box I I ?_;intro bk)|(refine HL.alloc I I ?_;intro bk)|refine HL.skip rfl rfl ?_|refine HL.jw rfl ?_|apply HL.zN rfl rfl rfl rfl rfl rfl rfl rfl|apply HL.orB rfl rfl rfl rfl rfl rfl rfl rfl)|refine HL.nil ?_|refine HR.ctl rfl ?_|refine HR.region ?_|refine HR.jy rfl ?_|refine HR.jr rfl ?_|exact HL.jX rfl rfl Ent.refl|(refine fun (hb:(_:Bool)=_)=>?_;try simp at hb))
   exact ih (k+1) _ _ ⟨hlt,by rw[jN9 hx,hg];simpa using h3⟩ (by omega) ⟨I,I,I,I,trivial⟩ Ent.refl
 have hke:k=(a.o++a.n).length:=by have:=of_decide_eq_false h2;omega
 subst hke
 rw[List.take_length]at hg
 repeat' (first|(refine HL.Jy ?_;first|refine HL.ev I I ?_|refine HL.evc I I (by first|omega|(simp;done)|(simp;omega)) ?_|refine HL.JN (Rd.arg hv.o) I I I ?_|refine HL.JN (Rd.arg hv.n) I I I ?_|(refine HL.isLoad ?_;first|refine HL.L 0 I I I I ?_|refine HL.L 1 I I I I ?_|refine HL.L 2 I I I I ?_|refine HL.L 3 I I I I ?_)|(refine HL.jL ?_;first|refine HL.S 0 I I I I I ?_|refine HL.S 1 I I I I I ?_|refine HL.S 2 I I I I I ?_|refine HL.S 3 I I I I I ?_)|refine HL.build I I ?_|refine HL.field I I ?_|(refine HL.box I I ?_;intro bk)|(refine HL.alloc I I ?_;intro bk)|refine HL.skip rfl rfl ?_|refine HL.jw rfl ?_|apply HL.zN rfl rfl rfl rfl rfl rfl rfl rfl|apply HL.orB rfl rfl rfl rfl rfl rfl rfl rfl)|refine HL.nil ?_|refine HR.ctl rfl ?_|refine HR.region ?_|refine HR.jy rfl ?_|refine HR.jr rfl ?_|exact HL.jX rfl rfl Ent.refl|(refine fun (hb:(_:Bool)=_)=>?_;try simp at hb))
 refine HR.cond I (fun h3=>?_) (fun h3=>?_)
 ·have h3:(decide ((a.o.length:Int)>24)||decide ((a.n.length:Int)>24))=true:=h3
  simp only[Bool.or_eq_true,decide_eq_true_eq]at h3
  repeat' (first|(refine HL.Jy ?_;first|refine HL.ev I I ?_|refine HL.evc I I (by first|omega|(simp;done)|(simp;omega)) ?_|(refine HL.isLoad ?_;first|refine HL.L 0 I I I I ?_|refine HL.L 1 I I I I ?_|refine HL.L 2 I I I I ?_|refine HL.L 3 I I I I ?_)|(refine HL.jL ?_;first|refine HL.S 0 I I I I I ?_|refine HL.S 1 I I I I I ?_|refine HL.S 2 I I I I I ?_|refine HL.S 3 I I I I I ?_)|refine HL.build I I ?_|refine HL.field I I ?_|(refine HL.box I I ?_;intro bk)|(refine HL.alloc I I ?_;intro bk)|refine HL.skip rfl rfl ?_|refine HL.jw rfl ?_|apply HL.zN rfl rfl rfl rfl rfl rfl rfl rfl|apply HL.orB rfl rfl rfl rfl rfl rfl rfl rfl)|refine HL.nil ?_|refine HR.ctl rfl ?_|refine HR.region ?_|refine HR.jy rfl ?_|refine HR.jr rfl ?_|exact HL.jX rfl rfl Ent.refl|(refine fun (hb:(_:Bool)=_)=>?_;try simp at hb))
  refine HR.ret Tryz.func77 I [_] (fun _ _=>⟨I,trivial⟩) ?_
  exact fun w' hw=>⟨by rw[jQp h0 hg (by omega)];rfl,hw.jE⟩
 ·have h3:(decide ((a.o.length:Int)>24)||decide ((a.n.length:Int)>24))=false:=h3
  simp only[Bool.or_eq_false_iff,decide_eq_false_iff_not]at h3
  repeat' (first|(refine HL.Jy ?_;first|refine HL.ev I I ?_|refine HL.evc I I (by first|omega|(simp;done)|(simp;omega)) ?_|(refine HL.isLoad ?_;first|refine HL.L 0 I I I I ?_|refine HL.L 1 I I I I ?_|refine HL.L 2 I I I I ?_|refine HL.L 3 I I I I ?_)|(refine HL.jL ?_;first|refine HL.S 0 I I I I I ?_|refine HL.S 1 I I I I I ?_|refine HL.S 2 I I I I I ?_|refine HL.S 3 I I I I I ?_)|refine HL.build I I ?_|refine HL.field I I ?_|(refine HL.box I I ?_;intro bk)|(refine HL.alloc I I ?_;intro bk)|refine HL.skip rfl rfl ?_|refine HL.jw rfl ?_|apply HL.zN rfl rfl rfl rfl rfl rfl rfl rfl|apply HL.orB rfl rfl rfl rfl rfl rfl rfl rfl)|refine HL.nil ?_|refine HR.ctl rfl ?_|refine HR.region ?_|refine HR.jy rfl ?_|refine HR.jr rfl ?_|exact HL.jX rfl rfl Ent.refl|(refine fun (hb:(_:Bool)=_)=>?_;try simp at hb))
  refine HR.ret Tryz.func77 I [_] (fun _ _=>⟨I,trivial⟩) ?_
  exact fun w' hw=>⟨by rw[jQr h0 hg (by omega)];rfl,hw.jE⟩
end Go.Proofs.YtgfdoognildoeaaGreat
namespace Go.Proofs.YtgfdoognildoeaaGreat
open Go.GX Go.RowKit
attribute [local irreducible] Calls Run jZ jf JK HR HL HD jT jG JY Rd jK jY
open Ra
theorem fn42:IsFn Tryz.prog 42:=⟨⟨_,_,Tryz.func42,rfl,by decide⟩⟩
theorem OkA.none (w:World):OkA w ⟨[],[],[]⟩ (.slice none 0 0) (.slice none 0 0) (.slice none 0 0):=⟨Sl.nil w,Sl.nil w,Sl.nil w,by decide,by decide,by decide⟩
theorem jMj {a:Air} {ve vo vn:Value} {w0:World} (hv:OkA w0 a ve vo vn):∃ve' vo' vn',OkA w0 (san a) ve' vo' vn'∧∀w,OkA w a ve vo vn→Calls Tryz.prog 81 #[jKD ve vo vn] w fun e w'=>e= .returned (jKD ve' vo' vn')∧Below w.heap.size w w':=by
 obtain ⟨e1,e2,rfl,_⟩:=hv.e.2
 obtain ⟨o1,o2,rfl,_⟩:=hv.o.2
 obtain ⟨n1,n2,rfl,_⟩:=hv.n.2
 by_cases h0:Ra.check a=0
 ·refine ⟨_,_,_,by rw[jQ5 h0];exact hv,fun w hv=>?_⟩
  refine jD Tryz.func81 I (Nat.le_of_ble_eq_true I) ?_
  refine HR.sub (σ':=[(0,jKD (.slice e1 a.e.length e2) (.slice o1 a.o.length o2) (.slice n1 a.n.length n2))]) ⟨I,trivial⟩ ?_
  repeat' (first|(refine HL.Jy ?_;first|refine HL.ev I I ?_|refine HL.evc I I (by first|omega|(simp;done)|(simp;omega)) ?_|refine HL.jR fn77 I I (fun w hw=>by have:=jAJ a _ _ _ w (hv.at hw);rw[h0]at this;exact this) ?_|(refine HL.isLoad ?_;first|refine HL.L 0 I I I I ?_|refine HL.L 1 I I I I ?_|refine HL.L 2 I I I I ?_|refine HL.L 3 I I I I ?_|refine HL.L 4 I I I I ?_|refine HL.L 5 I I I I ?_)|(refine HL.jL ?_;first|refine HL.S 0 I I I I I ?_|refine HL.S 1 I I I I I ?_|refine HL.S 2 I I I I I ?_|refine HL.S 3 I I I I I ?_|refine HL.S 4 I I I I I ?_|refine HL.S 5 I I I I I ?_)|refine HL.build I I ?_|refine HL.field I I ?_|(refine HL.box I I ?_;intro bk)|(refine HL.alloc I I ?_;intro bk)|refine HL.skip rfl rfl ?_|refine HL.jw rfl ?_)|refine HL.nil ?_|refine HR.ctl rfl ?_|refine HR.region ?_|refine HR.jy rfl ?_|refine HR.jr rfl ?_)
  refine HR.ret Tryz.func81 I [_] (fun w hw=>⟨⟨_,rfl,jS hw 0 I I I I rfl⟩,trivial⟩) ?_
  exact fun w' hw=>⟨rfl,hw.jE⟩
 ·refine ⟨_,_,_,by rw[jQ6 h0];exact OkA.none w0,fun w hv=>?_⟩
  refine jD Tryz.func81 I (Nat.le_of_ble_eq_true I) ?_
  refine HR.sub (σ':=[(0,jKD (.slice e1 a.e.length e2) (.slice o1 a.o.length o2) (.slice n1 a.n.length n2))]) ⟨I,trivial⟩ ?_
  repeat' (first|(refine HL.Jy ?_;first|refine HL.ev I I ?_|refine HL.evc I I (by first|omega|(simp;done)|(simp;omega)) ?_|refine HL.jR fn77 I I (fun w hw=>jAJ a _ _ _ w (hv.at hw)) ?_|(refine HL.isLoad ?_;first|refine HL.L 0 I I I I ?_|refine HL.L 1 I I I I ?_|refine HL.L 2 I I I I ?_|refine HL.L 3 I I I I ?_|refine HL.L 4 I I I I ?_|refine HL.L 5 I I I I ?_)|(refine HL.jL ?_;first|refine HL.S 0 I I I I I ?_|refine HL.S 1 I I I I I ?_|refine HL.S 2 I I I I I ?_|refine HL.S 3 I I I I I ?_|refine HL.S 4 I I I I I ?_|refine HL.S 5 I I I I I ?_)|refine HL.build I I ?_|refine HL.field I I ?_|(refine HL.box I I ?_;intro bk)|(refine HL.alloc I I ?_;intro bk)|refine HL.skip rfl rfl ?_|refine HL.jw rfl ?_)|refine HL.nil ?_|refine HR.ctl rfl ?_|refine HR.region ?_|refine HR.jy rfl ?_|refine HR.jr rfl ?_)
  refine HR.jDc 5 true I (bne_iff_ne.2 h0) ?_
  repeat' (first|(refine HL.Jy ?_;first|refine HL.ev I I ?_|refine HL.evc I I (by first|omega|(simp;done)|(simp;omega)) ?_|(refine HL.isLoad ?_;first|refine HL.L 0 I I I I ?_|refine HL.L 1 I I I I ?_|refine HL.L 2 I I I I ?_|refine HL.L 3 I I I I ?_|refine HL.L 4 I I I I ?_|refine HL.L 5 I I I I ?_)|(refine HL.jL ?_;first|refine HL.S 0 I I I I I ?_|refine HL.S 1 I I I I I ?_|refine HL.S 2 I I I I I ?_|refine HL.S 3 I I I I I ?_|refine HL.S 4 I I I I I ?_|refine HL.S 5 I I I I I ?_)|refine HL.build I I ?_|refine HL.field I I ?_|(refine HL.box I I ?_;intro bk)|(refine HL.alloc I I ?_;intro bk)|refine HL.skip rfl rfl ?_|refine HL.jw rfl ?_)|refine HL.nil ?_|refine HR.ctl rfl ?_|refine HR.region ?_|refine HR.jy rfl ?_|refine HR.jr rfl ?_)
  refine HR.ret Tryz.func81 I [_] (fun w hw=>⟨⟨_,rfl,jS hw 0 I I I I rfl⟩,trivial⟩) ?_
  exact fun w' hw=>⟨rfl,hw.jE⟩
theorem jGx (a:Air) (dst n:Int):(!decide (n∈a.o++a.n)&&((dst==255)||(n==dst)))=takes a dst n:=by
 unfold takes hears
 rw[show (n==dst)=(dst==n)from by rw[Bool.eq_iff_iff];simp only[beq_iff_eq];exact eq_comm]
 congr 1
 rw[Bool.eq_iff_iff];simp
theorem jGh (a:Air) (f:Fr) (ve vo vn:Value) (w:World) (hv:OkA w a ve vo vn):
  Calls Tryz.prog 42 #[jKD ve vo vn,.agg ⟨Nd.frC f⟩] w fun e w'=>∃v,e= .returned (.tuple ⟨[v,.bool (jFe (san a) f)]⟩)∧Sat (base w) [jG v 3 1 (recv (san a) f).length (cellsOf iC (recv (san a) f))] w':=by
 obtain ⟨ve',vo',vn',hs,hval⟩:=jMj hv
 generalize san a=A at hs ⊢
 obtain ⟨e1,e2,rfl,_⟩:=hs.e.2
 obtain ⟨o1,o2,rfl,_⟩:=hs.o.2
 obtain ⟨n1,n2,rfl,_⟩:=hs.n.2
 have le:=hs.le
 have lo:=hs.lo
 have ln:=hs.ln
 refine jD Tryz.func42 I (Nat.le_of_ble_eq_true I) ?_
 refine HR.sub (σ':=[(0,jKD ve vo vn),(1,.agg ⟨Nd.frC f⟩)]) ⟨I,I,trivial⟩ ?_
 repeat' (first|(refine HL.Jy ?_;first|refine HL.ev I I ?_|refine HL.evc I I (by first|omega|(simp;done)|(simp;omega)) ?_|refine HL.jR fn81 I I (fun w hw=>hval w (hv.at hw)) ?_|refine HL.jR jPT I I (fun w hw=>ZG A.o f.fr _ w ((Rd.arg hs.o).at hw) (by omega)) ?_|(refine HL.isLoad ?_;first|refine HL.L 0 I I I I ?_|refine HL.L 1 I I I I ?_|refine HL.L 2 I I I I ?_|refine HL.L 3 I I I I ?_|refine HL.L 4 I I I I ?_|refine HL.L 5 I I I I ?_)|(refine HL.jL ?_;first|refine HL.S 0 I I I I I ?_|refine HL.S 1 I I I I I ?_|refine HL.S 2 I I I I I ?_|refine HL.S 3 I I I I I ?_|refine HL.S 4 I I I I I ?_|refine HL.S 5 I I I I I ?_)|refine HL.build I I ?_|refine HL.field I I ?_|(refine HL.box I I ?_;intro bk)|(refine HL.alloc I I ?_;intro bk)|refine HL.skip rfl rfl ?_|refine HL.jw rfl ?_)|refine HL.nil ?_|refine HR.ctl rfl ?_|refine HR.region ?_|refine HR.jy rfl ?_|refine HR.jr rfl ?_)
 refine HR.cond I (fun h=>?_) (fun h=>?_)
 ·have hm:=of_decide_eq_true h
  repeat' (first|(refine HL.Jy ?_;first|refine HL.ev I I ?_|refine HL.evc I I (by first|omega|(simp;done)|(simp;omega)) ?_|(refine HL.isLoad ?_;first|refine HL.L 0 I I I I ?_|refine HL.L 1 I I I I ?_|refine HL.L 2 I I I I ?_|refine HL.L 3 I I I I ?_|refine HL.L 4 I I I I ?_|refine HL.L 5 I I I I ?_)|(refine HL.jL ?_;first|refine HL.S 0 I I I I I ?_|refine HL.S 1 I I I I I ?_|refine HL.S 2 I I I I I ?_|refine HL.S 3 I I I I I ?_|refine HL.S 4 I I I I I ?_|refine HL.S 5 I I I I I ?_)|refine HL.build I I ?_|refine HL.field I I ?_|(refine HL.box I I ?_;intro bk)|(refine HL.alloc I I ?_;intro bk)|refine HL.skip rfl rfl ?_|refine HL.jw rfl ?_)|refine HL.nil ?_|refine HR.ctl rfl ?_|refine HR.region ?_|refine HR.jy rfl ?_|refine HR.jr rfl ?_)
  refine HR.ZC 3 1 ?_
  refine HR.ret Tryz.func42 I [_,_] (fun _ _=>⟨I,I,trivial⟩) ?_
  exact fun w' hw=>⟨.slice none 0 0,by simp[jFe,hm,jC2],by rw[recv,if_pos hm];exact hw.pick [0] I rfl⟩
 have hm:=of_decide_eq_false h
 repeat' (first|(refine HL.Jy ?_;first|refine HL.ev I I ?_|refine HL.evc I I (by first|omega|(simp;done)|(simp;omega)) ?_|refine HL.jv jQg I I I I I (by decide) (by decide) ?_|(refine HL.isLoad ?_;first|refine HL.L 0 I I I I ?_|refine HL.L 1 I I I I ?_|refine HL.L 2 I I I I ?_|refine HL.L 3 I I I I ?_|refine HL.L 4 I I I I ?_|refine HL.L 5 I I I I ?_)|(refine HL.jL ?_;first|refine HL.S 0 I I I I I ?_|refine HL.S 1 I I I I I ?_|refine HL.S 2 I I I I I ?_|refine HL.S 3 I I I I I ?_|refine HL.S 4 I I I I I ?_|refine HL.S 5 I I I I I ?_)|refine HL.build I I ?_|refine HL.field I I ?_|(refine HL.box I I ?_;intro bk)|(refine HL.alloc I I ?_;intro bk)|refine HL.skip rfl rfl ?_|refine HL.jw rfl ?_)|refine HL.nil ?_|refine HR.ctl rfl ?_|refine HR.region ?_|refine HR.jy rfl ?_|refine HR.jr rfl ?_)
 intro v1
 refine HL.JQ fn82 I I (fun w hw=>jLs ((Rd.own 0 rfl).at hw) ((Rd.arg hs.o).at hw) ((Rd.arg hs.n).at hw) hs.lo hs.ln) ?_
 intro v2
 repeat' (first|(refine HL.Jy ?_;first|refine HL.ev I I ?_|refine HL.evc I I (by first|omega|(simp;done)|(simp;omega)) ?_|(refine HL.isLoad ?_;first|refine HL.L 0 I I I I ?_|refine HL.L 1 I I I I ?_|refine HL.L 2 I I I I ?_|refine HL.L 3 I I I I ?_|refine HL.L 4 I I I I ?_|refine HL.L 5 I I I I ?_)|(refine HL.jL ?_;first|refine HL.S 0 I I I I I ?_|refine HL.S 1 I I I I I ?_|refine HL.S 2 I I I I I ?_|refine HL.S 3 I I I I I ?_|refine HL.S 4 I I I I I ?_|refine HL.S 5 I I I I I ?_)|refine HL.build I I ?_|refine HL.field I I ?_|(refine HL.box I I ?_;intro bk)|(refine HL.alloc I I ?_;intro bk)|refine HL.skip rfl rfl ?_|refine HL.jw rfl ?_)|refine HL.nil ?_|refine HR.ctl rfl ?_|refine HR.region ?_|refine HR.jy rfl ?_|refine HR.jr rfl ?_)
 refine HL.JQ fn83 I I (fun w hw=>jNT A.e f.fr _ w ((Rd.arg hs.e).at hw) (by omega)) ?_
 intro v3
 have hnl:=Tp.jHQ A.e f.fr
 repeat' (first|(refine HL.Jy ?_;first|refine HL.ev I I ?_|refine HL.evc I I (by first|omega|(simp;done)|(simp;omega)) ?_|refine HL.JN (Rd.own 0 I) I I I ?_|(refine HL.isLoad ?_;first|refine HL.L 0 I I I I ?_|refine HL.L 1 I I I I ?_|refine HL.L 2 I I I I ?_|refine HL.L 3 I I I I ?_|refine HL.L 4 I I I I ?_|refine HL.L 5 I I I I ?_)|(refine HL.jL ?_;first|refine HL.S 0 I I I I I ?_|refine HL.S 1 I I I I I ?_|refine HL.S 2 I I I I I ?_|refine HL.S 3 I I I I I ?_|refine HL.S 4 I I I I I ?_|refine HL.S 5 I I I I I ?_)|refine HL.build I I ?_|refine HL.field I I ?_|(refine HL.box I I ?_;intro bk)|(refine HL.alloc I I ?_;intro bk)|refine HL.skip rfl rfl ?_|refine HL.jw rfl ?_)|refine HL.nil ?_|refine HR.ctl rfl ?_|refine HR.region ?_|refine HR.jy rfl ?_|refine HR.jr rfl ?_)
 rename_i bA
 refine HR.ZC 3 1 ?_
 refine HR.jA2 (α:=Nat) (β:=Value) (fun k v=>k≤(Tp.jAK A.e f.fr).length) (fun k v=>[(2,.pointer (some ⟨bA,0,none⟩)),(3,.pointer (some ⟨bk,0,none⟩)),(6,v2),(7,v),(27,v3),(28,.int .i64 ((Tp.jAK A.e f.fr).length:Int)),(29,.int .i64 (k:Int))])
  (fun k v=>[jG v 3 1 (((Tp.jAK A.e f.fr).take k).filter (takes A f.dst)).length (cellsOf iC (((Tp.jAK A.e f.fr).take k).filter (takes A f.dst))),jG v3 3 1 (Tp.jAK A.e f.fr).length (cellsOf iC (Tp.jAK A.e f.fr)),jG v2 3 1 (A.o++A.n).length (cellsOf iC (A.o++A.n)),jT bk (Nd.frC f) 75,jT bA [.slice e1 A.e.length e2,.slice o1 A.o.length o2,.slice n1 A.n.length n2] 34])
  (fun k v=>(Tp.jAK A.e f.fr).length-k) 0 (.slice none 0 0) (Nat.zero_le _) ⟨I,I,I,I,I,I,I,trivial⟩ (Ent.pick [0,1,2,4,5] I I) ?_
 intro k v hk ih
 repeat' (first|(refine HL.Jy ?_;first|refine HL.ev I I ?_|refine HL.evc I I (by first|omega|(simp;done)|(simp;omega)) ?_|(refine HL.isLoad ?_;first|refine HL.L 0 I I I I ?_|refine HL.L 1 I I I I ?_|refine HL.L 2 I I I I ?_|refine HL.L 3 I I I I ?_|refine HL.L 4 I I I I ?_|refine HL.L 5 I I I I ?_)|(refine HL.jL ?_;first|refine HL.S 0 I I I I I ?_|refine HL.S 1 I I I I I ?_|refine HL.S 2 I I I I I ?_|refine HL.S 3 I I I I I ?_|refine HL.S 4 I I I I I ?_|refine HL.S 5 I I I I I ?_)|refine HL.build I I ?_|refine HL.field I I ?_|(refine HL.box I I ?_;intro bk)|(refine HL.alloc I I ?_;intro bk)|refine HL.skip rfl rfl ?_|refine HL.jw rfl ?_|apply HL.zN rfl rfl rfl rfl rfl rfl rfl rfl|apply HL.orB rfl rfl rfl rfl rfl rfl rfl rfl)|refine HL.nil ?_|refine HR.ctl rfl ?_|refine HR.region ?_|refine HR.jy rfl ?_|refine HR.jr rfl ?_|exact HL.jX rfl rfl Ent.refl|(refine fun (hb:(_:Bool)=_)=>?_;try simp at hb))
 refine HR.cond I (fun h2=>?_) (fun h2=>?_)
 ·have hlt:k<(Tp.jAK A.e f.fr).length:=by have:=of_decide_eq_true h2;omega
  obtain ⟨x,hx⟩:=jJ hlt
  have hfl:(((Tp.jAK A.e f.fr).take k).filter (takes A f.dst)).length≤k:=Nat.le_trans (List.length_filter_le _ _) (by simp;omega)
  repeat' (first|(refine HL.Jy ?_;first|refine HL.ev I I ?_|refine HL.evc I I (by first|omega|(simp;done)|(simp;omega)) ?_|refine HL.JA (Rd.own 1 I) Jw k I I I I hlt ?_|refine HL.ji (Rd.own 1 I) I I I I (jW hx) ?_|refine HL.jR jPT I I (fun w hw=>ZG (A.o++A.n) x v2 w ((Rd.own 2 rfl).at hw) (by rw[List.length_append];omega)) ?_|(refine HL.isLoad ?_;first|refine HL.L 0 I I I I ?_|refine HL.L 1 I I I I ?_|refine HL.L 2 I I I I ?_|refine HL.L 3 I I I I ?_|refine HL.L 4 I I I I ?_|refine HL.L 5 I I I I ?_)|(refine HL.jL ?_;first|refine HL.S 0 I I I I I ?_|refine HL.S 1 I I I I I ?_|refine HL.S 2 I I I I I ?_|refine HL.S 3 I I I I I ?_|refine HL.S 4 I I I I I ?_|refine HL.S 5 I I I I I ?_)|refine HL.build I I ?_|refine HL.field I I ?_|(refine HL.box I I ?_;intro bk)|(refine HL.alloc I I ?_;intro bk)|refine HL.skip rfl rfl ?_|refine HL.jw rfl ?_|apply HL.zN rfl rfl rfl rfl rfl rfl rfl rfl|apply HL.orB rfl rfl rfl rfl rfl rfl rfl rfl)|refine HL.nil ?_|refine HR.ctl rfl ?_|refine HR.region ?_|refine HR.jy rfl ?_|refine HR.jr rfl ?_|exact HL.jX rfl rfl Ent.refl|(refine fun (hb:(_:Bool)=_)=>?_;try simp at hb))
  refine HR.cond I (fun h3=>?_) (fun h3=>?_)
  ·rw [jGx]at h3
   repeat' (first|(refine HL.Jy ?_;first|refine HL.ev I I ?_|refine HL.evc I I (by first|omega|(simp;done)|(simp;omega)) ?_|refine HL.jv Jw I I I I I (by decide) (by decide) ?_|(refine HL.isLoad ?_;first|refine HL.L 0 I I I I ?_|refine HL.L 1 I I I I ?_|refine HL.L 2 I I I I ?_|refine HL.L 3 I I I I ?_|refine HL.L 4 I I I I ?_|refine HL.L 5 I I I I ?_)|(refine HL.jL ?_;first|refine HL.S 0 I I I I I ?_|refine HL.S 1 I I I I I ?_|refine HL.S 2 I I I I I ?_|refine HL.S 3 I I I I I ?_|refine HL.S 4 I I I I I ?_|refine HL.S 5 I I I I I ?_)|refine HL.build I I ?_|refine HL.field I I ?_|(refine HL.box I I ?_;intro bk)|(refine HL.alloc I I ?_;intro bk)|refine HL.skip rfl rfl ?_|refine HL.jw rfl ?_|apply HL.zN rfl rfl rfl rfl rfl rfl rfl rfl|apply HL.orB rfl rfl rfl rfl rfl rfl rfl rfl)|refine HL.nil ?_|refine HR.ctl rfl ?_|refine HR.region ?_|refine HR.jy rfl ?_|refine HR.jr rfl ?_|exact HL.jX rfl rfl Ent.refl|(refine fun (hb:(_:Bool)=_)=>?_;try simp at hb))
   intro v4
   repeat' (first|(refine HL.Jy ?_;first|refine HL.ev I I ?_|refine HL.evc I I (by first|omega|(simp;done)|(simp;omega)) ?_|refine HL.ZN 1 I Jw (Rd.own 0 I) I I I I (jF I) (by omega) (by omega) ?_|(refine HL.isLoad ?_;first|refine HL.L 0 I I I I ?_|refine HL.L 1 I I I I ?_|refine HL.L 2 I I I I ?_|refine HL.L 3 I I I I ?_|refine HL.L 4 I I I I ?_|refine HL.L 5 I I I I ?_)|(refine HL.jL ?_;first|refine HL.S 0 I I I I I ?_|refine HL.S 1 I I I I I ?_|refine HL.S 2 I I I I I ?_|refine HL.S 3 I I I I I ?_|refine HL.S 4 I I I I I ?_|refine HL.S 5 I I I I I ?_)|refine HL.build I I ?_|refine HL.field I I ?_|(refine HL.box I I ?_;intro bk)|(refine HL.alloc I I ?_;intro bk)|refine HL.skip rfl rfl ?_|refine HL.jw rfl ?_|apply HL.zN rfl rfl rfl rfl rfl rfl rfl rfl|apply HL.orB rfl rfl rfl rfl rfl rfl rfl rfl)|refine HL.nil ?_|refine HR.ctl rfl ?_|refine HR.region ?_|refine HR.jy rfl ?_|refine HR.jr rfl ?_|exact HL.jX rfl rfl Ent.refl|(refine fun (hb:(_:Bool)=_)=>?_;try simp at hb))
   intro v5
   repeat' (first|(refine HL.Jy ?_;first|refine HL.ev I I ?_|refine HL.evc I I (by first|omega|(simp;done)|(simp;omega)) ?_|(refine HL.isLoad ?_;first|refine HL.L 0 I I I I ?_|refine HL.L 1 I I I I ?_|refine HL.L 2 I I I I ?_|refine HL.L 3 I I I I ?_|refine HL.L 4 I I I I ?_|refine HL.L 5 I I I I ?_)|(refine HL.jL ?_;first|refine HL.S 0 I I I I I ?_|refine HL.S 1 I I I I I ?_|refine HL.S 2 I I I I I ?_|refine HL.S 3 I I I I I ?_|refine HL.S 4 I I I I I ?_|refine HL.S 5 I I I I I ?_)|refine HL.build I I ?_|refine HL.field I I ?_|(refine HL.box I I ?_;intro bk)|(refine HL.alloc I I ?_;intro bk)|refine HL.skip rfl rfl ?_|refine HL.jw rfl ?_|apply HL.zN rfl rfl rfl rfl rfl rfl rfl rfl|apply HL.orB rfl rfl rfl rfl rfl rfl rfl rfl)|refine HL.nil ?_|refine HR.ctl rfl ?_|refine HR.region ?_|refine HR.jy rfl ?_|refine HR.jr rfl ?_|exact HL.jX rfl rfl Ent.refl|(refine fun (hb:(_:Bool)=_)=>?_;try simp at hb))
   refine ih (k+1) v5 _ _ hlt (by omega) ⟨I,I,I,I,I,I,I,trivial⟩ (Ent.trans (Ent.pick [1,2,3,4,5] I I) (Ent.JV ?_ ?_))
   ·rw [kX hx,if_pos h3];simp
   ·rw [kX hx,if_pos h3,jP,J2]
  ·rw [jGx]at h3
   repeat' (first|(refine HL.Jy ?_;first|refine HL.ev I I ?_|refine HL.evc I I (by first|omega|(simp;done)|(simp;omega)) ?_|(refine HL.isLoad ?_;first|refine HL.L 0 I I I I ?_|refine HL.L 1 I I I I ?_|refine HL.L 2 I I I I ?_|refine HL.L 3 I I I I ?_|refine HL.L 4 I I I I ?_|refine HL.L 5 I I I I ?_)|(refine HL.jL ?_;first|refine HL.S 0 I I I I I ?_|refine HL.S 1 I I I I I ?_|refine HL.S 2 I I I I I ?_|refine HL.S 3 I I I I I ?_|refine HL.S 4 I I I I I ?_|refine HL.S 5 I I I I I ?_)|refine HL.build I I ?_|refine HL.field I I ?_|(refine HL.box I I ?_;intro bk)|(refine HL.alloc I I ?_;intro bk)|refine HL.skip rfl rfl ?_|refine HL.jw rfl ?_|apply HL.zN rfl rfl rfl rfl rfl rfl rfl rfl|apply HL.orB rfl rfl rfl rfl rfl rfl rfl rfl)|refine HL.nil ?_|refine HR.ctl rfl ?_|refine HR.region ?_|refine HR.jy rfl ?_|refine HR.jr rfl ?_|exact HL.jX rfl rfl Ent.refl|(refine fun (hb:(_:Bool)=_)=>?_;try simp at hb))
   refine ih (k+1) v _ _ hlt (by omega) ⟨I,I,I,I,I,I,I,trivial⟩ (Ent.JV ?_ ?_)
   ·rw [kX hx,h3];simp
   ·rw [kX hx,h3];simp
 have hke:k=(Tp.jAK A.e f.fr).length:=by have:=of_decide_eq_false h2;omega
 subst hke
 rw[List.take_length]
 have hrv:recv A f=heard A f:=by rw[recv,if_neg hm]
 show HR _ _ _ _ _ _ (jG v 3 1 (heard A f).length (cellsOf iC (heard A f))::_) _
 repeat' (first|(refine HL.Jy ?_;first|refine HL.ev I I ?_|refine HL.evc I I (by first|omega|(simp;done)|(simp;omega)) ?_|(refine HL.isLoad ?_;first|refine HL.L 0 I I I I ?_|refine HL.L 1 I I I I ?_|refine HL.L 2 I I I I ?_|refine HL.L 3 I I I I ?_|refine HL.L 4 I I I I ?_|refine HL.L 5 I I I I ?_)|(refine HL.jL ?_;first|refine HL.S 0 I I I I I ?_|refine HL.S 1 I I I I I ?_|refine HL.S 2 I I I I I ?_|refine HL.S 3 I I I I I ?_|refine HL.S 4 I I I I I ?_|refine HL.S 5 I I I I I ?_)|refine HL.build I I ?_|refine HL.field I I ?_|(refine HL.box I I ?_;intro bk)|(refine HL.alloc I I ?_;intro bk)|refine HL.skip rfl rfl ?_|refine HL.jw rfl ?_|apply HL.zN rfl rfl rfl rfl rfl rfl rfl rfl|apply HL.orB rfl rfl rfl rfl rfl rfl rfl rfl)|refine HL.nil ?_|refine HR.ctl rfl ?_|refine HR.region ?_|refine HR.jy rfl ?_|refine HR.jr rfl ?_|exact HL.jX rfl rfl Ent.refl|(refine fun (hb:(_:Bool)=_)=>?_;try simp at hb))
 refine HR.cond I (fun h3=>?_) (fun h3=>?_)
 ·repeat' (first|(refine HL.Jy ?_;first|refine HL.ev I I ?_|refine HL.evc I I (by first|omega|(simp;done)|(simp;omega)) ?_|(refine HL.isLoad ?_;first|refine HL.L 0 I I I I ?_|refine HL.L 1 I I I I ?_|refine HL.L 2 I I I I ?_|refine HL.L 3 I I I I ?_|refine HL.L 4 I I I I ?_|refine HL.L 5 I I I I ?_)|(refine HL.jL ?_;first|refine HL.S 0 I I I I I ?_|refine HL.S 1 I I I I I ?_|refine HL.S 2 I I I I I ?_|refine HL.S 3 I I I I I ?_|refine HL.S 4 I I I I I ?_|refine HL.S 5 I I I I I ?_)|refine HL.build I I ?_|refine HL.field I I ?_|(refine HL.box I I ?_;intro bk)|(refine HL.alloc I I ?_;intro bk)|refine HL.skip rfl rfl ?_|refine HL.jw rfl ?_|apply HL.zN rfl rfl rfl rfl rfl rfl rfl rfl|apply HL.orB rfl rfl rfl rfl rfl rfl rfl rfl)|refine HL.nil ?_|refine HR.ctl rfl ?_|refine HR.region ?_|refine HR.jy rfl ?_|refine HR.jr rfl ?_|exact HL.jX rfl rfl Ent.refl|(refine fun (hb:(_:Bool)=_)=>?_;try simp at hb))
  refine HR.ret Tryz.func42 I [_,_] (fun _ _=>⟨I,I,trivial⟩) ?_
  rw[hrv]
  exact fun w' hw=>⟨v,by simp[jFe,hm,jC2];exact .inl (eq_of_beq h3),hw.pick [0] I rfl⟩
 ·have hd:¬f.dst=255:=by simpa using h3
  repeat' (first|(refine HL.Jy ?_;first|refine HL.ev I I ?_|refine HL.evc I I (by first|omega|(simp;done)|(simp;omega)) ?_|refine HL.JN (Rd.own 0 I) I I I ?_|refine HL.jR jPT I I (fun w hw=>ZG A.n f.fr _ w ((Rd.arg hs.n).at hw) (by omega)) ?_|(refine HL.isLoad ?_;first|refine HL.L 0 I I I I ?_|refine HL.L 1 I I I I ?_|refine HL.L 2 I I I I ?_|refine HL.L 3 I I I I ?_|refine HL.L 4 I I I I ?_|refine HL.L 5 I I I I ?_)|(refine HL.jL ?_;first|refine HL.S 0 I I I I I ?_|refine HL.S 1 I I I I I ?_|refine HL.S 2 I I I I I ?_|refine HL.S 3 I I I I I ?_|refine HL.S 4 I I I I I ?_|refine HL.S 5 I I I I I ?_)|refine HL.build I I ?_|refine HL.field I I ?_|(refine HL.box I I ?_;intro bk)|(refine HL.alloc I I ?_;intro bk)|refine HL.skip rfl rfl ?_|refine HL.jw rfl ?_|apply HL.zN rfl rfl rfl rfl rfl rfl rfl rfl|apply HL.orB rfl rfl rfl rfl rfl rfl rfl rfl)|refine HL.nil ?_|refine HR.ctl rfl ?_|refine HR.region ?_|refine HR.jy rfl ?_|refine HR.jr rfl ?_|exact HL.jX rfl rfl Ent.refl|(refine fun (hb:(_:Bool)=_)=>?_;try simp at hb))
  refine HR.ret Tryz.func42 I [_,_] (fun _ _=>⟨I,I,trivial⟩) ?_
  rw[hrv]
  refine fun w' hw=>⟨v,?_,hw.pick [0] I rfl⟩
  simp[jFe,hm,hd,jC2]
end Go.Proofs.YtgfdoognildoeaaGreat
