/- A part of the proof: contracts of the program's functions. Conditions: none. -/
import Derived.Carry
import Derived.Deep.MidRow
import Derived.Deep.Quiet
import Derived.Laws.IdiomRangeMap
import Derived.Laws.MakeOwn
import Derived.Laws.StructEq
import Derived.Laws.Tables
import Derived.Lib.AppendStr
import Derived.Lib.AppendZerosOnto
import Derived.Lib.OthersKept
import Derived.Lib.Overlaps
import Derived.Lib.OwnBridge
import Derived.Lib.SlicesCompact
import Derived.MapKept
import Derived.Orders
import Derived.OrdersHeld
import Derived.Scope
import Derived.Sort.Grow
import Derived.StillTail
import Derived.Test.YtgfdoognildoeaaGreatProg
import Derived.Test.YtgfdoognildoeaaGreatShelf
import Derived.WalkKit
import Derived.WalkLawsBesides
import Derived.WalkSpells
import Derived.Test.YtgfdoognildoeaaGreatQB1
import Derived.Test.YtgfdoognildoeaaGreatQB2
import Derived.Test.YtgfdoognildoeaaGreatQB3
import Derived.Test.YtgfdoognildoeaaGreatQB4
import Derived.Test.YtgfdoognildoeaaGreatQB5
import Derived.Test.YtgfdoognildoeaaGreatQB6
import Derived.Test.YtgfdoognildoeaaGreatQB7
import Derived.Test.YtgfdoognildoeaaGreatQB8
import Derived.Test.YtgfdoognildoeaaGreatQB9
import Derived.Test.YtgfdoognildoeaaGreatQB10
import Derived.Test.YtgfdoognildoeaaGreatQB11
import Derived.Test.YtgfdoognildoeaaGreatQB12
import Derived.Test.YtgfdoognildoeaaGreatQB13
set_option linter.unusedVariables false
set_option linter.unusedSectionVars false
set_option linter.unusedSimpArgs false
set_option maxRecDepth 100000
set_option maxHeartbeats 4000000
namespace Go.Proofs.YtgfdoognildoeaaGreat
open Go.GX Go.RowKit
attribute [local irreducible] Calls Run jg jh JU HR HL HD jU jK Jc Rd jL jd
open Ra
theorem fn42:IsFn Tryz.prog 42:=⟨⟨_,_,Tryz.func42,rfl,by decide⟩⟩
theorem OkA.none (w:World):OkA w ⟨[],[],[]⟩ (.slice none 0 0) (.slice none 0 0) (.slice none 0 0):=⟨Sl.nil w,Sl.nil w,Sl.nil w,by decide,by decide,by decide⟩
theorem jNa {a:Air} {ve vo vn:Value} {w0:World} (hv:OkA w0 a ve vo vn):∃ve' vo' vn',OkA w0 (san a) ve' vo' vn'∧∀w,OkA w a ve vo vn→Calls Tryz.prog 81 #[jKv ve vo vn] w fun e w'=>e= .returned (jKv ve' vo' vn')∧Below w.heap.size w w':=by
 obtain ⟨e1,e2,rfl,_⟩:=hv.e.2
 obtain ⟨o1,o2,rfl,_⟩:=hv.o.2
 obtain ⟨n1,n2,rfl,_⟩:=hv.n.2
 by_cases h0:Ra.check a=0
 ·refine ⟨_,_,_,by rw[jRp h0];exact hv,fun w hv=>?_⟩
  refine jB Tryz.func81 I (Nat.le_of_ble_eq_true I) ?_
  refine HR.sub (σ':=[(0,jKv (.slice e1 a.e.length e2) (.slice o1 a.o.length o2) (.slice n1 a.n.length n2))]) ⟨I,trivial⟩ ?_
  repeat' (first|(refine HL.J4 ?_;first|refine HL.ev I I ?_|refine HL.evc I I (by first|omega|(simp;done)|(simp;omega)) ?_|refine HL.jN fn77 I I (fun w hw=>by have:=jAW a _ _ _ w (hv.at hw);rw[h0]at this;exact this) ?_|(refine HL.isLoad ?_;first|refine HL.L 0 I I I I ?_|refine HL.L 1 I I I I ?_|refine HL.L 2 I I I I ?_|refine HL.L 3 I I I I ?_|refine HL.L 4 I I I I ?_|refine HL.L 5 I I I I ?_)|(refine HL.jQ ?_;first|refine HL.S 0 I I I I I ?_|refine HL.S 1 I I I I I ?_|refine HL.S 2 I I I I I ?_|refine HL.S 3 I I I I I ?_|refine HL.S 4 I I I I I ?_|refine HL.S 5 I I I I I ?_)|refine HL.build I I ?_|refine HL.field I I ?_|(refine HL.box I I ?_;intro bk)|(refine HL.alloc I I ?_;intro bk)|refine HL.skip rfl rfl ?_|refine HL.j5 rfl ?_)|refine HL.nil ?_|refine HR.ctl rfl ?_|refine HR.region ?_|refine HR.JA rfl ?_|refine HR.jy rfl ?_)
  refine HR.ret Tryz.func81 I [_] (fun w hw=>⟨⟨_,rfl,jP hw 0 I I I I rfl⟩,trivial⟩) ?_
  exact fun w' hw=>⟨rfl,hw.jE⟩
 ·refine ⟨_,_,_,by rw[jRq h0];exact OkA.none w0,fun w hv=>?_⟩
  refine jB Tryz.func81 I (Nat.le_of_ble_eq_true I) ?_
  refine HR.sub (σ':=[(0,jKv (.slice e1 a.e.length e2) (.slice o1 a.o.length o2) (.slice n1 a.n.length n2))]) ⟨I,trivial⟩ ?_
  repeat' (first|(refine HL.J4 ?_;first|refine HL.ev I I ?_|refine HL.evc I I (by first|omega|(simp;done)|(simp;omega)) ?_|refine HL.jN fn77 I I (fun w hw=>jAW a _ _ _ w (hv.at hw)) ?_|(refine HL.isLoad ?_;first|refine HL.L 0 I I I I ?_|refine HL.L 1 I I I I ?_|refine HL.L 2 I I I I ?_|refine HL.L 3 I I I I ?_|refine HL.L 4 I I I I ?_|refine HL.L 5 I I I I ?_)|(refine HL.jQ ?_;first|refine HL.S 0 I I I I I ?_|refine HL.S 1 I I I I I ?_|refine HL.S 2 I I I I I ?_|refine HL.S 3 I I I I I ?_|refine HL.S 4 I I I I I ?_|refine HL.S 5 I I I I I ?_)|refine HL.build I I ?_|refine HL.field I I ?_|(refine HL.box I I ?_;intro bk)|(refine HL.alloc I I ?_;intro bk)|refine HL.skip rfl rfl ?_|refine HL.j5 rfl ?_)|refine HL.nil ?_|refine HR.ctl rfl ?_|refine HR.region ?_|refine HR.JA rfl ?_|refine HR.jy rfl ?_)
  refine HR.jCu 5 true I (bne_iff_ne.2 h0) ?_
  repeat' (first|(refine HL.J4 ?_;first|refine HL.ev I I ?_|refine HL.evc I I (by first|omega|(simp;done)|(simp;omega)) ?_|(refine HL.isLoad ?_;first|refine HL.L 0 I I I I ?_|refine HL.L 1 I I I I ?_|refine HL.L 2 I I I I ?_|refine HL.L 3 I I I I ?_|refine HL.L 4 I I I I ?_|refine HL.L 5 I I I I ?_)|(refine HL.jQ ?_;first|refine HL.S 0 I I I I I ?_|refine HL.S 1 I I I I I ?_|refine HL.S 2 I I I I I ?_|refine HL.S 3 I I I I I ?_|refine HL.S 4 I I I I I ?_|refine HL.S 5 I I I I I ?_)|refine HL.build I I ?_|refine HL.field I I ?_|(refine HL.box I I ?_;intro bk)|(refine HL.alloc I I ?_;intro bk)|refine HL.skip rfl rfl ?_|refine HL.j5 rfl ?_)|refine HL.nil ?_|refine HR.ctl rfl ?_|refine HR.region ?_|refine HR.JA rfl ?_|refine HR.jy rfl ?_)
  refine HR.ret Tryz.func81 I [_] (fun w hw=>⟨⟨_,rfl,jP hw 0 I I I I rfl⟩,trivial⟩) ?_
  exact fun w' hw=>⟨rfl,hw.jE⟩
theorem jHk (a:Air) (dst n:Int):(!decide (n∈a.o++a.n)&&((dst==255)||(n==dst)))=takes a dst n:=by
 unfold takes hears
 rw[show (n==dst)=(dst==n)from by rw[Bool.eq_iff_iff];simp only[beq_iff_eq];exact eq_comm]
 congr 1
 rw[Bool.eq_iff_iff];simp
theorem jHT (a:Air) (f:Fr) (ve vo vn:Value) (w:World) (hv:OkA w a ve vo vn):
  Calls Tryz.prog 42 #[jKv ve vo vn,.agg ⟨Nd.frC f⟩] w fun e w'=>∃v,e= .returned (.tuple ⟨[v,.bool (jHf (san a) f)]⟩)∧Sat (base w) [jK v 3 1 (recv (san a) f).length (cellsOf iC (recv (san a) f))] w':=by
 obtain ⟨ve',vo',vn',hs,hval⟩:=jNa hv
 generalize san a=A at hs ⊢
 obtain ⟨e1,e2,rfl,_⟩:=hs.e.2
 obtain ⟨o1,o2,rfl,_⟩:=hs.o.2
 obtain ⟨n1,n2,rfl,_⟩:=hs.n.2
 have le:=hs.le
 have lo:=hs.lo
 have ln:=hs.ln
 refine jB Tryz.func42 I (Nat.le_of_ble_eq_true I) ?_
 refine HR.sub (σ':=[(0,jKv ve vo vn),(1,.agg ⟨Nd.frC f⟩)]) ⟨I,I,trivial⟩ ?_
 repeat' (first|(refine HL.J4 ?_;first|refine HL.ev I I ?_|refine HL.evc I I (by first|omega|(simp;done)|(simp;omega)) ?_|refine HL.jN fn81 I I (fun w hw=>hval w (hv.at hw)) ?_|refine HL.jN jQE I I (fun w hw=>ZP A.o f.fr _ w ((Rd.arg hs.o).at hw) (by omega)) ?_|(refine HL.isLoad ?_;first|refine HL.L 0 I I I I ?_|refine HL.L 1 I I I I ?_|refine HL.L 2 I I I I ?_|refine HL.L 3 I I I I ?_|refine HL.L 4 I I I I ?_|refine HL.L 5 I I I I ?_)|(refine HL.jQ ?_;first|refine HL.S 0 I I I I I ?_|refine HL.S 1 I I I I I ?_|refine HL.S 2 I I I I I ?_|refine HL.S 3 I I I I I ?_|refine HL.S 4 I I I I I ?_|refine HL.S 5 I I I I I ?_)|refine HL.build I I ?_|refine HL.field I I ?_|(refine HL.box I I ?_;intro bk)|(refine HL.alloc I I ?_;intro bk)|refine HL.skip rfl rfl ?_|refine HL.j5 rfl ?_)|refine HL.nil ?_|refine HR.ctl rfl ?_|refine HR.region ?_|refine HR.JA rfl ?_|refine HR.jy rfl ?_)
 refine HR.cond I (fun h=>?_) (fun h=>?_)
 ·have hm:=of_decide_eq_true h
  repeat' (first|(refine HL.J4 ?_;first|refine HL.ev I I ?_|refine HL.evc I I (by first|omega|(simp;done)|(simp;omega)) ?_|(refine HL.isLoad ?_;first|refine HL.L 0 I I I I ?_|refine HL.L 1 I I I I ?_|refine HL.L 2 I I I I ?_|refine HL.L 3 I I I I ?_|refine HL.L 4 I I I I ?_|refine HL.L 5 I I I I ?_)|(refine HL.jQ ?_;first|refine HL.S 0 I I I I I ?_|refine HL.S 1 I I I I I ?_|refine HL.S 2 I I I I I ?_|refine HL.S 3 I I I I I ?_|refine HL.S 4 I I I I I ?_|refine HL.S 5 I I I I I ?_)|refine HL.build I I ?_|refine HL.field I I ?_|(refine HL.box I I ?_;intro bk)|(refine HL.alloc I I ?_;intro bk)|refine HL.skip rfl rfl ?_|refine HL.j5 rfl ?_)|refine HL.nil ?_|refine HR.ctl rfl ?_|refine HR.region ?_|refine HR.JA rfl ?_|refine HR.jy rfl ?_)
  refine HR.zY 3 1 ?_
  refine HR.ret Tryz.func42 I [_,_] (fun _ _=>⟨I,I,trivial⟩) ?_
  exact fun w' hw=>⟨.slice none 0 0,by simp[jHf,hm,Zv],by rw[recv,if_pos hm];exact hw.pick [0] I rfl⟩
 have hm:=of_decide_eq_false h
 repeat' (first|(refine HL.J4 ?_;first|refine HL.ev I I ?_|refine HL.evc I I (by first|omega|(simp;done)|(simp;omega)) ?_|refine HL.jk jRS I I I I I (by decide) (by decide) ?_|(refine HL.isLoad ?_;first|refine HL.L 0 I I I I ?_|refine HL.L 1 I I I I ?_|refine HL.L 2 I I I I ?_|refine HL.L 3 I I I I ?_|refine HL.L 4 I I I I ?_|refine HL.L 5 I I I I ?_)|(refine HL.jQ ?_;first|refine HL.S 0 I I I I I ?_|refine HL.S 1 I I I I I ?_|refine HL.S 2 I I I I I ?_|refine HL.S 3 I I I I I ?_|refine HL.S 4 I I I I I ?_|refine HL.S 5 I I I I I ?_)|refine HL.build I I ?_|refine HL.field I I ?_|(refine HL.box I I ?_;intro bk)|(refine HL.alloc I I ?_;intro bk)|refine HL.skip rfl rfl ?_|refine HL.j5 rfl ?_)|refine HL.nil ?_|refine HR.ctl rfl ?_|refine HR.region ?_|refine HR.JA rfl ?_|refine HR.jy rfl ?_)
 intro v1
 refine HL.JN fn82 I I (fun w hw=>jMi ((Rd.own 0 rfl).at hw) ((Rd.arg hs.o).at hw) ((Rd.arg hs.n).at hw) hs.lo hs.ln) ?_
 intro v2
 repeat' (first|(refine HL.J4 ?_;first|refine HL.ev I I ?_|refine HL.evc I I (by first|omega|(simp;done)|(simp;omega)) ?_|(refine HL.isLoad ?_;first|refine HL.L 0 I I I I ?_|refine HL.L 1 I I I I ?_|refine HL.L 2 I I I I ?_|refine HL.L 3 I I I I ?_|refine HL.L 4 I I I I ?_|refine HL.L 5 I I I I ?_)|(refine HL.jQ ?_;first|refine HL.S 0 I I I I I ?_|refine HL.S 1 I I I I I ?_|refine HL.S 2 I I I I I ?_|refine HL.S 3 I I I I I ?_|refine HL.S 4 I I I I I ?_|refine HL.S 5 I I I I I ?_)|refine HL.build I I ?_|refine HL.field I I ?_|(refine HL.box I I ?_;intro bk)|(refine HL.alloc I I ?_;intro bk)|refine HL.skip rfl rfl ?_|refine HL.j5 rfl ?_)|refine HL.nil ?_|refine HR.ctl rfl ?_|refine HR.region ?_|refine HR.JA rfl ?_|refine HR.jy rfl ?_)
 refine HL.JN fn83 I I (fun w hw=>jPK A.e f.fr _ w ((Rd.arg hs.e).at hw) (by omega)) ?_
 intro v3
 have hnl:=Tp.jH8 A.e f.fr
 repeat' (first|(refine HL.J4 ?_;first|refine HL.ev I I ?_|refine HL.evc I I (by first|omega|(simp;done)|(simp;omega)) ?_|refine HL.j4 (Rd.own 0 I) I I I ?_|(refine HL.isLoad ?_;first|refine HL.L 0 I I I I ?_|refine HL.L 1 I I I I ?_|refine HL.L 2 I I I I ?_|refine HL.L 3 I I I I ?_|refine HL.L 4 I I I I ?_|refine HL.L 5 I I I I ?_)|(refine HL.jQ ?_;first|refine HL.S 0 I I I I I ?_|refine HL.S 1 I I I I I ?_|refine HL.S 2 I I I I I ?_|refine HL.S 3 I I I I I ?_|refine HL.S 4 I I I I I ?_|refine HL.S 5 I I I I I ?_)|refine HL.build I I ?_|refine HL.field I I ?_|(refine HL.box I I ?_;intro bk)|(refine HL.alloc I I ?_;intro bk)|refine HL.skip rfl rfl ?_|refine HL.j5 rfl ?_)|refine HL.nil ?_|refine HR.ctl rfl ?_|refine HR.region ?_|refine HR.JA rfl ?_|refine HR.jy rfl ?_)
 rename_i bA
 refine HR.zY 3 1 ?_
 refine HR.Kc (α:=Nat) (β:=Value) (fun k v=>k≤(Tp.jAY A.e f.fr).length) (fun k v=>[(2,.pointer (some ⟨bA,0,none⟩)),(3,.pointer (some ⟨bk,0,none⟩)),(6,v2),(7,v),(27,v3),(28,.int .i64 ((Tp.jAY A.e f.fr).length:Int)),(29,.int .i64 (k:Int))])
  (fun k v=>[jK v 3 1 (((Tp.jAY A.e f.fr).take k).filter (takes A f.dst)).length (cellsOf iC (((Tp.jAY A.e f.fr).take k).filter (takes A f.dst))),jK v3 3 1 (Tp.jAY A.e f.fr).length (cellsOf iC (Tp.jAY A.e f.fr)),jK v2 3 1 (A.o++A.n).length (cellsOf iC (A.o++A.n)),jU bk (Nd.frC f) 75,jU bA [.slice e1 A.e.length e2,.slice o1 A.o.length o2,.slice n1 A.n.length n2] 34])
  (fun k v=>(Tp.jAY A.e f.fr).length-k) 0 (.slice none 0 0) (Nat.zero_le _) ⟨I,I,I,I,I,I,I,trivial⟩ (Ent.pick [0,1,2,4,5] I I) ?_
 intro k v hk ih
 repeat' (first|(refine HL.J4 ?_;first|refine HL.ev I I ?_|refine HL.evc I I (by first|omega|(simp;done)|(simp;omega)) ?_|(refine HL.isLoad ?_;first|refine HL.L 0 I I I I ?_|refine HL.L 1 I I I I ?_|refine HL.L 2 I I I I ?_|refine HL.L 3 I I I I ?_|refine HL.L 4 I I I I ?_|refine HL.L 5 I I I I ?_)|(refine HL.jQ ?_;first|refine HL.S 0 I I I I I ?_|refine HL.S 1 I I I I I ?_|refine HL.S 2 I I I I I ?_|refine HL.S 3 I I I I I ?_|refine HL.S 4 I I I I I ?_|refine HL.S 5 I I I I I ?_)|refine HL.build I I ?_|refine HL.field I I ?_|(refine HL.box I I ?_;intro bk)|(refine HL.alloc I I ?_;intro bk)|refine HL.skip rfl rfl ?_|refine HL.j5 rfl ?_|apply HL.zZ rfl rfl rfl rfl rfl rfl rfl rfl|apply HL.orB rfl rfl rfl rfl rfl rfl rfl rfl)|refine HL.nil ?_|refine HR.ctl rfl ?_|refine HR.region ?_|refine HR.JA rfl ?_|refine HR.jy rfl ?_|exact HL.jc rfl rfl Ent.refl|(refine fun (hb:(_:Bool)=_)=>?_;try simp at hb))
 refine HR.cond I (fun h2=>?_) (fun h2=>?_)
 ·have hlt:k<(Tp.jAY A.e f.fr).length:=by have:=of_decide_eq_true h2;omega
  obtain ⟨x,hx⟩:=jH hlt
  have hfl:(((Tp.jAY A.e f.fr).take k).filter (takes A f.dst)).length≤k:=Nat.le_trans (List.length_filter_le _ _) (by simp;omega)
  repeat' (first|(refine HL.J4 ?_;first|refine HL.ev I I ?_|refine HL.evc I I (by first|omega|(simp;done)|(simp;omega)) ?_|refine HL.jw (Rd.own 1 I) Jg k I I I I hlt ?_|refine HL.jY (Rd.own 1 I) I I I I (jV hx) ?_|refine HL.jN jQE I I (fun w hw=>ZP (A.o++A.n) x v2 w ((Rd.own 2 rfl).at hw) (by rw[List.length_append];omega)) ?_|(refine HL.isLoad ?_;first|refine HL.L 0 I I I I ?_|refine HL.L 1 I I I I ?_|refine HL.L 2 I I I I ?_|refine HL.L 3 I I I I ?_|refine HL.L 4 I I I I ?_|refine HL.L 5 I I I I ?_)|(refine HL.jQ ?_;first|refine HL.S 0 I I I I I ?_|refine HL.S 1 I I I I I ?_|refine HL.S 2 I I I I I ?_|refine HL.S 3 I I I I I ?_|refine HL.S 4 I I I I I ?_|refine HL.S 5 I I I I I ?_)|refine HL.build I I ?_|refine HL.field I I ?_|(refine HL.box I I ?_;intro bk)|(refine HL.alloc I I ?_;intro bk)|refine HL.skip rfl rfl ?_|refine HL.j5 rfl ?_|apply HL.zZ rfl rfl rfl rfl rfl rfl rfl rfl|apply HL.orB rfl rfl rfl rfl rfl rfl rfl rfl)|refine HL.nil ?_|refine HR.ctl rfl ?_|refine HR.region ?_|refine HR.JA rfl ?_|refine HR.jy rfl ?_|exact HL.jc rfl rfl Ent.refl|(refine fun (hb:(_:Bool)=_)=>?_;try simp at hb))
  refine HR.cond I (fun h3=>?_) (fun h3=>?_)
  ·rw [jHk]at h3
   repeat' (first|(refine HL.J4 ?_;first|refine HL.ev I I ?_|refine HL.evc I I (by first|omega|(simp;done)|(simp;omega)) ?_|refine HL.jk Jg I I I I I (by decide) (by decide) ?_|(refine HL.isLoad ?_;first|refine HL.L 0 I I I I ?_|refine HL.L 1 I I I I ?_|refine HL.L 2 I I I I ?_|refine HL.L 3 I I I I ?_|refine HL.L 4 I I I I ?_|refine HL.L 5 I I I I ?_)|(refine HL.jQ ?_;first|refine HL.S 0 I I I I I ?_|refine HL.S 1 I I I I I ?_|refine HL.S 2 I I I I I ?_|refine HL.S 3 I I I I I ?_|refine HL.S 4 I I I I I ?_|refine HL.S 5 I I I I I ?_)|refine HL.build I I ?_|refine HL.field I I ?_|(refine HL.box I I ?_;intro bk)|(refine HL.alloc I I ?_;intro bk)|refine HL.skip rfl rfl ?_|refine HL.j5 rfl ?_|apply HL.zZ rfl rfl rfl rfl rfl rfl rfl rfl|apply HL.orB rfl rfl rfl rfl rfl rfl rfl rfl)|refine HL.nil ?_|refine HR.ctl rfl ?_|refine HR.region ?_|refine HR.JA rfl ?_|refine HR.jy rfl ?_|exact HL.jc rfl rfl Ent.refl|(refine fun (hb:(_:Bool)=_)=>?_;try simp at hb))
   intro v4
   repeat' (first|(refine HL.J4 ?_;first|refine HL.ev I I ?_|refine HL.evc I I (by first|omega|(simp;done)|(simp;omega)) ?_|refine HL.zD 1 I Jg (Rd.own 0 I) I I I I (jJ I) (by omega) (by omega) ?_|(refine HL.isLoad ?_;first|refine HL.L 0 I I I I ?_|refine HL.L 1 I I I I ?_|refine HL.L 2 I I I I ?_|refine HL.L 3 I I I I ?_|refine HL.L 4 I I I I ?_|refine HL.L 5 I I I I ?_)|(refine HL.jQ ?_;first|refine HL.S 0 I I I I I ?_|refine HL.S 1 I I I I I ?_|refine HL.S 2 I I I I I ?_|refine HL.S 3 I I I I I ?_|refine HL.S 4 I I I I I ?_|refine HL.S 5 I I I I I ?_)|refine HL.build I I ?_|refine HL.field I I ?_|(refine HL.box I I ?_;intro bk)|(refine HL.alloc I I ?_;intro bk)|refine HL.skip rfl rfl ?_|refine HL.j5 rfl ?_|apply HL.zZ rfl rfl rfl rfl rfl rfl rfl rfl|apply HL.orB rfl rfl rfl rfl rfl rfl rfl rfl)|refine HL.nil ?_|refine HR.ctl rfl ?_|refine HR.region ?_|refine HR.JA rfl ?_|refine HR.jy rfl ?_|exact HL.jc rfl rfl Ent.refl|(refine fun (hb:(_:Bool)=_)=>?_;try simp at hb))
   intro v5
   repeat' (first|(refine HL.J4 ?_;first|refine HL.ev I I ?_|refine HL.evc I I (by first|omega|(simp;done)|(simp;omega)) ?_|(refine HL.isLoad ?_;first|refine HL.L 0 I I I I ?_|refine HL.L 1 I I I I ?_|refine HL.L 2 I I I I ?_|refine HL.L 3 I I I I ?_|refine HL.L 4 I I I I ?_|refine HL.L 5 I I I I ?_)|(refine HL.jQ ?_;first|refine HL.S 0 I I I I I ?_|refine HL.S 1 I I I I I ?_|refine HL.S 2 I I I I I ?_|refine HL.S 3 I I I I I ?_|refine HL.S 4 I I I I I ?_|refine HL.S 5 I I I I I ?_)|refine HL.build I I ?_|refine HL.field I I ?_|(refine HL.box I I ?_;intro bk)|(refine HL.alloc I I ?_;intro bk)|refine HL.skip rfl rfl ?_|refine HL.j5 rfl ?_|apply HL.zZ rfl rfl rfl rfl rfl rfl rfl rfl|apply HL.orB rfl rfl rfl rfl rfl rfl rfl rfl)|refine HL.nil ?_|refine HR.ctl rfl ?_|refine HR.region ?_|refine HR.JA rfl ?_|refine HR.jy rfl ?_|exact HL.jc rfl rfl Ent.refl|(refine fun (hb:(_:Bool)=_)=>?_;try simp at hb))
   refine ih (k+1) v5 _ _ hlt (by omega) ⟨I,I,I,I,I,I,I,trivial⟩ (Ent.trans (Ent.pick [1,2,3,4,5] I I) (Ent.JM ?_ ?_))
   ·rw [kZ hx,if_pos h3];simp
   ·rw [kZ hx,if_pos h3,jM,J6]
  ·rw [jHk]at h3
   repeat' (first|(refine HL.J4 ?_;first|refine HL.ev I I ?_|refine HL.evc I I (by first|omega|(simp;done)|(simp;omega)) ?_|(refine HL.isLoad ?_;first|refine HL.L 0 I I I I ?_|refine HL.L 1 I I I I ?_|refine HL.L 2 I I I I ?_|refine HL.L 3 I I I I ?_|refine HL.L 4 I I I I ?_|refine HL.L 5 I I I I ?_)|(refine HL.jQ ?_;first|refine HL.S 0 I I I I I ?_|refine HL.S 1 I I I I I ?_|refine HL.S 2 I I I I I ?_|refine HL.S 3 I I I I I ?_|refine HL.S 4 I I I I I ?_|refine HL.S 5 I I I I I ?_)|refine HL.build I I ?_|refine HL.field I I ?_|(refine HL.box I I ?_;intro bk)|(refine HL.alloc I I ?_;intro bk)|refine HL.skip rfl rfl ?_|refine HL.j5 rfl ?_|apply HL.zZ rfl rfl rfl rfl rfl rfl rfl rfl|apply HL.orB rfl rfl rfl rfl rfl rfl rfl rfl)|refine HL.nil ?_|refine HR.ctl rfl ?_|refine HR.region ?_|refine HR.JA rfl ?_|refine HR.jy rfl ?_|exact HL.jc rfl rfl Ent.refl|(refine fun (hb:(_:Bool)=_)=>?_;try simp at hb))
   refine ih (k+1) v _ _ hlt (by omega) ⟨I,I,I,I,I,I,I,trivial⟩ (Ent.JM ?_ ?_)
   ·rw [kZ hx,h3];simp
   ·rw [kZ hx,h3];simp
 have hke:k=(Tp.jAY A.e f.fr).length:=by have:=of_decide_eq_false h2;omega
 subst hke
 rw[List.take_length]
 have hrv:recv A f=heard A f:=by rw[recv,if_neg hm]
 show HR _ _ _ _ _ _ (jK v 3 1 (heard A f).length (cellsOf iC (heard A f))::_) _
 repeat' (first|(refine HL.J4 ?_;first|refine HL.ev I I ?_|refine HL.evc I I (by first|omega|(simp;done)|(simp;omega)) ?_|(refine HL.isLoad ?_;first|refine HL.L 0 I I I I ?_|refine HL.L 1 I I I I ?_|refine HL.L 2 I I I I ?_|refine HL.L 3 I I I I ?_|refine HL.L 4 I I I I ?_|refine HL.L 5 I I I I ?_)|(refine HL.jQ ?_;first|refine HL.S 0 I I I I I ?_|refine HL.S 1 I I I I I ?_|refine HL.S 2 I I I I I ?_|refine HL.S 3 I I I I I ?_|refine HL.S 4 I I I I I ?_|refine HL.S 5 I I I I I ?_)|refine HL.build I I ?_|refine HL.field I I ?_|(refine HL.box I I ?_;intro bk)|(refine HL.alloc I I ?_;intro bk)|refine HL.skip rfl rfl ?_|refine HL.j5 rfl ?_|apply HL.zZ rfl rfl rfl rfl rfl rfl rfl rfl|apply HL.orB rfl rfl rfl rfl rfl rfl rfl rfl)|refine HL.nil ?_|refine HR.ctl rfl ?_|refine HR.region ?_|refine HR.JA rfl ?_|refine HR.jy rfl ?_|exact HL.jc rfl rfl Ent.refl|(refine fun (hb:(_:Bool)=_)=>?_;try simp at hb))
 refine HR.cond I (fun h3=>?_) (fun h3=>?_)
 ·repeat' (first|(refine HL.J4 ?_;first|refine HL.ev I I ?_|refine HL.evc I I (by first|omega|(simp;done)|(simp;omega)) ?_|(refine HL.isLoad ?_;first|refine HL.L 0 I I I I ?_|refine HL.L 1 I I I I ?_|refine HL.L 2 I I I I ?_|refine HL.L 3 I I I I ?_|refine HL.L 4 I I I I ?_|refine HL.L 5 I I I I ?_)|(refine HL.jQ ?_;first|refine HL.S 0 I I I I I ?_|refine HL.S 1 I I I I I ?_|refine HL.S 2 I I I I I ?_|refine HL.S 3 I I I I I ?_|refine HL.S 4 I I I I I ?_|refine HL.S 5 I I I I I ?_)|refine HL.build I I ?_|refine HL.field I I ?_|(refine HL.box I I ?_;intro bk)|(refine HL.alloc I I ?_;intro bk)|refine HL.skip rfl rfl ?_|refine HL.j5 rfl ?_|apply HL.zZ rfl rfl rfl rfl rfl rfl rfl rfl|apply HL.orB rfl rfl rfl rfl rfl rfl rfl rfl)|refine HL.nil ?_|refine HR.ctl rfl ?_|refine HR.region ?_|refine HR.JA rfl ?_|refine HR.jy rfl ?_|exact HL.jc rfl rfl Ent.refl|(refine fun (hb:(_:Bool)=_)=>?_;try simp at hb))
  refine HR.ret Tryz.func42 I [_,_] (fun _ _=>⟨I,I,trivial⟩) ?_
  rw[hrv]
  exact fun w' hw=>⟨v,by simp[jHf,hm,Zv];exact .inl (eq_of_beq h3),hw.pick [0] I rfl⟩
 ·have hd:¬f.dst=255:=by simpa using h3
  repeat' (first|(refine HL.J4 ?_;first|refine HL.ev I I ?_|refine HL.evc I I (by first|omega|(simp;done)|(simp;omega)) ?_|refine HL.j4 (Rd.own 0 I) I I I ?_|refine HL.jN jQE I I (fun w hw=>ZP A.n f.fr _ w ((Rd.arg hs.n).at hw) (by omega)) ?_|(refine HL.isLoad ?_;first|refine HL.L 0 I I I I ?_|refine HL.L 1 I I I I ?_|refine HL.L 2 I I I I ?_|refine HL.L 3 I I I I ?_|refine HL.L 4 I I I I ?_|refine HL.L 5 I I I I ?_)|(refine HL.jQ ?_;first|refine HL.S 0 I I I I I ?_|refine HL.S 1 I I I I I ?_|refine HL.S 2 I I I I I ?_|refine HL.S 3 I I I I I ?_|refine HL.S 4 I I I I I ?_|refine HL.S 5 I I I I I ?_)|refine HL.build I I ?_|refine HL.field I I ?_|(refine HL.box I I ?_;intro bk)|(refine HL.alloc I I ?_;intro bk)|refine HL.skip rfl rfl ?_|refine HL.j5 rfl ?_|apply HL.zZ rfl rfl rfl rfl rfl rfl rfl rfl|apply HL.orB rfl rfl rfl rfl rfl rfl rfl rfl)|refine HL.nil ?_|refine HR.ctl rfl ?_|refine HR.region ?_|refine HR.JA rfl ?_|refine HR.jy rfl ?_|exact HL.jc rfl rfl Ent.refl|(refine fun (hb:(_:Bool)=_)=>?_;try simp at hb))
  refine HR.ret Tryz.func42 I [_,_] (fun _ _=>⟨I,I,trivial⟩) ?_
  rw[hrv]
  refine fun w' hw=>⟨v,?_,hw.pick [0] I rfl⟩
  simp[jHf,hm,hd,Zv]
end Go.Proofs.YtgfdoognildoeaaGreat
namespace Go.Proofs.YtgfdoognildoeaaGreat
open Go.GX Go.RowKit
attribute [local irreducible] Calls Run jg jh JU HR HL HD jU jK Jc Rd jL jd
open Nd
theorem fn39:IsFn Tryz.prog 39:=⟨⟨_,_,Tryz.func39,rfl,by decide⟩⟩
theorem fn40:IsFn Tryz.prog 40:=⟨⟨_,_,Tryz.func40,rfl,by decide⟩⟩
theorem fn41:IsFn Tryz.prog 41:=⟨⟨_,_,Tryz.func41,rfl,by decide⟩⟩
theorem fn84:IsFn Tryz.prog 84:=⟨⟨_,_,Tryz.func84,rfl,by decide⟩⟩
theorem fn85:IsFn Tryz.prog 85:=⟨⟨_,_,Tryz.func85,rfl,by decide⟩⟩
theorem fn43:IsFn Tryz.prog 43:=⟨⟨_,_,Tryz.func43,rfl,by decide⟩⟩
abbrev StX:=(NV×Nd)×Bool×Bool×Fr
abbrev stE (s:StX):List Value:=[.int .i64 s.1.2.addr,.int .i64 s.1.2.poll,.int .i64 s.1.2.parent,sv s.1.1.ta s.1.2.table.length,sv s.1.1.li s.1.2.links.length,sv s.1.1.ou s.1.2.out.length,sv s.1.1.ch s.1.2.children.length,sv s.1.1.bo s.1.2.boxes.length,sv s.1.1.se s.1.2.seen.length,sv s.1.1.pa s.1.1.ps.length,sv s.1.1.ib s.1.2.inbox.length,.int .i64 s.1.2.seq,.int .i64 s.1.2.lost,.bool s.2.1,.bool s.2.2.1,.int .i64 s.2.2.2.kd,.int .i64 s.2.2.2.fr,.int .i64 s.2.2.2.dst,.int .i64 s.2.2.2.so,.int .i64 s.2.2.2.ta,.int .i64 s.2.2.2.sq,.int .i64 s.2.2.2.hp,.bool s.2.2.2.ur,str s.2.2.2.da]
theorem Ju (s:StX):(stE s).length=24:=rfl
abbrev cSt (v:Value) (ss:List StX):Chunk:=jK v 77 24 ss.length (cellsOf stE ss)
abbrev ssN (ss:List StX):List Nd:=ss.map (·.1.2)
theorem jRc (v:Value) (ys:List StX) (x:StX):cSt v (ys++[x])=jK v 77 24 (ys.length+1) (cellsOf stE ys++stE x):=by
 show jK v _ 24 (ys++[x]).length (cellsOf stE (ys++[x]))=_
 rw[jM,List.length_append,J6];rfl
theorem jQT {ss:List StX} {k:Nat} {s:StX} (h:ss[k]? =some s):(ssN ss)[k]? =some s.1.2:=by unfold ssN;rw[List.getElem?_map,h];rfl
theorem jLC {ss:List StX} {k:Nat} {s:StX} (h:ss[k]? =some s):Me.nth (ssN ss) k=s.1.2:=by unfold Me.nth;rw[List.getD_eq_getElem?_getD,jQT h];rfl
theorem jLB (ss:List StX) (k:Nat) (s:StX):ssN (ss.set k s)=(ssN ss).set k s.1.2:=by unfold ssN;rw[List.map_set]
theorem Kr {ss:List StX} {k:Nat} {s:StX} (h:ss[k]? =some s):∀(i:Nat) u,(ndC s.1.1 s.1.2)[i]? =some u→(cellsOf stE ss)[k*24+0+i]? =some u:=by
 intro i u hu
 have hi:=(List.getElem?_eq_some_iff.1 hu).1
 rw[Nat.add_zero]
 refine jF Ju h i u ?_
 show (ndC s.1.1 s.1.2++[.bool s.2.1,.bool s.2.2.1,.int .i64 s.2.2.2.kd,.int .i64 s.2.2.2.fr,.int .i64 s.2.2.2.dst,.int .i64 s.2.2.2.so,.int .i64 s.2.2.2.ta,.int .i64 s.2.2.2.sq,.int .i64 s.2.2.2.hp,.bool s.2.2.2.ur,str s.2.2.2.da])[i]? =some u
 rw[List.getElem?_append_left hi];exact hu
theorem jNg {ss:List StX} {k:Nat} {s:StX} (h:ss[k]? =some s):∀(i:Nat) u,(frC s.2.2.2)[i]? =some u→(cellsOf stE ss)[k*24+15+i]? =some u:=by
 intro i u hu
 rw[Nat.add_assoc]
 refine jF Ju h (15+i) u ?_
 show (ndC s.1.1 s.1.2++[.bool s.2.1,.bool s.2.2.1]++frC s.2.2.2)[15+i]? =some u
 rw[List.getElem?_append_right (by show 15≤15+i;omega)]
 show (frC s.2.2.2)[15+i-15]? =some u
 rw[Nat.add_sub_cancel_left];exact hu
theorem jEw (t:Int) (v:Value) (xs:List (NV×Nd)) (a:Me.Air) (ve vo vn:Value) (w:World) (h:OkL w v xs) (hg:∀x∈xs,SmN x.2) (hl:xs.length≤1000) (hA:OkA w a ve vo vn):
  Calls Tryz.prog 39 #[meV t v,jKv ve vo vn] w fun e w'=>∃x:SV×List StX×List Chunk,e= .returned (sv x.1 x.2.1.length)∧(x.2.1.map (fun s=>(s.1.2,s.2))=(nds xs).map (fun n=>(n,Me.live a n.addr,false,fr0))∧∀s∈x.2.1,Own s.1.1 x.2.2 s.1.2)∧Sat (base w) [cSt (sv x.1 x.2.1.length) x.2.1,jD x.2.2] w':=by
 obtain ⟨av,cv,rfl,_⟩:=h.s.2
 have hlo:=hA.lo
 refine jB Tryz.func39 I (Nat.le_of_ble_eq_true I) ?_
 refine HR.sub (σ':=[(0,meV t (sv (av,cv) xs.length)),(1,jKv ve vo vn)]) ⟨I,I,trivial⟩ ?_
 refine HR.ctl I ?_
 refine HR.region ?_
 refine HL.box I I ?_
 intro b2
 refine HL.box I I ?_
 intro b3
 repeat' (first|refine zh ?_|refine HL.jN fn77 I I (fun w1 hw1=>jAW a ve vo vn w1 (hA.at hw1)) ?_|refine HL.j4 (Rd.arg h.s) I I I ?_|intro (bk:Nat))
 refine HL.kX 0 xs.length zG I I I I I I (Nat.zero_le _) (show 320*xs.length≤_ by omega) (by omega) ?_
 intro v3
 refine HL.shape 0 I fun a3 c3 hv=>?_
 subst hv
 repeat' (first|refine zh ?_|refine HL.j4 (Rd.arg h.s) I I I ?_|intro (bk:Nat))
 refine HR.loop (ι:=Nat×SV×List StX×List Chunk) (fun x=>x.1≤xs.length∧x.2.2.1.map (fun s=>(s.1.2,s.2))=((nds xs).take x.1).map (fun n=>(n,Me.live a n.addr,false,fr0))∧∀s∈x.2.2.1,Own s.1.1 x.2.2.2 s.1.2) (fun x=>[(3,ptr b3),(5,.bool (Ra.check a==0)),(6,sv x.2.1 x.2.2.1.length),(17,sv (av,cv) xs.length),(18,.int .i64 (xs.length:Int)),(19,.int .i64 (x.1:Int))]) (fun x=>[jU b3 [ve,vo,vn] 34,cSt (sv x.2.1 x.2.2.1.length) x.2.2.1,jD x.2.2.2]) (fun x=>xs.length-x.1) (0,(a3,c3),[],[]) ⟨Nat.zero_le _,rfl,fun y hy=>(List.not_mem_nil hy).elim⟩ ⟨I,I,I,I,I,I,trivial⟩ (Ent.trans Ent.jKt (Ent.pick [2,1,0] I I)) ?_
 rintro ⟨k,y,ss,G⟩ ⟨hk,hss,hown⟩ ih
 have hk:k≤xs.length:=hk
 have hss:ss.map (fun s=>(s.1.2,s.2))=((nds xs).take k).map (fun n=>(n,Me.live a n.addr,false,fr0)):=hss
 have hown:∀s∈ss,Own s.1.1 G s.1.2:=hown
 have hsl:ss.length=k:=by have:=congrArg List.length hss;rw[List.length_map,List.length_map,List.length_take,JQ]at this;omega
 repeat' (first|refine zh ?_|intro (bk:Nat))
 refine HR.cond I (fun h2=>?_) (fun h2=>?_)
 rotate_left
 ·have hke:k=xs.length:=by have:¬(k:Int)<(xs.length:Int):=of_decide_eq_false h2;omega
  repeat' (first|refine zh ?_|intro (bk:Nat))
  refine HR.ret Tryz.func39 I [_] (fun _ _=>⟨I,trivial⟩) ?_
  refine fun w' hw=>⟨(y,ss,G),rfl,⟨?_,hown⟩,hw.pick [1,2] I rfl⟩
  show ss.map (fun s=>(s.1.2,s.2))=(nds xs).map _
  rw[hss,hke,← JQ,List.take_length]
 have hlt:k<xs.length:=by have:(k:Int)<(xs.length:Int):=of_decide_eq_true h2;omega
 obtain ⟨⟨V,n⟩,hx⟩:=jH hlt
 have hok:OkN w V n:=h.r _ (List.mem_of_getElem? hx)
 have hsn:SmN n:=hg _ (List.mem_of_getElem? hx)
 repeat' (first|refine zh ?_|refine HL.jw (Rd.arg h.s) JV k I I I I hlt ?_|refine HL.JB (Rd.arg h.s) I I I I (by simp) I (jF jZ hx) ?_|intro (bk:Nat))
 refine HL.JD (r:=fun x:NV×List Chunk=> .agg ⟨ndC x.1 n⟩) (Q:=fun x=>Own x.1 x.2 n) (G:=fun x=>[jD x.2]) fn78 I I (fun w1 hw1=>jDY V n w1 (hok.ext hw1.jE) hsn) ?_
 rintro ⟨V2,G2⟩ hO
 have hO:Own V2 G2 n:=hO
 repeat' (first|refine zh ?_|refine HL.jN jQE I I (fun w1 hw1=>ZP a.o n.addr vo w1 ((hA.at hw1).o) (by omega)) ?_|apply zb ?_ ?_|exact zc|(refine zi fun hb=>?_;try simp at hb)|intro (bk:Nat))
 refine HL.jk zG I I I I I (by decide) (by decide) ?_
 intro va
 refine HL.zD 4 I zG (Rd.own 0 I) I I I I (jJ I) (by show (ss.length+1)*320≤_;omega) (by show ss.length+1≤_;omega) ?_
 intro vc
 refine HL.shape 4 I fun ac cc hv=>?_
 subst hv
 repeat' (first|refine zh ?_|intro (bk:Nat))
 obtain ⟨S,hS⟩:∃S:StX,S=((V2,n),Me.live a n.addr,false,fr0):=⟨_,rfl⟩
 refine ih (k+1,(ac,cc),ss++[S],[jD G2,jD G]) _ _ ⟨hlt,?_,?_⟩ (by show xs.length-(k+1)<xs.length-k;omega) ⟨rfl,rfl,?_,rfl,rfl,rfl,trivial⟩ ?_
 ·show (ss++[S]).map (fun s=>(s.1.2,s.2))=((nds xs).take (k+1)).map _
  rw[jG (kU hx),List.map_append,List.map_append,hss,hS];rfl
 ·intro z hz
  have hz:z∈ss++[S]:=hz
  rcases List.mem_append.1 hz with hz|hz
  ·exact fun w2 hg2=>hown z hz w2 (jS hg2 (by simp))
  ·rw [List.mem_singleton.1 hz,hS];exact fun w2 hg2=>hO w2 (jS hg2 (by simp))
 ·show _=some (sv (ac,cc) (ss++[S]).length)
  rw[show (ss++[S]).length=ss.length+1 by simp];rfl
 ·show Ent _ _ [jU b3 [ve,vo,vn] 34,cSt (sv (ac,cc) (ss++[S]).length) (ss++[S]),jD [jD G2,jD G]]
  rw[jRc,show (ss++[S]).length=ss.length+1 by simp,hS]
  exact Ent.trans (Ent.pick (H':=[jD G2,jD G]++[jU b3 [ve,vo,vn] 34,jK (sv (ac,cc) (ss.length+1)) 77 24 (ss.length+1) (cellsOf stE ss++stE ((V2,n),Me.live a n.addr,false,fr0))]) [1,5,3,4] I I) (Ent.trans Ent.group (Ent.pick [1,2,0] I I))
abbrev jRi (V:NV) (n:Nd) (V':NV) (G:List Chunk) (m:Nd):Prop:=∀w2,OkN w2 V n→(jD G).p w2→OkN w2 V' m
def J8 (now:Int) (s:Nd×Bool×Bool×Fr):Nd×Bool×Bool×Fr:=(if s.2.1 then kE s.1 now else s.1,s.2)
def ZK (now:Int) (s:Nd×Bool×Bool×Fr):Nd×Bool×Bool×Fr:=if s.2.1 then ((talk s.1 now).1,s.2.1,(talk s.1 now).2.2,(talk s.1 now).2.1)else s
theorem jRo {w w':World} {H:List Chunk} (h:Sat (base w) H w'):Sat (base w) [jD []] w':=Ent.jKt w' (h.pick [] I I)
theorem jNT (V:NV) (n:Nd) (on tk:Bool) (f:Fr) (now:Int) (w:World) (h:OkN w V n) (hg:GdN n):
  Calls Tryz.prog 40 #[.agg ⟨stE ((V,n),on,tk,f)⟩,.int .i64 now] w fun e w'=>∃x:NV×List Chunk,e= .returned (.agg ⟨stE ((x.1,(J8 now (n,on,tk,f)).1),(J8 now (n,on,tk,f)).2)⟩)∧jRi V n x.1 x.2 (J8 now (n,on,tk,f)).1∧Sat (base w) [jD x.2] w':=by
 refine jB Tryz.func40 I (Nat.le_of_ble_eq_true I) ?_
 refine HR.sub (σ':=[(0,.agg ⟨stE ((V,n),on,tk,f)⟩),(1,.int .i64 now)]) ⟨I,I,trivial⟩ ?_
 refine HR.ctl I ?_
 refine HR.region ?_
 refine HL.box I I ?_
 intro b2
 refine HL.alloc I I ?_
 intro b4
 repeat' (first|refine zh ?_|intro (bk:Nat))
 refine HR.cond I (fun h2=>?_) (fun h2=>?_)
 ·subst h2
  repeat' (first|refine zh ?_|intro (bk:Nat))
  refine HL.JD (r:=fun x:NV×List Chunk=> .agg ⟨ndC x.1 (kE n now)⟩) (Q:=fun x=>Own x.1 x.2 (kE n now)) (G:=fun x=>[jD x.2]) fn79 I I (fun w1 hw1=>jLk V n now w1 (h.ext hw1.jE) hg.sm (fun s hs=>(hg.wf.out s hs).wt)) ?_
  rintro ⟨V2,G2⟩ hO
  have hO:Own V2 G2 (kE n now):=hO
  repeat' (first|refine zh ?_|intro (bk:Nat))
  refine HR.ret Tryz.func40 I [_] (fun w hw=>⟨⟨_,rfl,jP hw 1 I I I I rfl⟩,trivial⟩) ?_
  exact fun w' hw=>⟨(V2,G2),rfl,fun w2 _ hg2=>hO w2 hg2,hw.pick [0] I rfl⟩
 ·subst h2
  repeat' (first|refine zh ?_|intro (bk:Nat))
  refine HR.ret Tryz.func40 I [_] (fun w hw=>⟨⟨_,rfl,jP hw 0 I I I I rfl⟩,trivial⟩) ?_
  exact fun w' hw=>⟨(V,[]),rfl,fun w2 hok _=>hok,jRo hw⟩
theorem jGV (V:NV) (n:Nd) (on tk:Bool) (f:Fr) (now:Int) (w:World) (h:OkN w V n) (hg:GdN n):
  Calls Tryz.prog 41 #[.agg ⟨stE ((V,n),on,tk,f)⟩,.int .i64 now] w fun e w'=>∃x:NV×List Chunk,e= .returned (.agg ⟨stE ((x.1,(ZK now (n,on,tk,f)).1),(ZK now (n,on,tk,f)).2)⟩)∧jRi V n x.1 x.2 (ZK now (n,on,tk,f)).1∧Sat (base w) [jD x.2] w':=by
 refine jB Tryz.func41 I (Nat.le_of_ble_eq_true I) ?_
 refine HR.sub (σ':=[(0,.agg ⟨stE ((V,n),on,tk,f)⟩),(1,.int .i64 now)]) ⟨I,I,trivial⟩ ?_
 refine HR.ctl I ?_
 refine HR.region ?_
 refine HL.box I I ?_
 intro b2
 refine HL.alloc I I ?_
 intro b4
 repeat' (first|refine zh ?_|intro (bk:Nat))
 refine HR.cond I (fun h2=>?_) (fun h2=>?_)
 ·subst h2
  repeat' (first|refine zh ?_|intro (bk:Nat))
  refine HL.JD (r:=fun x:NV×List Chunk=> .tuple ⟨[.agg ⟨ndC x.1 (talk n now).1⟩,.agg ⟨frC (talk n now).2.1⟩,.bool (talk n now).2.2]⟩) (Q:=fun x=>Own x.1 x.2 (talk n now).1) (G:=fun x=>[jD x.2]) fn80 I I (fun w1 hw1=>jLm V n now w1 (h.ext hw1.jE) hg.sm) ?_
  rintro ⟨V2,G2⟩ hO
  have hO:Own V2 G2 (talk n now).1:=hO
  repeat' (first|refine zh ?_|intro (bk:Nat))
  refine HR.ret Tryz.func41 I [_] (fun w hw=>⟨⟨_,rfl,jP hw 1 I I I I rfl⟩,trivial⟩) ?_
  exact fun w' hw=>⟨(V2,G2),rfl,fun w2 _ hg2=>hO w2 hg2,hw.pick [0] I rfl⟩
 ·subst h2
  repeat' (first|refine zh ?_|intro (bk:Nat))
  refine HR.ret Tryz.func41 I [_] (fun w hw=>⟨⟨_,rfl,jP hw 0 I I I I rfl⟩,trivial⟩) ?_
  exact fun w' hw=>⟨(V,[]),rfl,fun w2 hok _=>hok,jRo hw⟩
end Go.Proofs.YtgfdoognildoeaaGreat
namespace Go.Proofs.YtgfdoognildoeaaGreat
open Go.GX Go.RowKit
attribute [local irreducible] Calls Run jg jh JU HR HL HD jU jK Jc Rd jL jd
open Nd
theorem jBX (l:List StX) (p:StX→Bool) (g:FuncId) (caps:List Value) (v:Value) (w:World) (hg:IsFn Tryz.prog g) (hp:jQN Tryz.prog g caps (fun a=> .agg ⟨stE a⟩) p l w) (hv:Sl w v (cellsOf stE l) l.length) (hl:l.length≤1000000):
  Calls Tryz.prog 84 #[v,.func (.func g) #[] caps.toArray] w fun e w'=>e= .returned (.int .i64 (fidx p l))∧Below w.heap.size w w':=by
 refine jB Tryz.func84 I (Nat.le_of_ble_eq_true I) ?_
 refine HR.sub (σ':=[(0,v),(1,.func (.func g) #[] caps.toArray)]) ⟨I,I,trivial⟩ ?_
 repeat' (first|refine zh ?_|refine HL.j4 (Rd.arg hv) I I I ?_|intro (bk:Nat))
 refine HR.loop (ι:=Nat) (fun k=>k≤l.length∧∀j b,j<k→l[j]? =some b→p b=false) (fun k=>[(0,v),(1,.func (.func g) #[] caps.toArray),(7,.int .i64 (l.length:Int)),(8,.int .i64 (k:Int))]) (fun _=>[]) (fun k=>l.length-k) 0 ⟨Nat.zero_le _,fun j b hj=>absurd hj (Nat.not_lt_zero _)⟩ ⟨I,I,I,I,trivial⟩ Ent.refl ?_
 rintro k ⟨hk,hno⟩ ih
 repeat' (first|refine zh ?_|intro (bk:Nat))
 refine HR.cond I (fun h2=>?_) (fun h2=>?_)
 ·have hlt:k<l.length:=by have:=of_decide_eq_true h2;omega
  obtain ⟨x,hx⟩:=jH hlt
  repeat' (first|refine zh ?_|refine HL.jw (Rd.arg hv) zG k I I I I hlt ?_|refine HL.JB (Rd.arg hv) I I I I (by simp) I (jF Ju hx) ?_|refine HL.jEi (caps:=caps) hg I I I (fun w' hw=>hp x (List.mem_of_getElem? hx) w' hw.jE) ?_|intro (bk:Nat))
  refine HR.cond I (fun h3=>?_) (fun h3=>?_)
  ·have h3:p x=true:=h3
   repeat' (first|refine zh ?_|intro (bk:Nat))
   refine HR.ret Tryz.func84 I [_] (fun _ _=>⟨I,trivial⟩) ?_
   rw[Zq hx h3 hno]
   exact fun w' hw=>⟨rfl,hw.jE⟩
  ·have h3:p x=false:=h3
   repeat' (first|refine zh ?_|intro (bk:Nat))
   refine ih (k+1) _ _ ⟨hlt,fun j b hj hb=>?_⟩ (by omega) ⟨I,I,I,I,trivial⟩ Ent.refl
   by_cases e:j=k
   ·subst e;rw[hx]at hb;cases hb;exact h3
   ·exact hno j b (by omega) hb
 ·have hke:k=l.length:=by have:=of_decide_eq_false h2;omega
  subst hke
  rw[zK hno]
  repeat' (first|refine zh ?_|intro (bk:Nat))
  refine HR.ret Tryz.func84 I [_] (fun _ _=>⟨I,trivial⟩) ?_
  exact fun w' hw=>⟨rfl,hw.jE⟩
theorem jFs (bt:Nat) (k:Int) (s:StX) (w:World) (hb:Sl w (.slice (some ⟨bt,0,none⟩) 1 1) [.int .i64 k] 1):Calls Tryz.prog 85 #[.agg ⟨stE s⟩,.pointer (some ⟨bt,0,none⟩)] w fun e w'=>e= .returned (.bool (s.1.2.addr==k))∧Below w.heap.size w w':=by
 refine jB Tryz.func85 I (Nat.le_of_ble_eq_true I) ?_
 refine HR.sub (σ':=[(0,.agg ⟨stE s⟩),(1,.pointer (some ⟨bt,0,none⟩))]) ⟨I,I,trivial⟩ ?_
 repeat' (first|refine zh ?_|refine HL.jY (j:=0) (Rd.arg hb) I I I I I ?_|intro (bk:Nat))
 refine HR.ret Tryz.func85 I [_] (fun _ _=>⟨I,trivial⟩) ?_
 exact fun w' hw=>⟨rfl,hw.jE⟩
theorem jQv (ss:List StX) (a:Int):(fidx (fun s:StX=>s.1.2.addr==a) ss= -1∧Me.idx (ssN ss) a=none)∨∃(i:Nat) (s:StX),fidx (fun s:StX=>s.1.2.addr==a) ss=(i:Int)∧Me.idx (ssN ss) a=some i∧ss[i]? =some s:=by
 have e:Me.idx (ssN ss) a=ss.findIdx? (fun s:StX=>s.1.2.addr==a):=by unfold Me.idx ssN;rw[List.findIdx?_map];rfl
 rw[e]
 rcases Jr (fun s:StX=>s.1.2.addr==a) ss with ⟨h1,h2,_⟩|⟨i,s,h1,h2,h3,_⟩
 ·exact .inl ⟨h1,h2⟩
 ·exact .inr ⟨i,s,h1,h2,h3⟩
abbrev cIr (v:Value) (l:List Int):Chunk:=jK v 3 1 l.length (cellsOf iC l)
theorem jKN {f:Fr} {now:Int} {l:List Nd} {r:Bool} {a:Int} (h:Me.idx l a=none):Me.jC2 f now (l,r) a=(l,r):=by unfold Me.jC2;rw[h]
theorem jKM {f:Fr} {now:Int} {l:List Nd} {r:Bool} {a:Int} {i:Nat} (h:Me.idx l a=some i):Me.jC2 f now (l,r) a=if awake (Me.nth l i) now then (l.set i (hear (Me.nth l i) now f),r||(a==f.dst))else (l,r):=by unfold Me.jC2;rw[h]
theorem jKT {α β:Type} (g:β→α→β) (b:β) {l:List α} {k:Nat} {x:α} (hx:l[k]? =some x):(l.take (k+1)).foldl g b=g ((l.take k).foldl g b) x:=by
 rw[jG hx,List.foldl_append];rfl
theorem jMS (ss:List StX) (f:Fr) (rs:List Int) (now:Int) (v vr:Value) (G:List Chunk) (B0:Base) (w:World) (hw0:Sat B0 [cSt v ss,cIr vr rs,jD G] w) (hown:∀s∈ss,Own s.1.1 G s.1.2) (hgd:∀s∈ss,GdN s.1.2) (hf:f.da.length≤9223372036854775807) (hl:ss.length≤1000) (hrl:rs.length≤1000):
  Calls Tryz.prog 43 #[v,.agg ⟨frC f⟩,vr,.int .i64 now] w fun e w'=>∃x:List StX×List Chunk,e= .returned (.bool (Me.hears f now (ssN ss) rs).2)∧(ssN x.1=(Me.hears f now (ssN ss) rs).1∧x.1.map (·.2)=ss.map (·.2)∧(∀ s∈x.1,Own s.1.1 x.2 s.1.2)∧∀s∈x.1,GdN s.1.2)∧Sat ⟨w,Zi [cSt v ss,cIr vr rs,jD G]⟩ [cSt v x.1,cIr vr rs,jD x.2] w':=by
 refine ji [cSt v ss,cIr vr rs,jD G] (hw0) Tryz.func43 I (Nat.le_of_ble_eq_true I) ?_
 refine HR.sub (σ':=[(0,v),(1,.agg ⟨frC f⟩),(2,vr),(3,.int .i64 now)]) ⟨I,I,I,I,trivial⟩ ?_
 refine HR.ctl I ?_
 refine HR.region ?_
 refine HL.box I I ?_
 intro b5
 repeat' (first|refine zh ?_|refine HL.j4 (Rd.own 2 I) I I I ?_|intro (bk:Nat))
 refine HR.loop (ι:=Nat×List StX×Bool×List Chunk) (fun x=>x.1≤rs.length∧(rs.take x.1).foldl (Me.jC2 f now) (ssN ss,false)=(ssN x.2.1,x.2.2.1)∧x.2.1.map (·.2)=ss.map (·.2)∧(∀ s∈x.2.1,Own s.1.1 x.2.2.2 s.1.2)∧∀s∈x.2.1,GdN s.1.2) (fun x=>[(0,v),(3,.int .i64 now),(5,ptr b5),(9,.bool x.2.2.1),(13,vr),(14,.int .i64 (rs.length:Int)),(15,.int .i64 (x.1:Int))]) (fun x=>[jU b5 (frC f) 75,cSt v x.2.1,cIr vr rs,jD x.2.2.2]) (fun x=>rs.length-x.1) (0,ss,false,G) ⟨Nat.zero_le _,rfl,rfl,hown,hgd⟩ ⟨I,I,I,I,I,I,I,trivial⟩ Ent.refl ?_
 rintro ⟨k,S,r,Gk⟩ ⟨hk,hfo,hS2,hownk,hgdk⟩ ih
 have hk:k≤rs.length:=hk
 have hfo:(rs.take k).foldl (Me.jC2 f now) (ssN ss,false)=(ssN S,r):=hfo
 have hS2:S.map (·.2)=ss.map (·.2):=hS2
 have hownk:∀s∈S,Own s.1.1 Gk s.1.2:=hownk
 have hgdk:∀s∈S,GdN s.1.2:=hgdk
 have hSl:S.length≤1000:=by have:=congrArg List.length hS2;rw[List.length_map,List.length_map]at this;omega
 have cS:(cellsOf stE S).length=S.length*24:=jC Ju _
 repeat' (first|refine zh ?_|intro (bk:Nat))
 refine HR.cond I (fun h2=>?_) (fun h2=>?_)
 rotate_left
 ·have hke:k=rs.length:=by have:¬(k:Int)<(rs.length:Int):=of_decide_eq_false h2;omega
  rw[hke,List.take_length]at hfo
  have e1:Me.hears f now (ssN ss) rs=(ssN S,r):=hfo
  rw[e1]
  repeat' (first|refine zh ?_|intro (bk:Nat))
  refine HR.ret Tryz.func43 I [_] (fun _ _=>⟨I,trivial⟩) ?_
  exact fun w' hw=>⟨(S,Gk),rfl,⟨rfl,hS2,hownk,hgdk⟩,hw.pick [1,2,3] I rfl⟩
 have hlt:k<rs.length:=by have:(k:Int)<(rs.length:Int):=of_decide_eq_true h2;omega
 obtain ⟨a,ha⟩:=jH hlt
 have hst:=jKT (Me.jC2 f now) (ssN ss,false) ha
 rw[hfo]at hst
 repeat' (first|refine zh ?_|refine HL.jw (Rd.own 2 I) Jg k I I I I hlt ?_|refine HL.jY (Rd.own 2 I) I I I I (jV ha) ?_|refine HL.mkF (g:=85) (caps:=[_]) I I ?_|intro (bk:Nat))
 rcases jQv S a with ⟨e1,e2⟩|⟨i,s,e1,e2,hs⟩
 ·rw [jKN e2]at hst
  refine HL.jN (r:= .int .i64 (-1)) fn84 I I (fun w1 hw1=>by have:=jBX S (fun s=>s.1.2.addr==a) 85 [.pointer (some ⟨bk,0,none⟩)] v w1 fn85 (fun x hx w2 hb=>jFs bk a x w2 (((Rd.blk (n:=1) 0 rfl).at hw1).ext hb)) ((Rd.own 2 rfl).at hw1) (by omega);rw[e1]at this;exact this) ?_
  repeat' (first|refine zh ?_|intro (bk:Nat))
  exact ih (k+1,S,r,Gk) _ _ ⟨hlt,hst,hS2,hownk,hgdk⟩ (by show rs.length-(k+1)<rs.length-k;omega) ⟨I,I,I,I,I,I,I,trivial⟩ (Ent.pick [1,2,3,4] I I)
 obtain ⟨⟨V,n⟩,on,tk,fr⟩:=s
 have hil:i<S.length:=(List.getElem?_eq_some_iff.1 hs).1
 have hsm:((V,n),on,tk,fr)∈S:=List.mem_of_getElem? hs
 have hOn:Own V Gk n:=hownk _ hsm
 have hGn:GdN n:=hgdk _ hsm
 rw[jKM e2,jLC hs]at hst
 have hst:(rs.take (k+1)).foldl (Me.jC2 f now) (ssN ss,false)=if awake n now then ((ssN S).set i (hear n now f),r||(a==f.dst))else (ssN S,r):=hst
 refine HL.jN (r:= .int .i64 (i:Int)) fn84 I I (fun w1 hw1=>by have:=jBX S (fun s=>s.1.2.addr==a) 85 [.pointer (some ⟨bk,0,none⟩)] v w1 fn85 (fun x hx w2 hb=>jFs bk a x w2 (((Rd.blk (n:=1) 0 rfl).at hw1).ext hb)) ((Rd.own 2 rfl).at hw1) (by omega);rw[e1]at this;exact this) ?_
 repeat' (first|refine zh ?_|refine HL.jw (Rd.own 2 I) zG i I I I I hil ?_|refine HL.JL 0 (Rd.own 2 I) (by rw[cS];omega) I I I I I I I ?_|refine HL.JB (us:=ndC V n) (Rd.own 2 I) I I I I (by simp) I (Kr hs) ?_|refine HL.jN fn86 I I (fun w1 hw1=>jJe V n now w1 (hOn w1 (Sat.grp 4 hw1 I)) hGn.sm) ?_|intro (bk:Nat))
 refine HR.cond I (fun h3=>?_) (fun h3=>?_)
 ·have h3:awake n now=false:=by have h3:(!awake n now)=true:=h3;simpa using h3
  rw[h3,if_neg (by decide)]at hst
  repeat' (first|refine zh ?_|intro (bk:Nat))
  exact ih (k+1,S,r,Gk) _ _ ⟨hlt,hst,hS2,hownk,hgdk⟩ (by show rs.length-(k+1)<rs.length-k;omega) ⟨I,I,I,I,I,I,I,trivial⟩ (Ent.pick [1,2,3,4] I I)
 have h3:awake n now=true:=by have h3:(!awake n now)=false:=h3;simpa using h3
 rw[h3,if_pos rfl]at hst
 repeat' (first|refine zh ?_|intro (bk:Nat))
 refine HR.Jm [(0,true),(1,true),(2,true),(3,true),(4,true),(5,true),(6,true),(7,true),(8,true),(9,false),(10,true),(11,true)] 12 [1,2] I I JZ (by kernel_rfl) ?_
 repeat' (first|refine zd ?_|refine HD.jw (Rd.own 1 I) zG i I I I I I hil ?_|refine HD.JL 0 (Rd.own 1 I) (by rw[cS];omega) I I I I I I I I ?_|refine HD.JB (us:=ndC V n) (Rd.own 1 I) I I I I I (by simp) I (Kr hs) ?_)
 refine HD.one I ?_
 refine HL.JD (r:=fun x:NV×List Chunk=> .agg ⟨ndC x.1 (hear n now f)⟩) (Q:=fun x=>Own x.1 x.2 (hear n now f)) (G:=fun x=>[jD x.2]) fn87 I I (fun w1 hw1=>jL1 V n now f w1 (hOn w1 (Sat.grp 4 hw1 I)) hGn.sm hf) ?_
 rintro ⟨V2,G2⟩ hO
 have hO:Own V2 G2 (hear n now f):=hO
 refine HL.back [2,3] I I ?_
 repeat' (first|refine zd ?_|refine HD.jw (Rd.own 1 I) zG i I I I I I hil ?_|refine HD.JL 0 (Rd.own 1 I) (by rw[cS];omega) I I I I I I I I ?_)
 refine HD.last I ?_
 refine HL.zH (us:=ndC V2 (hear n now f)) (j:=i*24+0) 3 I I I I I I I (by rw[cS];show i*24+0+13≤_;omega) (by simp) ?_
 obtain ⟨S',hS'⟩:∃S',S'=S.set i ((V2,hear n now f),on,tk,fr):=⟨_,rfl⟩
 have hl':S'.length=S.length:=by rw[hS'];exact List.length_set
 refine HL.ent (H':=[cSt v S',jD G2,jU bk [.int .i64 a] 3,jU b5 (frC f) 75,cIr vr rs,jD Gk]) (Ent.trans (Ent.pick [3,0,1,2,4,5] I I) (Ent.JM hl'.symm (by rw[hS'];exact Jb (i:=0) Ju hs I (show 0+13≤24 by decide)))) ?_
 repeat' (first|refine zh ?_|apply zb ?_ ?_|exact zc|(refine zi fun hb=>?_;try simp at hb)|intro (bk:Nat))
 refine ih (k+1,S',r||(a==f.dst),[jD G2,jD Gk]) _ _ ⟨hlt,?_,?_,?_,?_⟩ (by show rs.length-(k+1)<rs.length-k;omega) ⟨I,I,I,I,I,I,I,trivial⟩ (Ent.trans (Ent.pick (H':=[jD G2,jD Gk]++[jU b5 (frC f) 75,cSt v S',cIr vr rs]) [1,5,3,0,4] I I) (Ent.trans Ent.group (Ent.pick [1,2,3,0] I I)))
 ·show (rs.take (k+1)).foldl (Me.jC2 f now) (ssN ss,false)=(ssN S',r||(a==f.dst))
  rw[hst,hS',jLB]
 ·show S'.map (·.2)=ss.map (·.2)
  rw[← hS2,hS',List.map_set]
  exact jD2 (by rw[List.getElem?_map,hs];rfl)
 ·intro z hz
  have hz:z∈S':=hz
  rw[hS']at hz
  rcases List.mem_or_eq_of_mem_set hz with hz|rfl
  ·exact fun w2 hg2=>hownk z hz w2 (jS hg2 (by simp))
  ·exact fun w2 hg2=>hO w2 (jS hg2 (by simp))
 ·intro z hz
  have hz:z∈S':=hz
  rw[hS']at hz
  rcases List.mem_or_eq_of_mem_set hz with hz|rfl
  ·exact hgdk z hz
  ·exact hGn.hear hf now
end Go.Proofs.YtgfdoognildoeaaGreat
namespace Go.Proofs.YtgfdoognildoeaaGreat
open Go.GX Go.RowKit
attribute [local irreducible] Calls Run jg jh JU HR HL HD jU jK Jc Rd jL jd
open Nd
theorem fn15:IsFn Tryz.prog 15:=⟨⟨_,_,Tryz.func15,rfl,by decide⟩⟩
theorem jR8 (t:Int):(if (if (1099511627775:Int)<t then 1099511627775 else t)>0 then (if (1099511627775:Int)<t then 1099511627775 else t)else 0)=max 0 (min t 1099511627775):=by
 split<;>split at* <;>omega
abbrev ssP (ss:List StX):List (Nd×Bool×Bool×Fr):=ss.map fun s=>(s.1.2,s.2)
theorem jK9 (ss:List StX) (k:Nat) (s:StX):ssP (ss.set k s)=(ssP ss).set k (s.1.2,s.2):=by unfold ssP;rw[List.map_set]
theorem jLA {ss:List StX} {k:Nat} {s:StX} (h:ss[k]? =some s):(ssP ss)[k]? =some (s.1.2,s.2):=by unfold ssP;rw[List.getElem?_map,h];rfl
theorem kG (ss:List StX):(ssP ss).length=ss.length:=by simp[ssP]
theorem phases (nw:Int) (a:Me.Air) (n:Nd):ZK nw (J8 nw (n,Me.live a n.addr,false,fr0))=((Me.jK3 nw (Me.live a n.addr) (Me.phase1 a nw n)).1,Me.live a n.addr,(Me.jK3 nw (Me.live a n.addr) (Me.phase1 a nw n)).2.2,(Me.jK3 nw (Me.live a n.addr) (Me.phase1 a nw n)).2.1):=by
 unfold ZK J8 Me.jK3 Me.phase1
 by_cases h:Me.live a n.addr=true
 ·simp only[h,if_true]
 ·simp only[h,if_false,Bool.false_eq_true]
theorem jN7 (m:Me.Mesh) (a:Me.Air):(m.nodes.map (fun n=>ZK (Me.jMC m.tick) (J8 (Me.jMC m.tick) (n,Me.live a n.addr,false,fr0)))).map (·.1)=(Me.spoken m a).map (·.1):=by
 unfold Me.spoken
 rw[List.map_map,List.map_map]
 refine List.map_congr_left fun n _=>?_
 show (ZK _ _).1=_
 rw[phases];rfl
theorem jN8 (m:Me.Mesh) (a:Me.Air):(m.nodes.map (fun n=>ZK (Me.jMC m.tick) (J8 (Me.jMC m.tick) (n,Me.live a n.addr,false,fr0)))).map (fun s=>(s.2.2.2,s.2.2.1))=(Me.spoken m a).map (·.2):=by
 unfold Me.spoken
 rw[List.map_map,List.map_map]
 refine List.map_congr_left fun n _=>?_
 show ((ZK _ _).2.2.2,(ZK _ _).2.2.1)=_
 rw[phases];rfl
theorem jPc {now:Int} {s:Nd×Bool×Bool×Fr} (h:GdN s.1):GdN (J8 now s).1:=by
 unfold J8;simp only;split
 ·exact h.tick now
 ·exact h
theorem jQ1 {now:Int} {s:Nd×Bool×Bool×Fr} (h:GdN s.1) (hf:s.2.2.2.da.length≤9223372036854775807):GdN (ZK now s).1∧(ZK now s).2.2.2.da.length≤9223372036854775807:=by
 unfold ZK;split
 ·exact h.talk now
 ·exact ⟨h,hf⟩
theorem jJY {a:Me.Air} {now:Int} {fs:List (Fr×Bool)} {k:Nat} {l:List Nd} {f:Fr} {tk:Bool} (h:fs[k]? =some (f,tk)):Me.tells a now fs (k+1) l=if tk then Me.told a now (Me.tells a now fs k l) k f else Me.tells a now fs k l:=by
 show Me.jRm a now (Me.tells a now fs k l) k fs[k]? =_
 rw[h];cases tk<;>rfl
theorem jMK (t:Int) (v:Value) (xs:List (NV×Nd)) (a:Me.Air) (ve vo vn:Value) (w:World) (h:OkL w v xs) (hg:∀x∈xs,GdN x.2) (hl:xs.length≤1000) (hA:OkA w a ve vo vn):
  Calls Tryz.prog 15 #[meV t v,jKv ve vo vn] w fun e w'=>∃x:SV×List (NV×Nd)×List Chunk,e= .returned (meV (Me.jMC t) (sv x.1 x.2.1.length))∧(MkL x (Me.jSB ⟨t,nds xs⟩ a).nodes∧∀y∈x.2.1,GdN y.2)∧Sat (base w) [cNd (sv x.1 x.2.1.length) x.2.1,jD x.2.2] w':=by
 obtain ⟨nw,hnw⟩:∃z,z=Me.jMC t:=⟨_,rfl⟩
 refine jB Tryz.func15 I (Nat.le_of_ble_eq_true I) ?_
 refine HR.sub (σ':=[(0,meV t v),(1,jKv ve vo vn)]) ⟨I,I,trivial⟩ ?_
 refine HR.ctl I ?_
 refine HR.region ?_
 refine HL.box I I ?_
 intro b2
 refine HL.box I I ?_
 intro b3
 refine HL.alloc I I ?_
 intro b4
 refine HL.nil ?_
 refine HR.ctl I ?_
 refine HR.region ?_
 refine zn ?_
 refine HR.ZB 5 (v':= .int .i64 nw) I (by rw[jR8,hnw];rfl) ?_
 repeat' (first|refine zh ?_|intro (bk:Nat))
 refine HL.JD (r:=fun x:SV×List StX×List Chunk=>sv x.1 x.2.1.length) (Q:=fun x=>x.2.1.map (fun s=>(s.1.2,s.2))=(nds xs).map (fun n=>(n,Me.live a n.addr,false,fr0))∧∀s∈x.2.1,Own s.1.1 x.2.2 s.1.2) (G:=fun x=>[cSt (sv x.1 x.2.1.length) x.2.1,jD x.2.2]) fn39 I I (fun w1 hw1=>jEw t v xs a ve vo vn w1 (h.ext hw1.jE) (fun x hx=>(hg x hx).sm) hl (hA.at hw1)) ?_
 rintro ⟨y,S0,G0⟩ ⟨hP0,hO0⟩
 have hP0:ssP S0=(nds xs).map (fun n=>(n,Me.live a n.addr,false,fr0)):=hP0
 have hO0:∀s∈S0,Own s.1.1 G0 s.1.2:=hO0
 have hS0:S0.length=xs.length:=by rw[← kG,hP0,List.length_map,JQ]
 have hgd0:∀s∈S0,GdN s.1.2∧s.2.2.2.da.length≤9223372036854775807:=fun s hs=>by
  have hm:(s.1.2,s.2)∈ssP S0:=List.mem_map.2 ⟨s,hs,rfl⟩
  rw[hP0]at hm
  obtain ⟨n,hn,e⟩:=List.mem_map.1 hm
  obtain ⟨x,hx,rfl⟩:=List.mem_map.1 hn
  have e1:x.2=s.1.2:=congrArg (·.1) e
  have e2:(Me.live a x.2.addr,false,fr0)=s.2:=congrArg (·.2) e
  exact ⟨by rw[← e1];exact hg x hx,by rw[← e2];exact Nat.zero_le _⟩
 have y_sv:∀(S:List StX),S.length=S0.length→sv y S0.length=sv y S.length:=fun S e=>by rw[e]
 repeat' (first|refine zh ?_|intro (bk:Nat))
 refine HR.loop (ι:=Nat×List StX×List Chunk) (fun x=>x.1≤S0.length∧ssP x.2.1=((ssP S0).take x.1).map (J8 nw)++(ssP S0).drop x.1∧(∀ s∈x.2.1,Own s.1.1 x.2.2 s.1.2)∧∀s∈x.2.1,GdN s.1.2∧s.2.2.2.da.length≤9223372036854775807) (fun x=>[(3,ptr b3),(4,ptr b4),(5,.int .i64 nw),(6,sv y S0.length),(7,.func (.func 40) #[] #[]),(27,.int .i64 (S0.length:Int)),(28,.int .i64 (x.1:Int))]) (fun x=>[jU b3 [ve,vo,vn] 34,jU b4 meZ 26,jK (sv y S0.length) 77 24 S0.length (cellsOf stE x.2.1),jD x.2.2]) (fun x=>S0.length-x.1) (0,S0,G0) ⟨Nat.zero_le _,rfl,hO0,hgd0⟩ ⟨I,I,I,I,I,I,I,trivial⟩ (Ent.pick [3,2,0,1] I I) ?_
 rintro ⟨k,S,G⟩ ⟨hk,hP,hO,hgd⟩ ih
 have hk:k≤S0.length:=hk
 have hP:ssP S=((ssP S0).take k).map (J8 nw)++(ssP S0).drop k:=hP
 have hO:∀s∈S,Own s.1.1 G s.1.2:=hO
 have hgd:∀s∈S,GdN s.1.2∧s.2.2.2.da.length≤9223372036854775807:=hgd
 have hSl:S.length=S0.length:=by rw[← kG,hP,List.length_append,List.length_map,← List.length_append,List.take_append_drop,kG]
 have cS:(cellsOf stE S).length=S.length*24:=jC Ju _
 repeat' (first|refine zh ?_|intro (bk:Nat))
 refine HR.cond I (fun h2=>?_) (fun h2=>?_)
 ·have hlt:k<S0.length:=by have:(k:Int)<(S0.length:Int):=of_decide_eq_true h2;omega
  obtain ⟨⟨⟨V,n⟩,on,tk,fr⟩,hs⟩:=jH (show k<S.length by omega)
  have hsm:=List.mem_of_getElem? hs
  have hOn:Own V G n:=hO _ hsm
  have hGn:GdN n:=(hgd _ hsm).1
  have hfn:fr.da.length≤9223372036854775807:=(hgd _ hsm).2
  have hs0:(ssP S0)[k]? =some (n,on,tk,fr):=by
   obtain ⟨z,hz⟩:=jH (show k<(ssP S0).length by rw[kG];exact hlt)
   have e:=ZM (J8 nw) hz
   rw[← hP,jLA hs]at e
   rw[hz];exact e.symm
  repeat' (first|refine zh ?_|refine HL.jw (n:=S0.length) (cs:=cellsOf stE S) (Rd.own 2 I) zG k I I I I hlt ?_|refine HL.JB (us:=stE ((V,n),on,tk,fr)) (cs:=cellsOf stE S) (Rd.own 2 I) I I I I (by simp) I (jF Ju hs) ?_|intro (bk:Nat))
  refine HL.jQG (caps:=[]) (r:=fun x:NV×List Chunk=> .agg ⟨stE ((x.1,(J8 nw (n,on,tk,fr)).1),(J8 nw (n,on,tk,fr)).2)⟩) (Q:=fun x=>jRi V n x.1 x.2 (J8 nw (n,on,tk,fr)).1) (G:=fun x=>[jD x.2]) fn40 I I I (fun w1 hw1=>jNT V n on tk fr nw w1 (hOn w1 (Sat.grp 3 hw1 I)) hGn) ?_
  rintro ⟨V2,G2⟩ hI
  have hI:jRi V n V2 G2 (J8 nw (n,on,tk,fr)).1:=hI
  obtain ⟨s2,hs2⟩:∃s2:StX,s2=((V2,(J8 nw (n,on,tk,fr)).1),(J8 nw (n,on,tk,fr)).2):=⟨_,rfl⟩
  repeat' (first|refine zh ?_|refine HL.jw (n:=S0.length) (cs:=cellsOf stE S) (Rd.own 3 I) zG k I I I I hlt ?_|refine HL.zH (us:=stE ((V2,(J8 nw (n,on,tk,fr)).1),(J8 nw (n,on,tk,fr)).2)) (j:=k*24) 3 I I I I I I I (by rw[cS];show k*24+24≤_;omega) (by simp) ?_|intro (bk:Nat))
  have hSet:∀z∈S.set k s2,z∈S∨z=s2:=fun z hz=>List.mem_or_eq_of_mem_set hz
  refine ih (k+1,S.set k s2,[jD G2,jD G]) _ _ ⟨hlt,?_,?_,?_⟩ (by show S0.length-(k+1)<S0.length-k;omega) ⟨I,I,I,I,I,I,I,trivial⟩ ?_
  ·show ssP (S.set k s2)=_
   rw[jK9,hP,hs2]
   exact jAm (J8 nw) hs0
  ·intro z hz
   rcases hSet z hz with hz|rfl
   ·exact fun w2 hg2=>hO z hz w2 (jS hg2 (by simp))
   ·rw [hs2];exact fun w2 hg2=>hI w2 (hOn w2 (jS hg2 (by simp))) (jS hg2 (by simp))
  ·intro z hz
   rcases hSet z hz with hz|rfl
   ·exact hgd z hz
   ·rw [hs2];exact ⟨jPc hGn,hfn⟩
  ·show Ent _ _ [jU b3 [ve,vo,vn] 34,jU b4 meZ 26,jK (sv y S0.length) 77 24 S0.length (cellsOf stE (S.set k s2)),jD [jD G2,jD G]]
   refine Ent.trans (Ent.pick (H':=[jD G2,jD G]++[jU b3 [ve,vo,vn] 34,jU b4 meZ 26,_]) [0,4,1,2,3] I I) (Ent.trans Ent.group (Ent.trans (Ent.pick [3,1,2,0] I I) (Ent.trans (Ent.JM I ?_) (Ent.pick [1,2,0,3] I I))))
   rw[hs2]
   exact Jb (i:=0) Ju hs I (show 0+24≤24 by decide)
 have hke:k=S0.length:=by have:¬(k:Int)<(S0.length:Int):=of_decide_eq_false h2;omega
 rw[hke,← kG S0,List.take_length,List.drop_length,List.append_nil]at hP
 have hP1:ssP S=(ssP S0).map (J8 nw):=hP
 have hO1:=hO
 have hgd1:=hgd
 obtain ⟨S1,hS1⟩:∃S1,S1=S:=⟨_,rfl⟩
 obtain ⟨G1,hG1⟩:∃G1,G1=G:=⟨_,rfl⟩
 subst hS1
 subst hG1
 have hSl1:S1.length=S0.length:=hSl
 rw[← hSl]
 rw[← hSl]at y_sv
 clear hO hgd hP ih hk cS
 repeat' (first|refine zh ?_|intro (bk:Nat))
 refine HR.loop (ι:=Nat×List StX×List Chunk) (fun x=>x.1≤S1.length∧ssP x.2.1=((ssP S1).take x.1).map (ZK nw)++(ssP S1).drop x.1∧(∀ s∈x.2.1,Own s.1.1 x.2.2 s.1.2)∧∀s∈x.2.1,GdN s.1.2∧s.2.2.2.da.length≤9223372036854775807) (fun x=>[(3,ptr b3),(4,ptr b4),(5,.int .i64 nw),(6,sv y S1.length),(7,.func (.func 41) #[] #[]),(43,.int .i64 (S1.length:Int)),(44,.int .i64 (x.1:Int))]) (fun x=>[jU b3 [ve,vo,vn] 34,jU b4 meZ 26,jK (sv y S1.length) 77 24 S1.length (cellsOf stE x.2.1),jD x.2.2]) (fun x=>S1.length-x.1) (0,S1,G1) ⟨Nat.zero_le _,rfl,hO1,hgd1⟩ ⟨I,I,I,I,I,I,I,trivial⟩ Ent.refl ?_
 rintro ⟨k,S,G⟩ ⟨hk,hP,hO,hgd⟩ ih
 have hk:k≤S1.length:=hk
 have hP:ssP S=((ssP S1).take k).map (ZK nw)++(ssP S1).drop k:=hP
 have hO:∀s∈S,Own s.1.1 G s.1.2:=hO
 have hgd:∀s∈S,GdN s.1.2∧s.2.2.2.da.length≤9223372036854775807:=hgd
 have hSl:S.length=S1.length:=by rw[← kG,hP,List.length_append,List.length_map,← List.length_append,List.take_append_drop,kG]
 have cS:(cellsOf stE S).length=S.length*24:=jC Ju _
 repeat' (first|refine zh ?_|intro (bk:Nat))
 refine HR.cond I (fun h2=>?_) (fun h2=>?_)
 ·have hlt:k<S1.length:=by have:(k:Int)<(S1.length:Int):=of_decide_eq_true h2;omega
  obtain ⟨⟨⟨V,n⟩,on,tk,fr⟩,hs⟩:=jH (show k<S.length by omega)
  have hsm:=List.mem_of_getElem? hs
  have hOn:Own V G n:=hO _ hsm
  have hGn:GdN n:=(hgd _ hsm).1
  have hfn:fr.da.length≤9223372036854775807:=(hgd _ hsm).2
  have hs0:(ssP S1)[k]? =some (n,on,tk,fr):=by
   obtain ⟨z,hz⟩:=jH (show k<(ssP S1).length by rw[kG];exact hlt)
   have e:=ZM (ZK nw) hz
   rw[← hP,jLA hs]at e
   rw[hz];exact e.symm
  repeat' (first|refine zh ?_|refine HL.jw (n:=S1.length) (cs:=cellsOf stE S) (Rd.own 2 I) zG k I I I I hlt ?_|refine HL.JB (us:=stE ((V,n),on,tk,fr)) (cs:=cellsOf stE S) (Rd.own 2 I) I I I I (by simp) I (jF Ju hs) ?_|intro (bk:Nat))
  refine HL.jQG (caps:=[]) (r:=fun x:NV×List Chunk=> .agg ⟨stE ((x.1,(ZK nw (n,on,tk,fr)).1),(ZK nw (n,on,tk,fr)).2)⟩) (Q:=fun x=>jRi V n x.1 x.2 (ZK nw (n,on,tk,fr)).1) (G:=fun x=>[jD x.2]) fn41 I I I (fun w1 hw1=>jGV V n on tk fr nw w1 (hOn w1 (Sat.grp 3 hw1 I)) hGn) ?_
  rintro ⟨V2,G2⟩ hI
  have hI:jRi V n V2 G2 (ZK nw (n,on,tk,fr)).1:=hI
  obtain ⟨s2,hs2⟩:∃s2:StX,s2=((V2,(ZK nw (n,on,tk,fr)).1),(ZK nw (n,on,tk,fr)).2):=⟨_,rfl⟩
  repeat' (first|refine zh ?_|refine HL.jw (n:=S1.length) (cs:=cellsOf stE S) (Rd.own 3 I) zG k I I I I hlt ?_|refine HL.zH (us:=stE ((V2,(ZK nw (n,on,tk,fr)).1),(ZK nw (n,on,tk,fr)).2)) (j:=k*24) 3 I I I I I I I (by rw[cS];show k*24+24≤_;omega) (by simp) ?_|intro (bk:Nat))
  have hSet:∀z∈S.set k s2,z∈S∨z=s2:=fun z hz=>List.mem_or_eq_of_mem_set hz
  refine ih (k+1,S.set k s2,[jD G2,jD G]) _ _ ⟨hlt,?_,?_,?_⟩ (by show S1.length-(k+1)<S1.length-k;omega) ⟨I,I,I,I,I,I,I,trivial⟩ ?_
  ·show ssP (S.set k s2)=_
   rw[jK9,hP,hs2]
   exact jAm (ZK nw) hs0
  ·intro z hz
   rcases hSet z hz with hz|rfl
   ·exact fun w2 hg2=>hO z hz w2 (jS hg2 (by simp))
   ·rw [hs2];exact fun w2 hg2=>hI w2 (hOn w2 (jS hg2 (by simp))) (jS hg2 (by simp))
  ·intro z hz
   rcases hSet z hz with hz|rfl
   ·exact hgd z hz
   ·rw [hs2];exact jQ1 (s:=(n,on,tk,fr)) hGn hfn
  ·show Ent _ _ [jU b3 [ve,vo,vn] 34,jU b4 meZ 26,jK (sv y S1.length) 77 24 S1.length (cellsOf stE (S.set k s2)),jD [jD G2,jD G]]
   refine Ent.trans (Ent.pick (H':=[jD G2,jD G]++[jU b3 [ve,vo,vn] 34,jU b4 meZ 26,_]) [0,4,1,2,3] I I) (Ent.trans Ent.group (Ent.trans (Ent.pick [3,1,2,0] I I) (Ent.trans (Ent.JM I ?_) (Ent.pick [1,2,0,3] I I))))
   rw[hs2]
   exact Jb (i:=0) Ju hs I (show 0+24≤24 by decide)
 have hke:k=S1.length:=by have:¬(k:Int)<(S1.length:Int):=of_decide_eq_false h2;omega
 rw[hke,← kG S1,List.take_length,List.drop_length,List.append_nil]at hP
 have hP2:ssP S=(nds xs).map (fun n=>ZK nw (J8 nw (n,Me.live a n.addr,false,fr0))):=by rw[hP,hP1,hP0,List.map_map,List.map_map];rfl
 obtain ⟨fs,hfs⟩:∃fs,fs=(Me.spoken ⟨t,nds xs⟩ a).map (·.2):=⟨_,rfl⟩
 have hF:S.map (fun s=>(s.2.2.2,s.2.2.1))=fs:=by
  have:=jN8 ⟨t,nds xs⟩ a
  rw[hfs,← this,← hnw,← hP2,List.map_map];rfl
 have hN:ssN S=(Me.spoken ⟨t,nds xs⟩ a).map (·.1):=by
  have:=jN7 ⟨t,nds xs⟩ a
  rw[← this,← hnw,← hP2,List.map_map];rfl
 obtain ⟨l2,hl2⟩:∃l2,l2=ssN S:=⟨_,rfl⟩
 have hO2:=hO
 have hgd2:=hgd
 obtain ⟨S2,hS2⟩:∃S2,S2=S:=⟨_,rfl⟩
 obtain ⟨G2,hG2⟩:∃G2,G2=G:=⟨_,rfl⟩
 subst hS2
 subst hG2
 have hL2:S2.length=xs.length:=by rw[hSl,hSl1,hS0]
 rw[← hSl]
 clear hO hgd hP ih hk cS y_sv hP1 hP0 hO1 hgd1 hO0 hgd0
 repeat' (first|refine zh ?_|intro (bk:Nat))
 refine HR.loop (ι:=Nat×List StX×List Chunk) (fun x=>x.1≤S2.length∧ssN x.2.1=Me.tells a nw fs x.1 l2∧x.2.1.map (·.2)=S2.map (·.2)∧(∀ s∈x.2.1,Own s.1.1 x.2.2 s.1.2)∧∀s∈x.2.1,GdN s.1.2) (fun x=>[(3,ptr b3),(4,ptr b4),(5,.int .i64 nw),(6,sv y S2.length),(59,.int .i64 (S2.length:Int)),(60,.int .i64 (x.1:Int))]) (fun x=>[jU b3 [ve,vo,vn] 34,jU b4 meZ 26,cSt (sv y S2.length) x.2.1,jD x.2.2]) (fun x=>S2.length-x.1) (0,S2,G2) ⟨Nat.zero_le _,hl2.symm,rfl,hO2,fun s hs=>(hgd2 s hs).1⟩ ⟨I,I,I,I,I,I,trivial⟩ (Ent.pick [0,1,2,3] I I) ?_
 rintro ⟨k,S,G⟩ ⟨hk,hT,hS2m,hO,hgd⟩ ih
 have hk:k≤S2.length:=hk
 have hT:ssN S=Me.tells a nw fs k l2:=hT
 have hS2m:S.map (·.2)=S2.map (·.2):=hS2m
 have hO:∀s∈S,Own s.1.1 G s.1.2:=hO
 have hgd:∀s∈S,GdN s.1.2:=hgd
 have hSl:S.length=S2.length:=by have:=congrArg List.length hS2m;rwa[List.length_map,List.length_map]at this
 have cS:(cellsOf stE S).length=S.length*24:=jC Ju _
 repeat' (first|refine zh ?_|intro (bk:Nat))
 refine HR.cond I (fun h2=>?_) (fun h2=>?_)
 ·have hlt:k<S2.length:=by have:(k:Int)<(S2.length:Int):=of_decide_eq_true h2;omega
  have hlt':k<S.length:=by omega
  obtain ⟨⟨⟨V,n⟩,on,tk,fr⟩,hs⟩:=jH hlt'
  have hs2:(S2.map (·.2))[k]? =some (on,tk,fr):=by rw[← hS2m,List.getElem?_map,hs];rfl
  have hfk:fs[k]? =some (fr,tk):=by
   rw[← hF,List.getElem?_map]
   rw[List.getElem?_map]at hs2
   cases hz:S2[k]? with
   |none=>rw[hz]at hs2;cases hs2
   |some z=>rw[hz]at hs2;cases z with|mk z1 z2=>cases hs2;rfl
  have hfd:fr.da.length≤9223372036854775807:=by
   obtain ⟨z,hz,e⟩:=List.mem_map.1 (List.mem_of_getElem? hs2)
   have:=(hgd2 z hz).2
   rw[e]at this;exact this
  have hstep:=jJY (a:=a) (now:=nw) (l:=l2) hfk
  rw[← hT]at hstep
  repeat' (first|refine zh ?_|refine HL.jw (Rd.own 2 I) zG k I I I I hlt' ?_|refine HL.JL 14 (Rd.own 2 I) (by rw[cS];omega) I I I I I I I ?_|refine HL.jY (Rd.own 2 I) I I I I (jR Ju hs (i:=14) I) ?_|intro (bk:Nat))
  refine HR.cond I (fun h3=>?_) (fun h3=>?_)
  ·have h3:tk=false:=by have h3:(!tk)=true:=h3;simpa using h3
   rw[h3,if_neg (by decide)]at hstep
   repeat' (first|refine zh ?_|intro (bk:Nat))
   exact ih (k+1,S,G) _ _ ⟨hlt,hstep.symm,hS2m,hO,hgd⟩ (by show S2.length-(k+1)<S2.length-k;omega) ⟨I,I,I,I,I,I,trivial⟩ Ent.refl
  have h3:tk=true:=by have h3:(!tk)=false:=h3;simpa using h3
  rw[h3,if_pos rfl]at hstep
  obtain ⟨rs,hrs⟩:∃rs,rs=Ra.recv (Ra.san a) fr:=⟨_,rfl⟩
  obtain ⟨ac,hac⟩:∃ac,ac=Ra.jHf (Ra.san a) fr:=⟨_,rfl⟩
  have hrl:rs.length≤251:=by rw[hrs];exact Ra.jNv _ _
  repeat' (first|refine zh ?_|refine HL.jw (Rd.own 2 I) zG k I I I I hlt' ?_|refine HL.JL 15 (Rd.own 2 I) (by rw[cS];omega) I I I I I I I ?_|refine HL.JB (us:=frC fr) (Rd.own 2 I) I I I I (by simp) I (jNg hs) ?_|intro (bk:Nat))
  refine HL.JD (r:=fun x:Value=> .tuple ⟨[x,.bool ac]⟩) (Q:=fun _=>True) (G:=fun x=>[cIr x rs]) fn42 I I (fun w1 hw1=>by rw[hrs,hac];exact (jHT a fr ve vo vn w1 (hA.at hw1)).mono fun e w' ⟨x,e1,e2⟩=>⟨x,e1,trivial,e2⟩) ?_
  intro vr _
  repeat' (first|refine zh ?_|intro (bk:Nat))
  refine HL.ent (H':=[cSt (sv y S2.length) S,cIr vr rs,jD G]++[jU bk (frC fr) 75,jU b3 [ve,vo,vn] 34,jU b4 meZ 26]) (Ent.pick [4,0,5,1,2,3] I I) ?_
  refine HL.Jo (r:=fun _=> .bool (Me.hears fr nw (ssN S) rs).2) (Q:=fun x:List StX×List Chunk=>ssN x.1=(Me.hears fr nw (ssN S) rs).1∧x.1.map (·.2)=S.map (·.2)∧(∀ s∈x.1,Own s.1.1 x.2 s.1.2)∧∀s∈x.1,GdN s.1.2) (G:=fun x=>[cSt (sv y S2.length) x.1,cIr vr rs,jD x.2]) fn43 I I I (fun w1 hw1=>jMS S fr rs nw (sv y S2.length) vr G _ w1 (hw1.pick [0,1,2] I I) hO hgd hfd (by omega) (by omega)) ?_
  rintro ⟨S',G'⟩ ⟨hN',hM',hO',hgd'⟩
  have hN':ssN S'=(Me.hears fr nw (ssN S) rs).1:=hN'
  have hM':S'.map (·.2)=S.map (·.2):=hM'
  have hO':∀s∈S',Own s.1.1 G' s.1.2:=hO'
  have hgd':∀s∈S',GdN s.1.2:=hgd'
  obtain ⟨rc,hrc⟩:∃rc,rc=(Me.hears fr nw (ssN S) rs).2:=⟨_,rfl⟩
  rw[← hrc]
  have hSl':S'.length=S.length:=by have:=congrArg List.length hM';rwa[List.length_map,List.length_map]at this
  have cS':(cellsOf stE S').length=S'.length*24:=jC Ju _
  have hlt2:k<S'.length:=by omega
  obtain ⟨⟨⟨V1,n1⟩,on1,tk1,fr1⟩,hs1⟩:=jH hlt2
  have hsm1:=List.mem_of_getElem? hs1
  have hOn1:Own V1 G' n1:=hO' _ hsm1
  have hGn1:GdN n1:=hgd' _ hsm1
  have hnth:Me.nth (Me.hears fr nw (ssN S) rs).1 k=n1:=by rw[← hN'];exact jLC hs1
  obtain ⟨okk,hokk⟩:∃okk,okk=(ac&&(rc||(fr.dst==255))):=⟨_,rfl⟩
  have hstep2:Me.tells a nw fs (k+1) l2=(ssN S').set k (result n1 fr okk):=by
   rw[hstep]
   show (Me.hears fr nw (ssN S) (Ra.recv (Ra.san a) fr)).1.set k (result (Me.nth (Me.hears fr nw (ssN S) (Ra.recv (Ra.san a) fr)).1 k) fr (Ra.jHf (Ra.san a) fr&&((Me.hears fr nw (ssN S) (Ra.recv (Ra.san a) fr)).2||(fr.dst==255))))=_
   rw[← hrs,← hac,← hrc,hnth,← hokk,hN']
  repeat' (first|refine zh ?_|intro (bk:Nat))
  refine HR.join (ι:=NV×List Chunk) (fun x=>Own x.1 x.2 (result n1 fr okk)) (fun x=>[(3,ptr b3),(4,ptr b4),(5,.int .i64 nw),(6,sv y S2.length),(59,.int .i64 (S2.length:Int)),(60,.int .i64 (k:Int))]) (fun x=>[jK (sv y S2.length) 77 24 S'.length (cellsOf stE (S'.set k ((x.1,result n1 fr okk),on1,tk1,fr1))),jD x.2,jD G',jU b3 [ve,vo,vn] 34,jU b4 meZ 26]) ?_ (fun hj=>?_)
  rotate_left
  ·clear hstep hac
   cases ac with
   |false=>
    cases rc with
    |false=>
     refine HR.Jm [(0,true),(1,true),(2,true),(3,true),(4,true),(5,true),(6,true),(7,true),(8,true),(9,true),(10,true),(11,true),(12,true),(13,true),(14,true),(15,true),(16,true),(17,false),(18,true),(19,true)] 20 [0,3] I I JZ (by kernel_rfl) ?_
     repeat' (first|refine zd ?_|refine HD.jw (Rd.own 0 I) zG k I I I I I hlt2 ?_|refine HD.JL 0 (Rd.own 0 I) (by rw[cS'];omega) I I I I I I I I ?_|refine HD.JB (us:=ndC V1 n1) (Rd.own 0 I) I I I I I (by simp) I (Kr hs1) ?_)
     refine HD.one I ?_
     refine HL.JD (r:=fun x:NV×List Chunk=> .agg ⟨ndC x.1 (result n1 fr okk)⟩) (Q:=fun x=>Own x.1 x.2 (result n1 fr okk)) (G:=fun x=>[jD x.2]) fn44 I I (fun w1 hw1=>by rw[hokk];exact kQ V1 n1 fr _ w1 (hOn1 w1 (Sat.grp 2 hw1 I)) hGn1.sm) ?_
     rintro ⟨V3,G3⟩ hO3
     have hO3:Own V3 G3 (result n1 fr okk):=hO3
     refine HL.back [1,4] I I ?_
     repeat' (first|refine zd ?_|refine HD.jw (Rd.own 0 I) zG k I I I I I hlt2 ?_|refine HD.JL 0 (Rd.own 0 I) (by rw[cS'];omega) I I I I I I I I ?_)
     refine HD.last I ?_
     refine HL.zH (us:=ndC V3 (result n1 fr okk)) (j:=k*24+0) 1 I I I I I I I (by rw[cS'];show k*24+0+13≤_;omega) (by simp) ?_
     repeat' (first|refine zn ?_|intro (bk:Nat))
     exact hj (V3,G3) _ _ hO3 ⟨I,I,I,I,I,I,trivial⟩ (Ent.trans (Ent.pick [1,0,3,5,6] I I) (Ent.JM I (Jb (i:=0) Ju hs1 I (show 0+13≤24 by decide))))
    |true=>
     refine HR.Jm [(0,true),(1,true),(2,true),(3,true),(4,true),(5,true),(6,true),(7,true),(8,true),(9,true),(10,true),(11,true),(12,true),(13,true),(14,true),(15,true),(16,true),(17,false),(18,true),(19,true)] 20 [0,3] I I JZ (by kernel_rfl) ?_
     repeat' (first|refine zd ?_|refine HD.jw (Rd.own 0 I) zG k I I I I I hlt2 ?_|refine HD.JL 0 (Rd.own 0 I) (by rw[cS'];omega) I I I I I I I I ?_|refine HD.JB (us:=ndC V1 n1) (Rd.own 0 I) I I I I I (by simp) I (Kr hs1) ?_)
     refine HD.one I ?_
     refine HL.JD (r:=fun x:NV×List Chunk=> .agg ⟨ndC x.1 (result n1 fr okk)⟩) (Q:=fun x=>Own x.1 x.2 (result n1 fr okk)) (G:=fun x=>[jD x.2]) fn44 I I (fun w1 hw1=>by rw[hokk];exact kQ V1 n1 fr _ w1 (hOn1 w1 (Sat.grp 2 hw1 I)) hGn1.sm) ?_
     rintro ⟨V3,G3⟩ hO3
     have hO3:Own V3 G3 (result n1 fr okk):=hO3
     refine HL.back [1,4] I I ?_
     repeat' (first|refine zd ?_|refine HD.jw (Rd.own 0 I) zG k I I I I I hlt2 ?_|refine HD.JL 0 (Rd.own 0 I) (by rw[cS'];omega) I I I I I I I I ?_)
     refine HD.last I ?_
     refine HL.zH (us:=ndC V3 (result n1 fr okk)) (j:=k*24+0) 1 I I I I I I I (by rw[cS'];show k*24+0+13≤_;omega) (by simp) ?_
     repeat' (first|refine zn ?_|intro (bk:Nat))
     exact hj (V3,G3) _ _ hO3 ⟨I,I,I,I,I,I,trivial⟩ (Ent.trans (Ent.pick [1,0,3,5,6] I I) (Ent.JM I (Jb (i:=0) Ju hs1 I (show 0+13≤24 by decide))))
   |true=>
    cases rc with
    |false=>
     refine HR.Jm [(0,true),(1,true),(2,true),(3,true),(4,true),(5,true),(6,true),(7,true),(8,true),(9,true),(10,true),(11,true),(12,true),(13,true),(14,true),(15,true),(16,true),(17,false),(18,true),(19,true)] 20 [0,3] I I JZ (by kernel_rfl) ?_
     repeat' (first|refine zd ?_|refine HD.jw (Rd.own 0 I) zG k I I I I I hlt2 ?_|refine HD.JL 0 (Rd.own 0 I) (by rw[cS'];omega) I I I I I I I I ?_|refine HD.JB (us:=ndC V1 n1) (Rd.own 0 I) I I I I I (by simp) I (Kr hs1) ?_)
     refine HD.one I ?_
     refine HL.JD (r:=fun x:NV×List Chunk=> .agg ⟨ndC x.1 (result n1 fr okk)⟩) (Q:=fun x=>Own x.1 x.2 (result n1 fr okk)) (G:=fun x=>[jD x.2]) fn44 I I (fun w1 hw1=>by rw[hokk];exact kQ V1 n1 fr _ w1 (hOn1 w1 (Sat.grp 2 hw1 I)) hGn1.sm) ?_
     rintro ⟨V3,G3⟩ hO3
     have hO3:Own V3 G3 (result n1 fr okk):=hO3
     refine HL.back [1,4] I I ?_
     repeat' (first|refine zd ?_|refine HD.jw (Rd.own 0 I) zG k I I I I I hlt2 ?_|refine HD.JL 0 (Rd.own 0 I) (by rw[cS'];omega) I I I I I I I I ?_)
     refine HD.last I ?_
     refine HL.zH (us:=ndC V3 (result n1 fr okk)) (j:=k*24+0) 1 I I I I I I I (by rw[cS'];show k*24+0+13≤_;omega) (by simp) ?_
     repeat' (first|refine zn ?_|intro (bk:Nat))
     exact hj (V3,G3) _ _ hO3 ⟨I,I,I,I,I,I,trivial⟩ (Ent.trans (Ent.pick [1,0,3,5,6] I I) (Ent.JM I (Jb (i:=0) Ju hs1 I (show 0+13≤24 by decide))))
    |true=>
     refine HR.Jm [(0,true),(1,true),(2,true),(3,true),(4,true),(5,true),(6,true),(7,true),(8,true),(9,true),(10,true),(11,true),(12,true),(13,true),(14,true),(15,true),(16,true),(17,false),(18,true),(19,true)] 20 [0,3] I I JZ (by kernel_rfl) ?_
     repeat' (first|refine zd ?_|refine HD.jw (Rd.own 0 I) zG k I I I I I hlt2 ?_|refine HD.JL 0 (Rd.own 0 I) (by rw[cS'];omega) I I I I I I I I ?_|refine HD.JB (us:=ndC V1 n1) (Rd.own 0 I) I I I I I (by simp) I (Kr hs1) ?_)
     refine HD.one I ?_
     refine HL.JD (r:=fun x:NV×List Chunk=> .agg ⟨ndC x.1 (result n1 fr okk)⟩) (Q:=fun x=>Own x.1 x.2 (result n1 fr okk)) (G:=fun x=>[jD x.2]) fn44 I I (fun w1 hw1=>by rw[hokk];exact kQ V1 n1 fr _ w1 (hOn1 w1 (Sat.grp 2 hw1 I)) hGn1.sm) ?_
     rintro ⟨V3,G3⟩ hO3
     have hO3:Own V3 G3 (result n1 fr okk):=hO3
     refine HL.back [1,4] I I ?_
     repeat' (first|refine zd ?_|refine HD.jw (Rd.own 0 I) zG k I I I I I hlt2 ?_|refine HD.JL 0 (Rd.own 0 I) (by rw[cS'];omega) I I I I I I I I ?_)
     refine HD.last I ?_
     refine HL.zH (us:=ndC V3 (result n1 fr okk)) (j:=k*24+0) 1 I I I I I I I (by rw[cS'];show k*24+0+13≤_;omega) (by simp) ?_
     repeat' (first|refine zn ?_|intro (bk:Nat))
     exact hj (V3,G3) _ _ hO3 ⟨I,I,I,I,I,I,trivial⟩ (Ent.trans (Ent.pick [1,0,3,5,6] I I) (Ent.JM I (Jb (i:=0) Ju hs1 I (show 0+13≤24 by decide))))
  rintro ⟨V3,G3⟩ hO3
  have hO3:Own V3 G3 (result n1 fr okk):=hO3
  obtain ⟨s3,hs3⟩:∃s3:StX,s3=((V3,result n1 fr okk),on1,tk1,fr1):=⟨_,rfl⟩
  have hSet:∀z∈S'.set k s3,z∈S'∨z=s3:=fun z hz=>List.mem_or_eq_of_mem_set hz
  repeat' (first|refine zh ?_|intro (bk:Nat))
  refine ih (k+1,S'.set k s3,[jD G3,jD G']) _ _ ⟨hlt,?_,?_,?_,?_⟩ (by show S2.length-(k+1)<S2.length-k;omega) ⟨I,I,I,I,I,I,trivial⟩ ?_
  ·show ssN (S'.set k s3)=_
   rw[jLB,hstep2,hs3]
  ·show (S'.set k s3).map (·.2)=_
   rw[List.map_set,jD2 (by rw[List.getElem?_map,hs1,hs3];rfl),hM',hS2m]
  ·intro z hz
   rcases hSet z hz with hz|rfl
   ·exact fun w2 hg2=>hO' z hz w2 (jS hg2 (by simp))
   ·rw [hs3];exact fun w2 hg2=>hO3 w2 (jS hg2 (by simp))
  ·intro z hz
   rcases hSet z hz with hz|rfl
   ·exact hgd' z hz
   ·rw [hs3];exact hGn1.result fr okk
  ·show Ent _ _ [jU b3 [ve,vo,vn] 34,jU b4 meZ 26,jK (sv y S2.length) 77 24 (S'.set k s3).length (cellsOf stE (S'.set k s3)),jD [jD G3,jD G']]
   refine Ent.trans (Ent.pick (H':=[jD G3,jD G']++[jU b3 [ve,vo,vn] 34,jU b4 meZ 26,_]) [1,2,3,4,0] I I) (Ent.trans Ent.group (Ent.trans (Ent.pick [3,1,2,0] I I) (Ent.trans (Ent.JM List.length_set.symm (by rw[hs3])) (Ent.pick [1,2,0,3] I I))))
 have hke:k=S2.length:=by have:¬(k:Int)<(S2.length:Int):=of_decide_eq_false h2;omega
 rw[hke]at hT
 have hfin:ssN S=(Me.jSB ⟨t,nds xs⟩ a).nodes:=by
  rw[hT]
  show _=Me.tells a (Me.jMC t) ((Me.spoken ⟨t,nds xs⟩ a).map (·.2)) (nds xs).length ((Me.spoken ⟨t,nds xs⟩ a).map (·.1))
  rw[← hnw,← hfs,← hN,← hl2,JQ,hL2]
 repeat' (first|refine zh ?_|refine HL.j4 (Rd.own 0 I) I I I ?_|intro (bk:Nat))
 generalize bk=b15
 refine HR.zY 62 13 ?_
 refine HR.loop (ι:=Nat×SV×List (NV×Nd)) (fun x=>x.1≤S.length∧x.2.2=(S.take x.1).map (·.1)) (fun x=>[(4,ptr b4),(15,ptr b15),(108,sv y S2.length),(109,.int .i64 (S2.length:Int)),(110,.int .i64 (x.1:Int))]) (fun x=>[meB b15 nw (sv x.2.1 x.2.2.length),jU b4 meZ 26,cSt (sv y S2.length) S,cNd (sv x.2.1 x.2.2.length) x.2.2,jD G]) (fun x=>S.length-x.1) (0,(none,0),[]) ⟨Nat.zero_le _,rfl⟩ ⟨I,I,I,I,I,trivial⟩ (Ent.pick [1,3,4,0,5] I I) ?_
 rintro ⟨j,z,zs⟩ ⟨hj,hzs⟩ ih4
 have hj:j≤S.length:=hj
 have hzs:zs=(S.take j).map (·.1):=hzs
 have hzl:zs.length=j:=by rw[hzs];simp;omega
 repeat' (first|refine zh ?_|intro (bk:Nat))
 refine HR.cond I (fun h4=>?_) (fun h4=>?_)
 rotate_left
 ·have hje:j=S.length:=by have:¬(j:Int)<(S2.length:Int):=of_decide_eq_false h4;omega
  rw[hje,List.take_length]at hzs
  repeat' (first|refine zh ?_|intro (bk:Nat))
  refine HR.ret Tryz.func15 I [_] (fun w hw=>⟨⟨_,rfl,jP hw 1 I I I I rfl⟩,trivial⟩) ?_
  refine fun w' hw=>⟨(z,zs,G),by rw[← hnw];rfl,⟨⟨?_,?_⟩,?_⟩,hw.pick [3,4] I rfl⟩
  ·show nds zs=_
   rw[hzs,← hfin];unfold nds ssN;rw[List.map_map];rfl
  ·intro q hq
   have hq:q∈zs:=hq
   rw[hzs]at hq
   obtain ⟨s,hs,rfl⟩:=List.mem_map.1 hq
   exact hO s hs
  ·intro q hq
   have hq:q∈zs:=hq
   rw[hzs]at hq
   obtain ⟨s,hs,rfl⟩:=List.mem_map.1 hq
   exact hgd s hs
 have hlt:j<S.length:=by have:(j:Int)<(S2.length:Int):=of_decide_eq_true h4;omega
 obtain ⟨⟨⟨V,n⟩,on,tk,fr⟩,hs⟩:=jH hlt
 repeat' (first|refine zh ?_|refine HL.jw (Rd.own 2 I) zG j I I I I hlt ?_|refine HL.JB (us:=stE ((V,n),on,tk,fr)) (Rd.own 2 I) I I I I (by simp) I (jF Ju hs) ?_|intro (bk:Nat))
 refine HL.jk JV I I I I I (by decide) (by decide) ?_
 intro va
 refine HL.zD 5 I JV (Rd.own 0 I) I I I I (jJ I) (by show (zs.length+1)*232≤_;omega) (by show zs.length+1≤_;omega) ?_
 intro vc
 refine HL.shape 5 I fun ac2 cc2 hv=>?_
 subst hv
 repeat' (first|refine zh ?_|intro (bk:Nat))
 refine ih4 (j+1,(ac2,cc2),zs++[(V,n)]) _ _ ⟨hlt,?_⟩ (by show S.length-(j+1)<S.length-j;omega) ⟨I,I,I,I,I,trivial⟩ ?_
 ·show zs++[(V,n)]=(S.take (j+1)).map (·.1)
  rw[jG hs,List.map_append,← hzs];rfl
 ·show Ent _ _ [meB b15 nw (sv (ac2,cc2) (zs++[(V,n)]).length),jU b4 meZ 26,cSt (sv y S2.length) S,cNd (sv (ac2,cc2) (zs++[(V,n)]).length) (zs++[(V,n)]),jD G]
  rw[jNL,show (zs++[((V,n):NV×Nd)]).length=zs.length+1 by simp]
  exact Ent.pick [2,3,4,5,6] I I
end Go.Proofs.YtgfdoognildoeaaGreat
namespace Me
open Go.GX Nd Tp
section
variable {addrs polls : List Int}
theorem jF6 {k:Nat} {x:Nd.Nd}:x∈build addrs polls k↔∃i,i<k∧nodeAt addrs polls i=x:=by
 rw[(K8 addrs polls k).mem_iff,List.mem_map]
 constructor
 ·rintro ⟨i,hi,e⟩;exact ⟨i,List.mem_range.1 hi,e⟩
 ·rintro ⟨i,hi,e⟩;exact ⟨i,List.mem_range.2 hi,e⟩
theorem jNN (k:Nat):(build addrs polls k).length=k:=by rw[(K8 addrs polls k).length_eq];simp
theorem jJW {k:Nat} (h:jf (Jz addrs) k=0) {i:Nat} (hi:i<k) (hl:k≤addrs.length):okN (addrs.getD i 0)=true∧∀j,j<i→addrs.getD j 0≠addrs.getD i 0:=by
 have h1:=ZF h i hi
 unfold Jz at h1
 have hil:i<addrs.length:=by omega
 rw[List.getElem?_eq_getElem hil]at h1
 have e:addrs.getD i 0=addrs[i]:=by rw[List.getD_eq_getElem?_getD,List.getElem?_eq_getElem hil];rfl
 simp only at h1
 split at h1
 ·cases h1
 ·rename_i h2
  split at h1
  ·cases h1
  ·rename_i h3
   refine ⟨by rw[e];cases g:okN addrs[i];exact absurd g h2;rfl,fun j hj e2=>h3 ?_⟩
   rw[e,List.getD_eq_getElem?_getD,List.getElem?_eq_getElem (show j<addrs.length by omega)]at e2
   rw[← e2]
   exact List.mem_of_getElem? (i:=j) (by rw[List.getElem?_take_of_lt hj,List.getElem?_eq_getElem (show j<addrs.length by omega)];rfl)
theorem jKh {k:Nat} (h:jf (Jz addrs) k=0) (hl:k≤addrs.length) {x:Nd.Nd} (hx:x∈build addrs polls k):∃i,i<k∧x.addr=addrs.getD i 0:=by
 obtain ⟨i,hi,rfl⟩:=jF6.1 hx
 refine ⟨i,hi,?_⟩
 unfold nodeAt
 exact (kT (jJW h hi hl).1).1
theorem jNQ {k:Nat} (h:jf (Jz addrs) k=0) (hl:k≤addrs.length) (a:Int):(idx (build addrs polls k) a).isSome=decide (a∈addrs.take k):=by
 have hiff:(∃ x∈build addrs polls k,x.addr=a)↔a∈addrs.take k:=by
  constructor
  ·rintro ⟨x,hx,e⟩
   obtain ⟨i,hi,e2⟩:=jKh h hl hx
   refine List.mem_of_getElem? (i:=i) ?_
   rw[List.getElem?_take_of_lt hi,List.getElem?_eq_getElem (show i<addrs.length by omega),← e,e2,List.getD_eq_getElem?_getD,List.getElem?_eq_getElem (show i<addrs.length by omega)]
   rfl
  ·intro ha
   obtain ⟨i,hi⟩:=List.getElem?_of_mem ha
   have hik:i<k:=by have:=(List.getElem?_eq_some_iff.1 hi).1;simp at this;omega
   rw[List.getElem?_take_of_lt hik]at hi
   refine ⟨nodeAt addrs polls i,jF6.2 ⟨i,hik,rfl⟩,?_⟩
   unfold nodeAt
   rw[(kT (jJW h hik hl).1).1,List.getD_eq_getElem?_getD,hi];rfl
 by_cases ha:a∈addrs.take k
 ·rw [decide_eq_true ha]
  obtain ⟨x,hx,e⟩:=hiff.2 ha
  obtain ⟨i,hi⟩:=jMp hx
  rw[e]at hi
  rw[hi];rfl
 ·rw [decide_eq_false ha]
  cases hi:idx (build addrs polls k) a with
  |none=>rfl
  |some i=>
   obtain ⟨h1,h2⟩:=jBx hi
   exact absurd (hiff.1 ⟨_,List.mem_of_getElem? h1,h2⟩) ha
end
end Me
namespace Go.Proofs.YtgfdoognildoeaaGreat
open Go.GX Go.RowKit
attribute [local irreducible] Calls Run jg jh JU HR HL HD jU jK Jc Rd jL jd
open Nd
theorem fn10:IsFn Tryz.prog 10:=⟨⟨_,_,Tryz.func10,rfl,by decide⟩⟩
theorem jP7 {l:List Nd} {n:Nd} {j:Nat} (hj:j≤l.length) (h1:∀i x,i<j→l[i]? =some x→x.addr<n.addr) (h2:∀x,l[j]? =some x→¬x.addr<n.addr):Me.put l n=l.take j++n::l.drop j:=by
 obtain ⟨e1,e2⟩:=Nd.jKy (p:=fun x:Nd=>decide (x.addr<n.addr)) hj (fun i x hi hx=>decide_eq_true (h1 i x hi hx)) (fun x hx=>decide_eq_false (h2 x hx))
 unfold Me.put Nd.ins
 rw[e1,e2]
theorem jFp {xs:List (NV×Nd)} {a:Int}:(Me.idx (nds xs) a).isSome=decide (jMq (nds xs) a≥0):=by
 unfold jMq
 cases Me.idx (nds xs) a with
 |none=>rfl
 |some i=>simp
theorem jKo {l:List Int} {k:Nat} {a:Int} (h:l[k]? =some a):Me.Jz l k=if Tp.okN a=false then 2 else if a∈l.take k then 9 else 0:=by unfold Me.Jz;rw[h]
theorem jEU {addrs polls:List Int} {k:Nat} (hl:addrs.length≤24) (h0:jf (Me.Jz addrs) k=0) (hk:k<addrs.length) (h1:Me.Jz addrs k≠0):Me.jGN addrs polls=(Me.jEQ,Me.Jz addrs k):=by
 have e:=Ki h0 h1 hk
 unfold Me.jGN
 rw[if_neg (by omega),if_pos (by rw[e];exact h1),e]
theorem jMX {addrs polls:List Int} (hl:addrs.length≤24) (h0:jf (Me.Jz addrs) addrs.length=0):Me.jGN addrs polls=(⟨0,Me.build addrs polls addrs.length⟩,0):=by
 unfold Me.jGN
 rw[if_neg (by omega),if_neg (by rw[h0];decide)]
theorem jMY {addrs polls:List Int} (hl:addrs.length>24):Me.jGN addrs polls=(Me.jEQ,3):=by unfold Me.jGN;rw[if_pos hl]
theorem jG2 {polls:List Int} {k:Nat} {p:Int} (h:polls[k]? =some p):Me.jCM polls k=p:=by unfold Me.jCM;rw[List.getD_eq_getElem?_getD,h];rfl
theorem jG3 {polls:List Int} {k:Nat} (h:polls.length≤k):Me.jCM polls k=0:=by unfold Me.jCM;rw[List.getD_eq_getElem?_getD,List.getElem?_eq_none h];rfl
theorem jP9 {a:Int}:(decide (a<0)||decide (a>250))=!Tp.okN a:=by
 cases h:Tp.okN a with
 |true=>rw[Nd.ZR]at h;simp;omega
 |false=>
  have:¬Tp.okN a=true:=by rw[h];decide
  rw[Nd.ZR]at this;simp;omega
abbrev jNX (x:SV×List (NV×Nd)×List Chunk) (l:List Nd):Prop:=MkL x l∧∀y∈x.2.1,GdN y.2
theorem mk_zero:jNX ((none,0),[],[]) []:=⟨⟨rfl,fun y hy=>(List.not_mem_nil hy).elim⟩,fun y hy=>(List.not_mem_nil hy).elim⟩
theorem jAc {B:Base} {H:List Chunk} {w:World} (h:Sat B H w):Sat B [cNd (sv (none,0) 0) [],jD []] w:=
 Ent.trans (Ent.jKt (H:=[cNd (sv (none,0) 0) []])) (Ent.pick [1,0] I I) w (Sat.zY (h.pick [] I I) 62 13)
theorem jH9 (addrs polls:List Int) (va vp:Value) (w:World) (ha:Sl w va (cellsOf iC addrs) addrs.length) (hp:Sl w vp (cellsOf iC polls) polls.length) (hla:addrs.length≤1000000) (hlp:polls.length≤1000000):
  Calls Tryz.prog 10 #[va,vp] w fun e w'=>∃x:SV×List (NV×Nd)×List Chunk,e= .returned (.tuple ⟨[meV 0 (sv x.1 x.2.1.length),.int .i64 (Me.jGN addrs polls).2]⟩)∧jNX x (Me.jGN addrs polls).1.nodes∧Sat (base w) [cNd (sv x.1 x.2.1.length) x.2.1,jD x.2.2] w':=by
 refine jB Tryz.func10 I (Nat.le_of_ble_eq_true I) ?_
 refine HR.sub (σ':=[(0,va),(1,vp)]) ⟨I,I,trivial⟩ ?_
 refine HR.ctl I ?_
 refine HR.region ?_
 refine HL.alloc I I ?_
 intro b4
 repeat' (first|refine zh ?_|refine HL.j4 (Rd.arg ha) I I I ?_|intro (bk:Nat))
 refine HR.cond I (fun h1=>?_) (fun h1=>?_)
 ·have h1:addrs.length>24:=by have:(addrs.length:Int)>24:=of_decide_eq_true h1;omega
  rw[jMY h1]
  repeat' (first|refine zh ?_|intro (bk:Nat))
  refine HR.ret Tryz.func10 I [_,_] (fun w hw=>⟨⟨_,rfl,jP hw 0 I I I I rfl⟩,rfl,trivial⟩) ?_
  exact fun w' hw=>⟨((none,0),[],[]),rfl,mk_zero,jAc hw⟩
 have h24:addrs.length≤24:=by have:¬(addrs.length:Int)>24:=of_decide_eq_false h1;omega
 refine HR.ctl I ?_
 refine HR.region ?_
 refine HL.alloc I I ?_
 intro b6
 repeat' (first|refine zh ?_|refine HL.j4 (Rd.arg ha) I I I ?_|intro (bk:Nat))
 refine HR.zY 62 13 ?_
 refine HR.loop (ι:=Nat×SV×List (NV×Nd)×List Chunk) (fun x=>x.1≤addrs.length∧jf (Me.Jz addrs) x.1=0∧jNX x.2 (Me.build addrs polls x.1)) (fun x=>[(0,va),(1,vp),(4,ptr b4),(6,ptr b6),(15,va),(16,.int .i64 (addrs.length:Int)),(17,.int .i64 (x.1:Int))]) (fun x=>[meB b6 0 (sv x.2.1 x.2.2.1.length),jU b4 meZ 26,cNd (sv x.2.1 x.2.2.1.length) x.2.2.1,jD x.2.2.2]) (fun x=>addrs.length-x.1) (0,(none,0),[],[]) ⟨Nat.zero_le _,rfl,mk_zero⟩ ⟨I,I,I,I,I,I,I,trivial⟩ (Ent.trans Ent.jKt (Ent.pick [2,3,1,0] I I)) ?_
 rintro ⟨k,y,ys,G⟩ ⟨hk,hE,⟨hN,hO⟩,hG⟩ ih
 have hk:k≤addrs.length:=hk
 have hE:jf (Me.Jz addrs) k=0:=hE
 have hN:nds ys=Me.build addrs polls k:=hN
 have hO:∀z∈ys,Own z.1 G z.2:=hO
 have hG:∀z∈ys,GdN z.2:=hG
 have hyl:ys.length=k:=by rw[← JQ,hN,Me.jNN]
 have cy:(cellsOf zR ys).length=ys.length*13:=jC jZ _
 repeat' (first|refine zh ?_|intro (bk:Nat))
 refine HR.cond I (fun h2=>?_) (fun h2=>?_)
 rotate_left
 ·have hke:k=addrs.length:=by have:¬(k:Int)<(addrs.length:Int):=of_decide_eq_false h2;omega
  subst hke
  rw[jMX h24 hE]
  repeat' (first|refine zh ?_|intro (bk:Nat))
  refine HR.ret Tryz.func10 I [_,_] (fun w hw=>⟨⟨_,rfl,jP hw 1 I I I I rfl⟩,rfl,trivial⟩) ?_
  exact fun w' hw=>⟨(y,ys,G),rfl,⟨⟨hN,hO⟩,hG⟩,hw.pick [2,3] I rfl⟩
 have hlt:k<addrs.length:=by have:(k:Int)<(addrs.length:Int):=of_decide_eq_true h2;omega
 obtain ⟨a,hak⟩:=jH hlt
 have hbad:=jKo hak
 repeat' (first|refine zh ?_|refine HL.jw (Rd.arg ha) Jg k I I I I hlt ?_|refine HL.jY (Rd.arg ha) I I I I (jV hak) ?_|apply zb ?_ ?_|exact zc|(refine zi fun hb=>?_;try simp at hb)|intro (bk:Nat))
 refine HR.cond I (fun h3=>?_) (fun h3=>?_)
 ·have h3:Tp.okN a=false:=by have h3:(decide (a<0)||decide (a>250))=true:=h3;rw[jP9]at h3;simpa using h3
  rw[if_pos h3]at hbad
  rw[jEU h24 hE hlt (by rw[hbad];decide),hbad]
  repeat' (first|refine zh ?_|intro (bk:Nat))
  refine HR.ret Tryz.func10 I [_,_] (fun w hw=>⟨⟨_,rfl,jP hw 1 I I I I rfl⟩,rfl,trivial⟩) ?_
  exact fun w' hw=>⟨((none,0),[],[]),rfl,mk_zero,jAc hw⟩
 have hok:Tp.okN a=true:=by have h3:(decide (a<0)||decide (a>250))=false:=h3;rw[jP9]at h3;simpa using h3
 rw[if_neg (by rw[hok];decide)]at hbad
 have hhas:=Me.jNQ (polls:=polls) hE hk a
 rw[← hN,jFp]at hhas
 repeat' (first|refine zh ?_|refine HL.jN jM5 I I (fun w1 hw1=>Jq ys a _ w1 ((Rd.own 2 rfl).at hw1) (by omega)) ?_|intro (bk:Nat))
 refine HR.cond I (fun h4=>?_) (fun h4=>?_)
 ·have h4:decide (jMq (nds ys) a≥0)=true:=h4
  rw[h4]at hhas
  rw[if_pos (of_decide_eq_true hhas.symm)]at hbad
  rw[jEU h24 hE hlt (by rw[hbad];decide),hbad]
  repeat' (first|refine zh ?_|intro (bk:Nat))
  refine HR.ret Tryz.func10 I [_,_] (fun w hw=>⟨⟨_,rfl,jP hw 1 I I I I rfl⟩,rfl,trivial⟩) ?_
  exact fun w' hw=>⟨((none,0),[],[]),rfl,mk_zero,jAc hw⟩
 have h4:decide (jMq (nds ys) a≥0)=false:=h4
 rw[h4]at hhas
 rw[if_neg (of_decide_eq_false hhas.symm)]at hbad
 have hE1:jf (Me.Jz addrs) (k+1)=0:=zP hE hbad
 obtain ⟨P,hP⟩:∃P,P=Me.jCM polls k:=⟨_,rfl⟩
 have hna:Me.nodeAt addrs polls k=new a P:=by unfold Me.nodeAt;rw[List.getD_eq_getElem?_getD,hak,← hP];rfl
 have hnaa:(new a P).addr=a:=(Me.kT hok).1
 repeat' (first|refine zh ?_|refine HL.j4 (Rd.arg hp) I I I ?_|intro (bk:Nat))
 refine HR.join (ι:=Unit) (fun _=>True) (fun _=>[(0,va),(1,vp),(4,ptr b4),(6,ptr b6),(8,.int .i64 a),(9,.int .i64 P),(15,va),(16,.int .i64 (addrs.length:Int)),(17,.int .i64 (k:Int))]) (fun _=>[meB b6 0 (sv y ys.length),jU b4 meZ 26,cNd (sv y ys.length) ys,jD G]) ?_ (fun hj=>?_)
 rotate_left
 ·refine HR.cond I (fun h5=>?_) (fun h5=>?_)
  ·have hlt5:k<polls.length:=by have:(k:Int)<(polls.length:Int):=of_decide_eq_true h5;omega
   obtain ⟨p,hpk⟩:=jH hlt5
   rw[jG2 hpk]at hP
   subst hP
   refine HR.region ?_
   repeat' (first|refine zn ?_|refine HL.jw (Rd.arg hp) Jg k I I I I hlt5 ?_|refine HL.jY (Rd.arg hp) I I I I (jV hpk) ?_|intro (bk:Nat))
   exact hj () _ _ trivial ⟨I,I,I,I,I,I,I,I,I,trivial⟩ Ent.refl
  ·have hlt5:polls.length≤k:=by have:¬(k:Int)<(polls.length:Int):=of_decide_eq_false h5;omega
   rw[jG3 hlt5]at hP
   subst hP
   refine HR.skip ?_
   exact hj () _ _ trivial ⟨I,I,I,I,I,I,I,I,I,trivial⟩ Ent.refl
 rintro _ _
 refine HR.ctl I ?_
 refine HR.region ?_
 repeat' (first|refine zn ?_|apply zb ?_ ?_|exact zc|(refine zi fun hb=>?_;try simp at hb)|intro (bk:Nat))
 refine HR.seq ?_
 refine HR.join (ι:=Nat) (fun j=>j≤ys.length∧(∀ i x,i<j→ys[i]? =some x→x.2.addr<a)∧∀x,ys[j]? =some x→¬x.2.addr<a) (fun j=>[(0,va),(1,vp),(4,ptr b4),(6,ptr b6),(8,.int .i64 a),(9,.int .i64 P),(10,.int .i64 (j:Int)),(15,va),(16,.int .i64 (addrs.length:Int)),(17,.int .i64 (k:Int))]) (fun _=>[meB b6 0 (sv y ys.length),jU b4 meZ 26,cNd (sv y ys.length) ys,jD G]) ?_ (fun hjn=>?_)
 rotate_left
 ·refine HR.ctl I ?_
  refine HR.loop (ι:=Nat) (fun j=>j≤ys.length∧∀i x,i<j→ys[i]? =some x→x.2.addr<a) (fun j=>[(0,va),(1,vp),(4,ptr b4),(6,ptr b6),(8,.int .i64 a),(9,.int .i64 P),(10,.int .i64 (j:Int)),(15,va),(16,.int .i64 (addrs.length:Int)),(17,.int .i64 (k:Int))]) (fun _=>[meB b6 0 (sv y ys.length),jU b4 meZ 26,cNd (sv y ys.length) ys,jD G]) (fun j=>ys.length-j) 0 ⟨Nat.zero_le _,fun i x hi=>absurd hi (Nat.not_lt_zero _)⟩ ⟨I,I,I,I,I,I,I,I,I,I,trivial⟩ Ent.refl ?_
  rintro j ⟨hj,hlo⟩ ih2
  have hj:j≤ys.length:=hj
  have hlo:∀i x,i<j→ys[i]? =some x→x.2.addr<a:=hlo
  repeat' (first|refine zh ?_|refine HL.j4 (Rd.own 2 I) I I I ?_|intro (bk:Nat))
  by_cases hjl:j<ys.length
  ·obtain ⟨x,hx⟩:=jH hjl
   refine HL.jCu 48 true I (decide_eq_true (by omega)) ?_
   repeat' (first|refine zh ?_|refine HL.jw (Rd.own 2 I) JV j I I I I hjl ?_|refine HL.JL 0 (Rd.own 2 I) (by rw[cy];omega) I I I I I I I ?_|refine HL.jY (Rd.own 2 I) I I I I (jR jZ hx (i:=0) I) ?_|intro (bk:Nat))
   refine HR.cond I (fun h6=>?_) (fun h6=>?_)
   ·have h6:x.2.addr<a:=of_decide_eq_true h6
    repeat' (first|refine zh ?_|intro (bk:Nat))
    refine ih2 (j+1) _ _ ⟨hjl,fun i z hi hz=>?_⟩ (by show ys.length-(j+1)<ys.length-j;omega) ⟨I,I,I,I,I,I,I,I,I,I,trivial⟩ Ent.refl
    by_cases e:i=j
    ·subst e;rw[hx]at hz;cases hz;exact h6
    ·exact hlo i z (by omega) hz
   ·have h6:¬x.2.addr<a:=of_decide_eq_false h6
    refine HR.exit I ?_
    exact hjn j _ _ ⟨hj,hlo,fun z hz=>by rw[hx]at hz;cases hz;exact h6⟩ ⟨I,I,I,I,I,I,I,I,I,I,trivial⟩ Ent.refl
  ·refine HL.jCu 48 false I (decide_eq_false (by omega)) ?_
   repeat' (first|refine zn ?_|apply zb ?_ ?_|exact zc|(refine zi fun hb=>?_;try simp at hb)|intro (bk:Nat))
   refine HR.jy I ?_
   refine HR.exit I ?_
   exact hjn j _ _ ⟨hj,hlo,fun z hz=>by rw[List.getElem?_eq_none (by omega)]at hz;cases hz⟩ ⟨I,I,I,I,I,I,I,I,I,I,trivial⟩ Ent.refl
 rintro j ⟨hj,hlo,hhi⟩
 have hj:j≤ys.length:=hj
 have hput:Me.put (nds ys) (new a P)=(nds ys).take j++new a P::(nds ys).drop j:=by
  refine jP7 (by rw[JQ];exact hj) (fun i x hi hx=>?_) (fun x hx=>?_)
  ·rw [hnaa]
   obtain ⟨z,hz⟩:=jH (show i<ys.length by omega)
   rw[kU hz]at hx;cases hx
   exact hlo i z hi hz
  ·rw [hnaa]
   have hjl:j<ys.length:=by have:=(List.getElem?_eq_some_iff.1 hx).1;rwa[JQ]at this
   obtain ⟨z,hz⟩:=jH hjl
   rw[kU hz]at hx;cases hx
   exact hhi z hz
 repeat' (first|refine zh ?_|intro (bk:Nat))
 refine HR.Jm [(0,true),(1,true),(2,true),(3,true),(4,true),(5,false),(6,false),(7,false),(8,true)] 9 [0] I I JZ (by kernel_rfl) ?_
 repeat' (first|refine zd ?_|fail)
 refine HD.one I ?_
 refine HL.JD (r:=fun x:NV×List Chunk=> .agg ⟨ndC x.1 (new a P)⟩) (Q:=fun x=>Own x.1 x.2 (new a P)) (G:=fun x=>[jD x.2]) fn36 I I (fun w1 hw1=>jH4 a P w1) ?_
 rintro ⟨V2,G2⟩ hO2
 have hO2:Own V2 G2 (new a P):=hO2
 refine HL.back [1] I I ?_
 refine HD.one I ?_
 refine HL.jk JV I I I I I (by decide) (by decide) ?_
 intro vx
 refine HL.back [2] I I ?_
 refine HD.one I ?_
 obtain ⟨zs,hzs⟩:∃zs,zs=ys.take j++(V2,new a P)::ys.drop j:=⟨_,rfl⟩
 refine HL.ent (H':=[jK vx 62 13 1 (zR (V2,new a P)),cNd (sv y ys.length) ys]++[jD G2,meB b6 0 (sv y ys.length),jU b4 meZ 26,jD G]) (Ent.pick [0,4,1,2,3,5] I I) ?_
 refine HL.Jo (r:=fun x:Value=>x) (Q:=fun _=>True) (G:=fun r=>[jK r 62 13 zs.length (cellsOf zR zs)]) fn35 I I I (fun w1 hw1=>by rw[hzs];exact jMm ys (V2,new a P) j _ vx _ w1 (hw1.pick [0,1] I I) hj (by omega)) ?_
 intro r _
 refine HL.back [2] I I ?_
 repeat' (first|refine zd ?_|fail)
 refine HD.last I ?_
 refine HL.shape 0 I fun ar cr hv=>?_
 subst hv
 repeat' (first|refine zn ?_|intro (bk:Nat))
 repeat' (first|refine zh ?_|intro (bk:Nat))
 have hmem:∀z∈zs,z∈ys∨z=(V2,new a P):=fun z hz=>by
  rw[hzs]at hz
  rcases List.mem_append.1 hz with hz|hz
  ·exact .inl (List.mem_of_mem_take hz)
  ·rcases List.mem_cons.1 hz with hz|hz
   ·exact .inr hz
   ·exact .inl (List.mem_of_mem_drop hz)
 refine ih (k+1,(ar,cr),zs,[jD G2,jD G]) _ _ ⟨hlt,hE1,⟨?_,?_⟩,?_⟩ (by show addrs.length-(k+1)<addrs.length-k;omega) ⟨I,I,I,I,I,I,I,trivial⟩ ?_
 ·show nds zs=Me.put (Me.build addrs polls k) (Me.nodeAt addrs polls k)
  rw[hna,← hN,hput,hzs]
  unfold nds
  rw[List.map_append,List.map_cons,List.map_take,List.map_drop]
 ·intro z hz
  rcases hmem z hz with hz|rfl
  ·exact fun w2 hg2=>hO z hz w2 (jS hg2 (by simp))
  ·exact fun w2 hg2=>hO2 w2 (jS hg2 (by simp))
 ·intro z hz
  rcases hmem z hz with hz|rfl
  ·exact hG z hz
  ·exact GdN.new a P
 ·show Ent _ _ [meB b6 0 (sv (ar,cr) zs.length),jU b4 meZ 26,cNd (sv (ar,cr) zs.length) zs,jD [jD G2,jD G]]
  exact Ent.trans (Ent.pick (H':=[jD G2,jD G]++[meB b6 0 (sv (ar,cr) zs.length),jU b4 meZ 26,cNd (sv (ar,cr) zs.length) zs]) [1,4,2,3,0] I I) (Ent.trans Ent.group (Ent.pick [1,2,3,0] I I))
end Go.Proofs.YtgfdoognildoeaaGreat
namespace Me
open Go.GX Nd Tp
theorem jFW:∀ {l m:List Int},l.Nodup→(∀ a∈l,a∈m)→l.length≤m.length
 |[],m,_,_=>Nat.zero_le _
 |a::l,m,hn,hs=>by
  rw[List.nodup_cons]at hn
  have ha:a∈m:=hs a (List.mem_cons_self ..)
  have h1:=jFW (l:=l) (m:=m.erase a) hn.2 fun b hb=>by
   have hne:b≠a:=fun e=>hn.1 (e▸hb)
   exact (List.mem_erase_of_ne hne).2 (hs b (List.mem_cons_of_mem _ hb))
  rw[List.length_erase_of_mem ha]at h1
  have:=List.length_pos_of_mem ha
  simp only[List.length_cons]
  omega
theorem jSG {l:List Nd.Nd} {a:Int} {i:Nat} (h:idx l a=some i):a∈l.map (·.addr):=by
 obtain ⟨h1,h2⟩:=jBx h
 exact List.mem_map.2 ⟨_,List.mem_of_getElem? h1,h2⟩
structure Fol (l:List Nd.Nd) (src to:Int) (k:Nat) (p:List Int) (now:Int):Prop where
 eq:jNY l to k p now=follow l src to
 nod:p.Nodup
 sub:∀a∈p,a∈l.map (·.addr)
 dst:to ∉ p
 len:p.length+k=l.length+2
theorem Fol.start (l:List Nd.Nd) (src to:Int):Fol l src to (l.length+2) [] src:=⟨rfl,List.nodup_nil,fun a h=>(List.not_mem_nil h).elim,List.not_mem_nil,by simp⟩
section
variable {l : List Nd.Nd} {src to now : Int} {k : Nat} {p : List Int}
theorem Fol.le (h:Fol l src to k p now):p.length≤l.length:=by have:=jFW h.nod h.sub;simpa using this
theorem Fol.pos (h:Fol l src to k p now):∃j,k=j+1:=⟨k-1,by have:=h.le;have:=h.len;omega⟩
theorem Fol.none (h:Fol l src to k p now) (hi:idx l now=none):follow l src to=(p,1):=by
 obtain ⟨j,rfl⟩:=h.pos
 rw[← h.eq];unfold jNY;rw[hi]
theorem Fol.again (h:Fol l src to k p now) {i:Nat} (hi:idx l now=some i) (hp:now∈p):follow l src to=(p,2):=by
 obtain ⟨j,rfl⟩:=h.pos
 rw[← h.eq];unfold jNY;rw[hi];simp only;rw[if_pos hp]
theorem Fol.done (h:Fol l src to k p now) {i:Nat} (hi:idx l now=some i) (hp:now ∉ p) (he:now=to):follow l src to=(p++[now],0):=by
 obtain ⟨j,rfl⟩:=h.pos
 rw[← h.eq];unfold jNY;rw[hi];simp only;rw[if_neg hp,if_pos he]
theorem Fol.stop (h:Fol l src to k p now) {i:Nat} (hi:idx l now=some i) (hp:now ∉ p) (he:now≠to) (hh:(KF (nth l i).table to).2=false):follow l src to=(p++[now],1):=by
 obtain ⟨j,rfl⟩:=h.pos
 rw[← h.eq];unfold jNY;rw[hi];simp only;rw[if_neg hp,if_neg he,if_neg (by rw[hh];decide)]
theorem Fol.step (h:Fol l src to k p now) {i:Nat} (hi:idx l now=some i) (hp:now ∉ p) (he:now≠to) (hh:(KF (nth l i).table to).2=true):Fol l src to (k-1) (p++[now]) (KF (nth l i).table to).1:=by
 have hl:=h.len
 obtain ⟨j,rfl⟩:=h.pos
 refine ⟨?_,?_,fun a ha=>?_,?_,by simp;omega⟩
 ·rw [← h.eq]
  conv=>rhs;unfold jNY
  rw[hi];simp only;rw[if_neg hp,if_neg he,if_pos hh];rfl
 ·rw [List.nodup_append]
  exact ⟨h.nod,by simp,fun a ha b hb=>by rw[List.mem_singleton.1 hb];exact fun e=>hp (e▸ha)⟩
 ·rcases List.mem_append.1 ha with ha|ha
  ·exact h.sub a ha
  ·rw [List.mem_singleton.1 ha];exact jSG hi
 ·rw [List.mem_append,List.mem_singleton]
  rintro (h1|h1)
  ·exact h.dst h1
  ·exact he h1.symm
theorem Fol.back (h:Fol l src to k p now) (hp:now∈p):∃i,idx l now=some i:=by
 obtain ⟨x,hx,e⟩:=List.mem_map.1 (h.sub now hp)
 rw[← e]
 exact jMp hx
theorem Fol.two (h:Fol l src to k p now) (hp:now∈p):(follow l src to).2=2:=by
 obtain ⟨i,hi⟩:=h.back hp
 rw[h.again hi hp]
theorem Fol.at_end (h:Fol l src to k p now) (he:now=to):(follow l src to).2≠2:=by
 have hp:now ∉ p:=by rw[he];exact h.dst
 cases hi:idx l now with
 |none=>rw[h.none hi];exact show (1:Int)≠2 by decide
 |some i=>rw[h.done hi hp he];exact show (0:Int)≠2 by decide
end
theorem jL4 {l:List Nd.Nd} {src to:Int} {p:List Int} {e:Int} (h:follow l src to=(p,e)):path l src to=if e=0 then (p,true)else ([],false):=by
 unfold path;rw[h]
end Me
