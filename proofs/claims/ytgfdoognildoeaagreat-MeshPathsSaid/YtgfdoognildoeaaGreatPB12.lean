/- A part of the proof: contracts of the program's functions. Conditions: none. -/
import Derived.Carry
import Derived.Deep.MidRow
import Derived.Deep.Quiet
import Derived.Laws.IdiomRangeMap
import Derived.Laws.MakeOwn
import Derived.Laws.StructEq
import Derived.Laws.Tables
import Derived.Lib.AppendStr
import Derived.Lib.AppendZerosOnto
import Derived.Lib.OthersKept
import Derived.Lib.Overlaps
import Derived.Lib.OwnBridge
import Derived.Lib.SlicesCompact
import Derived.MapKept
import Derived.Orders
import Derived.OrdersHeld
import Derived.Scope
import Derived.Sort.Grow
import Derived.StillTail
import Derived.Test.YtgfdoognildoeaaGreatProg
import Derived.Test.YtgfdoognildoeaaGreatShelf
import Derived.WalkKit
import Derived.WalkLawsBesides
import Derived.WalkSpells
import Derived.Test.YtgfdoognildoeaaGreatPB1
import Derived.Test.YtgfdoognildoeaaGreatPB2
import Derived.Test.YtgfdoognildoeaaGreatPB3
import Derived.Test.YtgfdoognildoeaaGreatPB4
import Derived.Test.YtgfdoognildoeaaGreatPB5
import Derived.Test.YtgfdoognildoeaaGreatPB6
import Derived.Test.YtgfdoognildoeaaGreatPB7
import Derived.Test.YtgfdoognildoeaaGreatPB8
import Derived.Test.YtgfdoognildoeaaGreatPB9
import Derived.Test.YtgfdoognildoeaaGreatPB10
import Derived.Test.YtgfdoognildoeaaGreatPB11
set_option linter.unusedVariables false
set_option linter.unusedSectionVars false
set_option linter.unusedSimpArgs false
set_option maxRecDepth 100000
set_option maxHeartbeats 4000000
namespace Go.Proofs.YtgfdoognildoeaaGreat
open Go.GX Go.RowKit
attribute [local irreducible] Calls Run RunL RunQ RunD HR HL HD blkC ownC mapC Rd slicesC iterC
open Ra
theorem fn77:IsFn Tryz.prog 77:=⟨⟨_,_,Tryz.func77,rfl,by decide⟩⟩
theorem fn82:IsFn Tryz.prog 82:=⟨⟨_,_,Tryz.func82,rfl,by decide⟩⟩
theorem fn81:IsFn Tryz.prog 81:=⟨⟨_,_,Tryz.func81,rfl,by decide⟩⟩
theorem elemL:Elem Tryz.prog 184 22 1 24:=⟨rfl,⟨_,_,rfl,rfl,rfl,rfl,rfl⟩,by decide⟩
abbrev airV (ve vo vn:Value):Value:= .agg ⟨[ve,vo,vn]⟩
structure OkA (w:World) (a:Air) (ve vo vn:Value):Prop where
 e:Sl w ve (cellsOf edC a.e) a.e.length
 o:Sl w vo (cellsOf iC a.o) a.o.length
 n:Sl w vn (cellsOf iC a.n) a.n.length
 le:a.e.length≤300
 lo:a.o.length≤60
 ln:a.n.length≤60
theorem OkA.at {w0 w:World} {a:Air} {ve vo vn:Value} (h:OkA w0 a ve vo vn) {H:List Chunk} (hw:Sat (base w0) H w):OkA w a ve vo vn:=⟨(Rd.arg h.e).at hw,(Rd.arg h.o).at hw,(Rd.arg h.n).at hw,h.le,h.lo,h.ln⟩
theorem joined_any (ls:List (Value×List Int)) (vl:Value) (w:World) (hl:Sl w vl (cellsOf (fun p:Value×List Int=>[p.1]) ls) ls.length) (hs:∀p∈ls,Sl w p.1 (cellsOf iC p.2) p.2.length) (hlen:ls.length≤2) (hb:∀p∈ls,p.2.length≤1000):
  Calls Tryz.prog 82 #[vl] w fun e w'=>∃v,e= .returned v∧Sat (base w) [ownC v 3 1 (ls.map (·.2)).flatten.length (cellsOf iC (ls.map (·.2)).flatten)] w':=by
 refine calls_hr Tryz.func82 I (Nat.le_of_ble_eq_true I) ?_
 refine HR.sub (σ':=[(0,vl)]) ⟨I,trivial⟩ ?_
 repeat' (first|(refine HL.isOp ?_;first|refine HL.ev I I ?_|refine HL.evc I I (by first|omega|(simp;done)|(simp;omega)) ?_|refine HL.lenR (Rd.arg hl) I I I ?_|(refine HL.isLoad ?_;first|refine HL.L 0 I I I I ?_|refine HL.L 1 I I I I ?_|refine HL.L 2 I I I I ?_|refine HL.L 3 I I I I ?_)|(refine HL.isStore ?_;first|refine HL.S 0 I I I I I ?_|refine HL.S 1 I I I I I ?_|refine HL.S 2 I I I I I ?_|refine HL.S 3 I I I I I ?_)|refine HL.build I I ?_|refine HL.field I I ?_|(refine HL.box I I ?_;intro bk)|(refine HL.alloc I I ?_;intro bk)|refine HL.skip rfl rfl ?_|refine HL.skip0 rfl ?_|apply HL.andB rfl rfl rfl rfl rfl rfl rfl rfl|apply HL.orB rfl rfl rfl rfl rfl rfl rfl rfl)|refine HL.nil ?_|refine HR.ctl rfl ?_|refine HR.region ?_|refine HR.condT rfl ?_|refine HR.condF rfl ?_|exact HL.blkEnd rfl rfl Ent.refl|(refine fun (hb:(_:Bool)=_)=>?_;try simp at hb))
 refine HR.nilC 3 1 ?_
 refine HR.loop2 (α:=Nat) (β:=Value) (fun k v=>k≤ls.length∧((ls.take k).map (·.2)).flatten.length≤1000*k) (fun k v=>[(3,v),(6,vl),(7,.int .i64 (ls.length:Int)),(8,.int .i64 (k:Int))]) (fun k v=>[ownC v 3 1 ((ls.take k).map (·.2)).flatten.length (cellsOf iC ((ls.take k).map (·.2)).flatten)]) (fun k v=>ls.length-k) 0 (.slice none 0 0) ⟨Nat.zero_le _,by simp⟩ ⟨I,I,I,I,trivial⟩ Ent.refl ?_
 rintro k v ⟨hk,hkl⟩ ih
 repeat' (first|(refine HL.isOp ?_;first|refine HL.ev I I ?_|refine HL.evc I I (by first|omega|(simp;done)|(simp;omega)) ?_|(refine HL.isLoad ?_;first|refine HL.L 0 I I I I ?_|refine HL.L 1 I I I I ?_|refine HL.L 2 I I I I ?_|refine HL.L 3 I I I I ?_)|(refine HL.isStore ?_;first|refine HL.S 0 I I I I I ?_|refine HL.S 1 I I I I I ?_|refine HL.S 2 I I I I I ?_|refine HL.S 3 I I I I I ?_)|refine HL.build I I ?_|refine HL.field I I ?_|(refine HL.box I I ?_;intro bk)|(refine HL.alloc I I ?_;intro bk)|refine HL.skip rfl rfl ?_|refine HL.skip0 rfl ?_|apply HL.andB rfl rfl rfl rfl rfl rfl rfl rfl|apply HL.orB rfl rfl rfl rfl rfl rfl rfl rfl)|refine HL.nil ?_|refine HR.ctl rfl ?_|refine HR.region ?_|refine HR.condT rfl ?_|refine HR.condF rfl ?_|exact HL.blkEnd rfl rfl Ent.refl|(refine fun (hb:(_:Bool)=_)=>?_;try simp at hb))
 refine HR.cond I (fun h2=>?_) (fun h2=>?_)
 ·have hlt:k<ls.length:=by have:=of_decide_eq_true h2;omega
  obtain ⟨p,hp⟩:=getSome hlt
  have hpl:=hb p (List.mem_of_getElem? hp)
  have hps:=hs p (List.mem_of_getElem? hp)
  repeat' (first|(refine HL.isOp ?_;first|refine HL.ev I I ?_|refine HL.evc I I (by first|omega|(simp;done)|(simp;omega)) ?_|refine HL.idxR (Rd.arg hl) elemL k I I I I hlt ?_|refine HL.loadI (Rd.arg hl) I I I I (cellsOf_get1 (f:=fun p:Value×List Int=>p.1) hp) ?_|refine HL.appR 0 I elemI (Rd.arg hps) I I I (cellsOf_len iC_len _) (one_allcells (fun _=>rfl) _) (by omega) (by omega) ?_|(refine HL.isLoad ?_;first|refine HL.L 0 I I I I ?_|refine HL.L 1 I I I I ?_|refine HL.L 2 I I I I ?_|refine HL.L 3 I I I I ?_)|(refine HL.isStore ?_;first|refine HL.S 0 I I I I I ?_|refine HL.S 1 I I I I I ?_|refine HL.S 2 I I I I I ?_|refine HL.S 3 I I I I I ?_)|refine HL.build I I ?_|refine HL.field I I ?_|(refine HL.box I I ?_;intro bk)|(refine HL.alloc I I ?_;intro bk)|refine HL.skip rfl rfl ?_|refine HL.skip0 rfl ?_|apply HL.andB rfl rfl rfl rfl rfl rfl rfl rfl|apply HL.orB rfl rfl rfl rfl rfl rfl rfl rfl)|refine HL.nil ?_|refine HR.ctl rfl ?_|refine HR.region ?_|refine HR.condT rfl ?_|refine HR.condF rfl ?_|exact HL.blkEnd rfl rfl Ent.refl|(refine fun (hb:(_:Bool)=_)=>?_;try simp at hb))
  intro v2
  repeat' (first|(refine HL.isOp ?_;first|refine HL.ev I I ?_|refine HL.evc I I (by first|omega|(simp;done)|(simp;omega)) ?_|(refine HL.isLoad ?_;first|refine HL.L 0 I I I I ?_|refine HL.L 1 I I I I ?_|refine HL.L 2 I I I I ?_|refine HL.L 3 I I I I ?_)|(refine HL.isStore ?_;first|refine HL.S 0 I I I I I ?_|refine HL.S 1 I I I I I ?_|refine HL.S 2 I I I I I ?_|refine HL.S 3 I I I I I ?_)|refine HL.build I I ?_|refine HL.field I I ?_|(refine HL.box I I ?_;intro bk)|(refine HL.alloc I I ?_;intro bk)|refine HL.skip rfl rfl ?_|refine HL.skip0 rfl ?_|apply HL.andB rfl rfl rfl rfl rfl rfl rfl rfl|apply HL.orB rfl rfl rfl rfl rfl rfl rfl rfl)|refine HL.nil ?_|refine HR.ctl rfl ?_|refine HR.region ?_|refine HR.condT rfl ?_|refine HR.condF rfl ?_|exact HL.blkEnd rfl rfl Ent.refl|(refine fun (hb:(_:Bool)=_)=>?_;try simp at hb))
  have et:((ls.take (k+1)).map (·.2)).flatten=((ls.take k).map (·.2)).flatten++p.2:=by rw[take_succ_get hp];simp
  refine ih (k+1) v2 _ _ ⟨hlt,by rw[et,List.length_append];omega⟩ (by omega) ⟨I,I,I,I,trivial⟩ (Ent.own0 ?_ ?_)
  ·rw [et,List.length_append]
  ·rw [et,cellsOf_app]
 ·have hke:k=ls.length:=by have:=of_decide_eq_false h2;omega
  subst hke
  repeat' (first|(refine HL.isOp ?_;first|refine HL.ev I I ?_|refine HL.evc I I (by first|omega|(simp;done)|(simp;omega)) ?_|(refine HL.isLoad ?_;first|refine HL.L 0 I I I I ?_|refine HL.L 1 I I I I ?_|refine HL.L 2 I I I I ?_|refine HL.L 3 I I I I ?_)|(refine HL.isStore ?_;first|refine HL.S 0 I I I I I ?_|refine HL.S 1 I I I I I ?_|refine HL.S 2 I I I I I ?_|refine HL.S 3 I I I I I ?_)|refine HL.build I I ?_|refine HL.field I I ?_|(refine HL.box I I ?_;intro bk)|(refine HL.alloc I I ?_;intro bk)|refine HL.skip rfl rfl ?_|refine HL.skip0 rfl ?_|apply HL.andB rfl rfl rfl rfl rfl rfl rfl rfl|apply HL.orB rfl rfl rfl rfl rfl rfl rfl rfl)|refine HL.nil ?_|refine HR.ctl rfl ?_|refine HR.region ?_|refine HR.condT rfl ?_|refine HR.condF rfl ?_|exact HL.blkEnd rfl rfl Ent.refl|(refine fun (hb:(_:Bool)=_)=>?_;try simp at hb))
  refine HR.ret Tryz.func82 I [_] (fun _ _=>⟨I,trivial⟩) ?_
  rw[List.take_length]
  exact fun w' hw=>⟨v,rfl,hw⟩
theorem joined2 {l m:List Int} {v1 v2 vl:Value} {w:World} (hl:Sl w vl [v1,v2] 2) (h1:Sl w v1 (cellsOf iC l) l.length) (h2:Sl w v2 (cellsOf iC m) m.length) (b1:l.length≤60) (b2:m.length≤60):
  Calls Tryz.prog 82 #[vl] w fun e w'=>∃v,e= .returned v∧Sat (base w) [ownC v 3 1 (l++m).length (cellsOf iC (l++m))] w':=by
 have:=joined_any [(v1,l),(v2,m)] vl w hl (fun p hp=>by simp only[List.mem_cons,List.not_mem_nil,or_false]at hp;rcases hp with rfl|rfl;exact h1;exact h2) (Nat.le_refl _) (fun p hp=>by simp at hp;rcases hp with rfl|rfl<;>simp<;>omega)
 simpa using this
theorem check18_any (a:Air) (ve vo vn:Value) (w:World) (hv:OkA w a ve vo vn):
  Calls Tryz.prog 77 #[airV ve vo vn] w fun e w'=>e= .returned (.int .i64 (Ra.check a))∧Below w.heap.size w w':=by
 have le:=hv.le
 have lo:=hv.lo
 have ln:=hv.ln
 obtain ⟨o1,o2,rfl,_⟩:=hv.o.2
 obtain ⟨n1,n2,rfl,_⟩:=hv.n.2
 refine calls_hr Tryz.func77 I (Nat.le_of_ble_eq_true I) ?_
 refine HR.sub (σ':=[(0,airV ve (.slice o1 a.o.length o2) (.slice n1 a.n.length n2))]) ⟨I,trivial⟩ ?_
 repeat' (first|(refine HL.isOp ?_;first|refine HL.ev I I ?_|refine HL.evc I I (by first|omega|(simp;done)|(simp;omega)) ?_|refine HL.callB fn147 I I (fun w hw=>check_any a.e ve w ((Rd.arg hv.e).at hw) (by omega)) ?_|(refine HL.isLoad ?_;first|refine HL.L 0 I I I I ?_|refine HL.L 1 I I I I ?_|refine HL.L 2 I I I I ?_|refine HL.L 3 I I I I ?_)|(refine HL.isStore ?_;first|refine HL.S 0 I I I I I ?_|refine HL.S 1 I I I I I ?_|refine HL.S 2 I I I I I ?_|refine HL.S 3 I I I I I ?_)|refine HL.build I I ?_|refine HL.field I I ?_|(refine HL.box I I ?_;intro bk)|(refine HL.alloc I I ?_;intro bk)|refine HL.skip rfl rfl ?_|refine HL.skip0 rfl ?_|apply HL.andB rfl rfl rfl rfl rfl rfl rfl rfl|apply HL.orB rfl rfl rfl rfl rfl rfl rfl rfl)|refine HL.nil ?_|refine HR.ctl rfl ?_|refine HR.region ?_|refine HR.condT rfl ?_|refine HR.condF rfl ?_|exact HL.blkEnd rfl rfl Ent.refl|(refine fun (hb:(_:Bool)=_)=>?_;try simp at hb))
 refine HR.cond I (fun h=>?_) (fun h=>?_)
 ·repeat' (first|(refine HL.isOp ?_;first|refine HL.ev I I ?_|refine HL.evc I I (by first|omega|(simp;done)|(simp;omega)) ?_|(refine HL.isLoad ?_;first|refine HL.L 0 I I I I ?_|refine HL.L 1 I I I I ?_|refine HL.L 2 I I I I ?_|refine HL.L 3 I I I I ?_)|(refine HL.isStore ?_;first|refine HL.S 0 I I I I I ?_|refine HL.S 1 I I I I I ?_|refine HL.S 2 I I I I I ?_|refine HL.S 3 I I I I I ?_)|refine HL.build I I ?_|refine HL.field I I ?_|(refine HL.box I I ?_;intro bk)|(refine HL.alloc I I ?_;intro bk)|refine HL.skip rfl rfl ?_|refine HL.skip0 rfl ?_|apply HL.andB rfl rfl rfl rfl rfl rfl rfl rfl|apply HL.orB rfl rfl rfl rfl rfl rfl rfl rfl)|refine HL.nil ?_|refine HR.ctl rfl ?_|refine HR.region ?_|refine HR.condT rfl ?_|refine HR.condF rfl ?_|exact HL.blkEnd rfl rfl Ent.refl|(refine fun (hb:(_:Bool)=_)=>?_;try simp at hb))
  refine HR.ret Tryz.func77 I [_] (fun _ _=>⟨I,trivial⟩) ?_
  exact fun w' hw=>⟨by rw[check_e (by simpa using h)];rfl,hw.belowB⟩
 have h0:Tp.check a.e=0:=by simpa using h
 repeat' (first|(refine HL.isOp ?_;first|refine HL.ev I I ?_|refine HL.evc I I (by first|omega|(simp;done)|(simp;omega)) ?_|(refine HL.isLoad ?_;first|refine HL.L 0 I I I I ?_|refine HL.L 1 I I I I ?_|refine HL.L 2 I I I I ?_|refine HL.L 3 I I I I ?_)|(refine HL.isStore ?_;first|refine HL.S 0 I I I I I ?_|refine HL.S 1 I I I I I ?_|refine HL.S 2 I I I I I ?_|refine HL.S 3 I I I I I ?_)|refine HL.build I I ?_|refine HL.field I I ?_|(refine HL.box I I ?_;intro bk)|(refine HL.alloc I I ?_;intro bk)|refine HL.skip rfl rfl ?_|refine HL.skip0 rfl ?_|apply HL.andB rfl rfl rfl rfl rfl rfl rfl rfl|apply HL.orB rfl rfl rfl rfl rfl rfl rfl rfl)|refine HL.nil ?_|refine HR.ctl rfl ?_|refine HR.region ?_|refine HR.condT rfl ?_|refine HR.condF rfl ?_|exact HL.blkEnd rfl rfl Ent.refl|(refine fun (hb:(_:Bool)=_)=>?_;try simp at hb))
 refine HL.bslice elemL I I I I I (by decide) (by decide) ?_
 intro v1
 refine HL.callO fn82 I I (fun w hw=>joined2 ((Rd.own 0 rfl).at hw) ((Rd.arg hv.o).at hw) ((Rd.arg hv.n).at hw) hv.lo hv.ln) ?_
 intro v2
 have hal:(a.o++a.n).length≤120:=by rw[List.length_append];omega
 repeat' (first|(refine HL.isOp ?_;first|refine HL.ev I I ?_|refine HL.evc I I (by first|omega|(simp;done)|(simp;omega)) ?_|refine HL.lenR (Rd.own 0 I) I I I ?_|(refine HL.isLoad ?_;first|refine HL.L 0 I I I I ?_|refine HL.L 1 I I I I ?_|refine HL.L 2 I I I I ?_|refine HL.L 3 I I I I ?_)|(refine HL.isStore ?_;first|refine HL.S 0 I I I I I ?_|refine HL.S 1 I I I I I ?_|refine HL.S 2 I I I I I ?_|refine HL.S 3 I I I I I ?_)|refine HL.build I I ?_|refine HL.field I I ?_|(refine HL.box I I ?_;intro bk)|(refine HL.alloc I I ?_;intro bk)|refine HL.skip rfl rfl ?_|refine HL.skip0 rfl ?_|apply HL.andB rfl rfl rfl rfl rfl rfl rfl rfl|apply HL.orB rfl rfl rfl rfl rfl rfl rfl rfl)|refine HL.nil ?_|refine HR.ctl rfl ?_|refine HR.region ?_|refine HR.condT rfl ?_|refine HR.condF rfl ?_|exact HL.blkEnd rfl rfl Ent.refl|(refine fun (hb:(_:Bool)=_)=>?_;try simp at hb))
 refine HR.loop (ι:=Nat) (fun k=>k≤(a.o++a.n).length∧((a.o++a.n).take k).all Tp.okN=true) (fun k=>[(1,.pointer (some ⟨bk,0,none⟩)),(17,v2),(18,.int .i64 ((a.o++a.n).length:Int)),(19,.int .i64 (k:Int))]) (fun _=>[ownC v2 3 1 (a.o++a.n).length (cellsOf iC (a.o++a.n)),blkC bk [ve,.slice o1 a.o.length o2,.slice n1 a.n.length n2] 34]) (fun k=>(a.o++a.n).length-k) 0 ⟨Nat.zero_le _,by simp⟩ ⟨I,I,I,I,trivial⟩ (Ent.pick [0,2] I I) ?_
 rintro k ⟨hk,hg⟩ ih
 repeat' (first|(refine HL.isOp ?_;first|refine HL.ev I I ?_|refine HL.evc I I (by first|omega|(simp;done)|(simp;omega)) ?_|(refine HL.isLoad ?_;first|refine HL.L 0 I I I I ?_|refine HL.L 1 I I I I ?_|refine HL.L 2 I I I I ?_|refine HL.L 3 I I I I ?_)|(refine HL.isStore ?_;first|refine HL.S 0 I I I I I ?_|refine HL.S 1 I I I I I ?_|refine HL.S 2 I I I I I ?_|refine HL.S 3 I I I I I ?_)|refine HL.build I I ?_|refine HL.field I I ?_|(refine HL.box I I ?_;intro bk)|(refine HL.alloc I I ?_;intro bk)|refine HL.skip rfl rfl ?_|refine HL.skip0 rfl ?_|apply HL.andB rfl rfl rfl rfl rfl rfl rfl rfl|apply HL.orB rfl rfl rfl rfl rfl rfl rfl rfl)|refine HL.nil ?_|refine HR.ctl rfl ?_|refine HR.region ?_|refine HR.condT rfl ?_|refine HR.condF rfl ?_|exact HL.blkEnd rfl rfl Ent.refl|(refine fun (hb:(_:Bool)=_)=>?_;try simp at hb))
 refine HR.cond I (fun h2=>?_) (fun h2=>?_)
 ·have hlt:k<(a.o++a.n).length:=by have:=of_decide_eq_true h2;omega
  obtain ⟨x,hx⟩:=getSome hlt
  repeat' (first|(refine HL.isOp ?_;first|refine HL.ev I I ?_|refine HL.evc I I (by first|omega|(simp;done)|(simp;omega)) ?_|refine HL.idxR (Rd.own 0 I) elemI k I I I I hlt ?_|refine HL.loadI (Rd.own 0 I) I I I I (cellsOf_get1 hx) ?_|(refine HL.isLoad ?_;first|refine HL.L 0 I I I I ?_|refine HL.L 1 I I I I ?_|refine HL.L 2 I I I I ?_|refine HL.L 3 I I I I ?_)|(refine HL.isStore ?_;first|refine HL.S 0 I I I I I ?_|refine HL.S 1 I I I I I ?_|refine HL.S 2 I I I I I ?_|refine HL.S 3 I I I I I ?_)|refine HL.build I I ?_|refine HL.field I I ?_|(refine HL.box I I ?_;intro bk)|(refine HL.alloc I I ?_;intro bk)|refine HL.skip rfl rfl ?_|refine HL.skip0 rfl ?_|apply HL.andB rfl rfl rfl rfl rfl rfl rfl rfl|apply HL.orB rfl rfl rfl rfl rfl rfl rfl rfl)|refine HL.nil ?_|refine HR.ctl rfl ?_|refine HR.region ?_|refine HR.condT rfl ?_|refine HR.condF rfl ?_|exact HL.blkEnd rfl rfl Ent.refl|(refine fun (hb:(_:Bool)=_)=>?_;try simp at hb))
  have hx2:(decide (x<0)||decide (x>250))=!Tp.okN x:=by
   rw[Bool.eq_iff_iff];simp only[Tp.okN,Bool.or_eq_true,decide_eq_true_eq,Bool.not_eq_true',Bool.and_eq_false_iff,decide_eq_false_iff_not];omega
  refine HR.cond I (fun h3=>?_) (fun h3=>?_)
  ·rw [hx2]at h3
   repeat' (first|(refine HL.isOp ?_;first|refine HL.ev I I ?_|refine HL.evc I I (by first|omega|(simp;done)|(simp;omega)) ?_|(refine HL.isLoad ?_;first|refine HL.L 0 I I I I ?_|refine HL.L 1 I I I I ?_|refine HL.L 2 I I I I ?_|refine HL.L 3 I I I I ?_)|(refine HL.isStore ?_;first|refine HL.S 0 I I I I I ?_|refine HL.S 1 I I I I I ?_|refine HL.S 2 I I I I I ?_|refine HL.S 3 I I I I I ?_)|refine HL.build I I ?_|refine HL.field I I ?_|(refine HL.box I I ?_;intro bk)|(refine HL.alloc I I ?_;intro bk)|refine HL.skip rfl rfl ?_|refine HL.skip0 rfl ?_|apply HL.andB rfl rfl rfl rfl rfl rfl rfl rfl|apply HL.orB rfl rfl rfl rfl rfl rfl rfl rfl)|refine HL.nil ?_|refine HR.ctl rfl ?_|refine HR.region ?_|refine HR.condT rfl ?_|refine HR.condF rfl ?_|exact HL.blkEnd rfl rfl Ent.refl|(refine fun (hb:(_:Bool)=_)=>?_;try simp at hb))
   refine HR.ret Tryz.func77 I [_] (fun _ _=>⟨I,trivial⟩) ?_
   exact fun w' hw=>⟨by rw[check_2 h0 (all_at hx (by simpa using h3))];rfl,hw.belowB⟩
  ·rw [hx2]at h3
   repeat' (first|(refine HL.isOp ?_;first|refine HL.ev I I ?_|refine HL.evc I I (by first|omega|(simp;done)|(simp;omega)) ?_|(refine HL.isLoad ?_;first|refine HL.L 0 I I I I ?_|refine HL.L 1 I I I I ?_|refine HL.L 2 I I I I ?_|refine HL.L 3 I I I I ?_)|(refine HL.isStore ?_;first|refine HL.S 0 I I I I I ?_|refine HL.S 1 I I I I I ?_|refine HL.S 2 I I I I I ?_|refine HL.S 3 I I I I I ?_)|refine HL.build I I ?_|refine HL.field I I ?_|(refine HL.box I I ?_;intro bk)|(refine HL.alloc I I ?_;intro bk)|refine HL.skip rfl rfl ?_|refine HL.skip0 rfl ?_|apply HL.andB rfl rfl rfl rfl rfl rfl rfl rfl|apply HL.orB rfl rfl rfl rfl rfl rfl rfl rfl)|refine HL.nil ?_|refine HR.ctl rfl ?_|refine HR.region ?_|refine HR.condT rfl ?_|refine HR.condF rfl ?_|exact HL.blkEnd rfl rfl Ent.refl|(refine fun (hb:(_:Bool)=_)=>?_;try simp at hb))
   exact ih (k+1) _ _ ⟨hlt,by rw[all_take hx,hg];simpa using h3⟩ (by omega) ⟨I,I,I,I,trivial⟩ Ent.refl
 have hke:k=(a.o++a.n).length:=by have:=of_decide_eq_false h2;omega
 subst hke
 rw[List.take_length]at hg
 repeat' (first|(refine HL.isOp ?_;first|refine HL.ev I I ?_|refine HL.evc I I (by first|omega|(simp;done)|(simp;omega)) ?_|refine HL.lenR (Rd.arg hv.o) I I I ?_|refine HL.lenR (Rd.arg hv.n) I I I ?_|(refine HL.isLoad ?_;first|refine HL.L 0 I I I I ?_|refine HL.L 1 I I I I ?_|refine HL.L 2 I I I I ?_|refine HL.L 3 I I I I ?_)|(refine HL.isStore ?_;first|refine HL.S 0 I I I I I ?_|refine HL.S 1 I I I I I ?_|refine HL.S 2 I I I I I ?_|refine HL.S 3 I I I I I ?_)|refine HL.build I I ?_|refine HL.field I I ?_|(refine HL.box I I ?_;intro bk)|(refine HL.alloc I I ?_;intro bk)|refine HL.skip rfl rfl ?_|refine HL.skip0 rfl ?_|apply HL.andB rfl rfl rfl rfl rfl rfl rfl rfl|apply HL.orB rfl rfl rfl rfl rfl rfl rfl rfl)|refine HL.nil ?_|refine HR.ctl rfl ?_|refine HR.region ?_|refine HR.condT rfl ?_|refine HR.condF rfl ?_|exact HL.blkEnd rfl rfl Ent.refl|(refine fun (hb:(_:Bool)=_)=>?_;try simp at hb))
 refine HR.cond I (fun h3=>?_) (fun h3=>?_)
 ·have h3:(decide ((a.o.length:Int)>24)||decide ((a.n.length:Int)>24))=true:=h3
  simp only[Bool.or_eq_true,decide_eq_true_eq]at h3
  repeat' (first|(refine HL.isOp ?_;first|refine HL.ev I I ?_|refine HL.evc I I (by first|omega|(simp;done)|(simp;omega)) ?_|(refine HL.isLoad ?_;first|refine HL.L 0 I I I I ?_|refine HL.L 1 I I I I ?_|refine HL.L 2 I I I I ?_|refine HL.L 3 I I I I ?_)|(refine HL.isStore ?_;first|refine HL.S 0 I I I I I ?_|refine HL.S 1 I I I I I ?_|refine HL.S 2 I I I I I ?_|refine HL.S 3 I I I I I ?_)|refine HL.build I I ?_|refine HL.field I I ?_|(refine HL.box I I ?_;intro bk)|(refine HL.alloc I I ?_;intro bk)|refine HL.skip rfl rfl ?_|refine HL.skip0 rfl ?_|apply HL.andB rfl rfl rfl rfl rfl rfl rfl rfl|apply HL.orB rfl rfl rfl rfl rfl rfl rfl rfl)|refine HL.nil ?_|refine HR.ctl rfl ?_|refine HR.region ?_|refine HR.condT rfl ?_|refine HR.condF rfl ?_|exact HL.blkEnd rfl rfl Ent.refl|(refine fun (hb:(_:Bool)=_)=>?_;try simp at hb))
  refine HR.ret Tryz.func77 I [_] (fun _ _=>⟨I,trivial⟩) ?_
  exact fun w' hw=>⟨by rw[check_3 h0 hg (by omega)];rfl,hw.belowB⟩
 ·have h3:(decide ((a.o.length:Int)>24)||decide ((a.n.length:Int)>24))=false:=h3
  simp only[Bool.or_eq_false_iff,decide_eq_false_iff_not]at h3
  repeat' (first|(refine HL.isOp ?_;first|refine HL.ev I I ?_|refine HL.evc I I (by first|omega|(simp;done)|(simp;omega)) ?_|(refine HL.isLoad ?_;first|refine HL.L 0 I I I I ?_|refine HL.L 1 I I I I ?_|refine HL.L 2 I I I I ?_|refine HL.L 3 I I I I ?_)|(refine HL.isStore ?_;first|refine HL.S 0 I I I I I ?_|refine HL.S 1 I I I I I ?_|refine HL.S 2 I I I I I ?_|refine HL.S 3 I I I I I ?_)|refine HL.build I I ?_|refine HL.field I I ?_|(refine HL.box I I ?_;intro bk)|(refine HL.alloc I I ?_;intro bk)|refine HL.skip rfl rfl ?_|refine HL.skip0 rfl ?_|apply HL.andB rfl rfl rfl rfl rfl rfl rfl rfl|apply HL.orB rfl rfl rfl rfl rfl rfl rfl rfl)|refine HL.nil ?_|refine HR.ctl rfl ?_|refine HR.region ?_|refine HR.condT rfl ?_|refine HR.condF rfl ?_|exact HL.blkEnd rfl rfl Ent.refl|(refine fun (hb:(_:Bool)=_)=>?_;try simp at hb))
  refine HR.ret Tryz.func77 I [_] (fun _ _=>⟨I,trivial⟩) ?_
  exact fun w' hw=>⟨by rw[check_0 h0 hg (by omega)];rfl,hw.belowB⟩
end Go.Proofs.YtgfdoognildoeaaGreat
namespace Go.Proofs.YtgfdoognildoeaaGreat
open Go.GX Go.RowKit
attribute [local irreducible] Calls Run RunL RunQ RunD HR HL HD blkC ownC mapC Rd slicesC iterC
open Ra
theorem fn42:IsFn Tryz.prog 42:=⟨⟨_,_,Tryz.func42,rfl,by decide⟩⟩
theorem OkA.none (w:World):OkA w ⟨[],[],[]⟩ (.slice none 0 0) (.slice none 0 0) (.slice none 0 0):=⟨Sl.nil w,Sl.nil w,Sl.nil w,by decide,by decide,by decide⟩
theorem valid_ex {a:Air} {ve vo vn:Value} {w0:World} (hv:OkA w0 a ve vo vn):∃ve' vo' vn',OkA w0 (san a) ve' vo' vn'∧∀w,OkA w a ve vo vn→Calls Tryz.prog 81 #[airV ve vo vn] w fun e w'=>e= .returned (airV ve' vo' vn')∧Below w.heap.size w w':=by
 obtain ⟨e1,e2,rfl,_⟩:=hv.e.2
 obtain ⟨o1,o2,rfl,_⟩:=hv.o.2
 obtain ⟨n1,n2,rfl,_⟩:=hv.n.2
 by_cases h0:Ra.check a=0
 ·refine ⟨_,_,_,by rw[san_ok h0];exact hv,fun w hv=>?_⟩
  refine calls_hr Tryz.func81 I (Nat.le_of_ble_eq_true I) ?_
  refine HR.sub (σ':=[(0,airV (.slice e1 a.e.length e2) (.slice o1 a.o.length o2) (.slice n1 a.n.length n2))]) ⟨I,trivial⟩ ?_
  repeat' (first|(refine HL.isOp ?_;first|refine HL.ev I I ?_|refine HL.evc I I (by first|omega|(simp;done)|(simp;omega)) ?_|refine HL.callB fn77 I I (fun w hw=>by have:=check18_any a _ _ _ w (hv.at hw);rw[h0]at this;exact this) ?_|(refine HL.isLoad ?_;first|refine HL.L 0 I I I I ?_|refine HL.L 1 I I I I ?_|refine HL.L 2 I I I I ?_|refine HL.L 3 I I I I ?_|refine HL.L 4 I I I I ?_|refine HL.L 5 I I I I ?_)|(refine HL.isStore ?_;first|refine HL.S 0 I I I I I ?_|refine HL.S 1 I I I I I ?_|refine HL.S 2 I I I I I ?_|refine HL.S 3 I I I I I ?_|refine HL.S 4 I I I I I ?_|refine HL.S 5 I I I I I ?_)|refine HL.build I I ?_|refine HL.field I I ?_|(refine HL.box I I ?_;intro bk)|(refine HL.alloc I I ?_;intro bk)|refine HL.skip rfl rfl ?_|refine HL.skip0 rfl ?_)|refine HL.nil ?_|refine HR.ctl rfl ?_|refine HR.region ?_|refine HR.condT rfl ?_|refine HR.condF rfl ?_)
  refine HR.ret Tryz.func81 I [_] (fun w hw=>⟨⟨_,rfl,loadVarR hw 0 I I I I rfl⟩,trivial⟩) ?_
  exact fun w' hw=>⟨rfl,hw.belowB⟩
 ·refine ⟨_,_,_,by rw[san_no h0];exact OkA.none w0,fun w hv=>?_⟩
  refine calls_hr Tryz.func81 I (Nat.le_of_ble_eq_true I) ?_
  refine HR.sub (σ':=[(0,airV (.slice e1 a.e.length e2) (.slice o1 a.o.length o2) (.slice n1 a.n.length n2))]) ⟨I,trivial⟩ ?_
  repeat' (first|(refine HL.isOp ?_;first|refine HL.ev I I ?_|refine HL.evc I I (by first|omega|(simp;done)|(simp;omega)) ?_|refine HL.callB fn77 I I (fun w hw=>check18_any a _ _ _ w (hv.at hw)) ?_|(refine HL.isLoad ?_;first|refine HL.L 0 I I I I ?_|refine HL.L 1 I I I I ?_|refine HL.L 2 I I I I ?_|refine HL.L 3 I I I I ?_|refine HL.L 4 I I I I ?_|refine HL.L 5 I I I I ?_)|(refine HL.isStore ?_;first|refine HL.S 0 I I I I I ?_|refine HL.S 1 I I I I I ?_|refine HL.S 2 I I I I I ?_|refine HL.S 3 I I I I I ?_|refine HL.S 4 I I I I I ?_|refine HL.S 5 I I I I I ?_)|refine HL.build I I ?_|refine HL.field I I ?_|(refine HL.box I I ?_;intro bk)|(refine HL.alloc I I ?_;intro bk)|refine HL.skip rfl rfl ?_|refine HL.skip0 rfl ?_)|refine HL.nil ?_|refine HR.ctl rfl ?_|refine HR.region ?_|refine HR.condT rfl ?_|refine HR.condF rfl ?_)
  refine HR.setB 5 true I (bne_iff_ne.2 h0) ?_
  repeat' (first|(refine HL.isOp ?_;first|refine HL.ev I I ?_|refine HL.evc I I (by first|omega|(simp;done)|(simp;omega)) ?_|(refine HL.isLoad ?_;first|refine HL.L 0 I I I I ?_|refine HL.L 1 I I I I ?_|refine HL.L 2 I I I I ?_|refine HL.L 3 I I I I ?_|refine HL.L 4 I I I I ?_|refine HL.L 5 I I I I ?_)|(refine HL.isStore ?_;first|refine HL.S 0 I I I I I ?_|refine HL.S 1 I I I I I ?_|refine HL.S 2 I I I I I ?_|refine HL.S 3 I I I I I ?_|refine HL.S 4 I I I I I ?_|refine HL.S 5 I I I I I ?_)|refine HL.build I I ?_|refine HL.field I I ?_|(refine HL.box I I ?_;intro bk)|(refine HL.alloc I I ?_;intro bk)|refine HL.skip rfl rfl ?_|refine HL.skip0 rfl ?_)|refine HL.nil ?_|refine HR.ctl rfl ?_|refine HR.region ?_|refine HR.condT rfl ?_|refine HR.condF rfl ?_)
  refine HR.ret Tryz.func81 I [_] (fun w hw=>⟨⟨_,rfl,loadVarR hw 0 I I I I rfl⟩,trivial⟩) ?_
  exact fun w' hw=>⟨rfl,hw.belowB⟩
theorem takes_eq (a:Air) (dst n:Int):(!decide (n∈a.o++a.n)&&((dst==255)||(n==dst)))=takes a dst n:=by
 unfold takes hears
 rw[show (n==dst)=(dst==n)from by rw[Bool.eq_iff_iff];simp only[beq_iff_eq];exact eq_comm]
 congr 1
 rw[Bool.eq_iff_iff];simp
theorem deliver_any (a:Air) (f:Fr) (ve vo vn:Value) (w:World) (hv:OkA w a ve vo vn):
  Calls Tryz.prog 42 #[airV ve vo vn,.agg ⟨Nd.frC f⟩] w fun e w'=>∃v,e= .returned (.tuple ⟨[v,.bool (acked (san a) f)]⟩)∧Sat (base w) [ownC v 3 1 (recv (san a) f).length (cellsOf iC (recv (san a) f))] w':=by
 obtain ⟨ve',vo',vn',hs,hval⟩:=valid_ex hv
 generalize san a=A at hs ⊢
 obtain ⟨e1,e2,rfl,_⟩:=hs.e.2
 obtain ⟨o1,o2,rfl,_⟩:=hs.o.2
 obtain ⟨n1,n2,rfl,_⟩:=hs.n.2
 have le:=hs.le
 have lo:=hs.lo
 have ln:=hs.ln
 refine calls_hr Tryz.func42 I (Nat.le_of_ble_eq_true I) ?_
 refine HR.sub (σ':=[(0,airV ve vo vn),(1,.agg ⟨Nd.frC f⟩)]) ⟨I,I,trivial⟩ ?_
 repeat' (first|(refine HL.isOp ?_;first|refine HL.ev I I ?_|refine HL.evc I I (by first|omega|(simp;done)|(simp;omega)) ?_|refine HL.callB fn81 I I (fun w hw=>hval w (hv.at hw)) ?_|refine HL.callB fn49 I I (fun w hw=>contI_any A.o f.fr _ w ((Rd.arg hs.o).at hw) (by omega)) ?_|(refine HL.isLoad ?_;first|refine HL.L 0 I I I I ?_|refine HL.L 1 I I I I ?_|refine HL.L 2 I I I I ?_|refine HL.L 3 I I I I ?_|refine HL.L 4 I I I I ?_|refine HL.L 5 I I I I ?_)|(refine HL.isStore ?_;first|refine HL.S 0 I I I I I ?_|refine HL.S 1 I I I I I ?_|refine HL.S 2 I I I I I ?_|refine HL.S 3 I I I I I ?_|refine HL.S 4 I I I I I ?_|refine HL.S 5 I I I I I ?_)|refine HL.build I I ?_|refine HL.field I I ?_|(refine HL.box I I ?_;intro bk)|(refine HL.alloc I I ?_;intro bk)|refine HL.skip rfl rfl ?_|refine HL.skip0 rfl ?_)|refine HL.nil ?_|refine HR.ctl rfl ?_|refine HR.region ?_|refine HR.condT rfl ?_|refine HR.condF rfl ?_)
 refine HR.cond I (fun h=>?_) (fun h=>?_)
 ·have hm:=of_decide_eq_true h
  repeat' (first|(refine HL.isOp ?_;first|refine HL.ev I I ?_|refine HL.evc I I (by first|omega|(simp;done)|(simp;omega)) ?_|(refine HL.isLoad ?_;first|refine HL.L 0 I I I I ?_|refine HL.L 1 I I I I ?_|refine HL.L 2 I I I I ?_|refine HL.L 3 I I I I ?_|refine HL.L 4 I I I I ?_|refine HL.L 5 I I I I ?_)|(refine HL.isStore ?_;first|refine HL.S 0 I I I I I ?_|refine HL.S 1 I I I I I ?_|refine HL.S 2 I I I I I ?_|refine HL.S 3 I I I I I ?_|refine HL.S 4 I I I I I ?_|refine HL.S 5 I I I I I ?_)|refine HL.build I I ?_|refine HL.field I I ?_|(refine HL.box I I ?_;intro bk)|(refine HL.alloc I I ?_;intro bk)|refine HL.skip rfl rfl ?_|refine HL.skip0 rfl ?_)|refine HL.nil ?_|refine HR.ctl rfl ?_|refine HR.region ?_|refine HR.condT rfl ?_|refine HR.condF rfl ?_)
  refine HR.nilC 3 1 ?_
  refine HR.ret Tryz.func42 I [_,_] (fun _ _=>⟨I,I,trivial⟩) ?_
  exact fun w' hw=>⟨.slice none 0 0,by simp[acked,hm,resV],by rw[recv,if_pos hm];exact hw.pick [0] I rfl⟩
 have hm:=of_decide_eq_false h
 repeat' (first|(refine HL.isOp ?_;first|refine HL.ev I I ?_|refine HL.evc I I (by first|omega|(simp;done)|(simp;omega)) ?_|refine HL.bslice elemL I I I I I (by decide) (by decide) ?_|(refine HL.isLoad ?_;first|refine HL.L 0 I I I I ?_|refine HL.L 1 I I I I ?_|refine HL.L 2 I I I I ?_|refine HL.L 3 I I I I ?_|refine HL.L 4 I I I I ?_|refine HL.L 5 I I I I ?_)|(refine HL.isStore ?_;first|refine HL.S 0 I I I I I ?_|refine HL.S 1 I I I I I ?_|refine HL.S 2 I I I I I ?_|refine HL.S 3 I I I I I ?_|refine HL.S 4 I I I I I ?_|refine HL.S 5 I I I I I ?_)|refine HL.build I I ?_|refine HL.field I I ?_|(refine HL.box I I ?_;intro bk)|(refine HL.alloc I I ?_;intro bk)|refine HL.skip rfl rfl ?_|refine HL.skip0 rfl ?_)|refine HL.nil ?_|refine HR.ctl rfl ?_|refine HR.region ?_|refine HR.condT rfl ?_|refine HR.condF rfl ?_)
 intro v1
 refine HL.callO fn82 I I (fun w hw=>joined2 ((Rd.own 0 rfl).at hw) ((Rd.arg hs.o).at hw) ((Rd.arg hs.n).at hw) hs.lo hs.ln) ?_
 intro v2
 repeat' (first|(refine HL.isOp ?_;first|refine HL.ev I I ?_|refine HL.evc I I (by first|omega|(simp;done)|(simp;omega)) ?_|(refine HL.isLoad ?_;first|refine HL.L 0 I I I I ?_|refine HL.L 1 I I I I ?_|refine HL.L 2 I I I I ?_|refine HL.L 3 I I I I ?_|refine HL.L 4 I I I I ?_|refine HL.L 5 I I I I ?_)|(refine HL.isStore ?_;first|refine HL.S 0 I I I I I ?_|refine HL.S 1 I I I I I ?_|refine HL.S 2 I I I I I ?_|refine HL.S 3 I I I I I ?_|refine HL.S 4 I I I I I ?_|refine HL.S 5 I I I I I ?_)|refine HL.build I I ?_|refine HL.field I I ?_|(refine HL.box I I ?_;intro bk)|(refine HL.alloc I I ?_;intro bk)|refine HL.skip rfl rfl ?_|refine HL.skip0 rfl ?_)|refine HL.nil ?_|refine HR.ctl rfl ?_|refine HR.region ?_|refine HR.condT rfl ?_|refine HR.condF rfl ?_)
 refine HL.callO fn83 I I (fun w hw=>near_any A.e f.fr _ w ((Rd.arg hs.e).at hw) (by omega)) ?_
 intro v3
 have hnl:=Tp.nbrs_len A.e f.fr
 repeat' (first|(refine HL.isOp ?_;first|refine HL.ev I I ?_|refine HL.evc I I (by first|omega|(simp;done)|(simp;omega)) ?_|refine HL.lenR (Rd.own 0 I) I I I ?_|(refine HL.isLoad ?_;first|refine HL.L 0 I I I I ?_|refine HL.L 1 I I I I ?_|refine HL.L 2 I I I I ?_|refine HL.L 3 I I I I ?_|refine HL.L 4 I I I I ?_|refine HL.L 5 I I I I ?_)|(refine HL.isStore ?_;first|refine HL.S 0 I I I I I ?_|refine HL.S 1 I I I I I ?_|refine HL.S 2 I I I I I ?_|refine HL.S 3 I I I I I ?_|refine HL.S 4 I I I I I ?_|refine HL.S 5 I I I I I ?_)|refine HL.build I I ?_|refine HL.field I I ?_|(refine HL.box I I ?_;intro bk)|(refine HL.alloc I I ?_;intro bk)|refine HL.skip rfl rfl ?_|refine HL.skip0 rfl ?_)|refine HL.nil ?_|refine HR.ctl rfl ?_|refine HR.region ?_|refine HR.condT rfl ?_|refine HR.condF rfl ?_)
 rename_i bA
 refine HR.nilC 3 1 ?_
 refine HR.loop2 (α:=Nat) (β:=Value) (fun k v=>k≤(Tp.nbrs A.e f.fr).length) (fun k v=>[(2,.pointer (some ⟨bA,0,none⟩)),(3,.pointer (some ⟨bk,0,none⟩)),(6,v2),(7,v),(27,v3),(28,.int .i64 ((Tp.nbrs A.e f.fr).length:Int)),(29,.int .i64 (k:Int))])
  (fun k v=>[ownC v 3 1 (((Tp.nbrs A.e f.fr).take k).filter (takes A f.dst)).length (cellsOf iC (((Tp.nbrs A.e f.fr).take k).filter (takes A f.dst))),ownC v3 3 1 (Tp.nbrs A.e f.fr).length (cellsOf iC (Tp.nbrs A.e f.fr)),ownC v2 3 1 (A.o++A.n).length (cellsOf iC (A.o++A.n)),blkC bk (Nd.frC f) 75,blkC bA [.slice e1 A.e.length e2,.slice o1 A.o.length o2,.slice n1 A.n.length n2] 34])
  (fun k v=>(Tp.nbrs A.e f.fr).length-k) 0 (.slice none 0 0) (Nat.zero_le _) ⟨I,I,I,I,I,I,I,trivial⟩ (Ent.pick [0,1,2,4,5] I I) ?_
 intro k v hk ih
 repeat' (first|(refine HL.isOp ?_;first|refine HL.ev I I ?_|refine HL.evc I I (by first|omega|(simp;done)|(simp;omega)) ?_|(refine HL.isLoad ?_;first|refine HL.L 0 I I I I ?_|refine HL.L 1 I I I I ?_|refine HL.L 2 I I I I ?_|refine HL.L 3 I I I I ?_|refine HL.L 4 I I I I ?_|refine HL.L 5 I I I I ?_)|(refine HL.isStore ?_;first|refine HL.S 0 I I I I I ?_|refine HL.S 1 I I I I I ?_|refine HL.S 2 I I I I I ?_|refine HL.S 3 I I I I I ?_|refine HL.S 4 I I I I I ?_|refine HL.S 5 I I I I I ?_)|refine HL.build I I ?_|refine HL.field I I ?_|(refine HL.box I I ?_;intro bk)|(refine HL.alloc I I ?_;intro bk)|refine HL.skip rfl rfl ?_|refine HL.skip0 rfl ?_|apply HL.andB rfl rfl rfl rfl rfl rfl rfl rfl|apply HL.orB rfl rfl rfl rfl rfl rfl rfl rfl)|refine HL.nil ?_|refine HR.ctl rfl ?_|refine HR.region ?_|refine HR.condT rfl ?_|refine HR.condF rfl ?_|exact HL.blkEnd rfl rfl Ent.refl|(refine fun (hb:(_:Bool)=_)=>?_;try simp at hb))
 refine HR.cond I (fun h2=>?_) (fun h2=>?_)
 ·have hlt:k<(Tp.nbrs A.e f.fr).length:=by have:=of_decide_eq_true h2;omega
  obtain ⟨x,hx⟩:=getSome hlt
  have hfl:(((Tp.nbrs A.e f.fr).take k).filter (takes A f.dst)).length≤k:=Nat.le_trans (List.length_filter_le _ _) (by simp;omega)
  repeat' (first|(refine HL.isOp ?_;first|refine HL.ev I I ?_|refine HL.evc I I (by first|omega|(simp;done)|(simp;omega)) ?_|refine HL.idxR (Rd.own 1 I) elemI k I I I I hlt ?_|refine HL.loadI (Rd.own 1 I) I I I I (cellsOf_get1 hx) ?_|refine HL.callB fn49 I I (fun w hw=>contI_any (A.o++A.n) x v2 w ((Rd.own 2 rfl).at hw) (by rw[List.length_append];omega)) ?_|(refine HL.isLoad ?_;first|refine HL.L 0 I I I I ?_|refine HL.L 1 I I I I ?_|refine HL.L 2 I I I I ?_|refine HL.L 3 I I I I ?_|refine HL.L 4 I I I I ?_|refine HL.L 5 I I I I ?_)|(refine HL.isStore ?_;first|refine HL.S 0 I I I I I ?_|refine HL.S 1 I I I I I ?_|refine HL.S 2 I I I I I ?_|refine HL.S 3 I I I I I ?_|refine HL.S 4 I I I I I ?_|refine HL.S 5 I I I I I ?_)|refine HL.build I I ?_|refine HL.field I I ?_|(refine HL.box I I ?_;intro bk)|(refine HL.alloc I I ?_;intro bk)|refine HL.skip rfl rfl ?_|refine HL.skip0 rfl ?_|apply HL.andB rfl rfl rfl rfl rfl rfl rfl rfl|apply HL.orB rfl rfl rfl rfl rfl rfl rfl rfl)|refine HL.nil ?_|refine HR.ctl rfl ?_|refine HR.region ?_|refine HR.condT rfl ?_|refine HR.condF rfl ?_|exact HL.blkEnd rfl rfl Ent.refl|(refine fun (hb:(_:Bool)=_)=>?_;try simp at hb))
  refine HR.cond I (fun h3=>?_) (fun h3=>?_)
  ·rw [takes_eq]at h3
   repeat' (first|(refine HL.isOp ?_;first|refine HL.ev I I ?_|refine HL.evc I I (by first|omega|(simp;done)|(simp;omega)) ?_|refine HL.bslice elemI I I I I I (by decide) (by decide) ?_|(refine HL.isLoad ?_;first|refine HL.L 0 I I I I ?_|refine HL.L 1 I I I I ?_|refine HL.L 2 I I I I ?_|refine HL.L 3 I I I I ?_|refine HL.L 4 I I I I ?_|refine HL.L 5 I I I I ?_)|(refine HL.isStore ?_;first|refine HL.S 0 I I I I I ?_|refine HL.S 1 I I I I I ?_|refine HL.S 2 I I I I I ?_|refine HL.S 3 I I I I I ?_|refine HL.S 4 I I I I I ?_|refine HL.S 5 I I I I I ?_)|refine HL.build I I ?_|refine HL.field I I ?_|(refine HL.box I I ?_;intro bk)|(refine HL.alloc I I ?_;intro bk)|refine HL.skip rfl rfl ?_|refine HL.skip0 rfl ?_|apply HL.andB rfl rfl rfl rfl rfl rfl rfl rfl|apply HL.orB rfl rfl rfl rfl rfl rfl rfl rfl)|refine HL.nil ?_|refine HR.ctl rfl ?_|refine HR.region ?_|refine HR.condT rfl ?_|refine HR.condF rfl ?_|exact HL.blkEnd rfl rfl Ent.refl|(refine fun (hb:(_:Bool)=_)=>?_;try simp at hb))
   intro v4
   repeat' (first|(refine HL.isOp ?_;first|refine HL.ev I I ?_|refine HL.evc I I (by first|omega|(simp;done)|(simp;omega)) ?_|refine HL.appR 1 I elemI (Rd.own 0 I) I I I I (allOne_spec I) (by omega) (by omega) ?_|(refine HL.isLoad ?_;first|refine HL.L 0 I I I I ?_|refine HL.L 1 I I I I ?_|refine HL.L 2 I I I I ?_|refine HL.L 3 I I I I ?_|refine HL.L 4 I I I I ?_|refine HL.L 5 I I I I ?_)|(refine HL.isStore ?_;first|refine HL.S 0 I I I I I ?_|refine HL.S 1 I I I I I ?_|refine HL.S 2 I I I I I ?_|refine HL.S 3 I I I I I ?_|refine HL.S 4 I I I I I ?_|refine HL.S 5 I I I I I ?_)|refine HL.build I I ?_|refine HL.field I I ?_|(refine HL.box I I ?_;intro bk)|(refine HL.alloc I I ?_;intro bk)|refine HL.skip rfl rfl ?_|refine HL.skip0 rfl ?_|apply HL.andB rfl rfl rfl rfl rfl rfl rfl rfl|apply HL.orB rfl rfl rfl rfl rfl rfl rfl rfl)|refine HL.nil ?_|refine HR.ctl rfl ?_|refine HR.region ?_|refine HR.condT rfl ?_|refine HR.condF rfl ?_|exact HL.blkEnd rfl rfl Ent.refl|(refine fun (hb:(_:Bool)=_)=>?_;try simp at hb))
   intro v5
   repeat' (first|(refine HL.isOp ?_;first|refine HL.ev I I ?_|refine HL.evc I I (by first|omega|(simp;done)|(simp;omega)) ?_|(refine HL.isLoad ?_;first|refine HL.L 0 I I I I ?_|refine HL.L 1 I I I I ?_|refine HL.L 2 I I I I ?_|refine HL.L 3 I I I I ?_|refine HL.L 4 I I I I ?_|refine HL.L 5 I I I I ?_)|(refine HL.isStore ?_;first|refine HL.S 0 I I I I I ?_|refine HL.S 1 I I I I I ?_|refine HL.S 2 I I I I I ?_|refine HL.S 3 I I I I I ?_|refine HL.S 4 I I I I I ?_|refine HL.S 5 I I I I I ?_)|refine HL.build I I ?_|refine HL.field I I ?_|(refine HL.box I I ?_;intro bk)|(refine HL.alloc I I ?_;intro bk)|refine HL.skip rfl rfl ?_|refine HL.skip0 rfl ?_|apply HL.andB rfl rfl rfl rfl rfl rfl rfl rfl|apply HL.orB rfl rfl rfl rfl rfl rfl rfl rfl)|refine HL.nil ?_|refine HR.ctl rfl ?_|refine HR.region ?_|refine HR.condT rfl ?_|refine HR.condF rfl ?_|exact HL.blkEnd rfl rfl Ent.refl|(refine fun (hb:(_:Bool)=_)=>?_;try simp at hb))
   refine ih (k+1) v5 _ _ hlt (by omega) ⟨I,I,I,I,I,I,I,trivial⟩ (Ent.trans (Ent.pick [1,2,3,4,5] I I) (Ent.own0 ?_ ?_))
   ·rw [filter_take hx,if_pos h3];simp
   ·rw [filter_take hx,if_pos h3,cellsOf_app,cellsOf_one]
  ·rw [takes_eq]at h3
   repeat' (first|(refine HL.isOp ?_;first|refine HL.ev I I ?_|refine HL.evc I I (by first|omega|(simp;done)|(simp;omega)) ?_|(refine HL.isLoad ?_;first|refine HL.L 0 I I I I ?_|refine HL.L 1 I I I I ?_|refine HL.L 2 I I I I ?_|refine HL.L 3 I I I I ?_|refine HL.L 4 I I I I ?_|refine HL.L 5 I I I I ?_)|(refine HL.isStore ?_;first|refine HL.S 0 I I I I I ?_|refine HL.S 1 I I I I I ?_|refine HL.S 2 I I I I I ?_|refine HL.S 3 I I I I I ?_|refine HL.S 4 I I I I I ?_|refine HL.S 5 I I I I I ?_)|refine HL.build I I ?_|refine HL.field I I ?_|(refine HL.box I I ?_;intro bk)|(refine HL.alloc I I ?_;intro bk)|refine HL.skip rfl rfl ?_|refine HL.skip0 rfl ?_|apply HL.andB rfl rfl rfl rfl rfl rfl rfl rfl|apply HL.orB rfl rfl rfl rfl rfl rfl rfl rfl)|refine HL.nil ?_|refine HR.ctl rfl ?_|refine HR.region ?_|refine HR.condT rfl ?_|refine HR.condF rfl ?_|exact HL.blkEnd rfl rfl Ent.refl|(refine fun (hb:(_:Bool)=_)=>?_;try simp at hb))
   refine ih (k+1) v _ _ hlt (by omega) ⟨I,I,I,I,I,I,I,trivial⟩ (Ent.own0 ?_ ?_)
   ·rw [filter_take hx,h3];simp
   ·rw [filter_take hx,h3];simp
 have hke:k=(Tp.nbrs A.e f.fr).length:=by have:=of_decide_eq_false h2;omega
 subst hke
 rw[List.take_length]
 have hrv:recv A f=heard A f:=by rw[recv,if_neg hm]
 show HR _ _ _ _ _ _ (ownC v 3 1 (heard A f).length (cellsOf iC (heard A f))::_) _
 repeat' (first|(refine HL.isOp ?_;first|refine HL.ev I I ?_|refine HL.evc I I (by first|omega|(simp;done)|(simp;omega)) ?_|(refine HL.isLoad ?_;first|refine HL.L 0 I I I I ?_|refine HL.L 1 I I I I ?_|refine HL.L 2 I I I I ?_|refine HL.L 3 I I I I ?_|refine HL.L 4 I I I I ?_|refine HL.L 5 I I I I ?_)|(refine HL.isStore ?_;first|refine HL.S 0 I I I I I ?_|refine HL.S 1 I I I I I ?_|refine HL.S 2 I I I I I ?_|refine HL.S 3 I I I I I ?_|refine HL.S 4 I I I I I ?_|refine HL.S 5 I I I I I ?_)|refine HL.build I I ?_|refine HL.field I I ?_|(refine HL.box I I ?_;intro bk)|(refine HL.alloc I I ?_;intro bk)|refine HL.skip rfl rfl ?_|refine HL.skip0 rfl ?_|apply HL.andB rfl rfl rfl rfl rfl rfl rfl rfl|apply HL.orB rfl rfl rfl rfl rfl rfl rfl rfl)|refine HL.nil ?_|refine HR.ctl rfl ?_|refine HR.region ?_|refine HR.condT rfl ?_|refine HR.condF rfl ?_|exact HL.blkEnd rfl rfl Ent.refl|(refine fun (hb:(_:Bool)=_)=>?_;try simp at hb))
 refine HR.cond I (fun h3=>?_) (fun h3=>?_)
 ·repeat' (first|(refine HL.isOp ?_;first|refine HL.ev I I ?_|refine HL.evc I I (by first|omega|(simp;done)|(simp;omega)) ?_|(refine HL.isLoad ?_;first|refine HL.L 0 I I I I ?_|refine HL.L 1 I I I I ?_|refine HL.L 2 I I I I ?_|refine HL.L 3 I I I I ?_|refine HL.L 4 I I I I ?_|refine HL.L 5 I I I I ?_)|(refine HL.isStore ?_;first|refine HL.S 0 I I I I I ?_|refine HL.S 1 I I I I I ?_|refine HL.S 2 I I I I I ?_|refine HL.S 3 I I I I I ?_|refine HL.S 4 I I I I I ?_|refine HL.S 5 I I I I I ?_)|refine HL.build I I ?_|refine HL.field I I ?_|(refine HL.box I I ?_;intro bk)|(refine HL.alloc I I ?_;intro bk)|refine HL.skip rfl rfl ?_|refine HL.skip0 rfl ?_|apply HL.andB rfl rfl rfl rfl rfl rfl rfl rfl|apply HL.orB rfl rfl rfl rfl rfl rfl rfl rfl)|refine HL.nil ?_|refine HR.ctl rfl ?_|refine HR.region ?_|refine HR.condT rfl ?_|refine HR.condF rfl ?_|exact HL.blkEnd rfl rfl Ent.refl|(refine fun (hb:(_:Bool)=_)=>?_;try simp at hb))
  refine HR.ret Tryz.func42 I [_,_] (fun _ _=>⟨I,I,trivial⟩) ?_
  rw[hrv]
  exact fun w' hw=>⟨v,by simp[acked,hm,resV];exact .inl (eq_of_beq h3),hw.pick [0] I rfl⟩
 ·have hd:¬f.dst=255:=by simpa using h3
  repeat' (first|(refine HL.isOp ?_;first|refine HL.ev I I ?_|refine HL.evc I I (by first|omega|(simp;done)|(simp;omega)) ?_|refine HL.lenR (Rd.own 0 I) I I I ?_|refine HL.callB fn49 I I (fun w hw=>contI_any A.n f.fr _ w ((Rd.arg hs.n).at hw) (by omega)) ?_|(refine HL.isLoad ?_;first|refine HL.L 0 I I I I ?_|refine HL.L 1 I I I I ?_|refine HL.L 2 I I I I ?_|refine HL.L 3 I I I I ?_|refine HL.L 4 I I I I ?_|refine HL.L 5 I I I I ?_)|(refine HL.isStore ?_;first|refine HL.S 0 I I I I I ?_|refine HL.S 1 I I I I I ?_|refine HL.S 2 I I I I I ?_|refine HL.S 3 I I I I I ?_|refine HL.S 4 I I I I I ?_|refine HL.S 5 I I I I I ?_)|refine HL.build I I ?_|refine HL.field I I ?_|(refine HL.box I I ?_;intro bk)|(refine HL.alloc I I ?_;intro bk)|refine HL.skip rfl rfl ?_|refine HL.skip0 rfl ?_|apply HL.andB rfl rfl rfl rfl rfl rfl rfl rfl|apply HL.orB rfl rfl rfl rfl rfl rfl rfl rfl)|refine HL.nil ?_|refine HR.ctl rfl ?_|refine HR.region ?_|refine HR.condT rfl ?_|refine HR.condF rfl ?_|exact HL.blkEnd rfl rfl Ent.refl|(refine fun (hb:(_:Bool)=_)=>?_;try simp at hb))
  refine HR.ret Tryz.func42 I [_,_] (fun _ _=>⟨I,I,trivial⟩) ?_
  rw[hrv]
  refine fun w' hw=>⟨v,?_,hw.pick [0] I rfl⟩
  simp[acked,hm,hd,resV]
end Go.Proofs.YtgfdoognildoeaaGreat
namespace Go.Proofs.YtgfdoognildoeaaGreat
open Go.GX Go.RowKit
attribute [local irreducible] Calls Run RunL RunQ RunD HR HL HD blkC ownC mapC Rd slicesC iterC
open Nd
theorem fn39:IsFn Tryz.prog 39:=⟨⟨_,_,Tryz.func39,rfl,by decide⟩⟩
theorem fn40:IsFn Tryz.prog 40:=⟨⟨_,_,Tryz.func40,rfl,by decide⟩⟩
theorem fn41:IsFn Tryz.prog 41:=⟨⟨_,_,Tryz.func41,rfl,by decide⟩⟩
theorem fn84:IsFn Tryz.prog 84:=⟨⟨_,_,Tryz.func84,rfl,by decide⟩⟩
theorem fn85:IsFn Tryz.prog 85:=⟨⟨_,_,Tryz.func85,rfl,by decide⟩⟩
theorem fn43:IsFn Tryz.prog 43:=⟨⟨_,_,Tryz.func43,rfl,by decide⟩⟩
abbrev StX:=(NV×Nd)×Bool×Bool×Fr
abbrev stE (s:StX):List Value:=[.int .i64 s.1.2.addr,.int .i64 s.1.2.poll,.int .i64 s.1.2.parent,sv s.1.1.ta s.1.2.table.length,sv s.1.1.li s.1.2.links.length,sv s.1.1.ou s.1.2.out.length,sv s.1.1.ch s.1.2.children.length,sv s.1.1.bo s.1.2.boxes.length,sv s.1.1.se s.1.2.seen.length,sv s.1.1.pa s.1.1.ps.length,sv s.1.1.ib s.1.2.inbox.length,.int .i64 s.1.2.seq,.int .i64 s.1.2.lost,.bool s.2.1,.bool s.2.2.1,.int .i64 s.2.2.2.kd,.int .i64 s.2.2.2.fr,.int .i64 s.2.2.2.dst,.int .i64 s.2.2.2.so,.int .i64 s.2.2.2.ta,.int .i64 s.2.2.2.sq,.int .i64 s.2.2.2.hp,.bool s.2.2.2.ur,str s.2.2.2.da]
theorem stE_len (s:StX):(stE s).length=24:=rfl
abbrev cSt (v:Value) (ss:List StX):Chunk:=ownC v 77 24 ss.length (cellsOf stE ss)
abbrev ssN (ss:List StX):List Nd:=ss.map (·.1.2)
theorem cSt_app (v:Value) (ys:List StX) (x:StX):cSt v (ys++[x])=ownC v 77 24 (ys.length+1) (cellsOf stE ys++stE x):=by
 show ownC v _ 24 (ys++[x]).length (cellsOf stE (ys++[x]))=_
 rw[cellsOf_app,List.length_append,cellsOf_one];rfl
theorem ssN_get {ss:List StX} {k:Nat} {s:StX} (h:ss[k]? =some s):(ssN ss)[k]? =some s.1.2:=by unfold ssN;rw[List.getElem?_map,h];rfl
theorem ssN_nth {ss:List StX} {k:Nat} {s:StX} (h:ss[k]? =some s):Me.nth (ssN ss) k=s.1.2:=by unfold Me.nth;rw[List.getD_eq_getElem?_getD,ssN_get h];rfl
theorem ssN_set (ss:List StX) (k:Nat) (s:StX):ssN (ss.set k s)=(ssN ss).set k s.1.2:=by unfold ssN;rw[List.map_set]
theorem st_cells {ss:List StX} {k:Nat} {s:StX} (h:ss[k]? =some s):∀(i:Nat) u,(ndC s.1.1 s.1.2)[i]? =some u→(cellsOf stE ss)[k*24+0+i]? =some u:=by
 intro i u hu
 have hi:=(List.getElem?_eq_some_iff.1 hu).1
 rw[Nat.add_zero]
 refine cellsOf_get stE_len h i u ?_
 show (ndC s.1.1 s.1.2++[.bool s.2.1,.bool s.2.2.1,.int .i64 s.2.2.2.kd,.int .i64 s.2.2.2.fr,.int .i64 s.2.2.2.dst,.int .i64 s.2.2.2.so,.int .i64 s.2.2.2.ta,.int .i64 s.2.2.2.sq,.int .i64 s.2.2.2.hp,.bool s.2.2.2.ur,str s.2.2.2.da])[i]? =some u
 rw[List.getElem?_append_left hi];exact hu
theorem st_frame {ss:List StX} {k:Nat} {s:StX} (h:ss[k]? =some s):∀(i:Nat) u,(frC s.2.2.2)[i]? =some u→(cellsOf stE ss)[k*24+15+i]? =some u:=by
 intro i u hu
 rw[Nat.add_assoc]
 refine cellsOf_get stE_len h (15+i) u ?_
 show (ndC s.1.1 s.1.2++[.bool s.2.1,.bool s.2.2.1]++frC s.2.2.2)[15+i]? =some u
 rw[List.getElem?_append_right (by show 15≤15+i;omega)]
 show (frC s.2.2.2)[15+i-15]? =some u
 rw[Nat.add_sub_cancel_left];exact hu
theorem stations_any (t:Int) (v:Value) (xs:List (NV×Nd)) (a:Me.Air) (ve vo vn:Value) (w:World) (h:OkL w v xs) (hg:∀x∈xs,SmN x.2) (hl:xs.length≤1000) (hA:OkA w a ve vo vn):
  Calls Tryz.prog 39 #[meV t v,airV ve vo vn] w fun e w'=>∃x:SV×List StX×List Chunk,e= .returned (sv x.1 x.2.1.length)∧(x.2.1.map (fun s=>(s.1.2,s.2))=(nds xs).map (fun n=>(n,Me.live a n.addr,false,fr0))∧∀s∈x.2.1,Own s.1.1 x.2.2 s.1.2)∧Sat (base w) [cSt (sv x.1 x.2.1.length) x.2.1,groupC x.2.2] w':=by
 obtain ⟨av,cv,rfl,_⟩:=h.s.2
 have hlo:=hA.lo
 refine calls_hr Tryz.func39 I (Nat.le_of_ble_eq_true I) ?_
 refine HR.sub (σ':=[(0,meV t (sv (av,cv) xs.length)),(1,airV ve vo vn)]) ⟨I,I,trivial⟩ ?_
 refine HR.ctl I ?_
 refine HR.region ?_
 refine HL.box I I ?_
 intro b2
 refine HL.box I I ?_
 intro b3
 repeat' (first|refine zh ?_|refine HL.callB fn77 I I (fun w1 hw1=>check18_any a ve vo vn w1 (hA.at hw1)) ?_|refine HL.lenR (Rd.arg h.s) I I I ?_|intro (bk:Nat))
 refine HL.makeS 0 xs.length elemSt I I I I I I (Nat.zero_le _) (show 320*xs.length≤_ by omega) (by omega) ?_
 intro v3
 refine HL.shape 0 I fun a3 c3 hv=>?_
 subst hv
 repeat' (first|refine zh ?_|refine HL.lenR (Rd.arg h.s) I I I ?_|intro (bk:Nat))
 refine HR.loop (ι:=Nat×SV×List StX×List Chunk) (fun x=>x.1≤xs.length∧x.2.2.1.map (fun s=>(s.1.2,s.2))=((nds xs).take x.1).map (fun n=>(n,Me.live a n.addr,false,fr0))∧∀s∈x.2.2.1,Own s.1.1 x.2.2.2 s.1.2) (fun x=>[(3,ptr b3),(5,.bool (Ra.check a==0)),(6,sv x.2.1 x.2.2.1.length),(17,sv (av,cv) xs.length),(18,.int .i64 (xs.length:Int)),(19,.int .i64 (x.1:Int))]) (fun x=>[blkC b3 [ve,vo,vn] 34,cSt (sv x.2.1 x.2.2.1.length) x.2.2.1,groupC x.2.2.2]) (fun x=>xs.length-x.1) (0,(a3,c3),[],[]) ⟨Nat.zero_le _,rfl,fun y hy=>(List.not_mem_nil hy).elim⟩ ⟨I,I,I,I,I,I,trivial⟩ (Ent.trans Ent.gnil (Ent.pick [2,1,0] I I)) ?_
 rintro ⟨k,y,ss,G⟩ ⟨hk,hss,hown⟩ ih
 have hk:k≤xs.length:=hk
 have hss:ss.map (fun s=>(s.1.2,s.2))=((nds xs).take k).map (fun n=>(n,Me.live a n.addr,false,fr0)):=hss
 have hown:∀s∈ss,Own s.1.1 G s.1.2:=hown
 have hsl:ss.length=k:=by have:=congrArg List.length hss;rw[List.length_map,List.length_map,List.length_take,nds_len]at this;omega
 repeat' (first|refine zh ?_|intro (bk:Nat))
 refine HR.cond I (fun h2=>?_) (fun h2=>?_)
 rotate_left
 ·have hke:k=xs.length:=by have:¬(k:Int)<(xs.length:Int):=of_decide_eq_false h2;omega
  repeat' (first|refine zh ?_|intro (bk:Nat))
  refine HR.ret Tryz.func39 I [_] (fun _ _=>⟨I,trivial⟩) ?_
  refine fun w' hw=>⟨(y,ss,G),rfl,⟨?_,hown⟩,hw.pick [1,2] I rfl⟩
  show ss.map (fun s=>(s.1.2,s.2))=(nds xs).map _
  rw[hss,hke,← nds_len,List.take_length]
 have hlt:k<xs.length:=by have:(k:Int)<(xs.length:Int):=of_decide_eq_true h2;omega
 obtain ⟨⟨V,n⟩,hx⟩:=getSome hlt
 have hok:OkN w V n:=h.r _ (List.mem_of_getElem? hx)
 have hsn:SmN n:=hg _ (List.mem_of_getElem? hx)
 repeat' (first|refine zh ?_|refine HL.idxR (Rd.arg h.s) elemNd k I I I I hlt ?_|refine HL.loadE (Rd.arg h.s) I I I I (by simp) I (cellsOf_get ndE2_len hx) ?_|intro (bk:Nat))
 refine HL.callX (r:=fun x:NV×List Chunk=> .agg ⟨ndC x.1 n⟩) (Q:=fun x=>Own x.1 x.2 n) (G:=fun x=>[groupC x.2]) fn78 I I (fun w1 hw1=>mclone_any V n w1 (hok.ext hw1.belowB) hsn) ?_
 rintro ⟨V2,G2⟩ hO
 have hO:Own V2 G2 n:=hO
 repeat' (first|refine zh ?_|refine HL.callB fn49 I I (fun w1 hw1=>contI_any a.o n.addr vo w1 ((hA.at hw1).o) (by omega)) ?_|apply zb ?_ ?_|exact zc|(refine zi fun hb=>?_;try simp at hb)|intro (bk:Nat))
 refine HL.bslice elemSt I I I I I (by decide) (by decide) ?_
 intro va
 refine HL.appR 4 I elemSt (Rd.own 0 I) I I I I (allOne_spec I) (by show (ss.length+1)*320≤_;omega) (by show ss.length+1≤_;omega) ?_
 intro vc
 refine HL.shape 4 I fun ac cc hv=>?_
 subst hv
 repeat' (first|refine zh ?_|intro (bk:Nat))
 obtain ⟨S,hS⟩:∃S:StX,S=((V2,n),Me.live a n.addr,false,fr0):=⟨_,rfl⟩
 refine ih (k+1,(ac,cc),ss++[S],[groupC G2,groupC G]) _ _ ⟨hlt,?_,?_⟩ (by show xs.length-(k+1)<xs.length-k;omega) ⟨rfl,rfl,?_,rfl,rfl,rfl,trivial⟩ ?_
 ·show (ss++[S]).map (fun s=>(s.1.2,s.2))=((nds xs).take (k+1)).map _
  rw[take_succ_get (nds_get hx),List.map_append,List.map_append,hss,hS];rfl
 ·intro z hz
  have hz:z∈ss++[S]:=hz
  rcases List.mem_append.1 hz with hz|hz
  ·exact fun w2 hg2=>hown z hz w2 (groupC_mem hg2 (by simp))
  ·rw [List.mem_singleton.1 hz,hS];exact fun w2 hg2=>hO w2 (groupC_mem hg2 (by simp))
 ·show _=some (sv (ac,cc) (ss++[S]).length)
  rw[show (ss++[S]).length=ss.length+1 by simp];rfl
 ·show Ent _ _ [blkC b3 [ve,vo,vn] 34,cSt (sv (ac,cc) (ss++[S]).length) (ss++[S]),groupC [groupC G2,groupC G]]
  rw[cSt_app,show (ss++[S]).length=ss.length+1 by simp,hS]
  exact Ent.trans (Ent.pick (H':=[groupC G2,groupC G]++[blkC b3 [ve,vo,vn] 34,ownC (sv (ac,cc) (ss.length+1)) 77 24 (ss.length+1) (cellsOf stE ss++stE ((V2,n),Me.live a n.addr,false,fr0))]) [1,5,3,4] I I) (Ent.trans Ent.group (Ent.pick [1,2,0] I I))
abbrev ImpN (V:NV) (n:Nd) (V':NV) (G:List Chunk) (m:Nd):Prop:=∀w2,OkN w2 V n→(groupC G).p w2→OkN w2 V' m
def beginS (now:Int) (s:Nd×Bool×Bool×Fr):Nd×Bool×Bool×Fr:=(if s.2.1 then tickN s.1 now else s.1,s.2)
def talkS (now:Int) (s:Nd×Bool×Bool×Fr):Nd×Bool×Bool×Fr:=if s.2.1 then ((talk s.1 now).1,s.2.1,(talk s.1 now).2.2,(talk s.1 now).2.1)else s
theorem satNo {w w':World} {H:List Chunk} (h:Sat (base w) H w'):Sat (base w) [groupC []] w':=Ent.gnil w' (h.pick [] I I)
theorem begin_any (V:NV) (n:Nd) (on tk:Bool) (f:Fr) (now:Int) (w:World) (h:OkN w V n) (hg:GdN n):
  Calls Tryz.prog 40 #[.agg ⟨stE ((V,n),on,tk,f)⟩,.int .i64 now] w fun e w'=>∃x:NV×List Chunk,e= .returned (.agg ⟨stE ((x.1,(beginS now (n,on,tk,f)).1),(beginS now (n,on,tk,f)).2)⟩)∧ImpN V n x.1 x.2 (beginS now (n,on,tk,f)).1∧Sat (base w) [groupC x.2] w':=by
 refine calls_hr Tryz.func40 I (Nat.le_of_ble_eq_true I) ?_
 refine HR.sub (σ':=[(0,.agg ⟨stE ((V,n),on,tk,f)⟩),(1,.int .i64 now)]) ⟨I,I,trivial⟩ ?_
 refine HR.ctl I ?_
 refine HR.region ?_
 refine HL.box I I ?_
 intro b2
 refine HL.alloc I I ?_
 intro b4
 repeat' (first|refine zh ?_|intro (bk:Nat))
 refine HR.cond I (fun h2=>?_) (fun h2=>?_)
 ·subst h2
  repeat' (first|refine zh ?_|intro (bk:Nat))
  refine HL.callX (r:=fun x:NV×List Chunk=> .agg ⟨ndC x.1 (tickN n now)⟩) (Q:=fun x=>Own x.1 x.2 (tickN n now)) (G:=fun x=>[groupC x.2]) fn79 I I (fun w1 hw1=>ptick_any V n now w1 (h.ext hw1.belowB) hg.sm (fun s hs=>(hg.wf.out s hs).wt)) ?_
  rintro ⟨V2,G2⟩ hO
  have hO:Own V2 G2 (tickN n now):=hO
  repeat' (first|refine zh ?_|intro (bk:Nat))
  refine HR.ret Tryz.func40 I [_] (fun w hw=>⟨⟨_,rfl,loadVarR hw 1 I I I I rfl⟩,trivial⟩) ?_
  exact fun w' hw=>⟨(V2,G2),rfl,fun w2 _ hg2=>hO w2 hg2,hw.pick [0] I rfl⟩
 ·subst h2
  repeat' (first|refine zh ?_|intro (bk:Nat))
  refine HR.ret Tryz.func40 I [_] (fun w hw=>⟨⟨_,rfl,loadVarR hw 0 I I I I rfl⟩,trivial⟩) ?_
  exact fun w' hw=>⟨(V,[]),rfl,fun w2 hok _=>hok,satNo hw⟩
theorem stalk19_any (V:NV) (n:Nd) (on tk:Bool) (f:Fr) (now:Int) (w:World) (h:OkN w V n) (hg:GdN n):
  Calls Tryz.prog 41 #[.agg ⟨stE ((V,n),on,tk,f)⟩,.int .i64 now] w fun e w'=>∃x:NV×List Chunk,e= .returned (.agg ⟨stE ((x.1,(talkS now (n,on,tk,f)).1),(talkS now (n,on,tk,f)).2)⟩)∧ImpN V n x.1 x.2 (talkS now (n,on,tk,f)).1∧Sat (base w) [groupC x.2] w':=by
 refine calls_hr Tryz.func41 I (Nat.le_of_ble_eq_true I) ?_
 refine HR.sub (σ':=[(0,.agg ⟨stE ((V,n),on,tk,f)⟩),(1,.int .i64 now)]) ⟨I,I,trivial⟩ ?_
 refine HR.ctl I ?_
 refine HR.region ?_
 refine HL.box I I ?_
 intro b2
 refine HL.alloc I I ?_
 intro b4
 repeat' (first|refine zh ?_|intro (bk:Nat))
 refine HR.cond I (fun h2=>?_) (fun h2=>?_)
 ·subst h2
  repeat' (first|refine zh ?_|intro (bk:Nat))
  refine HL.callX (r:=fun x:NV×List Chunk=> .tuple ⟨[.agg ⟨ndC x.1 (talk n now).1⟩,.agg ⟨frC (talk n now).2.1⟩,.bool (talk n now).2.2]⟩) (Q:=fun x=>Own x.1 x.2 (talk n now).1) (G:=fun x=>[groupC x.2]) fn80 I I (fun w1 hw1=>ptalk_any V n now w1 (h.ext hw1.belowB) hg.sm) ?_
  rintro ⟨V2,G2⟩ hO
  have hO:Own V2 G2 (talk n now).1:=hO
  repeat' (first|refine zh ?_|intro (bk:Nat))
  refine HR.ret Tryz.func41 I [_] (fun w hw=>⟨⟨_,rfl,loadVarR hw 1 I I I I rfl⟩,trivial⟩) ?_
  exact fun w' hw=>⟨(V2,G2),rfl,fun w2 _ hg2=>hO w2 hg2,hw.pick [0] I rfl⟩
 ·subst h2
  repeat' (first|refine zh ?_|intro (bk:Nat))
  refine HR.ret Tryz.func41 I [_] (fun w hw=>⟨⟨_,rfl,loadVarR hw 0 I I I I rfl⟩,trivial⟩) ?_
  exact fun w' hw=>⟨(V,[]),rfl,fun w2 hok _=>hok,satNo hw⟩
end Go.Proofs.YtgfdoognildoeaaGreat
namespace Go.Proofs.YtgfdoognildoeaaGreat
open Go.GX Go.RowKit
attribute [local irreducible] Calls Run RunL RunQ RunD HR HL HD blkC ownC mapC Rd slicesC iterC
open Nd
theorem indexFSt_any (l:List StX) (p:StX→Bool) (g:FuncId) (caps:List Value) (v:Value) (w:World) (hg:IsFn Tryz.prog g) (hp:Asks Tryz.prog g caps (fun a=> .agg ⟨stE a⟩) p l w) (hv:Sl w v (cellsOf stE l) l.length) (hl:l.length≤1000000):
  Calls Tryz.prog 84 #[v,.func (.func g) #[] caps.toArray] w fun e w'=>e= .returned (.int .i64 (fidx p l))∧Below w.heap.size w w':=by
 refine calls_hr Tryz.func84 I (Nat.le_of_ble_eq_true I) ?_
 refine HR.sub (σ':=[(0,v),(1,.func (.func g) #[] caps.toArray)]) ⟨I,I,trivial⟩ ?_
 repeat' (first|refine zh ?_|refine HL.lenR (Rd.arg hv) I I I ?_|intro (bk:Nat))
 refine HR.loop (ι:=Nat) (fun k=>k≤l.length∧∀j b,j<k→l[j]? =some b→p b=false) (fun k=>[(0,v),(1,.func (.func g) #[] caps.toArray),(7,.int .i64 (l.length:Int)),(8,.int .i64 (k:Int))]) (fun _=>[]) (fun k=>l.length-k) 0 ⟨Nat.zero_le _,fun j b hj=>absurd hj (Nat.not_lt_zero _)⟩ ⟨I,I,I,I,trivial⟩ Ent.refl ?_
 rintro k ⟨hk,hno⟩ ih
 repeat' (first|refine zh ?_|intro (bk:Nat))
 refine HR.cond I (fun h2=>?_) (fun h2=>?_)
 ·have hlt:k<l.length:=by have:=of_decide_eq_true h2;omega
  obtain ⟨x,hx⟩:=getSome hlt
  repeat' (first|refine zh ?_|refine HL.idxR (Rd.arg hv) elemSt k I I I I hlt ?_|refine HL.loadE (Rd.arg hv) I I I I (by simp) I (cellsOf_get stE_len hx) ?_|refine HL.callV (caps:=caps) hg I I I (fun w' hw=>hp x (List.mem_of_getElem? hx) w' hw.belowB) ?_|intro (bk:Nat))
  refine HR.cond I (fun h3=>?_) (fun h3=>?_)
  ·have h3:p x=true:=h3
   repeat' (first|refine zh ?_|intro (bk:Nat))
   refine HR.ret Tryz.func84 I [_] (fun _ _=>⟨I,trivial⟩) ?_
   rw[fidx_at hx h3 hno]
   exact fun w' hw=>⟨rfl,hw.belowB⟩
  ·have h3:p x=false:=h3
   repeat' (first|refine zh ?_|intro (bk:Nat))
   refine ih (k+1) _ _ ⟨hlt,fun j b hj hb=>?_⟩ (by omega) ⟨I,I,I,I,trivial⟩ Ent.refl
   by_cases e:j=k
   ·subst e;rw[hx]at hb;cases hb;exact h3
   ·exact hno j b (by omega) hb
 ·have hke:k=l.length:=by have:=of_decide_eq_false h2;omega
  subst hke
  rw[fidx_none hno]
  repeat' (first|refine zh ?_|intro (bk:Nat))
  refine HR.ret Tryz.func84 I [_] (fun _ _=>⟨I,trivial⟩) ?_
  exact fun w' hw=>⟨rfl,hw.belowB⟩
theorem hear1_any (bt:Nat) (k:Int) (s:StX) (w:World) (hb:Sl w (.slice (some ⟨bt,0,none⟩) 1 1) [.int .i64 k] 1):Calls Tryz.prog 85 #[.agg ⟨stE s⟩,.pointer (some ⟨bt,0,none⟩)] w fun e w'=>e= .returned (.bool (s.1.2.addr==k))∧Below w.heap.size w w':=by
 refine calls_hr Tryz.func85 I (Nat.le_of_ble_eq_true I) ?_
 refine HR.sub (σ':=[(0,.agg ⟨stE s⟩),(1,.pointer (some ⟨bt,0,none⟩))]) ⟨I,I,trivial⟩ ?_
 repeat' (first|refine zh ?_|refine HL.loadI (j:=0) (Rd.arg hb) I I I I I ?_|intro (bk:Nat))
 refine HR.ret Tryz.func85 I [_] (fun _ _=>⟨I,trivial⟩) ?_
 exact fun w' hw=>⟨rfl,hw.belowB⟩
theorem idxV_ss (ss:List StX) (a:Int):(fidx (fun s:StX=>s.1.2.addr==a) ss= -1∧Me.idx (ssN ss) a=none)∨∃(i:Nat) (s:StX),fidx (fun s:StX=>s.1.2.addr==a) ss=(i:Int)∧Me.idx (ssN ss) a=some i∧ss[i]? =some s:=by
 have e:Me.idx (ssN ss) a=ss.findIdx? (fun s:StX=>s.1.2.addr==a):=by unfold Me.idx ssN;rw[List.findIdx?_map];rfl
 rw[e]
 rcases fidx_cases (fun s:StX=>s.1.2.addr==a) ss with ⟨h1,h2,_⟩|⟨i,s,h1,h2,h3,_⟩
 ·exact .inl ⟨h1,h2⟩
 ·exact .inr ⟨i,s,h1,h2,h3⟩
abbrev cIr (v:Value) (l:List Int):Chunk:=ownC v 3 1 l.length (cellsOf iC l)
theorem hear1_none {f:Fr} {now:Int} {l:List Nd} {r:Bool} {a:Int} (h:Me.idx l a=none):Me.hear1 f now (l,r) a=(l,r):=by unfold Me.hear1;rw[h]
theorem hear1_some {f:Fr} {now:Int} {l:List Nd} {r:Bool} {a:Int} {i:Nat} (h:Me.idx l a=some i):Me.hear1 f now (l,r) a=if awake (Me.nth l i) now then (l.set i (hear (Me.nth l i) now f),r||(a==f.dst))else (l,r):=by unfold Me.hear1;rw[h]
theorem foldl_step {α β:Type} (g:β→α→β) (b:β) {l:List α} {k:Nat} {x:α} (hx:l[k]? =some x):(l.take (k+1)).foldl g b=g ((l.take k).foldl g b) x:=by
 rw[take_succ_get hx,List.foldl_append];rfl
theorem mhear_any (ss:List StX) (f:Fr) (rs:List Int) (now:Int) (v vr:Value) (G:List Chunk) (B0:Base) (w:World) (hw0:Sat B0 [cSt v ss,cIr vr rs,groupC G] w) (hown:∀s∈ss,Own s.1.1 G s.1.2) (hgd:∀s∈ss,GdN s.1.2) (hf:f.da.length≤9223372036854775807) (hl:ss.length≤1000) (hrl:rs.length≤1000):
  Calls Tryz.prog 43 #[v,.agg ⟨frC f⟩,vr,.int .i64 now] w fun e w'=>∃x:List StX×List Chunk,e= .returned (.bool (Me.hears f now (ssN ss) rs).2)∧(ssN x.1=(Me.hears f now (ssN ss) rs).1∧x.1.map (·.2)=ss.map (·.2)∧(∀ s∈x.1,Own s.1.1 x.2 s.1.2)∧∀s∈x.1,GdN s.1.2)∧Sat ⟨w,feet [cSt v ss,cIr vr rs,groupC G]⟩ [cSt v x.1,cIr vr rs,groupC x.2] w':=by
 refine calls_hrW [cSt v ss,cIr vr rs,groupC G] (hw0) Tryz.func43 I (Nat.le_of_ble_eq_true I) ?_
 refine HR.sub (σ':=[(0,v),(1,.agg ⟨frC f⟩),(2,vr),(3,.int .i64 now)]) ⟨I,I,I,I,trivial⟩ ?_
 refine HR.ctl I ?_
 refine HR.region ?_
 refine HL.box I I ?_
 intro b5
 repeat' (first|refine zh ?_|refine HL.lenR (Rd.own 2 I) I I I ?_|intro (bk:Nat))
 refine HR.loop (ι:=Nat×List StX×Bool×List Chunk) (fun x=>x.1≤rs.length∧(rs.take x.1).foldl (Me.hear1 f now) (ssN ss,false)=(ssN x.2.1,x.2.2.1)∧x.2.1.map (·.2)=ss.map (·.2)∧(∀ s∈x.2.1,Own s.1.1 x.2.2.2 s.1.2)∧∀s∈x.2.1,GdN s.1.2) (fun x=>[(0,v),(3,.int .i64 now),(5,ptr b5),(9,.bool x.2.2.1),(13,vr),(14,.int .i64 (rs.length:Int)),(15,.int .i64 (x.1:Int))]) (fun x=>[blkC b5 (frC f) 75,cSt v x.2.1,cIr vr rs,groupC x.2.2.2]) (fun x=>rs.length-x.1) (0,ss,false,G) ⟨Nat.zero_le _,rfl,rfl,hown,hgd⟩ ⟨I,I,I,I,I,I,I,trivial⟩ Ent.refl ?_
 rintro ⟨k,S,r,Gk⟩ ⟨hk,hfo,hS2,hownk,hgdk⟩ ih
 have hk:k≤rs.length:=hk
 have hfo:(rs.take k).foldl (Me.hear1 f now) (ssN ss,false)=(ssN S,r):=hfo
 have hS2:S.map (·.2)=ss.map (·.2):=hS2
 have hownk:∀s∈S,Own s.1.1 Gk s.1.2:=hownk
 have hgdk:∀s∈S,GdN s.1.2:=hgdk
 have hSl:S.length≤1000:=by have:=congrArg List.length hS2;rw[List.length_map,List.length_map]at this;omega
 have cS:(cellsOf stE S).length=S.length*24:=cellsOf_len stE_len _
 repeat' (first|refine zh ?_|intro (bk:Nat))
 refine HR.cond I (fun h2=>?_) (fun h2=>?_)
 rotate_left
 ·have hke:k=rs.length:=by have:¬(k:Int)<(rs.length:Int):=of_decide_eq_false h2;omega
  rw[hke,List.take_length]at hfo
  have e1:Me.hears f now (ssN ss) rs=(ssN S,r):=hfo
  rw[e1]
  repeat' (first|refine zh ?_|intro (bk:Nat))
  refine HR.ret Tryz.func43 I [_] (fun _ _=>⟨I,trivial⟩) ?_
  exact fun w' hw=>⟨(S,Gk),rfl,⟨rfl,hS2,hownk,hgdk⟩,hw.pick [1,2,3] I rfl⟩
 have hlt:k<rs.length:=by have:(k:Int)<(rs.length:Int):=of_decide_eq_true h2;omega
 obtain ⟨a,ha⟩:=getSome hlt
 have hst:=foldl_step (Me.hear1 f now) (ssN ss,false) ha
 rw[hfo]at hst
 repeat' (first|refine zh ?_|refine HL.idxR (Rd.own 2 I) elemI k I I I I hlt ?_|refine HL.loadI (Rd.own 2 I) I I I I (cellsOf_get1 ha) ?_|refine HL.mkF (g:=85) (caps:=[_]) I I ?_|intro (bk:Nat))
 rcases idxV_ss S a with ⟨e1,e2⟩|⟨i,s,e1,e2,hs⟩
 ·rw [hear1_none e2]at hst
  refine HL.callB (r:= .int .i64 (-1)) fn84 I I (fun w1 hw1=>by have:=indexFSt_any S (fun s=>s.1.2.addr==a) 85 [.pointer (some ⟨bk,0,none⟩)] v w1 fn85 (fun x hx w2 hb=>hear1_any bk a x w2 (((Rd.blk (n:=1) 0 rfl).at hw1).ext hb)) ((Rd.own 2 rfl).at hw1) (by omega);rw[e1]at this;exact this) ?_
  repeat' (first|refine zh ?_|intro (bk:Nat))
  exact ih (k+1,S,r,Gk) _ _ ⟨hlt,hst,hS2,hownk,hgdk⟩ (by show rs.length-(k+1)<rs.length-k;omega) ⟨I,I,I,I,I,I,I,trivial⟩ (Ent.pick [1,2,3,4] I I)
 obtain ⟨⟨V,n⟩,on,tk,fr⟩:=s
 have hil:i<S.length:=(List.getElem?_eq_some_iff.1 hs).1
 have hsm:((V,n),on,tk,fr)∈S:=List.mem_of_getElem? hs
 have hOn:Own V Gk n:=hownk _ hsm
 have hGn:GdN n:=hgdk _ hsm
 rw[hear1_some e2,ssN_nth hs]at hst
 have hst:(rs.take (k+1)).foldl (Me.hear1 f now) (ssN ss,false)=if awake n now then ((ssN S).set i (hear n now f),r||(a==f.dst))else (ssN S,r):=hst
 refine HL.callB (r:= .int .i64 (i:Int)) fn84 I I (fun w1 hw1=>by have:=indexFSt_any S (fun s=>s.1.2.addr==a) 85 [.pointer (some ⟨bk,0,none⟩)] v w1 fn85 (fun x hx w2 hb=>hear1_any bk a x w2 (((Rd.blk (n:=1) 0 rfl).at hw1).ext hb)) ((Rd.own 2 rfl).at hw1) (by omega);rw[e1]at this;exact this) ?_
 repeat' (first|refine zh ?_|refine HL.idxR (Rd.own 2 I) elemSt i I I I I hil ?_|refine HL.fieldN 0 (Rd.own 2 I) (by rw[cS];omega) I I I I I I I ?_|refine HL.loadE (us:=ndC V n) (Rd.own 2 I) I I I I (by simp) I (st_cells hs) ?_|refine HL.callB fn86 I I (fun w1 hw1=>sawake_any V n now w1 (hOn w1 (Sat.grp 4 hw1 I)) hGn.sm) ?_|intro (bk:Nat))
 refine HR.cond I (fun h3=>?_) (fun h3=>?_)
 ·have h3:awake n now=false:=by have h3:(!awake n now)=true:=h3;simpa using h3
  rw[h3,if_neg (by decide)]at hst
  repeat' (first|refine zh ?_|intro (bk:Nat))
  exact ih (k+1,S,r,Gk) _ _ ⟨hlt,hst,hS2,hownk,hgdk⟩ (by show rs.length-(k+1)<rs.length-k;omega) ⟨I,I,I,I,I,I,I,trivial⟩ (Ent.pick [1,2,3,4] I I)
 have h3:awake n now=true:=by have h3:(!awake n now)=false:=h3;simpa using h3
 rw[h3,if_pos rfl]at hst
 repeat' (first|refine zh ?_|intro (bk:Nat))
 refine HR.regionY [(0,true),(1,true),(2,true),(3,true),(4,true),(5,true),(6,true),(7,true),(8,true),(9,false),(10,true),(11,true)] 12 [1,2] I I hmix (by kernel_rfl) ?_
 repeat' (first|refine zd ?_|refine HD.idxR (Rd.own 1 I) elemSt i I I I I I hil ?_|refine HD.fieldN 0 (Rd.own 1 I) (by rw[cS];omega) I I I I I I I I ?_|refine HD.loadE (us:=ndC V n) (Rd.own 1 I) I I I I I (by simp) I (st_cells hs) ?_)
 refine HD.one I ?_
 refine HL.callX (r:=fun x:NV×List Chunk=> .agg ⟨ndC x.1 (hear n now f)⟩) (Q:=fun x=>Own x.1 x.2 (hear n now f)) (G:=fun x=>[groupC x.2]) fn87 I I (fun w1 hw1=>phear_any V n now f w1 (hOn w1 (Sat.grp 4 hw1 I)) hGn.sm hf) ?_
 rintro ⟨V2,G2⟩ hO
 have hO:Own V2 G2 (hear n now f):=hO
 refine HL.back [2,3] I I ?_
 repeat' (first|refine zd ?_|refine HD.idxR (Rd.own 1 I) elemSt i I I I I I hil ?_|refine HD.fieldN 0 (Rd.own 1 I) (by rw[cS];omega) I I I I I I I I ?_)
 refine HD.last I ?_
 refine HL.storeEs (us:=ndC V2 (hear n now f)) (j:=i*24+0) 3 I I I I I I I (by rw[cS];show i*24+0+13≤_;omega) (by simp) ?_
 obtain ⟨S',hS'⟩:∃S',S'=S.set i ((V2,hear n now f),on,tk,fr):=⟨_,rfl⟩
 have hl':S'.length=S.length:=by rw[hS'];exact List.length_set
 refine HL.ent (H':=[cSt v S',groupC G2,blkC bk [.int .i64 a] 3,blkC b5 (frC f) 75,cIr vr rs,groupC Gk]) (Ent.trans (Ent.pick [3,0,1,2,4,5] I I) (Ent.own0 hl'.symm (by rw[hS'];exact cells_set (i:=0) stE_len hs I (show 0+13≤24 by decide)))) ?_
 repeat' (first|refine zh ?_|apply zb ?_ ?_|exact zc|(refine zi fun hb=>?_;try simp at hb)|intro (bk:Nat))
 refine ih (k+1,S',r||(a==f.dst),[groupC G2,groupC Gk]) _ _ ⟨hlt,?_,?_,?_,?_⟩ (by show rs.length-(k+1)<rs.length-k;omega) ⟨I,I,I,I,I,I,I,trivial⟩ (Ent.trans (Ent.pick (H':=[groupC G2,groupC Gk]++[blkC b5 (frC f) 75,cSt v S',cIr vr rs]) [1,5,3,0,4] I I) (Ent.trans Ent.group (Ent.pick [1,2,3,0] I I)))
 ·show (rs.take (k+1)).foldl (Me.hear1 f now) (ssN ss,false)=(ssN S',r||(a==f.dst))
  rw[hst,hS',ssN_set]
 ·show S'.map (·.2)=ss.map (·.2)
  rw[← hS2,hS',List.map_set]
  exact set_same (by rw[List.getElem?_map,hs];rfl)
 ·intro z hz
  have hz:z∈S':=hz
  rw[hS']at hz
  rcases List.mem_or_eq_of_mem_set hz with hz|rfl
  ·exact fun w2 hg2=>hownk z hz w2 (groupC_mem hg2 (by simp))
  ·exact fun w2 hg2=>hO w2 (groupC_mem hg2 (by simp))
 ·intro z hz
  have hz:z∈S':=hz
  rw[hS']at hz
  rcases List.mem_or_eq_of_mem_set hz with hz|rfl
  ·exact hgdk z hz
  ·exact hGn.hear hf now
end Go.Proofs.YtgfdoognildoeaaGreat
namespace Go.Proofs.YtgfdoognildoeaaGreat
open Go.GX Go.RowKit
attribute [local irreducible] Calls Run RunL RunQ RunD HR HL HD blkC ownC mapC Rd slicesC iterC
open Nd
theorem fn15:IsFn Tryz.prog 15:=⟨⟨_,_,Tryz.func15,rfl,by decide⟩⟩
theorem now_eq (t:Int):(if (if (1099511627775:Int)<t then 1099511627775 else t)>0 then (if (1099511627775:Int)<t then 1099511627775 else t)else 0)=max 0 (min t 1099511627775):=by
 split<;>split at* <;>omega
abbrev ssP (ss:List StX):List (Nd×Bool×Bool×Fr):=ss.map fun s=>(s.1.2,s.2)
theorem ssP_set (ss:List StX) (k:Nat) (s:StX):ssP (ss.set k s)=(ssP ss).set k (s.1.2,s.2):=by unfold ssP;rw[List.map_set]
theorem ssP_get {ss:List StX} {k:Nat} {s:StX} (h:ss[k]? =some s):(ssP ss)[k]? =some (s.1.2,s.2):=by unfold ssP;rw[List.getElem?_map,h];rfl
theorem ssP_len (ss:List StX):(ssP ss).length=ss.length:=by simp[ssP]
theorem phases (nw:Int) (a:Me.Air) (n:Nd):talkS nw (beginS nw (n,Me.live a n.addr,false,fr0))=((Me.talk1 nw (Me.live a n.addr) (Me.phase1 a nw n)).1,Me.live a n.addr,(Me.talk1 nw (Me.live a n.addr) (Me.phase1 a nw n)).2.2,(Me.talk1 nw (Me.live a n.addr) (Me.phase1 a nw n)).2.1):=by
 unfold talkS beginS Me.talk1 Me.phase1
 by_cases h:Me.live a n.addr=true
 ·simp only[h,if_true]
 ·simp only[h,if_false,Bool.false_eq_true]
theorem phases_N (m:Me.Mesh) (a:Me.Air):(m.nodes.map (fun n=>talkS (Me.now1 m.tick) (beginS (Me.now1 m.tick) (n,Me.live a n.addr,false,fr0)))).map (·.1)=(Me.spoken m a).map (·.1):=by
 unfold Me.spoken
 rw[List.map_map,List.map_map]
 refine List.map_congr_left fun n _=>?_
 show (talkS _ _).1=_
 rw[phases];rfl
theorem phases_F (m:Me.Mesh) (a:Me.Air):(m.nodes.map (fun n=>talkS (Me.now1 m.tick) (beginS (Me.now1 m.tick) (n,Me.live a n.addr,false,fr0)))).map (fun s=>(s.2.2.2,s.2.2.1))=(Me.spoken m a).map (·.2):=by
 unfold Me.spoken
 rw[List.map_map,List.map_map]
 refine List.map_congr_left fun n _=>?_
 show ((talkS _ _).2.2.2,(talkS _ _).2.2.1)=_
 rw[phases];rfl
theorem gd_begin {now:Int} {s:Nd×Bool×Bool×Fr} (h:GdN s.1):GdN (beginS now s).1:=by
 unfold beginS;simp only;split
 ·exact h.tick now
 ·exact h
theorem gd_talk {now:Int} {s:Nd×Bool×Bool×Fr} (h:GdN s.1) (hf:s.2.2.2.da.length≤9223372036854775807):GdN (talkS now s).1∧(talkS now s).2.2.2.da.length≤9223372036854775807:=by
 unfold talkS;split
 ·exact h.talk now
 ·exact ⟨h,hf⟩
theorem tells_step {a:Me.Air} {now:Int} {fs:List (Fr×Bool)} {k:Nat} {l:List Nd} {f:Fr} {tk:Bool} (h:fs[k]? =some (f,tk)):Me.tells a now fs (k+1) l=if tk then Me.told a now (Me.tells a now fs k l) k f else Me.tells a now fs k l:=by
 show Me.tell1 a now (Me.tells a now fs k l) k fs[k]? =_
 rw[h];cases tk<;>rfl
theorem mstep_any (t:Int) (v:Value) (xs:List (NV×Nd)) (a:Me.Air) (ve vo vn:Value) (w:World) (h:OkL w v xs) (hg:∀x∈xs,GdN x.2) (hl:xs.length≤1000) (hA:OkA w a ve vo vn):
  Calls Tryz.prog 15 #[meV t v,airV ve vo vn] w fun e w'=>∃x:SV×List (NV×Nd)×List Chunk,e= .returned (meV (Me.now1 t) (sv x.1 x.2.1.length))∧(MkL x (Me.mStep ⟨t,nds xs⟩ a).nodes∧∀y∈x.2.1,GdN y.2)∧Sat (base w) [cNd (sv x.1 x.2.1.length) x.2.1,groupC x.2.2] w':=by
 obtain ⟨nw,hnw⟩:∃z,z=Me.now1 t:=⟨_,rfl⟩
 refine calls_hr Tryz.func15 I (Nat.le_of_ble_eq_true I) ?_
 refine HR.sub (σ':=[(0,meV t v),(1,airV ve vo vn)]) ⟨I,I,trivial⟩ ?_
 refine HR.ctl I ?_
 refine HR.region ?_
 refine HL.box I I ?_
 intro b2
 refine HL.box I I ?_
 intro b3
 refine HL.alloc I I ?_
 intro b4
 refine HL.nil ?_
 refine HR.ctl I ?_
 refine HR.region ?_
 refine zn ?_
 refine HR.setV 5 (v':= .int .i64 nw) I (by rw[now_eq,hnw];rfl) ?_
 repeat' (first|refine zh ?_|intro (bk:Nat))
 refine HL.callX (r:=fun x:SV×List StX×List Chunk=>sv x.1 x.2.1.length) (Q:=fun x=>x.2.1.map (fun s=>(s.1.2,s.2))=(nds xs).map (fun n=>(n,Me.live a n.addr,false,fr0))∧∀s∈x.2.1,Own s.1.1 x.2.2 s.1.2) (G:=fun x=>[cSt (sv x.1 x.2.1.length) x.2.1,groupC x.2.2]) fn39 I I (fun w1 hw1=>stations_any t v xs a ve vo vn w1 (h.ext hw1.belowB) (fun x hx=>(hg x hx).sm) hl (hA.at hw1)) ?_
 rintro ⟨y,S0,G0⟩ ⟨hP0,hO0⟩
 have hP0:ssP S0=(nds xs).map (fun n=>(n,Me.live a n.addr,false,fr0)):=hP0
 have hO0:∀s∈S0,Own s.1.1 G0 s.1.2:=hO0
 have hS0:S0.length=xs.length:=by rw[← ssP_len,hP0,List.length_map,nds_len]
 have hgd0:∀s∈S0,GdN s.1.2∧s.2.2.2.da.length≤9223372036854775807:=fun s hs=>by
  have hm:(s.1.2,s.2)∈ssP S0:=List.mem_map.2 ⟨s,hs,rfl⟩
  rw[hP0]at hm
  obtain ⟨n,hn,e⟩:=List.mem_map.1 hm
  obtain ⟨x,hx,rfl⟩:=List.mem_map.1 hn
  have e1:x.2=s.1.2:=congrArg (·.1) e
  have e2:(Me.live a x.2.addr,false,fr0)=s.2:=congrArg (·.2) e
  exact ⟨by rw[← e1];exact hg x hx,by rw[← e2];exact Nat.zero_le _⟩
 have y_sv:∀(S:List StX),S.length=S0.length→sv y S0.length=sv y S.length:=fun S e=>by rw[e]
 repeat' (first|refine zh ?_|intro (bk:Nat))
 refine HR.loop (ι:=Nat×List StX×List Chunk) (fun x=>x.1≤S0.length∧ssP x.2.1=((ssP S0).take x.1).map (beginS nw)++(ssP S0).drop x.1∧(∀ s∈x.2.1,Own s.1.1 x.2.2 s.1.2)∧∀s∈x.2.1,GdN s.1.2∧s.2.2.2.da.length≤9223372036854775807) (fun x=>[(3,ptr b3),(4,ptr b4),(5,.int .i64 nw),(6,sv y S0.length),(7,.func (.func 40) #[] #[]),(27,.int .i64 (S0.length:Int)),(28,.int .i64 (x.1:Int))]) (fun x=>[blkC b3 [ve,vo,vn] 34,blkC b4 meZ 26,ownC (sv y S0.length) 77 24 S0.length (cellsOf stE x.2.1),groupC x.2.2]) (fun x=>S0.length-x.1) (0,S0,G0) ⟨Nat.zero_le _,rfl,hO0,hgd0⟩ ⟨I,I,I,I,I,I,I,trivial⟩ (Ent.pick [3,2,0,1] I I) ?_
 rintro ⟨k,S,G⟩ ⟨hk,hP,hO,hgd⟩ ih
 have hk:k≤S0.length:=hk
 have hP:ssP S=((ssP S0).take k).map (beginS nw)++(ssP S0).drop k:=hP
 have hO:∀s∈S,Own s.1.1 G s.1.2:=hO
 have hgd:∀s∈S,GdN s.1.2∧s.2.2.2.da.length≤9223372036854775807:=hgd
 have hSl:S.length=S0.length:=by rw[← ssP_len,hP,List.length_append,List.length_map,← List.length_append,List.take_append_drop,ssP_len]
 have cS:(cellsOf stE S).length=S.length*24:=cellsOf_len stE_len _
 repeat' (first|refine zh ?_|intro (bk:Nat))
 refine HR.cond I (fun h2=>?_) (fun h2=>?_)
 ·have hlt:k<S0.length:=by have:(k:Int)<(S0.length:Int):=of_decide_eq_true h2;omega
  obtain ⟨⟨⟨V,n⟩,on,tk,fr⟩,hs⟩:=getSome (show k<S.length by omega)
  have hsm:=List.mem_of_getElem? hs
  have hOn:Own V G n:=hO _ hsm
  have hGn:GdN n:=(hgd _ hsm).1
  have hfn:fr.da.length≤9223372036854775807:=(hgd _ hsm).2
  have hs0:(ssP S0)[k]? =some (n,on,tk,fr):=by
   obtain ⟨z,hz⟩:=getSome (show k<(ssP S0).length by rw[ssP_len];exact hlt)
   have e:=map_part_get (beginS nw) hz
   rw[← hP,ssP_get hs]at e
   rw[hz];exact e.symm
  repeat' (first|refine zh ?_|refine HL.idxR (n:=S0.length) (cs:=cellsOf stE S) (Rd.own 2 I) elemSt k I I I I hlt ?_|refine HL.loadE (us:=stE ((V,n),on,tk,fr)) (cs:=cellsOf stE S) (Rd.own 2 I) I I I I (by simp) I (cellsOf_get stE_len hs) ?_|intro (bk:Nat))
  refine HL.callVX (caps:=[]) (r:=fun x:NV×List Chunk=> .agg ⟨stE ((x.1,(beginS nw (n,on,tk,fr)).1),(beginS nw (n,on,tk,fr)).2)⟩) (Q:=fun x=>ImpN V n x.1 x.2 (beginS nw (n,on,tk,fr)).1) (G:=fun x=>[groupC x.2]) fn40 I I I (fun w1 hw1=>begin_any V n on tk fr nw w1 (hOn w1 (Sat.grp 3 hw1 I)) hGn) ?_
  rintro ⟨V2,G2⟩ hI
  have hI:ImpN V n V2 G2 (beginS nw (n,on,tk,fr)).1:=hI
  obtain ⟨s2,hs2⟩:∃s2:StX,s2=((V2,(beginS nw (n,on,tk,fr)).1),(beginS nw (n,on,tk,fr)).2):=⟨_,rfl⟩
  repeat' (first|refine zh ?_|refine HL.idxR (n:=S0.length) (cs:=cellsOf stE S) (Rd.own 3 I) elemSt k I I I I hlt ?_|refine HL.storeEs (us:=stE ((V2,(beginS nw (n,on,tk,fr)).1),(beginS nw (n,on,tk,fr)).2)) (j:=k*24) 3 I I I I I I I (by rw[cS];show k*24+24≤_;omega) (by simp) ?_|intro (bk:Nat))
  have hSet:∀z∈S.set k s2,z∈S∨z=s2:=fun z hz=>List.mem_or_eq_of_mem_set hz
  refine ih (k+1,S.set k s2,[groupC G2,groupC G]) _ _ ⟨hlt,?_,?_,?_⟩ (by show S0.length-(k+1)<S0.length-k;omega) ⟨I,I,I,I,I,I,I,trivial⟩ ?_
  ·show ssP (S.set k s2)=_
   rw[ssP_set,hP,hs2]
   exact map_part (beginS nw) hs0
  ·intro z hz
   rcases hSet z hz with hz|rfl
   ·exact fun w2 hg2=>hO z hz w2 (groupC_mem hg2 (by simp))
   ·rw [hs2];exact fun w2 hg2=>hI w2 (hOn w2 (groupC_mem hg2 (by simp))) (groupC_mem hg2 (by simp))
  ·intro z hz
   rcases hSet z hz with hz|rfl
   ·exact hgd z hz
   ·rw [hs2];exact ⟨gd_begin hGn,hfn⟩
  ·show Ent _ _ [blkC b3 [ve,vo,vn] 34,blkC b4 meZ 26,ownC (sv y S0.length) 77 24 S0.length (cellsOf stE (S.set k s2)),groupC [groupC G2,groupC G]]
   refine Ent.trans (Ent.pick (H':=[groupC G2,groupC G]++[blkC b3 [ve,vo,vn] 34,blkC b4 meZ 26,_]) [0,4,1,2,3] I I) (Ent.trans Ent.group (Ent.trans (Ent.pick [3,1,2,0] I I) (Ent.trans (Ent.own0 I ?_) (Ent.pick [1,2,0,3] I I))))
   rw[hs2]
   exact cells_set (i:=0) stE_len hs I (show 0+24≤24 by decide)
 have hke:k=S0.length:=by have:¬(k:Int)<(S0.length:Int):=of_decide_eq_false h2;omega
 rw[hke,← ssP_len S0,List.take_length,List.drop_length,List.append_nil]at hP
 have hP1:ssP S=(ssP S0).map (beginS nw):=hP
 have hO1:=hO
 have hgd1:=hgd
 obtain ⟨S1,hS1⟩:∃S1,S1=S:=⟨_,rfl⟩
 obtain ⟨G1,hG1⟩:∃G1,G1=G:=⟨_,rfl⟩
 subst hS1
 subst hG1
 have hSl1:S1.length=S0.length:=hSl
 rw[← hSl]
 rw[← hSl]at y_sv
 clear hO hgd hP ih hk cS
 repeat' (first|refine zh ?_|intro (bk:Nat))
 refine HR.loop (ι:=Nat×List StX×List Chunk) (fun x=>x.1≤S1.length∧ssP x.2.1=((ssP S1).take x.1).map (talkS nw)++(ssP S1).drop x.1∧(∀ s∈x.2.1,Own s.1.1 x.2.2 s.1.2)∧∀s∈x.2.1,GdN s.1.2∧s.2.2.2.da.length≤9223372036854775807) (fun x=>[(3,ptr b3),(4,ptr b4),(5,.int .i64 nw),(6,sv y S1.length),(7,.func (.func 41) #[] #[]),(43,.int .i64 (S1.length:Int)),(44,.int .i64 (x.1:Int))]) (fun x=>[blkC b3 [ve,vo,vn] 34,blkC b4 meZ 26,ownC (sv y S1.length) 77 24 S1.length (cellsOf stE x.2.1),groupC x.2.2]) (fun x=>S1.length-x.1) (0,S1,G1) ⟨Nat.zero_le _,rfl,hO1,hgd1⟩ ⟨I,I,I,I,I,I,I,trivial⟩ Ent.refl ?_
 rintro ⟨k,S,G⟩ ⟨hk,hP,hO,hgd⟩ ih
 have hk:k≤S1.length:=hk
 have hP:ssP S=((ssP S1).take k).map (talkS nw)++(ssP S1).drop k:=hP
 have hO:∀s∈S,Own s.1.1 G s.1.2:=hO
 have hgd:∀s∈S,GdN s.1.2∧s.2.2.2.da.length≤9223372036854775807:=hgd
 have hSl:S.length=S1.length:=by rw[← ssP_len,hP,List.length_append,List.length_map,← List.length_append,List.take_append_drop,ssP_len]
 have cS:(cellsOf stE S).length=S.length*24:=cellsOf_len stE_len _
 repeat' (first|refine zh ?_|intro (bk:Nat))
 refine HR.cond I (fun h2=>?_) (fun h2=>?_)
 ·have hlt:k<S1.length:=by have:(k:Int)<(S1.length:Int):=of_decide_eq_true h2;omega
  obtain ⟨⟨⟨V,n⟩,on,tk,fr⟩,hs⟩:=getSome (show k<S.length by omega)
  have hsm:=List.mem_of_getElem? hs
  have hOn:Own V G n:=hO _ hsm
  have hGn:GdN n:=(hgd _ hsm).1
  have hfn:fr.da.length≤9223372036854775807:=(hgd _ hsm).2
  have hs0:(ssP S1)[k]? =some (n,on,tk,fr):=by
   obtain ⟨z,hz⟩:=getSome (show k<(ssP S1).length by rw[ssP_len];exact hlt)
   have e:=map_part_get (talkS nw) hz
   rw[← hP,ssP_get hs]at e
   rw[hz];exact e.symm
  repeat' (first|refine zh ?_|refine HL.idxR (n:=S1.length) (cs:=cellsOf stE S) (Rd.own 2 I) elemSt k I I I I hlt ?_|refine HL.loadE (us:=stE ((V,n),on,tk,fr)) (cs:=cellsOf stE S) (Rd.own 2 I) I I I I (by simp) I (cellsOf_get stE_len hs) ?_|intro (bk:Nat))
  refine HL.callVX (caps:=[]) (r:=fun x:NV×List Chunk=> .agg ⟨stE ((x.1,(talkS nw (n,on,tk,fr)).1),(talkS nw (n,on,tk,fr)).2)⟩) (Q:=fun x=>ImpN V n x.1 x.2 (talkS nw (n,on,tk,fr)).1) (G:=fun x=>[groupC x.2]) fn41 I I I (fun w1 hw1=>stalk19_any V n on tk fr nw w1 (hOn w1 (Sat.grp 3 hw1 I)) hGn) ?_
  rintro ⟨V2,G2⟩ hI
  have hI:ImpN V n V2 G2 (talkS nw (n,on,tk,fr)).1:=hI
  obtain ⟨s2,hs2⟩:∃s2:StX,s2=((V2,(talkS nw (n,on,tk,fr)).1),(talkS nw (n,on,tk,fr)).2):=⟨_,rfl⟩
  repeat' (first|refine zh ?_|refine HL.idxR (n:=S1.length) (cs:=cellsOf stE S) (Rd.own 3 I) elemSt k I I I I hlt ?_|refine HL.storeEs (us:=stE ((V2,(talkS nw (n,on,tk,fr)).1),(talkS nw (n,on,tk,fr)).2)) (j:=k*24) 3 I I I I I I I (by rw[cS];show k*24+24≤_;omega) (by simp) ?_|intro (bk:Nat))
  have hSet:∀z∈S.set k s2,z∈S∨z=s2:=fun z hz=>List.mem_or_eq_of_mem_set hz
  refine ih (k+1,S.set k s2,[groupC G2,groupC G]) _ _ ⟨hlt,?_,?_,?_⟩ (by show S1.length-(k+1)<S1.length-k;omega) ⟨I,I,I,I,I,I,I,trivial⟩ ?_
  ·show ssP (S.set k s2)=_
   rw[ssP_set,hP,hs2]
   exact map_part (talkS nw) hs0
  ·intro z hz
   rcases hSet z hz with hz|rfl
   ·exact fun w2 hg2=>hO z hz w2 (groupC_mem hg2 (by simp))
   ·rw [hs2];exact fun w2 hg2=>hI w2 (hOn w2 (groupC_mem hg2 (by simp))) (groupC_mem hg2 (by simp))
  ·intro z hz
   rcases hSet z hz with hz|rfl
   ·exact hgd z hz
   ·rw [hs2];exact gd_talk (s:=(n,on,tk,fr)) hGn hfn
  ·show Ent _ _ [blkC b3 [ve,vo,vn] 34,blkC b4 meZ 26,ownC (sv y S1.length) 77 24 S1.length (cellsOf stE (S.set k s2)),groupC [groupC G2,groupC G]]
   refine Ent.trans (Ent.pick (H':=[groupC G2,groupC G]++[blkC b3 [ve,vo,vn] 34,blkC b4 meZ 26,_]) [0,4,1,2,3] I I) (Ent.trans Ent.group (Ent.trans (Ent.pick [3,1,2,0] I I) (Ent.trans (Ent.own0 I ?_) (Ent.pick [1,2,0,3] I I))))
   rw[hs2]
   exact cells_set (i:=0) stE_len hs I (show 0+24≤24 by decide)
 have hke:k=S1.length:=by have:¬(k:Int)<(S1.length:Int):=of_decide_eq_false h2;omega
 rw[hke,← ssP_len S1,List.take_length,List.drop_length,List.append_nil]at hP
 have hP2:ssP S=(nds xs).map (fun n=>talkS nw (beginS nw (n,Me.live a n.addr,false,fr0))):=by rw[hP,hP1,hP0,List.map_map,List.map_map];rfl
 obtain ⟨fs,hfs⟩:∃fs,fs=(Me.spoken ⟨t,nds xs⟩ a).map (·.2):=⟨_,rfl⟩
 have hF:S.map (fun s=>(s.2.2.2,s.2.2.1))=fs:=by
  have:=phases_F ⟨t,nds xs⟩ a
  rw[hfs,← this,← hnw,← hP2,List.map_map];rfl
 have hN:ssN S=(Me.spoken ⟨t,nds xs⟩ a).map (·.1):=by
  have:=phases_N ⟨t,nds xs⟩ a
  rw[← this,← hnw,← hP2,List.map_map];rfl
 obtain ⟨l2,hl2⟩:∃l2,l2=ssN S:=⟨_,rfl⟩
 have hO2:=hO
 have hgd2:=hgd
 obtain ⟨S2,hS2⟩:∃S2,S2=S:=⟨_,rfl⟩
 obtain ⟨G2,hG2⟩:∃G2,G2=G:=⟨_,rfl⟩
 subst hS2
 subst hG2
 have hL2:S2.length=xs.length:=by rw[hSl,hSl1,hS0]
 rw[← hSl]
 clear hO hgd hP ih hk cS y_sv hP1 hP0 hO1 hgd1 hO0 hgd0
 repeat' (first|refine zh ?_|intro (bk:Nat))
 refine HR.loop (ι:=Nat×List StX×List Chunk) (fun x=>x.1≤S2.length∧ssN x.2.1=Me.tells a nw fs x.1 l2∧x.2.1.map (·.2)=S2.map (·.2)∧(∀ s∈x.2.1,Own s.1.1 x.2.2 s.1.2)∧∀s∈x.2.1,GdN s.1.2) (fun x=>[(3,ptr b3),(4,ptr b4),(5,.int .i64 nw),(6,sv y S2.length),(59,.int .i64 (S2.length:Int)),(60,.int .i64 (x.1:Int))]) (fun x=>[blkC b3 [ve,vo,vn] 34,blkC b4 meZ 26,cSt (sv y S2.length) x.2.1,groupC x.2.2]) (fun x=>S2.length-x.1) (0,S2,G2) ⟨Nat.zero_le _,hl2.symm,rfl,hO2,fun s hs=>(hgd2 s hs).1⟩ ⟨I,I,I,I,I,I,trivial⟩ (Ent.pick [0,1,2,3] I I) ?_
 rintro ⟨k,S,G⟩ ⟨hk,hT,hS2m,hO,hgd⟩ ih
 have hk:k≤S2.length:=hk
 have hT:ssN S=Me.tells a nw fs k l2:=hT
 have hS2m:S.map (·.2)=S2.map (·.2):=hS2m
 have hO:∀s∈S,Own s.1.1 G s.1.2:=hO
 have hgd:∀s∈S,GdN s.1.2:=hgd
 have hSl:S.length=S2.length:=by have:=congrArg List.length hS2m;rwa[List.length_map,List.length_map]at this
 have cS:(cellsOf stE S).length=S.length*24:=cellsOf_len stE_len _
 repeat' (first|refine zh ?_|intro (bk:Nat))
 refine HR.cond I (fun h2=>?_) (fun h2=>?_)
 ·have hlt:k<S2.length:=by have:(k:Int)<(S2.length:Int):=of_decide_eq_true h2;omega
  have hlt':k<S.length:=by omega
  obtain ⟨⟨⟨V,n⟩,on,tk,fr⟩,hs⟩:=getSome hlt'
  have hs2:(S2.map (·.2))[k]? =some (on,tk,fr):=by rw[← hS2m,List.getElem?_map,hs];rfl
  have hfk:fs[k]? =some (fr,tk):=by
   rw[← hF,List.getElem?_map]
   rw[List.getElem?_map]at hs2
   cases hz:S2[k]? with
   |none=>rw[hz]at hs2;cases hs2
   |some z=>rw[hz]at hs2;cases z with|mk z1 z2=>cases hs2;rfl
  have hfd:fr.da.length≤9223372036854775807:=by
   obtain ⟨z,hz,e⟩:=List.mem_map.1 (List.mem_of_getElem? hs2)
   have:=(hgd2 z hz).2
   rw[e]at this;exact this
  have hstep:=tells_step (a:=a) (now:=nw) (l:=l2) hfk
  rw[← hT]at hstep
  repeat' (first|refine zh ?_|refine HL.idxR (Rd.own 2 I) elemSt k I I I I hlt' ?_|refine HL.fieldN 14 (Rd.own 2 I) (by rw[cS];omega) I I I I I I I ?_|refine HL.loadI (Rd.own 2 I) I I I I (cells_get stE_len hs (i:=14) I) ?_|intro (bk:Nat))
  refine HR.cond I (fun h3=>?_) (fun h3=>?_)
  ·have h3:tk=false:=by have h3:(!tk)=true:=h3;simpa using h3
   rw[h3,if_neg (by decide)]at hstep
   repeat' (first|refine zh ?_|intro (bk:Nat))
   exact ih (k+1,S,G) _ _ ⟨hlt,hstep.symm,hS2m,hO,hgd⟩ (by show S2.length-(k+1)<S2.length-k;omega) ⟨I,I,I,I,I,I,trivial⟩ Ent.refl
  have h3:tk=true:=by have h3:(!tk)=false:=h3;simpa using h3
  rw[h3,if_pos rfl]at hstep
  obtain ⟨rs,hrs⟩:∃rs,rs=Ra.recv (Ra.san a) fr:=⟨_,rfl⟩
  obtain ⟨ac,hac⟩:∃ac,ac=Ra.acked (Ra.san a) fr:=⟨_,rfl⟩
  have hrl:rs.length≤251:=by rw[hrs];exact Ra.recv_len _ _
  repeat' (first|refine zh ?_|refine HL.idxR (Rd.own 2 I) elemSt k I I I I hlt' ?_|refine HL.fieldN 15 (Rd.own 2 I) (by rw[cS];omega) I I I I I I I ?_|refine HL.loadE (us:=frC fr) (Rd.own 2 I) I I I I (by simp) I (st_frame hs) ?_|intro (bk:Nat))
  refine HL.callX (r:=fun x:Value=> .tuple ⟨[x,.bool ac]⟩) (Q:=fun _=>True) (G:=fun x=>[cIr x rs]) fn42 I I (fun w1 hw1=>by rw[hrs,hac];exact (deliver_any a fr ve vo vn w1 (hA.at hw1)).mono fun e w' ⟨x,e1,e2⟩=>⟨x,e1,trivial,e2⟩) ?_
  intro vr _
  repeat' (first|refine zh ?_|intro (bk:Nat))
  refine HL.ent (H':=[cSt (sv y S2.length) S,cIr vr rs,groupC G]++[blkC bk (frC fr) 75,blkC b3 [ve,vo,vn] 34,blkC b4 meZ 26]) (Ent.pick [4,0,5,1,2,3] I I) ?_
  refine HL.callW (r:=fun _=> .bool (Me.hears fr nw (ssN S) rs).2) (Q:=fun x:List StX×List Chunk=>ssN x.1=(Me.hears fr nw (ssN S) rs).1∧x.1.map (·.2)=S.map (·.2)∧(∀ s∈x.1,Own s.1.1 x.2 s.1.2)∧∀s∈x.1,GdN s.1.2) (G:=fun x=>[cSt (sv y S2.length) x.1,cIr vr rs,groupC x.2]) fn43 I I I (fun w1 hw1=>mhear_any S fr rs nw (sv y S2.length) vr G _ w1 (hw1.pick [0,1,2] I I) hO hgd hfd (by omega) (by omega)) ?_
  rintro ⟨S',G'⟩ ⟨hN',hM',hO',hgd'⟩
  have hN':ssN S'=(Me.hears fr nw (ssN S) rs).1:=hN'
  have hM':S'.map (·.2)=S.map (·.2):=hM'
  have hO':∀s∈S',Own s.1.1 G' s.1.2:=hO'
  have hgd':∀s∈S',GdN s.1.2:=hgd'
  obtain ⟨rc,hrc⟩:∃rc,rc=(Me.hears fr nw (ssN S) rs).2:=⟨_,rfl⟩
  rw[← hrc]
  have hSl':S'.length=S.length:=by have:=congrArg List.length hM';rwa[List.length_map,List.length_map]at this
  have cS':(cellsOf stE S').length=S'.length*24:=cellsOf_len stE_len _
  have hlt2:k<S'.length:=by omega
  obtain ⟨⟨⟨V1,n1⟩,on1,tk1,fr1⟩,hs1⟩:=getSome hlt2
  have hsm1:=List.mem_of_getElem? hs1
  have hOn1:Own V1 G' n1:=hO' _ hsm1
  have hGn1:GdN n1:=hgd' _ hsm1
  have hnth:Me.nth (Me.hears fr nw (ssN S) rs).1 k=n1:=by rw[← hN'];exact ssN_nth hs1
  obtain ⟨okk,hokk⟩:∃okk,okk=(ac&&(rc||(fr.dst==255))):=⟨_,rfl⟩
  have hstep2:Me.tells a nw fs (k+1) l2=(ssN S').set k (result n1 fr okk):=by
   rw[hstep]
   show (Me.hears fr nw (ssN S) (Ra.recv (Ra.san a) fr)).1.set k (result (Me.nth (Me.hears fr nw (ssN S) (Ra.recv (Ra.san a) fr)).1 k) fr (Ra.acked (Ra.san a) fr&&((Me.hears fr nw (ssN S) (Ra.recv (Ra.san a) fr)).2||(fr.dst==255))))=_
   rw[← hrs,← hac,← hrc,hnth,← hokk,hN']
  repeat' (first|refine zh ?_|intro (bk:Nat))
  refine HR.join (ι:=NV×List Chunk) (fun x=>Own x.1 x.2 (result n1 fr okk)) (fun x=>[(3,ptr b3),(4,ptr b4),(5,.int .i64 nw),(6,sv y S2.length),(59,.int .i64 (S2.length:Int)),(60,.int .i64 (k:Int))]) (fun x=>[ownC (sv y S2.length) 77 24 S'.length (cellsOf stE (S'.set k ((x.1,result n1 fr okk),on1,tk1,fr1))),groupC x.2,groupC G',blkC b3 [ve,vo,vn] 34,blkC b4 meZ 26]) ?_ (fun hj=>?_)
  rotate_left
  ·clear hstep hac
   cases ac with
   |false=>
    cases rc with
    |false=>
     refine HR.regionY [(0,true),(1,true),(2,true),(3,true),(4,true),(5,true),(6,true),(7,true),(8,true),(9,true),(10,true),(11,true),(12,true),(13,true),(14,true),(15,true),(16,true),(17,false),(18,true),(19,true)] 20 [0,3] I I hmix (by kernel_rfl) ?_
     repeat' (first|refine zd ?_|refine HD.idxR (Rd.own 0 I) elemSt k I I I I I hlt2 ?_|refine HD.fieldN 0 (Rd.own 0 I) (by rw[cS'];omega) I I I I I I I I ?_|refine HD.loadE (us:=ndC V1 n1) (Rd.own 0 I) I I I I I (by simp) I (st_cells hs1) ?_)
     refine HD.one I ?_
     refine HL.callX (r:=fun x:NV×List Chunk=> .agg ⟨ndC x.1 (result n1 fr okk)⟩) (Q:=fun x=>Own x.1 x.2 (result n1 fr okk)) (G:=fun x=>[groupC x.2]) fn44 I I (fun w1 hw1=>by rw[hokk];exact presult_any V1 n1 fr _ w1 (hOn1 w1 (Sat.grp 2 hw1 I)) hGn1.sm) ?_
     rintro ⟨V3,G3⟩ hO3
     have hO3:Own V3 G3 (result n1 fr okk):=hO3
     refine HL.back [1,4] I I ?_
     repeat' (first|refine zd ?_|refine HD.idxR (Rd.own 0 I) elemSt k I I I I I hlt2 ?_|refine HD.fieldN 0 (Rd.own 0 I) (by rw[cS'];omega) I I I I I I I I ?_)
     refine HD.last I ?_
     refine HL.storeEs (us:=ndC V3 (result n1 fr okk)) (j:=k*24+0) 1 I I I I I I I (by rw[cS'];show k*24+0+13≤_;omega) (by simp) ?_
     repeat' (first|refine zn ?_|intro (bk:Nat))
     exact hj (V3,G3) _ _ hO3 ⟨I,I,I,I,I,I,trivial⟩ (Ent.trans (Ent.pick [1,0,3,5,6] I I) (Ent.own0 I (cells_set (i:=0) stE_len hs1 I (show 0+13≤24 by decide))))
    |true=>
     refine HR.regionY [(0,true),(1,true),(2,true),(3,true),(4,true),(5,true),(6,true),(7,true),(8,true),(9,true),(10,true),(11,true),(12,true),(13,true),(14,true),(15,true),(16,true),(17,false),(18,true),(19,true)] 20 [0,3] I I hmix (by kernel_rfl) ?_
     repeat' (first|refine zd ?_|refine HD.idxR (Rd.own 0 I) elemSt k I I I I I hlt2 ?_|refine HD.fieldN 0 (Rd.own 0 I) (by rw[cS'];omega) I I I I I I I I ?_|refine HD.loadE (us:=ndC V1 n1) (Rd.own 0 I) I I I I I (by simp) I (st_cells hs1) ?_)
     refine HD.one I ?_
     refine HL.callX (r:=fun x:NV×List Chunk=> .agg ⟨ndC x.1 (result n1 fr okk)⟩) (Q:=fun x=>Own x.1 x.2 (result n1 fr okk)) (G:=fun x=>[groupC x.2]) fn44 I I (fun w1 hw1=>by rw[hokk];exact presult_any V1 n1 fr _ w1 (hOn1 w1 (Sat.grp 2 hw1 I)) hGn1.sm) ?_
     rintro ⟨V3,G3⟩ hO3
     have hO3:Own V3 G3 (result n1 fr okk):=hO3
     refine HL.back [1,4] I I ?_
     repeat' (first|refine zd ?_|refine HD.idxR (Rd.own 0 I) elemSt k I I I I I hlt2 ?_|refine HD.fieldN 0 (Rd.own 0 I) (by rw[cS'];omega) I I I I I I I I ?_)
     refine HD.last I ?_
     refine HL.storeEs (us:=ndC V3 (result n1 fr okk)) (j:=k*24+0) 1 I I I I I I I (by rw[cS'];show k*24+0+13≤_;omega) (by simp) ?_
     repeat' (first|refine zn ?_|intro (bk:Nat))
     exact hj (V3,G3) _ _ hO3 ⟨I,I,I,I,I,I,trivial⟩ (Ent.trans (Ent.pick [1,0,3,5,6] I I) (Ent.own0 I (cells_set (i:=0) stE_len hs1 I (show 0+13≤24 by decide))))
   |true=>
    cases rc with
    |false=>
     refine HR.regionY [(0,true),(1,true),(2,true),(3,true),(4,true),(5,true),(6,true),(7,true),(8,true),(9,true),(10,true),(11,true),(12,true),(13,true),(14,true),(15,true),(16,true),(17,false),(18,true),(19,true)] 20 [0,3] I I hmix (by kernel_rfl) ?_
     repeat' (first|refine zd ?_|refine HD.idxR (Rd.own 0 I) elemSt k I I I I I hlt2 ?_|refine HD.fieldN 0 (Rd.own 0 I) (by rw[cS'];omega) I I I I I I I I ?_|refine HD.loadE (us:=ndC V1 n1) (Rd.own 0 I) I I I I I (by simp) I (st_cells hs1) ?_)
     refine HD.one I ?_
     refine HL.callX (r:=fun x:NV×List Chunk=> .agg ⟨ndC x.1 (result n1 fr okk)⟩) (Q:=fun x=>Own x.1 x.2 (result n1 fr okk)) (G:=fun x=>[groupC x.2]) fn44 I I (fun w1 hw1=>by rw[hokk];exact presult_any V1 n1 fr _ w1 (hOn1 w1 (Sat.grp 2 hw1 I)) hGn1.sm) ?_
     rintro ⟨V3,G3⟩ hO3
     have hO3:Own V3 G3 (result n1 fr okk):=hO3
     refine HL.back [1,4] I I ?_
     repeat' (first|refine zd ?_|refine HD.idxR (Rd.own 0 I) elemSt k I I I I I hlt2 ?_|refine HD.fieldN 0 (Rd.own 0 I) (by rw[cS'];omega) I I I I I I I I ?_)
     refine HD.last I ?_
     refine HL.storeEs (us:=ndC V3 (result n1 fr okk)) (j:=k*24+0) 1 I I I I I I I (by rw[cS'];show k*24+0+13≤_;omega) (by simp) ?_
     repeat' (first|refine zn ?_|intro (bk:Nat))
     exact hj (V3,G3) _ _ hO3 ⟨I,I,I,I,I,I,trivial⟩ (Ent.trans (Ent.pick [1,0,3,5,6] I I) (Ent.own0 I (cells_set (i:=0) stE_len hs1 I (show 0+13≤24 by decide))))
    |true=>
     refine HR.regionY [(0,true),(1,true),(2,true),(3,true),(4,true),(5,true),(6,true),(7,true),(8,true),(9,true),(10,true),(11,true),(12,true),(13,true),(14,true),(15,true),(16,true),(17,false),(18,true),(19,true)] 20 [0,3] I I hmix (by kernel_rfl) ?_
     repeat' (first|refine zd ?_|refine HD.idxR (Rd.own 0 I) elemSt k I I I I I hlt2 ?_|refine HD.fieldN 0 (Rd.own 0 I) (by rw[cS'];omega) I I I I I I I I ?_|refine HD.loadE (us:=ndC V1 n1) (Rd.own 0 I) I I I I I (by simp) I (st_cells hs1) ?_)
     refine HD.one I ?_
     refine HL.callX (r:=fun x:NV×List Chunk=> .agg ⟨ndC x.1 (result n1 fr okk)⟩) (Q:=fun x=>Own x.1 x.2 (result n1 fr okk)) (G:=fun x=>[groupC x.2]) fn44 I I (fun w1 hw1=>by rw[hokk];exact presult_any V1 n1 fr _ w1 (hOn1 w1 (Sat.grp 2 hw1 I)) hGn1.sm) ?_
     rintro ⟨V3,G3⟩ hO3
     have hO3:Own V3 G3 (result n1 fr okk):=hO3
     refine HL.back [1,4] I I ?_
     repeat' (first|refine zd ?_|refine HD.idxR (Rd.own 0 I) elemSt k I I I I I hlt2 ?_|refine HD.fieldN 0 (Rd.own 0 I) (by rw[cS'];omega) I I I I I I I I ?_)
     refine HD.last I ?_
     refine HL.storeEs (us:=ndC V3 (result n1 fr okk)) (j:=k*24+0) 1 I I I I I I I (by rw[cS'];show k*24+0+13≤_;omega) (by simp) ?_
     repeat' (first|refine zn ?_|intro (bk:Nat))
     exact hj (V3,G3) _ _ hO3 ⟨I,I,I,I,I,I,trivial⟩ (Ent.trans (Ent.pick [1,0,3,5,6] I I) (Ent.own0 I (cells_set (i:=0) stE_len hs1 I (show 0+13≤24 by decide))))
  rintro ⟨V3,G3⟩ hO3
  have hO3:Own V3 G3 (result n1 fr okk):=hO3
  obtain ⟨s3,hs3⟩:∃s3:StX,s3=((V3,result n1 fr okk),on1,tk1,fr1):=⟨_,rfl⟩
  have hSet:∀z∈S'.set k s3,z∈S'∨z=s3:=fun z hz=>List.mem_or_eq_of_mem_set hz
  repeat' (first|refine zh ?_|intro (bk:Nat))
  refine ih (k+1,S'.set k s3,[groupC G3,groupC G']) _ _ ⟨hlt,?_,?_,?_,?_⟩ (by show S2.length-(k+1)<S2.length-k;omega) ⟨I,I,I,I,I,I,trivial⟩ ?_
  ·show ssN (S'.set k s3)=_
   rw[ssN_set,hstep2,hs3]
  ·show (S'.set k s3).map (·.2)=_
   rw[List.map_set,set_same (by rw[List.getElem?_map,hs1,hs3];rfl),hM',hS2m]
  ·intro z hz
   rcases hSet z hz with hz|rfl
   ·exact fun w2 hg2=>hO' z hz w2 (groupC_mem hg2 (by simp))
   ·rw [hs3];exact fun w2 hg2=>hO3 w2 (groupC_mem hg2 (by simp))
  ·intro z hz
   rcases hSet z hz with hz|rfl
   ·exact hgd' z hz
   ·rw [hs3];exact hGn1.result fr okk
  ·show Ent _ _ [blkC b3 [ve,vo,vn] 34,blkC b4 meZ 26,ownC (sv y S2.length) 77 24 (S'.set k s3).length (cellsOf stE (S'.set k s3)),groupC [groupC G3,groupC G']]
   refine Ent.trans (Ent.pick (H':=[groupC G3,groupC G']++[blkC b3 [ve,vo,vn] 34,blkC b4 meZ 26,_]) [1,2,3,4,0] I I) (Ent.trans Ent.group (Ent.trans (Ent.pick [3,1,2,0] I I) (Ent.trans (Ent.own0 List.length_set.symm (by rw[hs3])) (Ent.pick [1,2,0,3] I I))))
 have hke:k=S2.length:=by have:¬(k:Int)<(S2.length:Int):=of_decide_eq_false h2;omega
 rw[hke]at hT
 have hfin:ssN S=(Me.mStep ⟨t,nds xs⟩ a).nodes:=by
  rw[hT]
  show _=Me.tells a (Me.now1 t) ((Me.spoken ⟨t,nds xs⟩ a).map (·.2)) (nds xs).length ((Me.spoken ⟨t,nds xs⟩ a).map (·.1))
  rw[← hnw,← hfs,← hN,← hl2,nds_len,hL2]
 repeat' (first|refine zh ?_|refine HL.lenR (Rd.own 0 I) I I I ?_|intro (bk:Nat))
 generalize bk=b15
 refine HR.nilC 62 13 ?_
 refine HR.loop (ι:=Nat×SV×List (NV×Nd)) (fun x=>x.1≤S.length∧x.2.2=(S.take x.1).map (·.1)) (fun x=>[(4,ptr b4),(15,ptr b15),(108,sv y S2.length),(109,.int .i64 (S2.length:Int)),(110,.int .i64 (x.1:Int))]) (fun x=>[meB b15 nw (sv x.2.1 x.2.2.length),blkC b4 meZ 26,cSt (sv y S2.length) S,cNd (sv x.2.1 x.2.2.length) x.2.2,groupC G]) (fun x=>S.length-x.1) (0,(none,0),[]) ⟨Nat.zero_le _,rfl⟩ ⟨I,I,I,I,I,trivial⟩ (Ent.pick [1,3,4,0,5] I I) ?_
 rintro ⟨j,z,zs⟩ ⟨hj,hzs⟩ ih4
 have hj:j≤S.length:=hj
 have hzs:zs=(S.take j).map (·.1):=hzs
 have hzl:zs.length=j:=by rw[hzs];simp;omega
 repeat' (first|refine zh ?_|intro (bk:Nat))
 refine HR.cond I (fun h4=>?_) (fun h4=>?_)
 rotate_left
 ·have hje:j=S.length:=by have:¬(j:Int)<(S2.length:Int):=of_decide_eq_false h4;omega
  rw[hje,List.take_length]at hzs
  repeat' (first|refine zh ?_|intro (bk:Nat))
  refine HR.ret Tryz.func15 I [_] (fun w hw=>⟨⟨_,rfl,loadVarR hw 1 I I I I rfl⟩,trivial⟩) ?_
  refine fun w' hw=>⟨(z,zs,G),by rw[← hnw];rfl,⟨⟨?_,?_⟩,?_⟩,hw.pick [3,4] I rfl⟩
  ·show nds zs=_
   rw[hzs,← hfin];unfold nds ssN;rw[List.map_map];rfl
  ·intro q hq
   have hq:q∈zs:=hq
   rw[hzs]at hq
   obtain ⟨s,hs,rfl⟩:=List.mem_map.1 hq
   exact hO s hs
  ·intro q hq
   have hq:q∈zs:=hq
   rw[hzs]at hq
   obtain ⟨s,hs,rfl⟩:=List.mem_map.1 hq
   exact hgd s hs
 have hlt:j<S.length:=by have:(j:Int)<(S2.length:Int):=of_decide_eq_true h4;omega
 obtain ⟨⟨⟨V,n⟩,on,tk,fr⟩,hs⟩:=getSome hlt
 repeat' (first|refine zh ?_|refine HL.idxR (Rd.own 2 I) elemSt j I I I I hlt ?_|refine HL.loadE (us:=stE ((V,n),on,tk,fr)) (Rd.own 2 I) I I I I (by simp) I (cellsOf_get stE_len hs) ?_|intro (bk:Nat))
 refine HL.bslice elemNd I I I I I (by decide) (by decide) ?_
 intro va
 refine HL.appR 5 I elemNd (Rd.own 0 I) I I I I (allOne_spec I) (by show (zs.length+1)*232≤_;omega) (by show zs.length+1≤_;omega) ?_
 intro vc
 refine HL.shape 5 I fun ac2 cc2 hv=>?_
 subst hv
 repeat' (first|refine zh ?_|intro (bk:Nat))
 refine ih4 (j+1,(ac2,cc2),zs++[(V,n)]) _ _ ⟨hlt,?_⟩ (by show S.length-(j+1)<S.length-j;omega) ⟨I,I,I,I,I,trivial⟩ ?_
 ·show zs++[(V,n)]=(S.take (j+1)).map (·.1)
  rw[take_succ_get hs,List.map_append,← hzs];rfl
 ·show Ent _ _ [meB b15 nw (sv (ac2,cc2) (zs++[(V,n)]).length),blkC b4 meZ 26,cSt (sv y S2.length) S,cNd (sv (ac2,cc2) (zs++[(V,n)]).length) (zs++[(V,n)]),groupC G]
  rw[cNd_app,show (zs++[((V,n):NV×Nd)]).length=zs.length+1 by simp]
  exact Ent.pick [2,3,4,5,6] I I
end Go.Proofs.YtgfdoognildoeaaGreat
namespace Me
open Go.GX Nd Tp
section
variable {addrs polls : List Int}
theorem build_mem {k:Nat} {x:Nd.Nd}:x∈build addrs polls k↔∃i,i<k∧nodeAt addrs polls i=x:=by
 rw[(build_perm addrs polls k).mem_iff,List.mem_map]
 constructor
 ·rintro ⟨i,hi,e⟩;exact ⟨i,List.mem_range.1 hi,e⟩
 ·rintro ⟨i,hi,e⟩;exact ⟨i,List.mem_range.2 hi,e⟩
theorem build_len (k:Nat):(build addrs polls k).length=k:=by rw[(build_perm addrs polls k).length_eq];simp
theorem addrs_at {k:Nat} (h:firstE (addrBad addrs) k=0) {i:Nat} (hi:i<k) (hl:k≤addrs.length):okN (addrs.getD i 0)=true∧∀j,j<i→addrs.getD j 0≠addrs.getD i 0:=by
 have h1:=firstE_all h i hi
 unfold addrBad at h1
 have hil:i<addrs.length:=by omega
 rw[List.getElem?_eq_getElem hil]at h1
 have e:addrs.getD i 0=addrs[i]:=by rw[List.getD_eq_getElem?_getD,List.getElem?_eq_getElem hil];rfl
 simp only at h1
 split at h1
 ·cases h1
 ·rename_i h2
  split at h1
  ·cases h1
  ·rename_i h3
   refine ⟨by rw[e];cases g:okN addrs[i];exact absurd g h2;rfl,fun j hj e2=>h3 ?_⟩
   rw[e,List.getD_eq_getElem?_getD,List.getElem?_eq_getElem (show j<addrs.length by omega)]at e2
   rw[← e2]
   exact List.mem_of_getElem? (i:=j) (by rw[List.getElem?_take_of_lt hj,List.getElem?_eq_getElem (show j<addrs.length by omega)];rfl)
theorem build_addr {k:Nat} (h:firstE (addrBad addrs) k=0) (hl:k≤addrs.length) {x:Nd.Nd} (hx:x∈build addrs polls k):∃i,i<k∧x.addr=addrs.getD i 0:=by
 obtain ⟨i,hi,rfl⟩:=build_mem.1 hx
 refine ⟨i,hi,?_⟩
 unfold nodeAt
 exact (new_addr (addrs_at h hi hl).1).1
theorem build_has {k:Nat} (h:firstE (addrBad addrs) k=0) (hl:k≤addrs.length) (a:Int):(idx (build addrs polls k) a).isSome=decide (a∈addrs.take k):=by
 have hiff:(∃ x∈build addrs polls k,x.addr=a)↔a∈addrs.take k:=by
  constructor
  ·rintro ⟨x,hx,e⟩
   obtain ⟨i,hi,e2⟩:=build_addr h hl hx
   refine List.mem_of_getElem? (i:=i) ?_
   rw[List.getElem?_take_of_lt hi,List.getElem?_eq_getElem (show i<addrs.length by omega),← e,e2,List.getD_eq_getElem?_getD,List.getElem?_eq_getElem (show i<addrs.length by omega)]
   rfl
  ·intro ha
   obtain ⟨i,hi⟩:=List.getElem?_of_mem ha
   have hik:i<k:=by have:=(List.getElem?_eq_some_iff.1 hi).1;simp at this;omega
   rw[List.getElem?_take_of_lt hik]at hi
   refine ⟨nodeAt addrs polls i,build_mem.2 ⟨i,hik,rfl⟩,?_⟩
   unfold nodeAt
   rw[(new_addr (addrs_at h hik hl).1).1,List.getD_eq_getElem?_getD,hi];rfl
 by_cases ha:a∈addrs.take k
 ·rw [decide_eq_true ha]
  obtain ⟨x,hx,e⟩:=hiff.2 ha
  obtain ⟨i,hi⟩:=idx_mem hx
  rw[e]at hi
  rw[hi];rfl
 ·rw [decide_eq_false ha]
  cases hi:idx (build addrs polls k) a with
  |none=>rfl
  |some i=>
   obtain ⟨h1,h2⟩:=idx_some hi
   exact absurd (hiff.1 ⟨_,List.mem_of_getElem? h1,h2⟩) ha
end
end Me
