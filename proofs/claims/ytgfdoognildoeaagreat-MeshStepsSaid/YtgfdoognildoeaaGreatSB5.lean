/- Part of a proof. Conditions: none. -/
import Derived.Test.YtgfdoognildoeaaGreatSB4
set_option linter.unusedVariables false
set_option linter.unusedSectionVars false
set_option linter.unusedSimpArgs false
set_option maxRecDepth 100000
set_option maxHeartbeats 4000000
namespace Go.Proofs.YtgfdoognildoeaaGreat
open Go.GX Go.RowKit
attribute [local irreducible] Calls Run JH JL zU HR HL HD jS jM ZN Rd jg Jf
open Nd
theorem jSz:IsFn Tryz.prog 214:=zF Tryz.func214 I
theorem fn215:IsFn Tryz.prog 215:=zF Tryz.func215 I
theorem fn162:IsFn Tryz.prog 162:=zF Tryz.func162 I
theorem jSq:IsFn Tryz.prog 236:=zF Tryz.func236 I
theorem fn237:IsFn Tryz.prog 237:=zF Tryz.func237 I
theorem fn189:IsFn Tryz.prog 189:=zF Tryz.func189 I
theorem jNo:IsFn Tryz.prog 125:=zF Tryz.func125 I
theorem jAP:IsFn Tryz.prog 115:=zF Tryz.func115 I
theorem jQE:IsFn Tryz.prog 198:=zF Tryz.func198 I
theorem jQM:IsFn Tryz.prog 123:=zF Tryz.func123 I
theorem jTK:IsFn Tryz.prog 140:=zF Tryz.func140 I
theorem fn69:IsFn Tryz.prog 69:=zF Tryz.func69 I
theorem jGx:IsFn Tryz.prog 127:=zF Tryz.func127 I
theorem jQH:IsFn Tryz.prog 183:=zF Tryz.func183 I
theorem jQF:IsFn Tryz.prog 195:=zF Tryz.func195 I
theorem jTH:IsFn Tryz.prog 143:=zF Tryz.func143 I
theorem fn299:IsFn Tryz.prog 299:=zF Tryz.func299 I
theorem fn308:IsFn Tryz.prog 308:=zF Tryz.func308 I
theorem fn91:IsFn Tryz.prog 91:=zF Tryz.func91 I
theorem jQN:IsFn Tryz.prog 120:=zF Tryz.func120 I
theorem fn95:IsFn Tryz.prog 95:=zF Tryz.func95 I
theorem jRk:IsFn Tryz.prog 141:=zF Tryz.func141 I
theorem jRp:IsFn Tryz.prog 129:=zF Tryz.func129 I
theorem jLN:IsFn Tryz.prog 208:=zF Tryz.func208 I
theorem jLP:IsFn Tryz.prog 179:=zF Tryz.func179 I
theorem jRd:IsFn Tryz.prog 259:=zF Tryz.func259 I
theorem jTA:IsFn Tryz.prog 177:=zF Tryz.func177 I
theorem jSh:IsFn Tryz.prog 301:=zF Tryz.func301 I
theorem fn272:IsFn Tryz.prog 272:=zF Tryz.func272 I
theorem jRZ:IsFn Tryz.prog 310:=zF Tryz.func310 I
theorem fn309:IsFn Tryz.prog 309:=zF Tryz.func309 I
theorem fn282:IsFn Tryz.prog 282:=zF Tryz.func282 I
theorem jGv (n:Int) (w:World):Calls Tryz.prog 214 #[.int .i64 n] w fun e w'=>e= .returned (.bool (Tp.okN n))/\Below w.heap.size w w':=by
 refine zE Tryz.func214 I [(0,.int .i64 n)] ?_
 repeat' (first|refine zh ?_|apply zb ?_ ?_|exact zc|(refine zi fun hb=>?_;try simp at hb)|fail)
 exact zR Tryz.func214
theorem jDr (n:Int) (w:World):Calls Tryz.prog 236 #[.int .i64 n] w fun e w'=>e= .returned (.bool (Tp.okN n))/\Below w.heap.size w w':=by
 refine zE Tryz.func236 I [(0,.int .i64 n)] ?_
 repeat' (first|refine zh ?_|apply zb ?_ ?_|exact zc|(refine zi fun hb=>?_;try simp at hb)|fail)
 exact zR Tryz.func236
theorem kD (n:Int) (w:World):Calls Tryz.prog 125 #[.int .i64 n] w fun e w'=>e= .returned (.bool (Tp.okN n))/\Below w.heap.size w w':=by
 refine zE Tryz.func125 I [(0,.int .i64 n)] ?_
 repeat' (first|refine zh ?_|apply zb ?_ ?_|exact zc|(refine zi fun hb=>?_;try simp at hb)|fail)
 exact zR Tryz.func125
theorem jAD (n:Int) (w:World):Calls Tryz.prog 91 #[.int .i64 n] w fun e w'=>e= .returned (.bool (Tp.okN n))/\Below w.heap.size w w':=by
 refine zE Tryz.func91 I [(0,.int .i64 n)] ?_
 repeat' (first|refine zh ?_|apply zb ?_ ?_|exact zc|(refine zi fun hb=>?_;try simp at hb)|fail)
 exact zR Tryz.func91
theorem KL (n:Int) (w:World):Calls Tryz.prog 120 #[.int .i64 n] w fun e w'=>e= .returned (.bool (Tp.okN n))/\Below w.heap.size w w':=by
 refine zE Tryz.func120 I [(0,.int .i64 n)] ?_
 repeat' (first|refine zh ?_|apply zb ?_ ?_|exact zc|(refine zi fun hb=>?_;try simp at hb)|fail)
 exact zR Tryz.func120
theorem jKQ (n:Int) (w:World):Calls Tryz.prog 215 #[.int .i64 n] w fun e w'=>e= .returned (.bool (okT n))/\Below w.heap.size w w':=by
 refine zE Tryz.func215 I [(0,.int .i64 n)] ?_
 repeat' (first|refine zh ?_|refine qB jSz I I (fun w _=>jGv n w) ?_|apply zb ?_ ?_|exact zc|(refine zi fun hb=>?_;try simp at hb)|fail)
 exact zR Tryz.func215
theorem jLY (n:Int) (w:World):Calls Tryz.prog 237 #[.int .i64 n] w fun e w'=>e= .returned (.bool (okT n))/\Below w.heap.size w w':=by
 refine zE Tryz.func237 I [(0,.int .i64 n)] ?_
 repeat' (first|refine zh ?_|refine qB jSq I I (fun w _=>jDr n w) ?_|apply zb ?_ ?_|exact zc|(refine zi fun hb=>?_;try simp at hb)|fail)
 exact zR Tryz.func237
theorem JY (r:Ro) (w:World):Calls Tryz.prog 115 #[.agg ⟨roC r⟩] w fun e w'=>e= .returned (.bool (fin r))/\Below w.heap.size w w':=by
 refine zE Tryz.func115 I [(0,.agg ⟨roC r⟩)] ?_
 repeat' (first|refine zh ?_|apply zb ?_ ?_|exact zc|(refine zi fun hb=>?_;try simp at hb)|intro (bk:Nat))
 exact zR Tryz.func115
theorem jAy (r:Ro) (w:World):Calls Tryz.prog 195 #[.agg ⟨roC r⟩] w fun e w'=>e= .returned (.bool (fin r))/\Below w.heap.size w w':=by
 refine zE Tryz.func195 I [(0,.agg ⟨roC r⟩)] ?_
 repeat' (first|refine zh ?_|apply zb ?_ ?_|exact zc|(refine zi fun hb=>?_;try simp at hb)|intro (bk:Nat))
 exact zR Tryz.func195
theorem K3 (r:Ro) (w:World):Calls Tryz.prog 198 #[.agg ⟨roC r⟩] w fun e w'=>e= .returned (.bool (usable r))/\Below w.heap.size w w':=by
 refine zE Tryz.func198 I [(0,.agg ⟨roC r⟩)] ?_
 repeat' (first|refine zh ?_|refine qB jNo I I (fun w _=>kD _ w) ?_|apply zb ?_ ?_|exact zc|(refine zi fun hb=>?_;try simp at hb)|intro (bk:Nat))
 refine HR.cond I (fun h=>?_) (fun h=>?_)
 ·have h:((!Tp.okN r.dest||decide (r.sq<0))||decide (r.sq>65535))=true:=h;refine zh ?_;refine HR.ret Tryz.func198 I [_] (fun _ _=>⟨I,trivial⟩) ?_;refine fun w' hw=>⟨?_,hw.jF⟩
  have:usable r=false:=by unfold usable;revert h;cases Tp.okN r.dest<;>cases decide (r.sq<0)<;>cases decide (r.sq>65535)<;>simp
  rw[this];rfl
 ·have h:((!Tp.okN r.dest||decide (r.sq<0))||decide (r.sq>65535))=false:=h;have h':=h;simp only[Bool.or_eq_false_iff,Bool.not_eq_false',decide_eq_false_iff_not]at h';have h0:0<=r.sq:=by omega
  repeat' (first|refine zh ?_|refine qB jAP I I (fun w _=>JY r w) ?_|apply zb ?_ ?_|exact zc|(refine zi fun hb=>?_;try simp at hb)|fail)
  refine HR.ret Tryz.func198 I [_] (fun _ _=>⟨I,trivial⟩) ?_;refine fun w' hw=>⟨?_,hw.jF⟩
  have:usable r=((fin r&&(r.sq%2==0))||(r.cost==255)):=by
   unfold usable;have e1:decide (r.sq<0)=false:=decide_eq_false h'.1.2;have e2:decide (r.sq>65535)=false:=decide_eq_false h'.2;rw[h'.1.1,e1,e2];rfl
  rw[this];rfl
theorem jCK (n:Int) (w:World):Calls Tryz.prog 123 #[.int .i64 n] w fun e w'=>e= .returned (.int .i64 (lim n))/\Below w.heap.size w w':=by
 refine zE Tryz.func123 I [(0,.int .i64 n)] (zh ?_);refine HR.ret Tryz.func123 I [_] (fun _ _=>⟨I,trivial⟩) ?_;refine fun w' hw=>⟨?_,hw.jF⟩
 simp only[ZJ]
 congr 2
 unfold lim clamp
 split<;>split<;>omega
theorem jJe (n s:Int) (w:World):Calls Tryz.prog 140 #[.int .i64 n,.int .i64 s] w fun e w'=>e= .returned (.agg ⟨roC ⟨n,s,0,n⟩⟩)/\Below w.heap.size w w':=by
 refine zE Tryz.func140 I [(0,.int .i64 n),(1,.int .i64 s)] (zh ?_);intro (bk:Nat);refine zh ?_;refine HR.ret Tryz.func140 I [_] (fun w hw=>⟨⟨_,rfl,jQ hw 0 I I I I rfl⟩,trivial⟩) ?_
 exact fun w' hw=>⟨rfl,hw.jF⟩
theorem jEy (n:Int) (w:World):Calls Tryz.prog 69 #[.int .i64 n] w fun e w'=>∃v,e= .returned v/\Sat (base w) [jM v 94 4 (jDv n).length (cellsOf roC (jDv n))] w':=by
 refine zE Tryz.func69 I [(0,.int .i64 n)] (zh ?_);refine qB jQM I I (fun w _=>jCK n w) ?_;refine qB jTK I I (fun w _=>jJe (lim n) 0 w) ?_;refine qH jZ I I I I I (by decide) (by decide) ?_;intro v;refine zh ?_;refine HR.ret Tryz.func69 I [_] (fun _ _=>⟨I,trivial⟩) ?_
 exact fun w' hw=>⟨v,rfl,hw⟩
theorem zx (n:Int) (w:World):Calls Tryz.prog 127 #[.int .i64 n] w fun e w'=>e= .returned (.int .i64 (lim n))/\Below w.heap.size w w':=by
 refine zE Tryz.func127 I [(0,.int .i64 n)] (zh ?_);refine HR.cond I (fun h=>?_) (fun h=>?_)
 ·have h:n<0:=of_decide_eq_true h;refine zh ?_;refine HR.ret Tryz.func127 I [_] (fun _ _=>⟨I,trivial⟩) ?_
  exact fun w' hw=>⟨by rw[show lim n=0 by unfold lim clamp;omega];rfl,hw.jF⟩
 have h:¬n<0:=of_decide_eq_false h;refine zh ?_;refine HR.cond I (fun h1=>?_) (fun h1=>?_)
 ·have h1:n>250:=of_decide_eq_true h1;refine zh ?_;refine HR.ret Tryz.func127 I [_] (fun _ _=>⟨I,trivial⟩) ?_
  exact fun w' hw=>⟨by rw[show lim n=250 by unfold lim clamp;omega];rfl,hw.jF⟩
 ·have h1:¬n>250:=of_decide_eq_false h1;refine zh ?_;refine HR.ret Tryz.func127 I [_] (fun _ _=>⟨I,trivial⟩) ?_
  exact fun w' hw=>⟨by rw[show lim n=n by unfold lim clamp;omega];rfl,hw.jF⟩
theorem Zt (r:Ro) (w:World):Calls Tryz.prog 183 #[.agg ⟨roC r⟩] w fun e w'=>e= .returned (.bool (usable r))/\Below w.heap.size w w':=by
 refine zE Tryz.func183 I [(0,.agg ⟨roC r⟩)] ?_
 repeat' (first|refine zh ?_|apply zb ?_ ?_|exact zc|(refine zi fun hb=>?_;try simp at hb)|intro (bk:Nat))
 refine HR.cond I (fun h=>?_) (fun h=>?_)
 ·have h:(((decide (r.dest<0)||decide (r.dest>250))||decide (r.sq<0))||decide (r.sq>65535))=true:=h;refine zh ?_;refine HR.ret Tryz.func183 I [_] (fun _ _=>⟨I,trivial⟩) ?_;refine fun w' hw=>⟨?_,hw.jF⟩
  have:usable r=false:=by
   rw[<- Bool.not_eq_true];simp only[usable,Tp.okN,Bool.and_eq_true,Bool.or_eq_true,Bool.not_eq_true',Bool.or_eq_false_iff,decide_eq_true_eq,decide_eq_false_iff_not]at h ⊢;omega
  rw[this];rfl
 ·have h:(((decide (r.dest<0)||decide (r.dest>250))||decide (r.sq<0))||decide (r.sq>65535))=false:=h;have h':=h;simp only[Bool.or_eq_false_iff,decide_eq_false_iff_not]at h';have h0:0<=r.sq:=by omega
  repeat' (first|refine zh ?_|refine qB jQF I I (fun w _=>jAy r w) ?_|apply zb ?_ ?_|exact zc|(refine zi fun hb=>?_;try simp at hb)|fail)
  refine HR.ret Tryz.func183 I [_] (fun _ _=>⟨I,trivial⟩) ?_;refine fun w' hw=>⟨?_,hw.jF⟩
  have:usable r=((fin r&&(r.sq%2==0))||(r.cost==255)):=by
   unfold usable Tp.okN;have e1:decide (r.sq<0)=false:=decide_eq_false (by omega);have e2:decide (r.sq>65535)=false:=decide_eq_false (by omega);have e3:decide (r.dest>=0)=true:=decide_eq_true (by omega);have e4:decide (r.dest<=250)=true:=decide_eq_true (by omega);rw[e1,e2,e3,e4];rfl
  rw[this];rfl
theorem jFs (n:Int) (w:World):Calls Tryz.prog 143 #[.int .i64 n] w fun e w'=>∃v,e= .returned v/\Sat (base w) [jM v 94 4 (jDv n).length (cellsOf roC (jDv n))] w':=by
 refine zE Tryz.func143 I [(0,.int .i64 n)] (zh ?_);refine qB jGx I I (fun w _=>zx n w) (zh ?_);refine qH jZ I I I I I (by decide) (by decide) ?_;intro v;refine zh ?_;refine HR.ret Tryz.func143 I [_] (fun _ _=>⟨I,trivial⟩) ?_
 exact fun w' hw=>⟨v,rfl,hw⟩
theorem jHn (a b:Ro) (w:World):Calls Tryz.prog 299 #[.agg ⟨roC a⟩,.agg ⟨roC b⟩] w fun e w'=>e= .returned (.bool (better a b))/\Below w.heap.size w w':=by
 refine zE Tryz.func299 I [(0,.agg ⟨roC a⟩),(1,.agg ⟨roC b⟩)] ?_
 repeat' (first|refine zh ?_|apply zb ?_ ?_|exact zc|(refine zi fun hb=>?_;try simp at hb)|intro (bk:Nat))
 exact zR Tryz.func299
theorem jFt (a b:Ro) (w:World):Calls Tryz.prog 308 #[.agg ⟨roC a⟩,.agg ⟨roC b⟩] w fun e w'=>e= .returned (.bool (better a b))/\Below w.heap.size w w':=by
 refine zE Tryz.func308 I [(0,.agg ⟨roC a⟩),(1,.agg ⟨roC b⟩)] ?_
 repeat' (first|refine zh ?_|apply zb ?_ ?_|exact zc|(refine zi fun hb=>?_;try simp at hb)|intro (bk:Nat))
 exact zR Tryz.func308
theorem jE9 (n lo hi:Int) (w:World):Calls Tryz.prog 129 #[.int .i64 n,.int .i64 lo,.int .i64 hi] w fun e w'=>e= .returned (.int .i64 (clamp n lo hi))/\Below w.heap.size w w':=by
 refine zE Tryz.func129 I [(0,.int .i64 n),(1,.int .i64 lo),(2,.int .i64 hi)] (zh ?_);refine HR.ret Tryz.func129 I [_] (fun _ _=>⟨I,trivial⟩) ?_;refine fun w' hw=>⟨?_,hw.jF⟩
 simp only[ZJ]
 congr 2
 unfold clamp
 split<;>split<;>omega
theorem jBU (n lo hi:Int) (hlh:lo<=hi) (w:World):Calls Tryz.prog 141 #[.int .i64 n,.int .i64 lo,.int .i64 hi] w fun e w'=>e= .returned (.int .i64 (clamp n lo hi))/\Below w.heap.size w w':=by
 refine zE Tryz.func141 I [(0,.int .i64 n),(1,.int .i64 lo),(2,.int .i64 hi)] ?_
 repeat' (first|refine zh ?_|apply zb ?_ ?_|exact zc|(refine zi fun hb=>?_;try simp at hb)|fail)
 refine HR.cond I (fun h=>?_) (fun h=>?_)
 ·have h:(decide (hi<lo)||decide (n>hi))=true:=h;simp only[Bool.or_eq_true,decide_eq_true_eq]at h;refine zh ?_;refine HR.ret Tryz.func141 I [_] (fun _ _=>⟨I,trivial⟩) ?_
  exact fun w' hw=>⟨by rw[show clamp n lo hi=hi by unfold clamp;omega];rfl,hw.jF⟩
 have h:(decide (hi<lo)||decide (n>hi))=false:=h;simp only[Bool.or_eq_false_iff,decide_eq_false_iff_not]at h;refine zh ?_;refine HR.cond I (fun h1=>?_) (fun h1=>?_)
 ·have h1:n<lo:=of_decide_eq_true h1;refine zh ?_;refine HR.ret Tryz.func141 I [_] (fun _ _=>⟨I,trivial⟩) ?_
  exact fun w' hw=>⟨by rw[show clamp n lo hi=lo by unfold clamp;omega];rfl,hw.jF⟩
 ·have h1:¬n<lo:=of_decide_eq_false h1;refine zh ?_;refine HR.ret Tryz.func141 I [_] (fun _ _=>⟨I,trivial⟩) ?_
  exact fun w' hw=>⟨by rw[show clamp n lo hi=n by unfold clamp;omega];rfl,hw.jF⟩
theorem jAx (n:Int) (w:World):Calls Tryz.prog 95 #[.int .i64 n] w fun e w'=>e= .returned (.int .i64 (tick n))/\Below w.heap.size w w':=by
 refine zE Tryz.func95 I [(0,.int .i64 n)] (zh ?_);refine qB jRk I I (fun w _=>jBU n 0 1099511627776 (by decide) w) (zh ?_);exact zR Tryz.func95
theorem jAG (n:Int) (w:World):Calls Tryz.prog 208 #[.int .i64 n] w fun e w'=>e= .returned (.int .i64 (tick n))/\Below w.heap.size w w':=by
 refine zE Tryz.func208 I [(0,.int .i64 n)] (zh ?_);refine HR.ret Tryz.func208 I [_] (fun _ _=>⟨I,trivial⟩) ?_;refine fun w' hw=>⟨?_,hw.jF⟩
 simp only[ZJ]
 congr 2
 unfold tick clamp jw
 split<;>split<;>omega
theorem jH0 (n:Int) (w:World):Calls Tryz.prog 259 #[.int .i64 n] w fun e w'=>e= .returned (.int .i64 (tick n))/\Below w.heap.size w w':=by
 refine zE Tryz.func259 I [(0,.int .i64 n)] (zh ?_);refine HR.ret Tryz.func259 I [_] (fun _ _=>⟨I,trivial⟩) ?_;refine fun w' hw=>⟨?_,hw.jF⟩
 simp only[ZJ]
 congr 2
 unfold tick clamp jw
 split<;>split<;>omega
theorem zW (n:Int) (w:World):Calls Tryz.prog 179 #[.int .i64 n] w fun e w'=>e= .returned (.int .i64 (tick n))/\Below w.heap.size w w':=by
 refine zE Tryz.func179 I [(0,.int .i64 n)] (zh ?_);refine HR.cond I (fun h=>?_) (fun h=>?_)
 ·have h:n<0:=of_decide_eq_true h;refine zh ?_;refine HR.ret Tryz.func179 I [_] (fun _ _=>⟨I,trivial⟩) ?_
  exact fun w' hw=>⟨by rw[show tick n=0 by unfold tick clamp jw;omega];rfl,hw.jF⟩
 have h:¬n<0:=of_decide_eq_false h;refine zh ?_;refine HR.cond I (fun h1=>?_) (fun h1=>?_)
 ·have h1:n>1099511627776:=of_decide_eq_true h1;refine zh ?_;refine HR.ret Tryz.func179 I [_] (fun _ _=>⟨I,trivial⟩) ?_
  exact fun w' hw=>⟨by rw[show tick n=1099511627776 by unfold tick clamp jw;omega];rfl,hw.jF⟩
 ·have h1:¬n>1099511627776:=of_decide_eq_false h1;refine zh ?_;refine HR.ret Tryz.func179 I [_] (fun _ _=>⟨I,trivial⟩) ?_
  exact fun w' hw=>⟨by rw[show tick n=n by unfold tick clamp jw;omega];rfl,hw.jF⟩
theorem jD5 (n:Int) (w:World):Calls Tryz.prog 177 #[.int .i64 n] w fun e w'=>e= .returned (.int .i64 (tick n))/\Below w.heap.size w w':=by
 refine zE Tryz.func177 I [(0,.int .i64 n)] (zh ?_);refine HR.cond I (fun h=>?_) (fun h=>?_)
 ·have h:n<0:=of_decide_eq_true h;refine zh ?_;refine HR.ret Tryz.func177 I [_] (fun _ _=>⟨I,trivial⟩) ?_
  exact fun w' hw=>⟨by rw[show tick n=0 by unfold tick clamp jw;omega];rfl,hw.jF⟩
 have h:¬n<0:=of_decide_eq_false h;refine zh ?_;refine HR.cond I (fun h1=>?_) (fun h1=>?_)
 ·have h1:n>1099511627776:=of_decide_eq_true h1;refine zh ?_;refine HR.ret Tryz.func177 I [_] (fun _ _=>⟨I,trivial⟩) ?_
  exact fun w' hw=>⟨by rw[show tick n=1099511627776 by unfold tick clamp jw;omega];rfl,hw.jF⟩
 ·have h1:¬n>1099511627776:=of_decide_eq_false h1;refine zh ?_;refine HR.ret Tryz.func177 I [_] (fun _ _=>⟨I,trivial⟩) ?_
  exact fun w' hw=>⟨by rw[show tick n=n by unfold tick clamp jw;omega];rfl,hw.jF⟩
theorem fn300:IsFn Tryz.prog 300:=zF Tryz.func300 I
theorem fn169:IsFn Tryz.prog 169:=zF Tryz.func169 I
theorem fn246:IsFn Tryz.prog 246:=zF Tryz.func246 I
theorem fn269:IsFn Tryz.prog 269:=zF Tryz.func269 I
theorem jNU (l:List Ro) (x:Ro) (i:Nat) (v va:Value) (B0:Base) (w:World) (hw0:Sat B0 [jM va 94 4 1 (roC x),jM v 94 4 l.length (cellsOf roC l)] w) (hi:i<=l.length) (hl:l.length<=1000):
  Calls Tryz.prog 300 #[v,.int .i64 (i:Int),va] w fun e w'=>∃r:Value,e= .returned r/\True/\Sat ⟨w,zN [jM va 94 4 1 (roC x),jM v 94 4 l.length (cellsOf roC l)]⟩ [jM r 94 4 (l.take i++x::l.drop i).length (cellsOf roC (l.take i++x::l.drop i))] w':=by
 obtain ⟨ga,oa,ca,rfl,hnca,hcma⟩:=Qd (Sat.vw hw0 (i:=0) I) (by decide);have hlen:(l.take i++x::l.drop i).length=l.length+1:=by simp;omega
 have hcl:(cellsOf roC l).length=l.length*4:=jA jP l;have hcells:cellsOf roC (l.take i++x::l.drop i)=(cellsOf roC l).take (i*4)++roC x++(cellsOf roC l).drop (i*4):=by
  rw[JC jP,jo jP,jL,List.append_assoc];rfl
 have ha1:∀u∈cellsOf roC l,u.oneCell'=true:=jR jEw _;refine jc [jM (.slice (some ⟨ga,oa,none⟩) 1 ca) 94 4 1 (roC x),jM v 94 4 l.length (cellsOf roC l)] (hw0) Tryz.func300 I (Nat.le_of_ble_eq_true I) (HR.sub (σ':=[(0,v),(1,.int .i64 (i:Int)),(2,.slice (some ⟨ga,oa,none⟩) 1 ca)]) ⟨I,I,I,trivial⟩ (zh ?_));refine qX (sz:=4) i l.length (Rd.own 1 I) I I I I (.inr ⟨_,_,_,rfl,rfl,rfl⟩) (.inl ⟨rfl,rfl⟩) hi (Nat.le_refl _) (zh ?_);refine qD (Rd.own 1 I) I I I (zh ?_);refine HR.cond I (fun h=>?_) (fun h=>?_)
 ·have hil:i=l.length:=by have:=eq_of_beq h;omega
  refine zh ?_;refine qJ 1 I jZ (Rd.own 0 I) I I I I (jH I) (by omega) (by omega) ?_;intro v2;refine zh ?_;refine HR.ret Tryz.func300 I [_] (fun _ _=>⟨I,trivial⟩) ?_;refine fun w' hw=>⟨_,rfl,trivial,qC ?_ ?_ w' (hw.pick [1] I rfl)⟩
  ·rw [hlen]
  ·subst hil;rw[hcells,List.take_of_length_le (by omega),List.drop_eq_nil_of_le (by omega),List.append_nil]
 have hlt:i<l.length:=by have h:((i:Int)==(l.length:Int))=false:=h;simp at h;omega
 refine Qi 1 I (by omega) fun g off c hv hnc hcm=>?_
 subst hv;have hcm:c<=9223372036854775807:=hcm;refine zh ?_;refine Q5 I I I (zh ?_);refine HR.cond I (fun h2=>?_) (fun h2=>?_)
 ·have hc:c<l.length+1:=by have:=of_decide_eq_true h2;omega
  refine zh ?_;refine qX (sz:=4) 0 i (Rd.own 1 I) I I I I (.inl ⟨rfl,rfl⟩) (.inr ⟨_,_,_,rfl,rfl,rfl⟩) (Nat.zero_le _) hi (zh ?_);refine Qf i (l.length+1-i) 1 I jZ I I I I I (by omega) hi (by omega) hnc (by omega) (by omega) (by omega) ?_;intro v2;have hN:i+(l.length+1-i)=l.length+1:=by omega
  rw[hN];refine Qs 0 I (by omega) fun g2 o2 c2 hv2 hnc2 hcm2=>?_
  subst hv2;refine zh ?_;refine qX (sz:=4) i (l.length+1) (Rd.own 0 I) I I I I (.inr ⟨_,_,_,rfl,rfl,rfl⟩) (.inl ⟨rfl,rfl⟩) (by omega) (Nat.le_refl _) (zh ?_);refine qx i 1 0 I (Rd.own 1 I) I I I I I I (jH I) (Nat.min_eq_left (by omega)) (by decide) (zh ?_);refine qO [(0,true),(1,true),(2,true),(3,true),(4,true),(5,true),(6,true),(7,true),(8,false)] [] I I j3 (by kernel_rfl) ?_
  repeat' (first|refine QM I I I ?_|refine QK I I I (by first|omega|(simp;done)|(simp;omega)) ?_|refine HD.cut (sz:=4) (i+1) (l.length+1) c2 I I I I I (.inr ⟨_,_,rfl,rfl⟩) (.inl ⟨rfl,rfl,rfl⟩) (.inl ⟨rfl,rfl⟩) (by omega) hnc2 (Nat.le_refl _) ?_|refine HD.cut (sz:=4) i l.length c I I I I I (.inr ⟨_,_,rfl,rfl⟩) (.inl ⟨rfl,rfl,rfl⟩) (.inl ⟨rfl,rfl⟩) hi hnc (Nat.le_refl _) ?_|(refine HD.one I ?_;first|refine QT I I ?_|refine qx (i+1) (l.length-i) 0 I (Rd.sub (Rd.own 2 I) hcl hi (Nat.le_refl _)) I I I I I (by rw[List.length_take,List.length_drop,hcl];omega) (fun u hu=>ha1 u (List.mem_of_mem_drop (List.mem_of_mem_take (List.mem_of_mem_take hu)))) (Nat.min_eq_left (by omega)) (by omega) ?_|(refine qm ?_;first|refine qZ 0 I I I I ?_|refine qZ 1 I I I I ?_|refine qZ 2 I I I I ?_|refine qZ 3 I I I I ?_)|(refine qb ?_;first|refine qV 0 I I I I I ?_|refine qV 1 I I I I I ?_|refine qV 2 I I I I I ?_|refine qV 3 I I I I I ?_)|(refine HL.alloc I I ?_;intro bk))|refine HL.back [] rfl rfl ?_|refine HD.nil ?_|fail)
  refine zh ?_;refine HR.ret Tryz.func300 I [_] (fun _ _=>⟨I,trivial⟩) ?_;refine fun w' hw=>⟨_,rfl,trivial,qC ?_ ?_ w' (hw.pick [0] I rfl)⟩
  ·rw [hlen]
  ·rw [hcells,<- jA4 (xs:=cellsOf roC l) (X:=roC x) (Z:=(List.replicate (l.length+1-i) (roC ⟨0,0,0,0⟩)).flatten) (p:=i*4) (q:=4) (s:=(l.length-i)*4) (by rw[hcl];omega) I (by rw[je];simp;omega)];rw[show (i+1)*4=i*4+4 by omega];rfl
 ·have hc:l.length+1<=c:=by have:=of_decide_eq_false h2;omega
  refine zh ?_;refine Q0 (sz:=4) (l.length+1) 1 I I I I I I I (by omega) hc ?_;intro junk hj;refine zh ?_;refine HL.cut (sz:=4) (i+1) (l.length+1) c I I I I (.inr ⟨_,_,rfl,rfl⟩) (.inl ⟨rfl,rfl,rfl⟩) (.inl ⟨rfl,rfl⟩) (by omega) hc (Nat.le_refl _) ?_;refine QZ (zk (by omega)) (yO 0 1 I I (by decide) I I I (tS:=55) (tR:=4) I I (by omega) (by decide) I (by kernel_rfl) (by kernel_rfl) (by kernel_rfl) (by kernel_rfl) (zh ?_));refine qO [(0,true),(1,true),(2,true),(3,true),(4,true),(5,true),(6,true),(7,true),(8,false)] [] I I j3 (by kernel_rfl) ?_
  repeat' (first|refine QM I I I ?_|refine QK I I I (by first|omega|(simp;done)|(simp;omega)) ?_|refine HD.cut (sz:=4) (i+1) (l.length+1) c I I I I I (.inr ⟨_,_,rfl,rfl⟩) (.inl ⟨rfl,rfl,rfl⟩) (.inl ⟨rfl,rfl⟩) (by omega) hc (Nat.le_refl _) ?_|refine HD.cut (sz:=4) i (l.length+1) c I I I I I (.inr ⟨_,_,rfl,rfl⟩) (.inl ⟨rfl,rfl,rfl⟩) (.inl ⟨rfl,rfl⟩) (by omega) hc (Nat.le_refl _) ?_|(refine HD.one I ?_;first|refine QT I I ?_|refine qx (i+1) (l.length-i) 1 I (Rd.sub (sz:=4) (l:=i) (h:=l.length+1) (Rd.own 1 I) (by rw[List.length_append,hcl,hj];omega) (by omega) (Nat.le_refl _)) I I I I I (by rw[List.length_take,List.length_drop,List.length_append,hcl,hj];omega) (fun u hu=>ha1 u (KT (p:=i*4) (s:=(l.length-i)*4) (u:=(l.length+1-i)*4) (by rw[hcl];omega) (by omega) hu)) (show min (l.length+1-i) (l.length+1-(i+1))=l.length-i by omega) (by omega) ?_|(refine qm ?_;first|refine qZ 0 I I I I ?_|refine qZ 1 I I I I ?_|refine qZ 2 I I I I ?_|refine qZ 3 I I I I ?_)|(refine qb ?_;first|refine qV 0 I I I I I ?_|refine qV 1 I I I I I ?_|refine qV 2 I I I I I ?_|refine qV 3 I I I I I ?_)|(refine HL.alloc I I ?_;intro bk))|refine HL.back [] rfl rfl ?_|refine HD.nil ?_|fail)
  refine zh ?_;refine qX (sz:=4) i (l.length+1) (Rd.own 1 I) I I I I (.inr ⟨_,_,_,rfl,rfl,rfl⟩) (.inl ⟨rfl,rfl⟩) (by omega) (Nat.le_refl _) (zh ?_);refine qx i 1 1 I (Rd.own 0 I) I I I I I I (jH I) (Nat.min_eq_left (by omega)) (by decide) (zh ?_);refine HR.ret Tryz.func300 I [_] (fun _ _=>⟨I,trivial⟩) ?_;refine fun w' hw=>⟨_,rfl,trivial,qC ?_ ?_ w' (hw.pick [1] I rfl)⟩
  ·rw [hlen]
  ·rw [hcells,<- Km (xs:=cellsOf roC l) (X:=roC x) (J:=junk) (p:=i*4) (q:=4) (s:=(l.length-i)*4) (u:=(l.length+1-i)*4) (by rw[hcl];omega) I (by rw[hj];omega) (by omega)];rw[show (i+1)*4=i*4+4 by omega]
theorem jNX (l:List Li) (x:Li) (i:Nat) (v va:Value) (B0:Base) (w:World) (hw0:Sat B0 [jM va 162 3 1 (liC x),jM v 162 3 l.length (cellsOf liC l)] w) (hi:i<=l.length) (hl:l.length<=1000):
  Calls Tryz.prog 169 #[v,.int .i64 (i:Int),va] w fun e w'=>∃r:Value,e= .returned r/\True/\Sat ⟨w,zN [jM va 162 3 1 (liC x),jM v 162 3 l.length (cellsOf liC l)]⟩ [jM r 162 3 (l.take i++x::l.drop i).length (cellsOf liC (l.take i++x::l.drop i))] w':=by
 obtain ⟨ga,oa,ca,rfl,hnca,hcma⟩:=Qd (Sat.vw hw0 (i:=0) I) (by decide);have hlen:(l.take i++x::l.drop i).length=l.length+1:=by simp;omega
 have hcl:(cellsOf liC l).length=l.length*3:=jA jd l;have hcells:cellsOf liC (l.take i++x::l.drop i)=(cellsOf liC l).take (i*3)++liC x++(cellsOf liC l).drop (i*3):=by
  rw[JC jd,jo jd,jL,List.append_assoc];rfl
 have ha1:∀u∈cellsOf liC l,u.oneCell'=true:=jR jBc _;refine jc [jM (.slice (some ⟨ga,oa,none⟩) 1 ca) 162 3 1 (liC x),jM v 162 3 l.length (cellsOf liC l)] (hw0) Tryz.func169 I (Nat.le_of_ble_eq_true I) (HR.sub (σ':=[(0,v),(1,.int .i64 (i:Int)),(2,.slice (some ⟨ga,oa,none⟩) 1 ca)]) ⟨I,I,I,trivial⟩ (zh ?_));refine qX (sz:=3) i l.length (Rd.own 1 I) I I I I (.inr ⟨_,_,_,rfl,rfl,rfl⟩) (.inl ⟨rfl,rfl⟩) hi (Nat.le_refl _) (zh ?_);refine qD (Rd.own 1 I) I I I (zh ?_);refine HR.cond I (fun h=>?_) (fun h=>?_)
 ·have hil:i=l.length:=by have:=eq_of_beq h;omega
  refine zh ?_;refine qJ 1 I JG (Rd.own 0 I) I I I I (jH I) (by omega) (by omega) ?_;intro v2;refine zh ?_;refine HR.ret Tryz.func169 I [_] (fun _ _=>⟨I,trivial⟩) ?_;refine fun w' hw=>⟨_,rfl,trivial,qC ?_ ?_ w' (hw.pick [1] I rfl)⟩
  ·rw [hlen]
  ·subst hil;rw[hcells,List.take_of_length_le (by omega),List.drop_eq_nil_of_le (by omega),List.append_nil]
 have hlt:i<l.length:=by have h:((i:Int)==(l.length:Int))=false:=h;simp at h;omega
 refine Qi 1 I (by omega) fun g off c hv hnc hcm=>?_
 subst hv;have hcm:c<=9223372036854775807:=hcm;refine zh ?_;refine Q5 I I I (zh ?_);refine HR.cond I (fun h2=>?_) (fun h2=>?_)
 ·have hc:c<l.length+1:=by have:=of_decide_eq_true h2;omega
  refine zh ?_;refine qX (sz:=3) 0 i (Rd.own 1 I) I I I I (.inl ⟨rfl,rfl⟩) (.inr ⟨_,_,_,rfl,rfl,rfl⟩) (Nat.zero_le _) hi (zh ?_);refine Qf i (l.length+1-i) 1 I JG I I I I I (by omega) hi (by omega) hnc (by omega) (by omega) (by omega) ?_;intro v2;have hN:i+(l.length+1-i)=l.length+1:=by omega
  rw[hN];refine Qs 0 I (by omega) fun g2 o2 c2 hv2 hnc2 hcm2=>?_
  subst hv2;refine zh ?_;refine qX (sz:=3) i (l.length+1) (Rd.own 0 I) I I I I (.inr ⟨_,_,_,rfl,rfl,rfl⟩) (.inl ⟨rfl,rfl⟩) (by omega) (Nat.le_refl _) (zh ?_);refine qx i 1 0 I (Rd.own 1 I) I I I I I I (jH I) (Nat.min_eq_left (by omega)) (by decide) (zh ?_);refine qO [(0,true),(1,true),(2,true),(3,true),(4,true),(5,true),(6,true),(7,true),(8,false)] [] I I j3 (by kernel_rfl) ?_
  repeat' (first|refine QM I I I ?_|refine QK I I I (by first|omega|(simp;done)|(simp;omega)) ?_|refine HD.cut (sz:=3) (i+1) (l.length+1) c2 I I I I I (.inr ⟨_,_,rfl,rfl⟩) (.inl ⟨rfl,rfl,rfl⟩) (.inl ⟨rfl,rfl⟩) (by omega) hnc2 (Nat.le_refl _) ?_|refine HD.cut (sz:=3) i l.length c I I I I I (.inr ⟨_,_,rfl,rfl⟩) (.inl ⟨rfl,rfl,rfl⟩) (.inl ⟨rfl,rfl⟩) hi hnc (Nat.le_refl _) ?_|(refine HD.one I ?_;first|refine QT I I ?_|refine qx (i+1) (l.length-i) 0 I (Rd.sub (Rd.own 2 I) hcl hi (Nat.le_refl _)) I I I I I (by rw[List.length_take,List.length_drop,hcl];omega) (fun u hu=>ha1 u (List.mem_of_mem_drop (List.mem_of_mem_take (List.mem_of_mem_take hu)))) (Nat.min_eq_left (by omega)) (by omega) ?_|(refine qm ?_;first|refine qZ 0 I I I I ?_|refine qZ 1 I I I I ?_|refine qZ 2 I I I I ?_|refine qZ 3 I I I I ?_)|(refine qb ?_;first|refine qV 0 I I I I I ?_|refine qV 1 I I I I I ?_|refine qV 2 I I I I I ?_|refine qV 3 I I I I I ?_)|(refine HL.alloc I I ?_;intro bk))|refine HL.back [] rfl rfl ?_|refine HD.nil ?_|fail)
  refine zh ?_;refine HR.ret Tryz.func169 I [_] (fun _ _=>⟨I,trivial⟩) ?_;refine fun w' hw=>⟨_,rfl,trivial,qC ?_ ?_ w' (hw.pick [0] I rfl)⟩
  ·rw [hlen]
  ·rw [hcells,<- jA4 (xs:=cellsOf liC l) (X:=liC x) (Z:=(List.replicate (l.length+1-i) (liC ⟨0,0,0⟩)).flatten) (p:=i*3) (q:=3) (s:=(l.length-i)*3) (by rw[hcl];omega) I (by rw[je];simp;omega)];rw[show (i+1)*3=i*3+3 by omega];rfl
 ·have hc:l.length+1<=c:=by have:=of_decide_eq_false h2;omega
  refine zh ?_;refine Q0 (sz:=3) (l.length+1) 1 I I I I I I I (by omega) hc ?_;intro junk hj;refine zh ?_;refine HL.cut (sz:=3) (i+1) (l.length+1) c I I I I (.inr ⟨_,_,rfl,rfl⟩) (.inl ⟨rfl,rfl,rfl⟩) (.inl ⟨rfl,rfl⟩) (by omega) hc (Nat.le_refl _) ?_;refine QZ (zk (by omega)) (yO 0 1 I I (by decide) I I I (tS:=56) (tR:=4) I I (by omega) (by decide) I (by kernel_rfl) (by kernel_rfl) (by kernel_rfl) (by kernel_rfl) (zh ?_));refine qO [(0,true),(1,true),(2,true),(3,true),(4,true),(5,true),(6,true),(7,true),(8,false)] [] I I j3 (by kernel_rfl) ?_
  repeat' (first|refine QM I I I ?_|refine QK I I I (by first|omega|(simp;done)|(simp;omega)) ?_|refine HD.cut (sz:=3) (i+1) (l.length+1) c I I I I I (.inr ⟨_,_,rfl,rfl⟩) (.inl ⟨rfl,rfl,rfl⟩) (.inl ⟨rfl,rfl⟩) (by omega) hc (Nat.le_refl _) ?_|refine HD.cut (sz:=3) i (l.length+1) c I I I I I (.inr ⟨_,_,rfl,rfl⟩) (.inl ⟨rfl,rfl,rfl⟩) (.inl ⟨rfl,rfl⟩) (by omega) hc (Nat.le_refl _) ?_|(refine HD.one I ?_;first|refine QT I I ?_|refine qx (i+1) (l.length-i) 1 I (Rd.sub (sz:=3) (l:=i) (h:=l.length+1) (Rd.own 1 I) (by rw[List.length_append,hcl,hj];omega) (by omega) (Nat.le_refl _)) I I I I I (by rw[List.length_take,List.length_drop,List.length_append,hcl,hj];omega) (fun u hu=>ha1 u (KT (p:=i*3) (s:=(l.length-i)*3) (u:=(l.length+1-i)*3) (by rw[hcl];omega) (by omega) hu)) (show min (l.length+1-i) (l.length+1-(i+1))=l.length-i by omega) (by omega) ?_|(refine qm ?_;first|refine qZ 0 I I I I ?_|refine qZ 1 I I I I ?_|refine qZ 2 I I I I ?_|refine qZ 3 I I I I ?_)|(refine qb ?_;first|refine qV 0 I I I I I ?_|refine qV 1 I I I I I ?_|refine qV 2 I I I I I ?_|refine qV 3 I I I I I ?_)|(refine HL.alloc I I ?_;intro bk))|refine HL.back [] rfl rfl ?_|refine HD.nil ?_|fail)
  refine zh ?_;refine qX (sz:=3) i (l.length+1) (Rd.own 1 I) I I I I (.inr ⟨_,_,_,rfl,rfl,rfl⟩) (.inl ⟨rfl,rfl⟩) (by omega) (Nat.le_refl _) (zh ?_);refine qx i 1 1 I (Rd.own 0 I) I I I I I I (jH I) (Nat.min_eq_left (by omega)) (by decide) (zh ?_);refine HR.ret Tryz.func169 I [_] (fun _ _=>⟨I,trivial⟩) ?_;refine fun w' hw=>⟨_,rfl,trivial,qC ?_ ?_ w' (hw.pick [1] I rfl)⟩
  ·rw [hlen]
  ·rw [hcells,<- Km (xs:=cellsOf liC l) (X:=liC x) (J:=junk) (p:=i*3) (q:=3) (s:=(l.length-i)*3) (u:=(l.length+1-i)*3) (by rw[hcl];omega) I (by rw[hj];omega) (by omega)];rw[show (i+1)*3=i*3+3 by omega]
theorem jNT (l:List Sn) (x:Sn) (i:Nat) (v va:Value) (B0:Base) (w:World) (hw0:Sat B0 [jM va 131 11 1 (snC x),jM v 131 11 l.length (cellsOf snC l)] w) (hi:i<=l.length) (hl:l.length<=1000):
  Calls Tryz.prog 246 #[v,.int .i64 (i:Int),va] w fun e w'=>∃r:Value,e= .returned r/\True/\Sat ⟨w,zN [jM va 131 11 1 (snC x),jM v 131 11 l.length (cellsOf snC l)]⟩ [jM r 131 11 (l.take i++x::l.drop i).length (cellsOf snC (l.take i++x::l.drop i))] w':=by
 obtain ⟨ga,oa,ca,rfl,hnca,hcma⟩:=Qd (Sat.vw hw0 (i:=0) I) (by decide);have hlen:(l.take i++x::l.drop i).length=l.length+1:=by simp;omega
 have hcl:(cellsOf snC l).length=l.length*11:=jA jU l;have hcells:cellsOf snC (l.take i++x::l.drop i)=(cellsOf snC l).take (i*11)++snC x++(cellsOf snC l).drop (i*11):=by
  rw[JC jU,jo jU,jL,List.append_assoc];rfl
 have ha1:∀u∈cellsOf snC l,u.oneCell'=true:=jR KS _;refine jc [jM (.slice (some ⟨ga,oa,none⟩) 1 ca) 131 11 1 (snC x),jM v 131 11 l.length (cellsOf snC l)] (hw0) Tryz.func246 I (Nat.le_of_ble_eq_true I) (HR.sub (σ':=[(0,v),(1,.int .i64 (i:Int)),(2,.slice (some ⟨ga,oa,none⟩) 1 ca)]) ⟨I,I,I,trivial⟩ (zh ?_));refine qX (sz:=11) i l.length (Rd.own 1 I) I I I I (.inr ⟨_,_,_,rfl,rfl,rfl⟩) (.inl ⟨rfl,rfl⟩) hi (Nat.le_refl _) (zh ?_);refine qD (Rd.own 1 I) I I I (zh ?_);refine HR.cond I (fun h=>?_) (fun h=>?_)
 ·have hil:i=l.length:=by have:=eq_of_beq h;omega
  refine zh ?_;refine qJ 1 I jy (Rd.own 0 I) I I I I (jH I) (by omega) (by omega) ?_;intro v2;refine zh ?_;refine HR.ret Tryz.func246 I [_] (fun _ _=>⟨I,trivial⟩) ?_;refine fun w' hw=>⟨_,rfl,trivial,qC ?_ ?_ w' (hw.pick [1] I rfl)⟩
  ·rw [hlen]
  ·subst hil;rw[hcells,List.take_of_length_le (by omega),List.drop_eq_nil_of_le (by omega),List.append_nil]
 have hlt:i<l.length:=by have h:((i:Int)==(l.length:Int))=false:=h;simp at h;omega
 refine Qi 1 I (by omega) fun g off c hv hnc hcm=>?_
 subst hv;have hcm:c<=9223372036854775807:=hcm;refine zh ?_;refine Q5 I I I (zh ?_);refine HR.cond I (fun h2=>?_) (fun h2=>?_)
 ·have hc:c<l.length+1:=by have:=of_decide_eq_true h2;omega
  refine zh ?_;refine qX (sz:=11) 0 i (Rd.own 1 I) I I I I (.inl ⟨rfl,rfl⟩) (.inr ⟨_,_,_,rfl,rfl,rfl⟩) (Nat.zero_le _) hi (zh ?_);refine Qf i (l.length+1-i) 1 I jy I I I I I (by omega) hi (by omega) hnc (by omega) (by omega) (by omega) ?_;intro v2;have hN:i+(l.length+1-i)=l.length+1:=by omega
  rw[hN];refine Qs 0 I (by omega) fun g2 o2 c2 hv2 hnc2 hcm2=>?_
  subst hv2;refine zh ?_;refine qX (sz:=11) i (l.length+1) (Rd.own 0 I) I I I I (.inr ⟨_,_,_,rfl,rfl,rfl⟩) (.inl ⟨rfl,rfl⟩) (by omega) (Nat.le_refl _) (zh ?_);refine qx i 1 0 I (Rd.own 1 I) I I I I I I (jH I) (Nat.min_eq_left (by omega)) (by decide) (zh ?_);refine qO [(0,true),(1,true),(2,true),(3,true),(4,true),(5,true),(6,true),(7,true),(8,false)] [] I I j3 (by kernel_rfl) ?_
  repeat' (first|refine QM I I I ?_|refine QK I I I (by first|omega|(simp;done)|(simp;omega)) ?_|refine HD.cut (sz:=11) (i+1) (l.length+1) c2 I I I I I (.inr ⟨_,_,rfl,rfl⟩) (.inl ⟨rfl,rfl,rfl⟩) (.inl ⟨rfl,rfl⟩) (by omega) hnc2 (Nat.le_refl _) ?_|refine HD.cut (sz:=11) i l.length c I I I I I (.inr ⟨_,_,rfl,rfl⟩) (.inl ⟨rfl,rfl,rfl⟩) (.inl ⟨rfl,rfl⟩) hi hnc (Nat.le_refl _) ?_|(refine HD.one I ?_;first|refine QT I I ?_|refine qx (i+1) (l.length-i) 0 I (Rd.sub (Rd.own 2 I) hcl hi (Nat.le_refl _)) I I I I I (by rw[List.length_take,List.length_drop,hcl];omega) (fun u hu=>ha1 u (List.mem_of_mem_drop (List.mem_of_mem_take (List.mem_of_mem_take hu)))) (Nat.min_eq_left (by omega)) (by omega) ?_|(refine qm ?_;first|refine qZ 0 I I I I ?_|refine qZ 1 I I I I ?_|refine qZ 2 I I I I ?_|refine qZ 3 I I I I ?_)|(refine qb ?_;first|refine qV 0 I I I I I ?_|refine qV 1 I I I I I ?_|refine qV 2 I I I I I ?_|refine qV 3 I I I I I ?_)|(refine HL.alloc I I ?_;intro bk))|refine HL.back [] rfl rfl ?_|refine HD.nil ?_|fail)
  refine zh ?_;refine HR.ret Tryz.func246 I [_] (fun _ _=>⟨I,trivial⟩) ?_;refine fun w' hw=>⟨_,rfl,trivial,qC ?_ ?_ w' (hw.pick [0] I rfl)⟩
  ·rw [hlen]
  ·rw [hcells,<- jA4 (xs:=cellsOf snC l) (X:=snC x) (Z:=(List.replicate (l.length+1-i) (snC ⟨fr0,0,0⟩)).flatten) (p:=i*11) (q:=11) (s:=(l.length-i)*11) (by rw[hcl];omega) I (by rw[je];simp;omega)];rw[show (i+1)*11=i*11+11 by omega];rfl
 ·have hc:l.length+1<=c:=by have:=of_decide_eq_false h2;omega
  refine zh ?_;refine Q0 (sz:=11) (l.length+1) 1 I I I I I I I (by omega) hc ?_;intro junk hj;refine zh ?_;refine HL.cut (sz:=11) (i+1) (l.length+1) c I I I I (.inr ⟨_,_,rfl,rfl⟩) (.inl ⟨rfl,rfl,rfl⟩) (.inl ⟨rfl,rfl⟩) (by omega) hc (Nat.le_refl _) ?_;refine QZ (zk (by omega)) (yO 0 1 I I (by decide) I I I (tS:=57) (tR:=4) I I (by omega) (by decide) I (by kernel_rfl) (by kernel_rfl) (by kernel_rfl) (by kernel_rfl) (zh ?_));refine qO [(0,true),(1,true),(2,true),(3,true),(4,true),(5,true),(6,true),(7,true),(8,false)] [] I I j3 (by kernel_rfl) ?_
  repeat' (first|refine QM I I I ?_|refine QK I I I (by first|omega|(simp;done)|(simp;omega)) ?_|refine HD.cut (sz:=11) (i+1) (l.length+1) c I I I I I (.inr ⟨_,_,rfl,rfl⟩) (.inl ⟨rfl,rfl,rfl⟩) (.inl ⟨rfl,rfl⟩) (by omega) hc (Nat.le_refl _) ?_|refine HD.cut (sz:=11) i (l.length+1) c I I I I I (.inr ⟨_,_,rfl,rfl⟩) (.inl ⟨rfl,rfl,rfl⟩) (.inl ⟨rfl,rfl⟩) (by omega) hc (Nat.le_refl _) ?_|(refine HD.one I ?_;first|refine QT I I ?_|refine qx (i+1) (l.length-i) 1 I (Rd.sub (sz:=11) (l:=i) (h:=l.length+1) (Rd.own 1 I) (by rw[List.length_append,hcl,hj];omega) (by omega) (Nat.le_refl _)) I I I I I (by rw[List.length_take,List.length_drop,List.length_append,hcl,hj];omega) (fun u hu=>ha1 u (KT (p:=i*11) (s:=(l.length-i)*11) (u:=(l.length+1-i)*11) (by rw[hcl];omega) (by omega) hu)) (show min (l.length+1-i) (l.length+1-(i+1))=l.length-i by omega) (by omega) ?_|(refine qm ?_;first|refine qZ 0 I I I I ?_|refine qZ 1 I I I I ?_|refine qZ 2 I I I I ?_|refine qZ 3 I I I I ?_)|(refine qb ?_;first|refine qV 0 I I I I I ?_|refine qV 1 I I I I I ?_|refine qV 2 I I I I I ?_|refine qV 3 I I I I I ?_)|(refine HL.alloc I I ?_;intro bk))|refine HL.back [] rfl rfl ?_|refine HD.nil ?_|fail)
  refine zh ?_;refine qX (sz:=11) i (l.length+1) (Rd.own 1 I) I I I I (.inr ⟨_,_,_,rfl,rfl,rfl⟩) (.inl ⟨rfl,rfl⟩) (by omega) (Nat.le_refl _) (zh ?_);refine qx i 1 1 I (Rd.own 0 I) I I I I I I (jH I) (Nat.min_eq_left (by omega)) (by decide) (zh ?_);refine HR.ret Tryz.func246 I [_] (fun _ _=>⟨I,trivial⟩) ?_;refine fun w' hw=>⟨_,rfl,trivial,qC ?_ ?_ w' (hw.pick [1] I rfl)⟩
  ·rw [hlen]
  ·rw [hcells,<- Km (xs:=cellsOf snC l) (X:=snC x) (J:=junk) (p:=i*11) (q:=11) (s:=(l.length-i)*11) (u:=(l.length+1-i)*11) (by rw[hcl];omega) I (by rw[hj];omega) (by omega)];rw[show (i+1)*11=i*11+11 by omega]
theorem jNW (l:List Ma) (x:Ma) (i:Nat) (v va:Value) (B0:Base) (w:World) (hw0:Sat B0 [jM va 166 10 1 (maC x),jM v 166 10 l.length (cellsOf maC l)] w) (hi:i<=l.length) (hl:l.length<=1000):
  Calls Tryz.prog 269 #[v,.int .i64 (i:Int),va] w fun e w'=>∃r:Value,e= .returned r/\True/\Sat ⟨w,zN [jM va 166 10 1 (maC x),jM v 166 10 l.length (cellsOf maC l)]⟩ [jM r 166 10 (l.take i++x::l.drop i).length (cellsOf maC (l.take i++x::l.drop i))] w':=by
 obtain ⟨ga,oa,ca,rfl,hnca,hcma⟩:=Qd (Sat.vw hw0 (i:=0) I) (by decide);have hlen:(l.take i++x::l.drop i).length=l.length+1:=by simp;omega
 have hcl:(cellsOf maC l).length=l.length*10:=jA j4 l;have hcells:cellsOf maC (l.take i++x::l.drop i)=(cellsOf maC l).take (i*10)++maC x++(cellsOf maC l).drop (i*10):=by
  rw[JC j4,jo j4,jL,List.append_assoc];rfl
 have ha1:∀u∈cellsOf maC l,u.oneCell'=true:=jR jBa _;refine jc [jM (.slice (some ⟨ga,oa,none⟩) 1 ca) 166 10 1 (maC x),jM v 166 10 l.length (cellsOf maC l)] (hw0) Tryz.func269 I (Nat.le_of_ble_eq_true I) (HR.sub (σ':=[(0,v),(1,.int .i64 (i:Int)),(2,.slice (some ⟨ga,oa,none⟩) 1 ca)]) ⟨I,I,I,trivial⟩ (zh ?_));refine qX (sz:=10) i l.length (Rd.own 1 I) I I I I (.inr ⟨_,_,_,rfl,rfl,rfl⟩) (.inl ⟨rfl,rfl⟩) hi (Nat.le_refl _) (zh ?_);refine qD (Rd.own 1 I) I I I (zh ?_);refine HR.cond I (fun h=>?_) (fun h=>?_)
 ·have hil:i=l.length:=by have:=eq_of_beq h;omega
  refine zh ?_;refine qJ 1 I JB (Rd.own 0 I) I I I I (jH I) (by omega) (by omega) ?_;intro v2;refine zh ?_;refine HR.ret Tryz.func269 I [_] (fun _ _=>⟨I,trivial⟩) ?_;refine fun w' hw=>⟨_,rfl,trivial,qC ?_ ?_ w' (hw.pick [1] I rfl)⟩
  ·rw [hlen]
  ·subst hil;rw[hcells,List.take_of_length_le (by omega),List.drop_eq_nil_of_le (by omega),List.append_nil]
 have hlt:i<l.length:=by have h:((i:Int)==(l.length:Int))=false:=h;simp at h;omega
 refine Qi 1 I (by omega) fun g off c hv hnc hcm=>?_
 subst hv;have hcm:c<=9223372036854775807:=hcm;refine zh ?_;refine Q5 I I I (zh ?_);refine HR.cond I (fun h2=>?_) (fun h2=>?_)
 ·have hc:c<l.length+1:=by have:=of_decide_eq_true h2;omega
  refine zh ?_;refine qX (sz:=10) 0 i (Rd.own 1 I) I I I I (.inl ⟨rfl,rfl⟩) (.inr ⟨_,_,_,rfl,rfl,rfl⟩) (Nat.zero_le _) hi (zh ?_);refine Qf i (l.length+1-i) 1 I JB I I I I I (by omega) hi (by omega) hnc (by omega) (by omega) (by omega) ?_;intro v2;have hN:i+(l.length+1-i)=l.length+1:=by omega
  rw[hN];refine Qs 0 I (by omega) fun g2 o2 c2 hv2 hnc2 hcm2=>?_
  subst hv2;refine zh ?_;refine qX (sz:=10) i (l.length+1) (Rd.own 0 I) I I I I (.inr ⟨_,_,_,rfl,rfl,rfl⟩) (.inl ⟨rfl,rfl⟩) (by omega) (Nat.le_refl _) (zh ?_);refine qx i 1 0 I (Rd.own 1 I) I I I I I I (jH I) (Nat.min_eq_left (by omega)) (by decide) (zh ?_);refine qO [(0,true),(1,true),(2,true),(3,true),(4,true),(5,true),(6,true),(7,true),(8,false)] [] I I j3 (by kernel_rfl) ?_
  repeat' (first|refine QM I I I ?_|refine QK I I I (by first|omega|(simp;done)|(simp;omega)) ?_|refine HD.cut (sz:=10) (i+1) (l.length+1) c2 I I I I I (.inr ⟨_,_,rfl,rfl⟩) (.inl ⟨rfl,rfl,rfl⟩) (.inl ⟨rfl,rfl⟩) (by omega) hnc2 (Nat.le_refl _) ?_|refine HD.cut (sz:=10) i l.length c I I I I I (.inr ⟨_,_,rfl,rfl⟩) (.inl ⟨rfl,rfl,rfl⟩) (.inl ⟨rfl,rfl⟩) hi hnc (Nat.le_refl _) ?_|(refine HD.one I ?_;first|refine QT I I ?_|refine qx (i+1) (l.length-i) 0 I (Rd.sub (Rd.own 2 I) hcl hi (Nat.le_refl _)) I I I I I (by rw[List.length_take,List.length_drop,hcl];omega) (fun u hu=>ha1 u (List.mem_of_mem_drop (List.mem_of_mem_take (List.mem_of_mem_take hu)))) (Nat.min_eq_left (by omega)) (by omega) ?_|(refine qm ?_;first|refine qZ 0 I I I I ?_|refine qZ 1 I I I I ?_|refine qZ 2 I I I I ?_|refine qZ 3 I I I I ?_)|(refine qb ?_;first|refine qV 0 I I I I I ?_|refine qV 1 I I I I I ?_|refine qV 2 I I I I I ?_|refine qV 3 I I I I I ?_)|(refine HL.alloc I I ?_;intro bk))|refine HL.back [] rfl rfl ?_|refine HD.nil ?_|fail)
  refine zh ?_;refine HR.ret Tryz.func269 I [_] (fun _ _=>⟨I,trivial⟩) ?_;refine fun w' hw=>⟨_,rfl,trivial,qC ?_ ?_ w' (hw.pick [0] I rfl)⟩
  ·rw [hlen]
  ·rw [hcells,<- jA4 (xs:=cellsOf maC l) (X:=maC x) (Z:=(List.replicate (l.length+1-i) (maC ⟨fr0,0⟩)).flatten) (p:=i*10) (q:=10) (s:=(l.length-i)*10) (by rw[hcl];omega) I (by rw[je];simp;omega)];rw[show (i+1)*10=i*10+10 by omega];rfl
 ·have hc:l.length+1<=c:=by have:=of_decide_eq_false h2;omega
  refine zh ?_;refine Q0 (sz:=10) (l.length+1) 1 I I I I I I I (by omega) hc ?_;intro junk hj;refine zh ?_;refine HL.cut (sz:=10) (i+1) (l.length+1) c I I I I (.inr ⟨_,_,rfl,rfl⟩) (.inl ⟨rfl,rfl,rfl⟩) (.inl ⟨rfl,rfl⟩) (by omega) hc (Nat.le_refl _) ?_;refine QZ (zk (by omega)) (yO 0 1 I I (by decide) I I I (tS:=58) (tR:=4) I I (by omega) (by decide) I (by kernel_rfl) (by kernel_rfl) (by kernel_rfl) (by kernel_rfl) (zh ?_));refine qO [(0,true),(1,true),(2,true),(3,true),(4,true),(5,true),(6,true),(7,true),(8,false)] [] I I j3 (by kernel_rfl) ?_
  repeat' (first|refine QM I I I ?_|refine QK I I I (by first|omega|(simp;done)|(simp;omega)) ?_|refine HD.cut (sz:=10) (i+1) (l.length+1) c I I I I I (.inr ⟨_,_,rfl,rfl⟩) (.inl ⟨rfl,rfl,rfl⟩) (.inl ⟨rfl,rfl⟩) (by omega) hc (Nat.le_refl _) ?_|refine HD.cut (sz:=10) i (l.length+1) c I I I I I (.inr ⟨_,_,rfl,rfl⟩) (.inl ⟨rfl,rfl,rfl⟩) (.inl ⟨rfl,rfl⟩) (by omega) hc (Nat.le_refl _) ?_|(refine HD.one I ?_;first|refine QT I I ?_|refine qx (i+1) (l.length-i) 1 I (Rd.sub (sz:=10) (l:=i) (h:=l.length+1) (Rd.own 1 I) (by rw[List.length_append,hcl,hj];omega) (by omega) (Nat.le_refl _)) I I I I I (by rw[List.length_take,List.length_drop,List.length_append,hcl,hj];omega) (fun u hu=>ha1 u (KT (p:=i*10) (s:=(l.length-i)*10) (u:=(l.length+1-i)*10) (by rw[hcl];omega) (by omega) hu)) (show min (l.length+1-i) (l.length+1-(i+1))=l.length-i by omega) (by omega) ?_|(refine qm ?_;first|refine qZ 0 I I I I ?_|refine qZ 1 I I I I ?_|refine qZ 2 I I I I ?_|refine qZ 3 I I I I ?_)|(refine qb ?_;first|refine qV 0 I I I I I ?_|refine qV 1 I I I I I ?_|refine qV 2 I I I I I ?_|refine qV 3 I I I I I ?_)|(refine HL.alloc I I ?_;intro bk))|refine HL.back [] rfl rfl ?_|refine HD.nil ?_|fail)
  refine zh ?_;refine qX (sz:=10) i (l.length+1) (Rd.own 1 I) I I I I (.inr ⟨_,_,_,rfl,rfl,rfl⟩) (.inl ⟨rfl,rfl⟩) (by omega) (Nat.le_refl _) (zh ?_);refine qx i 1 1 I (Rd.own 0 I) I I I I I I (jH I) (Nat.min_eq_left (by omega)) (by decide) (zh ?_);refine HR.ret Tryz.func269 I [_] (fun _ _=>⟨I,trivial⟩) ?_;refine fun w' hw=>⟨_,rfl,trivial,qC ?_ ?_ w' (hw.pick [1] I rfl)⟩
  ·rw [hlen]
  ·rw [hcells,<- Km (xs:=cellsOf maC l) (X:=maC x) (J:=junk) (p:=i*10) (q:=10) (s:=(l.length-i)*10) (u:=(l.length+1-i)*10) (by rw[hcl];omega) I (by rw[hj];omega) (by omega)];rw[show (i+1)*10=i*10+10 by omega]
end Go.Proofs.YtgfdoognildoeaaGreat
namespace Nd
open Go.GX Tp
theorem jJp (f:Nat):pop f 0=0:=by cases f<;>simp[pop]
theorem jJq {f b:Nat} (h:0<b) (hb:b<2 ^ f):∃f',f=f'+1/\b / 2<2 ^ f'/\pop f b=((b%2:Nat):Int)+pop f' (b / 2):=by
 cases f with
 |zero=>simp at hb;omega
 |succ f=>exact ⟨f,rfl,by rw[Nat.pow_succ]at hb;omega,by simp[pop];omega⟩
theorem jEB:∀f b,0<=pop f b/\pop f b<=f
 |0,b=>by simp[pop]
 |f+1,b=>by
  have:=jEB f (b / 2);unfold pop
  split<;>omega
theorem jM0 (b:Int):0<=ones b/\ones b<=64:=by
 have:=jEB 64 b.toNat;unfold ones;omega
theorem jDP {a b:Int} (ha:0<=a) (hb:0<b):cdiv a b=if a%b≠0 then a / b+1 else a / b:=by
 have h1:=Int.mul_ediv_add_emod a b;have h2:=Int.emod_nonneg a (show b≠0 by omega);have h3:=Int.emod_lt_of_pos a hb;unfold cdiv
 split
 ·rename_i h
  have e:-a=(b-a%b)+b*(-(a / b)-1):=by rw[Int.mul_sub,Int.mul_neg,Int.mul_one];omega
  have e2:(-a) / b=(b-a%b) / b+(-(a / b)-1):=by rw[e,Int.add_mul_ediv_left _ _ (show b≠0 by omega)]
  have z:(b-a%b) / b=0:=Int.ediv_eq_zero_of_lt (by omega) (by omega);rw[z]at e2;omega
 ·rename_i h
  have e:-a=0+b*(-(a / b)):=by rw[Int.mul_neg];omega
  have e2:(-a) / b=0 / b+(-(a / b)):=by rw[e,Int.add_mul_ediv_left _ _ (show b≠0 by omega)]
  rw[Int.zero_ediv]at e2;omega
def li0:Li:=⟨0,0,0⟩
def ro0:Ro:=⟨0,0,0,0⟩
def jNM (l:List Li) (n:Int):Bool:=match l[zT l n]? with
 |some x=>x.nd==n
 |none=>false
def jQm (l:List Ro) (n:Int):Bool:=match l[rpos l n]? with
 |some x=>x.dest==n
 |none=>false
theorem jC8 {l:List Li} {n:Int} (h:jNM l n=true):∃x,l[zT l n]? =some x/\x.nd=n:=by
 unfold jNM at h;cases hx:l[zT l n]? with
 |none=>rw[hx]at h;cases h
 |some x=>rw[hx]at h;exact ⟨x,rfl,by simpa using h⟩
theorem jBd {l:List Li} {n:Int} (h:jNM l n=false):∀x,l[zT l n]? =some x->¬x.nd=n:=by
 intro x hx;unfold jNM at h;rw[hx]at h;simpa using h
theorem jRJ {l:List Li} {n:Int} {k:Nat} (hk:k<=l.length) (h1:∀j a,j<k->l[j]? =some a->a.nd<n) (h2:∀a,l[k]? =some a->n<=a.nd):zT l n=k:=jLv hk h1 h2
theorem jMM {l:List Ro} {n:Int} {k:Nat} (hk:k<=l.length) (h1:∀j a,j<k->l[j]? =some a->a.dest<n) (h2:∀a,l[k]? =some a->n<=a.dest):rpos l n=k:=jLv hk h1 h2
def succ (l:List Li) (n:Int):Int×Int:=match lat (lval l) n with
 |some x=>(ones x.bi,x.ct)
 |none=>(0,0)
theorem jEM (l:List Li) (n:Int):kM l n=if (succ l n).1=0 then 255 else cdiv (10*(succ l n).2) (succ l n).1:=by
 unfold kM succ;cases lat (lval l) n<;>simp
theorem jA3 {l:List Li} {x:Li} (h:x∈lval l):zD x=false:=(KC (ku l)).2.1 x h
theorem jFJ {l:List Li} {n:Int} {x:Li} (h:lat l n=some x):x∈l/\x.nd=n:=⟨List.mem_of_find?_eq_some h,by simpa using List.find?_some h⟩
theorem jD3 {l:List Ro} {k:Nat} {x:Ro} (hx:l[k]? =some x) (h:Jy x=true):jCN l k=2:=by unfold jCN;rw[hx];simp only;rw[if_pos h]
theorem jD4 {l:List Ro} {k:Nat} {x y:Ro} (hx:l[k]? =some x) (h:Jy x=false) (h0:0<k) (hy:l[k-1]? =some y) (hle:x.dest<=y.dest):jCN l k=14:=by
 unfold jCN;rw[hx];simp only;rw[if_neg (by rw[h];decide),if_pos ⟨h0,by rw[hy];exact decide_eq_true hle⟩]
theorem jMZ {l:List Ro} {k:Nat} {x:Ro} (hx:l[k]? =some x) (h:Jy x=false) (h2:∀y,0<k->l[k-1]? =some y->¬x.dest<=y.dest):jCN l k=0:=by
 unfold jCN;rw[hx];simp only;rw[if_neg (by rw[h];decide),if_neg]
 rintro ⟨h0,hh⟩
 cases hy:l[k-1]? with
 |none=>rw[hy]at hh;cases hh
 |some y=>rw[hy]at hh;exact h2 y h0 hy (of_decide_eq_true hh)
theorem K7 {t:List Ro} {self:Int} {k:Nat} (h:t.length<=24) (h0:okN self=true) (h1:jf (jCN t) k=0) (h2:jCN t k≠0) (hk:k<t.length):KR t self=jCN t k:=by
 have e:=Ku h1 h2 hk;unfold KR;rw[if_neg (by omega),if_neg (by rw[h0];decide),if_pos (by rw[e];exact h2),e]
theorem jQn {t:List Ro} {self:Int} (h:t.length<=24) (h0:okN self=true) (h1:jf (jCN t) t.length=0) (h2:(t.any fun r=>r.dest==self)=false):KR t self=8:=by
 unfold KR;rw[if_neg (by omega),if_neg (by rw[h0];decide),if_neg (by simp[h1]),if_pos h2]
theorem jQo {t:List Ro} {self:Int} (h:t.length<=24) (h0:okN self=true) (h1:jf (jCN t) t.length=0) (h2:(t.any fun r=>r.dest==self)=true) (h3:t.any (Ze self)=true):KR t self=4:=by
 unfold KR;rw[if_neg (by omega),if_neg (by rw[h0];decide),if_neg (by simp[h1]),if_neg (by rw[h2];decide),if_pos h3]
theorem jQp {t:List Ro} {self:Int} (h:t.length<=24) (h0:okN self=true) (h1:jf (jCN t) t.length=0) (h2:(t.any fun r=>r.dest==self)=true) (h3:t.any (Ze self)=false):KR t self=0:=by
 unfold KR;rw[if_neg (by omega),if_neg (by rw[h0];decide),if_neg (by simp[h1]),if_neg (by rw[h2];decide),if_neg (by rw[h3];decide)]
theorem jGy {t:List Ro} (h:jf (jCN t) t.length=0):(∀ r∈t,Jy r=false)/\Asc (·.dest) t:=by
 have h3:=zX h;refine ⟨fun x hx=>?_,jHE fun i a b ha hb=>?_⟩
 ·obtain ⟨i,hi⟩:=List.getElem?_of_mem hx;exact (jAz hi (h3 i (List.getElem?_eq_some_iff.1 hi).1)).1
 ·exact (jAz hb (h3 (i+1) (List.getElem?_eq_some_iff.1 hb).1)).2 a (by omega) (by simpa using ha)
def At (t:List Ro) (self:Int) (k:Nat) (a:Int):Prop:=(a= -1/\∀j r,j<k->t[j]? =some r->r.dest≠self)\/∃i:Nat,i<k/\a=i/\∃r,t[i]? =some r/\r.dest=self
theorem YJ {t:List Ro} {self:Int} {k:Nat} {r:Ro} (hr:t[k]? =some r) (h:r.dest=self):At t self (k+1) k:= .inr ⟨k,by omega,rfl,r,hr,h⟩
theorem At.jQ6 {t:List Ro} {self:Int} {k:Nat} {a:Int} {r:Ro} (hA:At t self k a) (hr:t[k]? =some r) (h:r.dest≠self):At t self (k+1) a:=by
 rcases hA with ⟨h1,h2⟩|⟨i,h1,h2,h3⟩
 ·refine .inl ⟨h1,fun j x hj hx=>?_⟩
  by_cases hjk:j=k
  ·subst hjk;rw[hr]at hx;cases hx;exact h
  ·exact h2 j x (by omega) hx
 ·exact .inr ⟨i,by omega,h2,h3⟩
theorem At.neg {t:List Ro} {self:Int} {a:Int} (h:At t self t.length a) (ha:a<0):(t.any fun r=>r.dest==self)=false:=by
 rcases h with ⟨_,h2⟩|⟨i,_,h2,_⟩
 ·rw [<- Bool.not_eq_true,List.any_eq_true]
  rintro ⟨r,hr,he⟩
  obtain ⟨j,hj⟩:=List.getElem?_of_mem hr;exact h2 j r (List.getElem?_eq_some_iff.1 hj).1 hj (by simpa using he)
 ·omega
theorem At.pos {t:List Ro} {self:Int} {a:Int} (h:At t self t.length a) (ha:¬a<0):∃i:Nat,a=i/\i<t.length/\∃r,t[i]? =some r/\r.dest=self:=by
 rcases h with ⟨h1,_⟩|⟨i,h1,h2,h3⟩
 ·omega
 ·exact ⟨i,h2,h1,h3⟩
theorem jEi {t:List Ro} {self:Int} {i:Nat} {r:Ro} (hr:t[i]? =some r) (h:r.dest=self):(t.any fun r=>r.dest==self)=true:=List.any_eq_true.2 ⟨r,List.mem_of_getElem? hr,by simpa using h⟩
theorem jRD {t:List Ro} {self:Int} (ha:Asc (·.dest) t) {i k:Nat} {r x:Ro} (hi:t[i]? =some r) (hd:r.dest=self) (hx:t[k]? =some x):x.dest=self↔k=i:=by
 constructor
 ·intro h;rcases Nat.lt_trichotomy k i with hlt|he|hlt
  ·have:=ha.lt hlt hx hi;omega
  ·exact he
  ·have:=ha.lt hlt hi hx;omega
 ·intro h;subst h;rw[hi]at hx;cases hx;exact hd
theorem jKK {p:Ro->Bool} {t:List Ro} {k:Nat} {x:Ro} (hx:t[k]? =some x) (h:(t.take k).any p=false) (h2:p x=false):(t.take (k+1)).any p=false:=by
 rw[jE hx,List.any_append,h];simp[h2]
theorem jQ2 {p:Ro->Bool} {t:List Ro} {k:Nat} {x:Ro} (hx:t[k]? =some x) (h2:p x=true):t.any p=true:=List.any_eq_true.2 ⟨x,List.mem_of_getElem? hx,h2⟩
theorem jGU (n:Int):(n != lim n)=!okN n:=by
 rw[Bool.eq_iff_iff];simp only[bne_iff_ne,ne_eq,Bool.not_eq_true',okN,Bool.and_eq_false_iff,decide_eq_false_iff_not];unfold lim clamp;omega
theorem jQz (n:Int):(n==lim n)=okN n:=by
 rw[Bool.eq_iff_iff];simp only[beq_iff_eq,okN,Bool.and_eq_true,decide_eq_true_eq];unfold lim clamp;omega
theorem KX {r:Ro} (h:Jy r=false):usable r=true/\okN r.dest=true/\0<=r.sq/\r.sq<=65535/\0<=r.cost/\r.cost<=255:=by
 have hu:usable r=true:=by
  simp only[Jy,Bool.or_eq_false_iff,Bool.not_eq_false']at h;exact h.1.1
 refine ⟨hu,?_⟩;simp only[usable,fin,Bool.and_eq_true,Bool.or_eq_true,Bool.not_eq_true',Bool.or_eq_false_iff,decide_eq_false_iff_not,decide_eq_true_eq,beq_iff_eq]at hu;exact ⟨hu.1.1,by omega,by omega,by omega,by omega⟩
theorem zo {r:Ro} (h:usable r=true):okN r.dest=true/\0<=r.sq/\r.sq<=65535/\0<=r.cost/\r.cost<=255:=by
 simp only[usable,fin,Bool.and_eq_true,Bool.or_eq_true,Bool.not_eq_true',Bool.or_eq_false_iff,decide_eq_false_iff_not,decide_eq_true_eq,beq_iff_eq]at h;exact ⟨h.1.1,by omega,by omega,by omega,by omega⟩
theorem zL (n:Int):okN n=true↔0<=n/\n<=250:=by simp[okN]
def jB4 (t:List Ro) (d:Int):Int:=match t.findIdx? (fun x=>x.dest==d)with
 |some i=>i
 |none=>-1
theorem jPa {t:List Ro} {d:Int} {i:Nat} {x:Ro} (hx:t[i]? =some x) (hd:(x.dest==d)=true) (hno:∀j a,j<i->t[j]? =some a->(a.dest==d)=false):jB4 t d=i:=by
 have:t.findIdx? (fun x=>x.dest==d)=some i:=by
  rw[List.findIdx?_eq_some_iff_getElem];obtain ⟨hl,rfl⟩:=List.getElem?_eq_some_iff.1 hx;exact ⟨hl,hd,fun j hj=>by rw[hno j _ hj (List.getElem?_eq_getElem (by omega))];decide⟩
 unfold jB4;rw[this]
theorem jKf {t:List Ro} {d:Int} (hno:∀j a,j<t.length->t[j]? =some a->(a.dest==d)=false):jB4 t d= -1:=by
 have:t.findIdx? (fun x=>x.dest==d)=none:=by
  rw[List.findIdx?_eq_none_iff];intro x hx;obtain ⟨j,hj⟩:=List.getElem?_of_mem hx;exact hno j x (List.getElem?_eq_some_iff.1 hj).1 hj
 unfold jB4;rw[this]
theorem zV (t:List Ro) (d:Int):(jB4 t d= -1/\rat t d=none)\/∃(i:Nat) (x:Ro),jB4 t d=i/\t[i]? =some x/\x.dest=d/\rat t d=some x:=by
 unfold jB4;cases h:t.findIdx? (fun x=>x.dest==d)with
 |none=>
  refine .inl ⟨rfl,List.find?_eq_none.2 fun x hx=>?_⟩;have:=List.findIdx?_eq_none_iff.1 h x hx
  simp[this]
 |some i=>
  obtain ⟨hl,hd,hno⟩:=List.findIdx?_eq_some_iff_getElem.1 h;refine .inr ⟨i,t[i],rfl,List.getElem?_eq_getElem hl,by simpa using hd,ZV (List.getElem?_eq_getElem hl) hd fun j a hj ha=>?_⟩;obtain ⟨hl',rfl⟩:=List.getElem?_eq_some_iff.1 ha
  simpa using hno j hj
theorem jF3 {t:List Ro} {self:Int} {x:Ro} (hx:(ZR t self)[rpos (ZR t self) (lim self)]? =some x) (hd:x.dest=lim self):jB6 t self=if x.sq<65534 then (ZR t self).set (rpos (ZR t self) (lim self)) ⟨x.dest,x.sq+2,x.cost,x.nx⟩else ZR t self:=by
 have:=((ze t self).asc.jGF hx hd).2;unfold jB6 rat;rw[this]
theorem jJc (t:List Ro) (self:Int):∃x,(ZR t self)[rpos (ZR t self) (lim self)]? =some x/\x.dest=lim self/\rat (ZR t self) (lim self)=some x:=by
 obtain ⟨x,h1,h2,_⟩:=(ze t self).get;exact ⟨x,((ze t self).asc.pos h1).1,h2,h1⟩
theorem jMS {t:List Ro} {d:Int} {x:Ro} (hx:t[rpos t d]? =some x) (hd:x.dest=d):jQm t d=true:=by unfold jQm;rw[hx];simpa using hd
theorem jCi {t:List Ro} (h:Asc (·.dest) t) {d:Int} {i:Nat} {x:Ro} (hx:t[i]? =some x) (hd:x.dest=d):rpos t d=i/\rat t d=some x:=h.jGF hx hd
theorem jJb {t:List Ro} {self:Int}:∀r∈ZR t self,okN r.dest=true:=fun r hr=>(KX ((ze t self).rng r hr)).2.1
theorem jMQ {t:List Ro} {fr:Int} {r:Ro} (h:∀x∈t,okN x.dest=true) (hr:okN r.dest=true):∀x∈jr t fr r,okN x.dest=true:=by
 intro x hx;unfold jr at hx;cases ho:rat t r.dest<;>rw[ho]at hx<;>simp only at hx
 rotate_left
 ·have key:∀b:Bool,x∈(if b=true then t.set (rpos t r.dest) r else t)->okN x.dest=true:=by
   intro b hb;cases b
   ·exact h x hb
   ·rcases List.mem_or_eq_of_mem_set hb with hb|hb
    ·exact h x hb
    ·subst hb;exact hr
  exact key _ hx
 ·split at hx
  ·rcases List.mem_append.1 hx with hx|hx
   ·exact h x (List.mem_of_mem_take hx)
   ·rcases List.mem_cons.1 hx with hx|hx
    ·subst hx;exact hr
    ·exact h x (List.mem_of_mem_drop hx)
  ·exact h x hx
theorem jPY {t:List Ro} {self fr cost:Int} {a:Ro} (h:∀x∈t,okN x.dest=true):∀x∈J2 self fr cost t a,okN x.dest=true:=by
 unfold J2
 split
 ·exact h
 ·rename_i hc
  refine jMQ h ?_;rw[jCo];have:usable a=true:=by
   cases hu:usable a with
   |true=>rfl
   |false=>exact absurd (.inl hu) hc
  exact (zo this).1
theorem jJW {self fr cost:Int}:∀ {adv t:List Ro},(∀ x∈t,okN x.dest=true)->∀x∈adv.foldl (J2 self fr cost) t,okN x.dest=true
 |[],t,h=>h
 |a::adv,t,h=>jJW (adv:=adv) (jPY h)
def jDS (self next:Int) (r:Ro):Ro:=if okN next=true/\r.nx=next/\r.dest≠lim self then ⟨r.dest,r.sq+1,255,255⟩else r
theorem jE1 (t:List Ro) (self next:Int):jMY t self next=(ZR t self).map (jDS self next):=rfl
theorem K9 {α:Type} (f:α->α) {l:List α} {k:Nat} {x:α} (hx:l[k]? =some x):((l.take k).map f++l.drop k).set k (f x)=(l.take (k+1)).map f++l.drop (k+1):=by
 have hl:((l.take k).map f).length=k:=by
  have:=(List.getElem?_eq_some_iff.1 hx).1
  simp;omega
 rw[KF hx,Nd.set_mid hl,jE hx];simp
theorem ZM {α:Type} (f:α->α) {l:List α} {k:Nat} {x:α} (hx:l[k]? =some x) (hf:f x=x):(l.take k).map f++l.drop k=(l.take (k+1)).map f++l.drop (k+1):=by
 rw[KF hx,jE hx];simp[hf]
theorem zC {α:Type} (f:α->α) {l:List α} {k:Nat} {x:α} (hx:l[k]? =some x):((l.take k).map f++l.drop k)[k]? =some x:=by
 have hl:((l.take k).map f).length=k:=by
  have:=(List.getElem?_eq_some_iff.1 hx).1
  simp;omega
 rw[KF hx];exact jFN hl
theorem Zv {α:Type} (f:α->α) (l:List α) (k:Nat):((l.take k).map f++l.drop k).length=l.length:=by simp;omega
end Nd
namespace Go.GX
open Go.RowKit
section
variable {P : Program} {f : FuncId} {N : Nat} {k : List Item} {σ : Store} {B : Base} {H : List Chunk} {R : Ending -> World -> Prop} {ops l : List Oper} {o : Oper} {K : Act -> World -> Prop}
variable {d : Nat} {d' : Option Nat} {ty : TypeId} {pos : String} {af : Array Edge} {gd : Option (Nat × Bool)} {u v : Value}
theorem jRT {t t':TypeId} {x y:Operand} {a b:Int} (hx:lookO σ x=some (.int .i64 a)) (hy:lookO σ y=some (.int .i64 b)) (hb:b≠0) (hf:fits .i64 (a.tdiv b)) (w:World):
  (execOp (evO σ) ⟨d',.binOp .quo t x y t',ty,pos,af,gd⟩).run P w= .ok (.value (.int .i64 (a.tdiv b))) w:=by
 have:=Jh hf
 simp[execOp,jB hx,jB hy,eqGuard,binOp,Op.intDiv,this,hb]
theorem jRS {t t':TypeId} {x y:Operand} {a b:Int} (hx:lookO σ x=some (.int .i64 a)) (hy:lookO σ y=some (.int .i64 b)) (hb:b≠0) (w:World):
  (execOp (evO σ) ⟨d',.binOp .rem t x y t',ty,pos,af,gd⟩).run P w= .ok (.value (.int .i64 (a.tmod b))) w:=by
 simp[execOp,jB hx,jB hy,eqGuard,binOp,Op.intDiv,hb]
theorem YX {t t':TypeId} {x y:Operand} {a b:Int} (hs:stat N ops ⟨some d,.binOp .quo t x y t',ty,pos,af,gd⟩ σ=true) (hx:lookO σ x=some (.int .i64 a)) (hy:lookO σ y=some (.int .i64 b)) (hb:b≠0) (hf:fits .i64 (a.tdiv b))
  (h:HL P N ops l ((d,.int .i64 (a.tdiv b))::σ) B H K):HL P N ops (⟨some d,.binOp .quo t x y t',ty,pos,af,gd⟩::l) σ B H K:=QL hs (fun w _=>jRT hx hy hb hf w) h
theorem YW {t t':TypeId} {x y:Operand} {a b:Int} (hs:stat N ops ⟨some d,.binOp .rem t x y t',ty,pos,af,gd⟩ σ=true) (hx:lookO σ x=some (.int .i64 a)) (hy:lookO σ y=some (.int .i64 b)) (hb:b≠0)
  (h:HL P N ops l ((d,.int .i64 (a.tmod b))::σ) B H K):HL P N ops (⟨some d,.binOp .rem t x y t',ty,pos,af,gd⟩::l) σ B H K:=QL hs (fun w _=>jRS hx hy hb w) h
theorem Yy {t t' e sz:TypeId} {x y:Operand} {ad as1:Option Addr} {dl dc sl sc:Nat} (hs:stat N ops ⟨some d,.call ⟨.builtin .copy,#[x,y],#[t,t']⟩,ty,pos,af,gd⟩ σ=true) (hu:P.underlying t=some (.slice e)) (hS:(P.info? e).map (·.size)=some sz)
  (hx:lookO σ x=some (.slice ad dl dc)) (hy:lookO σ y=some (.slice as1 sl sc)) (hm:min sl dl=0)
  (h:HL P N ops l ((d,.int .i64 0)::σ) B H K):HL P N ops (⟨some d,.call ⟨.builtin .copy,#[x,y],#[t,t']⟩,ty,pos,af,gd⟩::l) σ B H K:=by
 refine QL hs (fun w _=>?_) h;cases hq:P.info? e with
 |none=>rw[hq]at hS;cases hS
 |some ti=>
  have hm':Nat.min sl dl=0:=hm;cases ad<;>cases as1<;>simp[execOp,resolve,jB hx,jB hy,invoke,builtin,Builtin.copy_,run_underlying hu,Builtin.lenOf,Builtin.firstCells,sizeOf,typeInfo,hq,hm',loadCells,loadCellsFrom,storeCells,goInt]
theorem subV0 (sz:Nat) (ad:Option Addr) (n c:Nat):kS sz (.slice ad n c) 0 n= .slice ad n c:=by
 simp only[kS]
 split<;>cases ad<;>simp[Addr.add]
theorem yR {t t' e sz:TypeId} {x y:Operand} {n m2:Nat} {xs ns:List Value} {v2:Value} (m:Nat) (i:Nat) (hi:J5 H i=some (jM v e sz n xs)) (hv2:Rd B H v2 ns m2) (hs:stat N ops ⟨some d,.call ⟨.builtin .copy,#[x,y],#[t,t']⟩,ty,pos,af,gd⟩ σ=true)
  (hu:P.underlying t=some (.slice e)) (hS:(P.info? e).map (·.size)=some sz) (hx:lookO σ x=some v) (hy:lookO σ y=some v2) (hl:ns.length=m2*sz) (h1:∀u∈ns.take (m*sz),u.oneCell'=true) (hm:min m2 n=m)
  (h:HL P N ops l ((d,.int .i64 (m:Int))::σ) B (jBK H i (jM v e sz n (ns.take (m*sz)++xs.drop (m*sz)))) K):HL P N ops (⟨some d,.call ⟨.builtin .copy,#[x,y],#[t,t']⟩,ty,pos,af,gd⟩::l) σ B H K:=by
 refine yG (Q:=(∃ a c,v= .slice a n c)/\∃a c,v2= .slice a m2 c) (fun w hw=>⟨(Sat.vw hw hi).shape,let ⟨a,c,h,_⟩:=(hv2.at hw).2;⟨a,c,h⟩⟩) ?_
 rintro ⟨⟨a,c,rfl⟩,a2,c2,rfl⟩
 by_cases h0:0<m
 ·refine qx 0 m i hi hv2 hs hu hS (by rw[hx,subV0]) hy hl h1 (by rw[Nat.sub_zero];exact hm) h0 ?_
  simpa using h
 ·have hm0:m=0:=by omega
  subst hm0;refine Yy hs hu hS hx hy (by rw[hm]) ?_;refine qM (fun w hw=>?_) h;refine Sat.as (c':=jM (.slice a n c) e sz n (ns.take (0*sz)++xs.drop (0*sz))) i hw hi (fun h=>?_) (fun _ h=>h)
  simpa using h
theorem Jb {α:Type} {l:List α} {k:Nat} (h:k<l.length) (d:α):l[k]? =some (l.getD k d):=by
 rw[List.getD_eq_getElem?_getD,List.getElem?_eq_getElem h];rfl
end
end Go.GX
namespace Go.Proofs.YtgfdoognildoeaaGreat
open Go.GX Go.RowKit
attribute [local irreducible] Calls Run JH JL zU HR HL HD jS jM ZN Rd jg Jf
open Nd
theorem jTQ:IsFn Tryz.prog 130:=zF Tryz.func130 I
theorem jTJ:IsFn Tryz.prog 142:=zF Tryz.func142 I
theorem jQJ:IsFn Tryz.prog 181:=zF Tryz.func181 I
theorem jRr:IsFn Tryz.prog 124:=zF Tryz.func124 I
theorem jRq:IsFn Tryz.prog 126:=zF Tryz.func126 I
theorem fn50:IsFn Tryz.prog 50:=zF Tryz.func50 I
theorem jTR:IsFn Tryz.prog 116:=zF Tryz.func116 I
theorem jRc:IsFn Tryz.prog 263:=zF Tryz.func263 I
theorem jSi:IsFn Tryz.prog 296:=zF Tryz.func296 I
theorem fn295:IsFn Tryz.prog 295:=zF Tryz.func295 I
theorem jKk {t:List Ro} {self:Int} (ha:Asc (·.dest) t) {i k:Nat} {r x:Ro} (hi:t[i]? =some r) (hd:r.dest=self) (hx:t[k]? =some x):
  ((((k:Int)==(i:Int))&&!((x.dest==self)&&((x.sq==x.sq)&&((x.cost==0)&&((x.nx==self)&&true)))))||(((k:Int) != (i:Int))&&((x.cost==0)||(x.nx==self))))=Ze self x:=by
 have hown:=jRD ha hi hd hx;unfold Ze
 by_cases hk:k=i
 ·have hxd:=hown.2 hk;have e1:((k:Int)==(i:Int))=true:=by rw[hk];simp
  have e2:((k:Int) != (i:Int))=false:=by rw[hk];simp
  have e3:(x.dest==self)=true:=by simpa using hxd
  rw[if_pos hxd,e1,e2,e3]
  simp
 ·have hxd:¬x.dest=self:=fun h=>hk (hown.1 h)
  have e1:((k:Int)==(i:Int))=false:=by simp;omega
  have e2:((k:Int) != (i:Int))=true:=by simp;omega
  rw[if_neg hxd,e1,e2]
  simp
theorem jD2 (t:List Ro) (self:Int) (v:Value) (w:World) (hv:Sl w v (cellsOf roC t) t.length) (hl:t.length<=1000):
  Calls Tryz.prog 130 #[v,.int .i64 self] w fun e w'=>e= .returned (.int .i64 (KR t self))/\Below w.heap.size w w':=by
 refine zE Tryz.func130 I [(0,v),(1,.int .i64 self)] (zh ?_);refine qD (qA hv) I I I (zh ?_);refine HR.cond I (fun h=>?_) (fun h=>?_)
 ·have h:t.length>24:=by have:=of_decide_eq_true h;omega
  refine zh ?_;refine HR.ret Tryz.func130 I [_] (fun _ _=>⟨I,trivial⟩) ?_
  exact fun w' hw=>⟨by rw[KR,if_pos h];rfl,hw.jF⟩
 have h:t.length<=24:=by have:=of_decide_eq_false h;omega
 refine zh ?_;refine qB jNo I I (fun w _=>kD self w) (zh ?_);refine HR.cond I (fun h0=>?_) (fun h0=>?_)
 ·have h0:Tp.okN self=false:=by simpa using h0
  refine zh ?_;refine HR.ret Tryz.func130 I [_] (fun _ _=>⟨I,trivial⟩) ?_
  exact fun w' hw=>⟨by rw[KR,if_neg (by omega),if_pos h0];rfl,hw.jF⟩
 have h0:Tp.okN self=true:=by simpa using h0
 refine zh ?_;refine qD (qA hv) I I I (zh ?_);refine qd (α:=Nat) (β:=Int) (fun k a=>k<=t.length/\jf (jCN t) k=0/\At t self k a) (fun k a=>[(0,v),(1,.int .i64 self),(5,.int .i64 a),(16,v),(17,.int .i64 (t.length:Int)),(18,.int .i64 (k:Int))]) (fun _ _=>[]) (fun k _=>t.length-k) 0 (-1) ⟨Nat.zero_le _,rfl,.inl ⟨rfl,fun j r hj=>by omega⟩⟩ ⟨I,I,I,I,I,I,trivial⟩ Ent.refl ?_
 rintro k a ⟨hk,hg,hA⟩ ih
 refine zh ?_;refine HR.cond I (fun h2=>?_) (fun h2=>?_)
 ·have hlt:k<t.length:=by have:=of_decide_eq_true h2;omega
  obtain ⟨x,hx⟩:=jG hlt
  repeat' (first|refine zh ?_|refine qE (qA hv) jZ k I I I I hlt ?_|refine qN (qA hv) I I I I (by simp) I (jD jP hx) ?_|refine qB jQE I I (fun w _=>K3 _ w) ?_|refine qB jAP I I (fun w _=>JY _ w) ?_|refine qB jNo I I (fun w _=>kD _ w) ?_|apply zb ?_ ?_|exact zc|(refine zi fun hb=>?_;try simp at hb)|intro (bk:Nat))
  refine HR.cond I (fun h3=>?_) (fun h3=>?_)
  ·have h3:Jy x=true:=h3;refine zh ?_;refine HR.ret Tryz.func130 I [_] (fun _ _=>⟨I,trivial⟩) ?_;refine fun w' hw=>⟨?_,hw.jF⟩
   have e:=jD3 hx h3;rw[K7 h h0 hg (by rw[e];decide) hlt,e];rfl
  have h3:Jy x=false:=h3;obtain ⟨y,hy⟩:=jG (l:=t) (j:=k-1) (by omega);refine zh ?_;refine qK j3 (by kernel_rfl) ?_
  repeat' (first|refine zq ?_|refine qW (qA hv) jZ (k-1) I I I (by omega) (by omega) ?_|refine QE (qA hv) (by rw[jA jP];omega) I I I I I I ?_|refine qj (qA hv) I I I I (jJ jP hy (i:=0) I) ?_|apply zb ?_ ?_|exact zc|(refine zi fun hb=>?_;try simp at hb)|fail)
  refine HR.cond I (fun h4=>?_) (fun h4=>?_)
  ·have h4:(decide ((k:Int)>0)&&decide (x.dest<=y.dest))=true:=h4;simp only[Bool.and_eq_true,decide_eq_true_eq]at h4;refine zh ?_;refine HR.ret Tryz.func130 I [_] (fun _ _=>⟨I,trivial⟩) ?_;refine fun w' hw=>⟨?_,hw.jF⟩
   have e:=jD4 hx h3 (by omega) hy h4.2;rw[K7 h h0 hg (by rw[e];decide) hlt,e];rfl
  have h4:(decide ((k:Int)>0)&&decide (x.dest<=y.dest))=false:=h4;have hg2:jf (jCN t) (k+1)=0:=Jo hg (jMZ hx h3 fun y' h0 hy' hle=>by
   rw[hy]at hy';cases hy';rw[decide_eq_true (show (k:Int)>0 by omega),decide_eq_true hle]at h4;cases h4)
  refine zh ?_;refine HR.cond I (fun h5=>?_) (fun h5=>?_)
  ·have h5:x.dest=self:=eq_of_beq h5;refine zh ?_;exact ih (k+1) k _ _ ⟨hlt,hg2,YJ hx h5⟩ (by omega) ⟨I,I,I,I,I,I,trivial⟩ (Ent.pick [] I I)
  ·have h5:¬x.dest=self:=by simpa using h5
   refine zh ?_;exact ih (k+1) a _ _ ⟨hlt,hg2,hA.jQ6 hx h5⟩ (by omega) ⟨I,I,I,I,I,I,trivial⟩ (Ent.pick [] I I)
 have hke:k=t.length:=by have:=of_decide_eq_false h2;omega
 subst hke;obtain ⟨hrr,hasc⟩:=jGy hg;refine zh ?_;refine HR.cond I (fun h6=>?_) (fun h6=>?_)
 ·have h6:a<0:=of_decide_eq_true h6;refine zh ?_;refine HR.ret Tryz.func130 I [_] (fun _ _=>⟨I,trivial⟩) ?_
  exact fun w' hw=>⟨by rw[jQn h h0 hg (hA.neg h6)];rfl,hw.jF⟩
 have h6:¬a<0:=of_decide_eq_false h6;obtain ⟨i,rfl,hil,r,hr,hrd⟩:=hA.pos h6;have hany:=jEi hr hrd;refine zh ?_;refine qD (qA hv) I I I (zh ?_);refine HR.loop (ι:=Nat) (fun k=>k<=t.length/\(t.take k).any (Ze self)=false) (fun k=>[(1,.int .i64 self),(5,.int .i64 (i:Int)),(67,v),(68,.int .i64 (t.length:Int)),(69,.int .i64 (k:Int))]) (fun _=>[]) (fun k=>t.length-k) 0 ⟨Nat.zero_le _,rfl⟩ ⟨I,I,I,I,I,trivial⟩ Ent.refl ?_
 rintro k ⟨hk,hf⟩ ih
 refine zh ?_;refine HR.cond I (fun h2=>?_) (fun h2=>?_)
 ·have hlt:k<t.length:=by have:=of_decide_eq_true h2;omega
  obtain ⟨x,hx⟩:=jG hlt;have hfc:=jKk hasc hr hrd hx
  repeat' (first|refine zh ?_|refine qE (qA hv) jZ k I I I I hlt ?_|refine qN (qA hv) I I I I (by simp) I (jD jP hx) ?_|intro (bk:Nat))
  refine qK j3 (by kernel_rfl) ?_
  repeat' (first|refine zq ?_|refine qz jTK I I (fun w _=>jJe self x.sq w) ?_|refine Qg I (by kernel_rfl) (by kernel_rfl) I I I ?_|apply zb ?_ ?_|exact zc|(refine zi fun hb=>?_;try simp at hb)|fail)
  refine HR.cond I (fun h3=>?_) (fun h3=>?_)
  ·have h3:Ze self x=true:=by rw[<- hfc];exact h3
   refine zh ?_;refine HR.ret Tryz.func130 I [_] (fun _ _=>⟨I,trivial⟩) ?_
   exact fun w' hw=>⟨by rw[jQo h h0 hg hany (jQ2 hx h3)];rfl,hw.jF⟩
  ·have h3:Ze self x=false:=by rw[<- hfc];exact h3
   refine zh ?_;exact ih (k+1) _ _ ⟨hlt,jKK hx hf h3⟩ (by omega) ⟨I,I,I,I,I,trivial⟩ (Ent.pick [] I I)
 ·have hke:k=t.length:=by have:=of_decide_eq_false h2;omega
  subst hke;rw[List.take_length]at hf;refine zh ?_;refine HR.ret Tryz.func130 I [_] (fun _ _=>⟨I,trivial⟩) ?_
  exact fun w' hw=>⟨by rw[jQp h h0 hg hany hf];rfl,hw.jF⟩
theorem jEr (t:List Ro) (self:Int) (v:Value) (w:World) (hv:Sl w v (cellsOf roC t) t.length) (hl:t.length<=1000):
  Calls Tryz.prog 124 #[v,.int .i64 (lim self)] w fun e w'=>∃v',e= .returned v'/\Sat (base w) [jM v' 94 4 (ZR t self).length (cellsOf roC (ZR t self))] w':=by
 refine zE Tryz.func124 I [(0,v),(1,.int .i64 (lim self))] (zh ?_);refine qB jTQ I I (fun w hw=>jD2 t (lim self) v w ((qA hv).at hw) hl) (zh ?_);refine HR.cond I (fun h=>?_) (fun h=>?_)
 ·have h:¬KR t (lim self)=0:=by simpa using h
  refine zh ?_;refine qI fn69 I I (fun w _=>jEy (lim self) w) ?_;intro v1;refine zh ?_;refine HR.ret Tryz.func124 I [_] (fun _ _=>⟨I,trivial⟩) ?_;refine fun w' hw=>⟨v1,rfl,?_⟩
  have:ZR t self=jDv (lim self):=by unfold ZR;rw[if_neg h];unfold jDv;rw[jEL (jJ7 self)]
  rw[this];exact hw
 ·have h:KR t (lim self)=0:=by simpa using h
  refine zh ?_;refine qI fn61 I I (fun w hw=>jAi t v w ((qA hv).at hw) hl) ?_;intro v1;refine zh ?_;refine HR.ret Tryz.func124 I [_] (fun _ _=>⟨I,trivial⟩) ?_;refine fun w' hw=>⟨v1,rfl,?_⟩
  have:ZR t self=t:=by unfold ZR;rw[if_pos h]
  rw[this];exact hw
theorem jJk (r:Ro) (d:Int) (w:World) (h1:Tp.okN r.dest=true) (h2:Tp.okN d=true):Calls Tryz.prog 296 #[.agg ⟨roC r⟩,.int .i64 d] w fun e w'=>e= .returned (.int .i64 (r.dest-d))/\Below w.heap.size w w':=by
 rw[zL]at h1 h2;refine zE Tryz.func296 I [(0,.agg ⟨roC r⟩),(1,.int .i64 d)] (zh ?_);intro (bk:Nat);refine zh ?_;exact zR Tryz.func296
theorem jJJ (t:List Ro) (d:Int) (v:Value) (w:World) (hv:Sl w v (cellsOf roC t) t.length) (hl:t.length<=1000) (hasc:Asc (·.dest) t) (hr:∀r∈t,Tp.okN r.dest=true) (hd:Tp.okN d=true):
  Calls Tryz.prog 295 #[v,.int .i64 d,.func (.func 296) #[] #[]] w fun e w'=>e= .returned (.tuple ⟨[.int .i64 (rpos t d:Int),.bool (jQm t d)]⟩)/\Below w.heap.size w w':=by
 refine zE Tryz.func295 I [(0,v),(1,.int .i64 d),(2,.func (.func 296) #[] #[])] (zh ?_);refine qD (qA hv) I I I (zh ?_);refine qd (α:=Nat) (β:=Nat) (fun i j=>i<=j/\j<=t.length/\(∀ k a,k<i->t[k]? =some a->a.dest<d)/\∀k a,j<=k->t[k]? =some a->d<=a.dest) (fun i j=>[(0,v),(1,.int .i64 d),(2,.func (.func 296) #[] #[]),(8,.int .i64 (t.length:Int)),(9,.int .i64 (i:Int)),(10,.int .i64 (j:Int))]) (fun _ _=>[]) (fun i j=>j-i) 0 t.length ⟨Nat.zero_le _,Nat.le_refl _,fun k a hk=>by omega,fun k a hk ha=>by have:=(List.getElem?_eq_some_iff.1 ha).1;omega⟩ ⟨I,I,I,I,I,I,trivial⟩ Ent.refl ?_
 rintro i j ⟨hij,hj,hlo,hhi⟩ ih
 refine zh ?_;refine HR.cond I (fun h2=>?_) (fun h2=>?_)
 ·have hlt:i<j:=by have:=of_decide_eq_true h2;omega
  obtain ⟨m,hm⟩:∃m,m=(i+j) / 2:=⟨_,rfl⟩;obtain ⟨x,hx⟩:=jG (l:=t) (j:=m) (by omega);have hxo:=hr x (List.mem_of_getElem? hx);refine zh ?_;have hmi:((i:Int)+(j:Int)) / 2=(m:Int):=by omega
  refine QB 11 (v':= .int .i64 (m:Int)) I (by rw[hmi]) (QB 26 (v':= .int .i64 (m:Int)) I (by rw[hmi]) ?_);refine qE (qA hv) jZ m I I I I (by omega) ?_;refine qN (qA hv) I I I I (by simp) I (jD jP hx) (zh ?_);refine Qa (caps:=[]) jSi I I I (fun w _=>jJk x d w hxo hd) (zh ?_);refine HR.cond I (fun h3=>?_) (fun h3=>?_)
  ·have h3:x.dest-d<0:=of_decide_eq_true h3;refine zh ?_;refine ih (m+1) j _ _ ⟨by omega,hj,fun k a hk ha=>?_,hhi⟩ (by omega) ⟨I,I,I,I,I,I,trivial⟩ (Ent.pick [] I I)
   by_cases hkm:k=m
   ·subst hkm;rw[hx]at ha;cases ha;omega
   ·have:=hasc.lt (show k<m by omega) ha hx;omega
  ·have h3:¬x.dest-d<0:=of_decide_eq_false h3;refine zh ?_;refine ih i m _ _ ⟨by omega,by omega,hlo,fun k a hk ha=>?_⟩ (by omega) ⟨I,I,I,I,I,I,trivial⟩ (Ent.pick [] I I)
   by_cases hkm:k=m
   ·subst hkm;rw[hx]at ha;cases ha;omega
   ·have:=hasc.lt (show m<k by omega) hx ha;omega
 ·have hij':i=j:=by have:=of_decide_eq_false h2;omega
  subst hij';have hp:rpos t d=i:=jMM hj hlo fun a ha=>hhi i a (Nat.le_refl _) ha
  repeat' (first|refine zh ?_|refine qE (qA hv) jZ i I I I I (by omega) ?_|refine qN (qA hv) I I I I (by simp) I (jD jP (Jb (by omega) ro0)) ?_|refine Qa (caps:=[]) jSi I I I (fun w _=>jJk (t.getD i ro0) d w (hr _ (List.mem_of_getElem? (Jb (by omega) ro0))) hd) ?_|apply zb ?_ ?_|exact zc|(refine zi fun hb=>?_;try simp at hb)|fail)
  refine HR.ret Tryz.func295 I [_,_] (fun _ _=>⟨I,I,trivial⟩) ?_;refine fun w' hw=>⟨?_,hw.jF⟩
  have hh:jQm t d=(decide ((i:Int)<t.length)&&((t.getD i ro0).dest-d==0)):=by
   unfold jQm;rw[hp]
   by_cases hlt:i<t.length
   ·rw [Jb hlt ro0,decide_eq_true (show (i:Int)<t.length by omega),Bool.true_and];simp only;rw[Bool.eq_iff_iff];simp only[beq_iff_eq];omega
   ·rw [List.getElem?_eq_none (by omega),decide_eq_false (show ¬(i:Int)<t.length by omega)];rfl
  rw[hh,hp];rfl
theorem jCj (t:List Ro) (d:Int) (v:Value) (w:World) (hv:Sl w v (cellsOf roC t) t.length) (hl:t.length<=1000) (hasc:Asc (·.dest) t) (hr:∀r∈t,Tp.okN r.dest=true) (hd:Tp.okN d=true):
  Calls Tryz.prog 263 #[v,.int .i64 d] w fun e w'=>e= .returned (.tuple ⟨[.int .i64 (rpos t d:Int),.bool (jQm t d)]⟩)/\Below w.heap.size w w':=by
 refine zE Tryz.func263 I [(0,v),(1,.int .i64 d)] (zh ?_);refine qB fn295 I I (fun w hw=>jJJ t d v w ((qA hv).at hw) hl hasc hr hd) (zh ?_);refine HR.ret Tryz.func263 I [_,_] (fun _ _=>⟨I,I,trivial⟩) ?_
 exact fun w' hw=>⟨rfl,hw.jF⟩
theorem kW (t:List Ro) (d:Int) (v:Value) (w:World) (hv:Sl w v (cellsOf roC t) t.length) (hl:t.length<=1000):
  Calls Tryz.prog 181 #[v,.int .i64 d] w fun e w'=>e= .returned (.int .i64 (jB4 t d))/\Below w.heap.size w w':=by
 refine zE Tryz.func181 I [(0,v),(1,.int .i64 d)] (zh ?_);refine HR.loop (ι:=Nat) (fun k=>k<=t.length/\∀j a,j<k->t[j]? =some a->(a.dest==d)=false) (fun k=>[(0,v),(1,.int .i64 d),(5,.int .i64 (k:Int))]) (fun _=>[]) (fun k=>t.length-k) 0 ⟨Nat.zero_le _,fun j a hj=>by omega⟩ ⟨I,I,I,trivial⟩ Ent.refl ?_
 rintro k ⟨hk,hg⟩ ih
 refine zh ?_;refine qD (qA hv) I I I (zh ?_);refine HR.cond I (fun h2=>?_) (fun h2=>?_)
 ·have hlt:k<t.length:=by have:=of_decide_eq_true h2;omega
  obtain ⟨x,hx⟩:=jG hlt;refine zh ?_;refine qE (qA hv) jZ k I I I I hlt ?_;refine qY (qA hv) (by rw[jA jP];omega) I I I I I I ?_;refine qF (qA hv) I I I I (jJ jP hx (i:=0) I) (zh ?_);refine HR.cond I (fun h3=>?_) (fun h3=>?_)
  ·have h3:(x.dest==d)=true:=h3;refine zh ?_;refine HR.ret Tryz.func181 I [_] (fun _ _=>⟨I,trivial⟩) ?_
   exact fun w' hw=>⟨by rw[jPa hx h3 hg];rfl,hw.jF⟩
  ·have h3:(x.dest==d)=false:=h3;refine zh ?_;refine ih (k+1) _ _ ⟨hlt,fun j a hj ha=>?_⟩ (by omega) ⟨I,I,I,trivial⟩ (Ent.pick [] I I)
   by_cases hjk:j=k
   ·subst hjk;rw[hx]at ha;cases ha;exact h3
   ·exact hg j a (by omega) ha
 ·have hke:k=t.length:=by have:=of_decide_eq_false h2;omega
  subst hke;refine zh ?_;refine HR.ret Tryz.func181 I [_] (fun _ _=>⟨I,trivial⟩) ?_
  exact fun w' hw=>⟨by rw[jKf hg];rfl,hw.jF⟩
theorem jFw (self:Int) (x:Ro):(((x.dest==self)&&!((x.cost==0)&&(x.nx==self)))||((x.dest != self)&&((x.cost==0)||(x.nx==self))))=Ze self x:=by
 unfold Ze
 by_cases hd:x.dest=self
 ·rw [if_pos hd];simp[hd]
 ·have e:(x.dest==self)=false:=by simpa using hd
  rw[if_neg hd,e,bne,e];rfl
theorem jDu (x:Ro):((!usable x||(fin x&&(x.nx != lim x.nx)))||(!fin x&&(x.nx != 255)))=Jy x:=by
 rw[jGU];rfl
theorem jBp (t:List Ro) (self:Int) (v:Value) (w:World) (hv:Sl w v (cellsOf roC t) t.length) (hl:t.length<=1000):
  Calls Tryz.prog 142 #[v,.int .i64 self] w fun e w'=>e= .returned (.int .i64 (KR t self))/\Below w.heap.size w w':=by
 refine zE Tryz.func142 I [(0,v),(1,.int .i64 self)] (zh ?_);refine qD (qA hv) I I I (zh ?_);refine HR.cond I (fun h=>?_) (fun h=>?_)
 ·have h:t.length>24:=by have:=of_decide_eq_true h;omega
  refine zh ?_;refine HR.ret Tryz.func142 I [_] (fun _ _=>⟨I,trivial⟩) ?_
  exact fun w' hw=>⟨by rw[KR,if_pos h];rfl,hw.jF⟩
 have h:t.length<=24:=by have:=of_decide_eq_false h;omega
 refine zh ?_;refine qB jGx I I (fun w _=>zx self w) (zh ?_);refine HR.cond I (fun h0=>?_) (fun h0=>?_)
 ·have h0:(self != lim self)=true:=h0;rw[jGU]at h0;have h0:Tp.okN self=false:=by simpa using h0
  refine zh ?_;refine HR.ret Tryz.func142 I [_] (fun _ _=>⟨I,trivial⟩) ?_
  exact fun w' hw=>⟨by rw[KR,if_neg (by omega),if_pos h0];rfl,hw.jF⟩
 have h0:(self != lim self)=false:=h0;rw[jGU]at h0;have h0:Tp.okN self=true:=by simpa using h0
 refine zh ?_;refine HR.loop (ι:=Nat) (fun k=>k<=t.length/\jf (jCN t) k=0) (fun k=>[(0,v),(1,.int .i64 self),(5,.int .i64 (k:Int))]) (fun _=>[]) (fun k=>t.length-k) 0 ⟨Nat.zero_le _,rfl⟩ ⟨I,I,I,trivial⟩ Ent.refl ?_
 rintro k ⟨hk,hg⟩ ih
 refine zh ?_;refine qD (qA hv) I I I (zh ?_);refine HR.cond I (fun h2=>?_) (fun h2=>?_)
 ·have hlt:k<t.length:=by have:=of_decide_eq_true h2;omega
  obtain ⟨x,hx⟩:=jG hlt;refine zh ?_;refine qK j3 (by kernel_rfl) ?_
  repeat' (first|refine zq ?_|refine qW (qA hv) jZ k I I I I hlt ?_|refine qy (qA hv) I I I I (by simp) I (jD jP hx) ?_|refine QE (qA hv) (by rw[jA jP];omega) I I I I I I ?_|refine qj (qA hv) I I I I (jJ jP hx (i:=3) I) ?_|refine qz jQH I I (fun w _=>Zt _ w) ?_|refine qz jQF I I (fun w _=>jAy _ w) ?_|refine qz jGx I I (fun w _=>zx _ w) ?_|apply zb ?_ ?_|exact zc|(refine zi fun hb=>?_;try simp at hb)|fail)
  refine HR.cond I (fun h3=>?_) (fun h3=>?_)
  ·have h3:Jy x=true:=by rw[<- jDu];exact h3
   refine zh ?_;refine HR.ret Tryz.func142 I [_] (fun _ _=>⟨I,trivial⟩) ?_;refine fun w' hw=>⟨?_,hw.jF⟩
   have e:=jD3 hx h3;rw[K7 h h0 hg (by rw[e];decide) hlt,e];rfl
  have h3:Jy x=false:=by rw[<- jDu];exact h3
  obtain ⟨y,hy⟩:=jG (l:=t) (j:=k-1) (by omega);refine zh ?_;refine qK j3 (by kernel_rfl) ?_
  repeat' (first|refine zq ?_|refine qW (qA hv) jZ k I I I I hlt ?_|refine qW (qA hv) jZ (k-1) I I I (by omega) (by omega) ?_|refine QE (qA hv) (by rw[jA jP];omega) I I I I I I ?_|refine qj (qA hv) I I I I (jJ jP hx (i:=0) I) ?_|refine qj (qA hv) I I I I (jJ jP hy (i:=0) I) ?_|apply zb ?_ ?_|exact zc|(refine zi fun hb=>?_;try simp at hb)|fail)
  refine HR.cond I (fun h4=>?_) (fun h4=>?_)
  ·have h4:(decide ((k:Int)>0)&&decide (x.dest<=y.dest))=true:=h4;simp only[Bool.and_eq_true,decide_eq_true_eq]at h4;refine zh ?_;refine HR.ret Tryz.func142 I [_] (fun _ _=>⟨I,trivial⟩) ?_;refine fun w' hw=>⟨?_,hw.jF⟩
   have e:=jD4 hx h3 (by omega) hy h4.2;rw[K7 h h0 hg (by rw[e];decide) hlt,e];rfl
  ·have h4:(decide ((k:Int)>0)&&decide (x.dest<=y.dest))=false:=h4;have hg2:jf (jCN t) (k+1)=0:=Jo hg (jMZ hx h3 fun y' h0 hy' hle=>by
    rw[hy]at hy';cases hy';rw[decide_eq_true (show (k:Int)>0 by omega),decide_eq_true hle]at h4;cases h4)
   refine zh ?_;exact ih (k+1) _ _ ⟨hlt,hg2⟩ (by omega) ⟨I,I,I,trivial⟩ (Ent.pick [] I I)
 have hke:k=t.length:=by have:=of_decide_eq_false h2;omega
 subst hke;obtain ⟨hrr,hasc⟩:=jGy hg;refine zh ?_;refine qB jQJ I I (fun w hw=>kW t self v w ((qA hv).at hw) hl) (zh ?_);refine HR.cond I (fun h6=>?_) (fun h6=>?_)
 ·have h6:jB4 t self<0:=of_decide_eq_true h6;have hany:(t.any fun r=>r.dest==self)=false:=by
   rcases zV t self with ⟨_,e⟩|⟨i,x,e,_⟩
   ·rw [<- Bool.not_eq_true,List.any_eq_true]
    rintro ⟨r,hr,he⟩
    exact List.find?_eq_none.1 e r hr he
   ·omega
  refine zh ?_;refine HR.ret Tryz.func142 I [_] (fun _ _=>⟨I,trivial⟩) ?_
  exact fun w' hw=>⟨by rw[jQn h h0 hg hany];rfl,hw.jF⟩
 have h6:¬jB4 t self<0:=of_decide_eq_false h6;have hany:(t.any fun r=>r.dest==self)=true:=by
  rcases zV t self with ⟨e,_⟩|⟨i,x,_,e,he,_⟩
  ·omega
  ·exact jEi e he
 refine zh ?_;refine HR.loop (ι:=Nat) (fun k=>k<=t.length/\(t.take k).any (Ze self)=false) (fun k=>[(0,v),(1,.int .i64 self),(6,.int .i64 (k:Int))]) (fun _=>[]) (fun k=>t.length-k) 0 ⟨Nat.zero_le _,rfl⟩ ⟨I,I,I,trivial⟩ Ent.refl ?_
 rintro k ⟨hk,hf⟩ ih
 refine zh ?_;refine qD (qA hv) I I I (zh ?_);refine HR.cond I (fun h2=>?_) (fun h2=>?_)
 ·have hlt:k<t.length:=by have:=of_decide_eq_true h2;omega
  obtain ⟨x,hx⟩:=jG hlt
  repeat' (first|refine zh ?_|refine qE (qA hv) jZ k I I I I hlt ?_|refine qY (qA hv) (by rw[jA jP];omega) I I I I I I ?_|refine qF (qA hv) I I I I (jJ jP hx (i:=0) I) ?_|refine qF (qA hv) I I I I (jJ jP hx (i:=2) I) ?_|refine qF (qA hv) I I I I (jJ jP hx (i:=3) I) ?_|apply zb ?_ ?_|exact zc|(refine zi fun hb=>?_;try simp at hb)|fail)
  refine HR.cond I (fun h3=>?_) (fun h3=>?_)
  ·have h3:Ze self x=true:=by rw[<- jFw];exact h3
   refine zh ?_;refine HR.ret Tryz.func142 I [_] (fun _ _=>⟨I,trivial⟩) ?_
   exact fun w' hw=>⟨by rw[jQo h h0 hg hany (jQ2 hx h3)];rfl,hw.jF⟩
  ·have h3:Ze self x=false:=by rw[<- jFw];exact h3
   refine zh ?_;exact ih (k+1) _ _ ⟨hlt,jKK hx hf h3⟩ (by omega) ⟨I,I,I,trivial⟩ (Ent.pick [] I I)
 ·have hke:k=t.length:=by have:=of_decide_eq_false h2;omega
  subst hke;rw[List.take_length]at hf;refine zh ?_;refine HR.ret Tryz.func142 I [_] (fun _ _=>⟨I,trivial⟩) ?_
  exact fun w' hw=>⟨by rw[jQp h h0 hg hany hf];rfl,hw.jF⟩
theorem Kc (t:List Ro) (self:Int) (v:Value) (w:World) (hv:Sl w v (cellsOf roC t) t.length) (hl:t.length<=1000):
  Calls Tryz.prog 126 #[v,.int .i64 self] w fun e w'=>∃v',e= .returned v'/\Sat (base w) [jM v' 94 4 (ZR t self).length (cellsOf roC (ZR t self))] w':=by
 refine zE Tryz.func126 I [(0,v),(1,.int .i64 self)] (zh ?_);refine qB jGx I I (fun w _=>zx self w) ?_;refine qB jTJ I I (fun w hw=>jBp t (lim self) v w ((qA hv).at hw) hl) (zh ?_);refine HR.cond I (fun h=>?_) (fun h=>?_)
 ·have h:¬KR t (lim self)=0:=by simpa using h
  refine zh ?_;refine qI jTH I I (fun w _=>jFs self w) ?_;intro v1;refine zh ?_;refine HR.ret Tryz.func126 I [_] (fun _ _=>⟨I,trivial⟩) ?_;refine fun w' hw=>⟨v1,rfl,?_⟩
  have:ZR t self=jDv self:=by unfold ZR;rw[if_neg h]
  rw[this];exact hw
 ·have h:KR t (lim self)=0:=by simpa using h
  have hr:ZR t self=t:=by unfold ZR;rw[if_pos h]
  refine zh ?_;refine qh jZ I ?_;intro v1;refine zh ?_;refine qJ 0 I jZ (qA hv) I I I (jA jP _) (jR jEw _) (by omega) (by omega) ?_;intro v2;refine zh ?_;refine HR.ret Tryz.func126 I [_] (fun _ _=>⟨I,trivial⟩) ?_;refine fun w' hw=>⟨v2,rfl,qC ?_ ?_ w' hw⟩
  ·rw [hr];omega
  ·rw [hr];rfl
theorem jCL (t:List Ro) (d:Int) (v:Value) (w:World) (hv:Sl w v (cellsOf roC t) t.length) (hl:t.length<=1000):
  Calls Tryz.prog 50 #[v,.int .i64 d] w fun e w'=>e= .returned (.tuple ⟨[.int .i64 (zy t d).1,.bool (zy t d).2]⟩)/\Below w.heap.size w w':=by
 refine zE Tryz.func50 I [(0,v),(1,.int .i64 d)] (zh ?_);refine qD (qA hv) I I I (zh ?_);refine HR.loop (ι:=Nat) (fun k=>k<=t.length/\∀j a,j<k->t[j]? =some a->(a.dest==d)=false) (fun k=>[(1,.int .i64 d),(8,v),(9,.int .i64 (t.length:Int)),(10,.int .i64 (k:Int))]) (fun _=>[]) (fun k=>t.length-k) 0 ⟨Nat.zero_le _,fun j a hj=>by omega⟩ ⟨I,I,I,I,trivial⟩ Ent.refl ?_
 rintro k ⟨hk,hg⟩ ih
 refine zh ?_;refine HR.cond I (fun h2=>?_) (fun h2=>?_)
 ·have hlt:k<t.length:=by have:=of_decide_eq_true h2;omega
  obtain ⟨x,hx⟩:=jG hlt
  repeat' (first|refine zh ?_|refine qE (qA hv) jZ k I I I I hlt ?_|refine qN (qA hv) I I I I (by simp) I (jD jP hx) ?_|intro (bk:Nat))
  refine HR.cond I (fun h3=>?_) (fun h3=>?_)
  ·have h3:(x.dest==d)=true:=h3;have hf:rat t d=some x:=ZV hx h3 hg;refine zh ?_;refine qB jAP I I (fun w _=>JY _ w) (zh ?_);refine HR.cond I (fun h4=>?_) (fun h4=>?_)
   ·have h4:fin x=false:=by simpa using h4
    refine zh ?_;refine HR.ret Tryz.func50 I [_,_] (fun _ _=>⟨I,I,trivial⟩) ?_
    exact fun w' hw=>⟨by rw[zy,hf];simp only[h4];rfl,hw.jF⟩
   ·have h4:fin x=true:=by simpa using h4
    refine zh ?_;refine HR.ret Tryz.func50 I [_,_] (fun _ _=>⟨I,I,trivial⟩) ?_
    exact fun w' hw=>⟨by rw[zy,hf];simp only[h4];rfl,hw.jF⟩
  ·have h3:(x.dest==d)=false:=h3;refine zh ?_;refine ih (k+1) _ _ ⟨hlt,fun j a hj ha=>?_⟩ (by omega) ⟨I,I,I,I,trivial⟩ (Ent.pick [] I I)
   by_cases hjk:j=k
   ·subst hjk;rw[hx]at ha;cases ha;exact h3
   ·exact hg j a (by omega) ha
 ·have hke:k=t.length:=by have:=of_decide_eq_false h2;omega
  subst hke;have hf:rat t d=none:=List.find?_eq_none.2 fun a ha=>by
   obtain ⟨j,hj⟩:=List.getElem?_of_mem ha;have:=hg j a (List.getElem?_eq_some_iff.1 hj).1 hj
   simp[this]
  refine zh ?_;refine HR.ret Tryz.func50 I [_,_] (fun _ _=>⟨I,I,trivial⟩) ?_
  exact fun w' hw=>⟨by rw[zy,hf];rfl,hw.jF⟩
theorem jD8 (t:List Ro) (d:Int) (v:Value) (w:World) (hv:Sl w v (cellsOf roC t) t.length) (hl:t.length<=1000):
  Calls Tryz.prog 116 #[v,.int .i64 d] w fun e w'=>e= .returned (.tuple ⟨[.int .i64 (zy t d).1,.bool (zy t d).2]⟩)/\Below w.heap.size w w':=by
 refine zE Tryz.func116 I [(0,v),(1,.int .i64 d)] (zh ?_);refine qB jQJ I I (fun w hw=>kW t d v w ((qA hv).at hw) hl) (zh ?_);rcases zV t d with ⟨e,hf⟩|⟨i,x,e,hx,hd,hf⟩
 ·rw [e];refine zh ?_;refine HR.ret Tryz.func116 I [_,_] (fun _ _=>⟨I,I,trivial⟩) ?_
  exact fun w' hw=>⟨by rw[zy,hf];rfl,hw.jF⟩
 ·have hlt:=(List.getElem?_eq_some_iff.1 hx).1;rw[e];refine Qc 12 false I (decide_eq_false (by omega)) (zh ?_);refine qE (qA hv) jZ i I I I I hlt ?_;refine qN (qA hv) I I I I (by simp) I (jD jP hx) ?_;refine qB jQF I I (fun w _=>jAy _ w) (zh ?_);refine HR.cond I (fun h4=>?_) (fun h4=>?_)
  ·have h4:fin x=false:=by simpa using h4
   refine zh ?_;refine HR.ret Tryz.func116 I [_,_] (fun _ _=>⟨I,I,trivial⟩) ?_
   exact fun w' hw=>⟨by rw[zy,hf];simp only[h4];rfl,hw.jF⟩
  ·have h4:fin x=true:=by simpa using h4
   refine zh ?_;refine qE (qA hv) jZ i I I I I hlt ?_;refine qY (qA hv) (by rw[jA jP];omega) I I I I I I ?_;refine qF (qA hv) I I I I (jJ jP hx (i:=3) I) (zh ?_);refine HR.ret Tryz.func116 I [_,_] (fun _ _=>⟨I,I,trivial⟩) ?_
   exact fun w' hw=>⟨by rw[zy,hf];simp only[h4];rfl,hw.jF⟩
end Go.Proofs.YtgfdoognildoeaaGreat
namespace Go.GX
open Go.RowKit
section
variable {P : Program} {ops : Array Oper} {Q : Exit -> Act -> World -> Prop} {md : Region.Mode} {S : World -> Prop} {z : Nat}
def jBj (P:Program) (md:Region.Mode) (ops:Array Oper) (Q:Exit->Act->World->Prop) (S:World->Prop) (z:Nat):Nat->Array Bool->Act->World->Prop
 |0,listed,a,w=>Region.ready md ops listed=[]/\Q .normal a w
 |fuel+1,listed,a,w=>
  (Region.ready md ops listed=[]->Q .normal a w)/\
  ∀i∈Region.ready md ops listed,wpOp P ops Q i (fun a' w'=>(i=z\/S w')/\jBj P md ops Q S z fuel (listed.setIfInBounds i true) a' w') a w
theorem jBM:∀(fuel:Nat) (listed:Array Bool) (a:Act) (w:World),jBj P md ops Q S z fuel listed a w->wpAny P md ops Q fuel listed a w
 |0,_,_,_,h=>h
 |fuel+1,_,_,_,h=>⟨h.1,fun i hi=>wpOp_mono (fun a' w' h'=>jBM fuel _ a' w' h'.2) (h.2 i hi)⟩
def jAu (md:Region.Mode) (ops:Array Oper) (z:Nat):Bool:=match ops[z]? with
 |some o=>(List.range ops.size).all fun i=>Nat.beq i z||o.after.any fun e=>Region.binds md e&&Nat.beq e.on i
 |none=>false
theorem jEn (h:jAu md ops z=true) {oz:Oper} (ho:ops[z]? =some oz) {i:Nat} (hi:i<ops.size) (hne:i≠z):∃e∈oz.after,Region.binds md e=true/\e.on=i:=by
 unfold jAu at h;rw[ho]at h;have h1:=List.all_eq_true.1 h i (List.mem_range.2 hi);have h2:Nat.beq i z=false:=by
  rw[<- Bool.not_eq_true];intro hb;exact hne (Nat.eq_of_beq_eq_true hb)
 rw[h2,Bool.false_or]at h1;obtain ⟨j,hj,h3⟩:=Array.any_eq_true.1 h1;simp only[Bool.and_eq_true]at h3;exact ⟨_,Array.getElem_mem hj,h3.1,Nat.eq_of_beq_eq_true h3.2⟩
theorem jFX (hz:jAu md ops z=true) {i:Nat} {oi:Oper} {v:Value} (hi:ops[i]? =some oi) (hsel:∀(j:Nat) (o:Oper) cs b,ops[j]? =some o->o.op≠ .select cs b)
  (hQ:∀c a w,Q (.panic c) (a.put oi.dst v) w->Q (.panic c) a w):
  ∀(fuel:Nat) (listed:Array Bool) (a:Act) (w:World),
   (∀ j oj,ops[j]? =some oj->j≠i->listed.getD j true=false->(∀ e∈oj.after,Region.binds md e=true->e.on≠i)->oi.apart ops oj=true)->
   i∈Region.ready md ops listed->YieldsIf P ops S oi v a->S w->
   jBj P md ops Q S z fuel (listed.setIfInBounds i true) (a.put oi.dst v) w->jBj P md ops Q S z (fuel+1) listed a w:=by
 intro fuel
 induction fuel with
 |zero=>
  intro listed a w _ hr hy hS H;refine ⟨fun h=>(by rw[h]at hr;cases hr),fun j hj=>?_⟩
  by_cases hji:j=i
  ·subst hji;exact hy.wpOp hi hS ⟨.inr hS,H⟩
  ·have:=ready_mono hj hji;rw[H.1]at this;cases this
 |succ fuel ih=>
  intro listed a w hfree hr hy hS H;refine ⟨fun h=>(by rw[h]at hr;cases hr),fun j hj=>?_⟩
  by_cases hji:j=i
  ·subst hji;exact hy.wpOp hi hS ⟨.inr hS,H⟩
  ·have h1:=H.2 j (ready_mono hj hji);obtain ⟨hjun,oj,hoj,hall⟩:=mem_ready.1 hj;have hnot:∀e∈oj.after,Region.binds md e=true->e.on≠i:=fun e he hb heq=>by
    have h1:=hall e he hb;have h0:=(mem_ready.1 hr).1;rw[heq]at h1;rcases Nat.lt_or_ge i listed.size with h'|h'
    ·simp [h']at h0 h1;rw[h0]at h1;cases h1
    ·simp [Array.getElem?_eq_none h']at h1
   have hjz:j≠z:=by
    intro e;subst e;obtain ⟨e,he,hb,hon⟩:=jEn hz hoj (Array.getElem?_eq_some_iff.1 hi).1 (Ne.symm hji);exact hnot e he hb hon
   have h2:=wpOp_putIf hoj (hfree j oj hoj hji hjun hnot) (fun cs b=>hsel i oi cs b hi) (fun cs b=>hsel j oj cs b hoj) hQ hy h1
   have hfree':∀k ok,ops[k]? =some ok->k≠i->(listed.setIfInBounds j true).getD k true=false->
     (∀ e∈ok.after,Region.binds md e=true->e.on≠i)->oi.apart ops ok=true:=fun k ok hk hki hun hno=>by
    refine hfree k ok hk hki ?_ hno
    by_cases hjk:j=k
    ·subst hjk;exact hjun
    ·rw [getD_set_ne true hjk]at hun;exact hun
   refine wpOp_mono (fun a' w' h3=>?_) h2;have hS':S w':=h3.2.1.resolve_left hjz;refine ⟨.inr hS',ih (listed.setIfInBounds j true) a' w' hfree' (ready_mono hr (Ne.symm hji)) h3.1 hS' ?_⟩;rw[Array.setIfInBounds_comm _ _ hji];exact h3.2.2
end
def jJP:List (Nat×Bool)->Bool
 |[]=>true
 |(_,true)::p=>jJP p
 |(_,false)::_=>false
def jMo (ops:Array Oper) (p:List (Nat×Bool)) (z:Nat):Bool:=Region.noSelect ops&&Nat.beq (p.length+1) ops.size&&jJP p&&jAu .any ops z&&zA ops (p++[(z,false)]) (Array.replicate ops.size false)
def KZ (P:Program) (ops:List Oper) (z:Nat) (K:Act->World->Prop):Act->World->Prop:=fun a w=>wpOp P ops.toArray (QN K) z K a w
section
variable {P : Program} {f : FuncId} {N : Nat} {k : List Item} {σ : Store} {B : Base} {H F : List Chunk} {R : Ending -> World -> Prop} {ops l : List Oper} {o : Oper} {K : Act -> World -> Prop} {S : World -> Prop} {z : Nat}
theorem jAV {ops:Array Oper} {K:Act->World->Prop} (hn:Region.noSelect ops=true) (hz:jAu .any ops z=true):∀(p:List (Nat×Bool)) (listed:Array Bool) (a:Act) (w:World),S w->jJP p=true->
  zA ops (p++[(z,false)]) listed=true->Zq P ops S (fun a w=>wpOp P ops (QN K) z K a w) p a w->jBj P .any ops (QN K) S z (p.length+1) listed a w
 |[],listed,a,w,hS,_,hB,h=>by
  simp only[List.nil_append,zA,Bool.and_eq_true,decide_eq_true_eq]at hB;refine ⟨fun h0=>absurd (hB.1.symm.trans h0) (by simp),fun j hj=>?_⟩;rw[hB.1]at hj;have:j=z:=by simpa using hj
  subst this;exact wpOp_mono (fun a' w' h'=>⟨.inl rfl,by simpa using hB.2,rfl,h'⟩) h
 |(i,true)::p,listed,a,w,hS,hA,hB,h=>by
  obtain ⟨o,v,ho,hy,h⟩:=h;simp only[List.cons_append,zA,Bool.and_eq_true]at hB;have hf:=Region.free_spec ho hB.1.2;exact jFX hz ho (Region.noSelect_spec hn) (fun c a w h=>absurd h.1 (by nofun)) _ listed a w hf (by simpa using hB.1.1) hy hS (jAV hn hz p _ _ _ hS hA hB.2 h)
 |(i,false)::p,listed,a,w,hS,hA,hB,h=>by cases hA
theorem yL (p:List (Nat×Bool)) (z:Nat) (is:List Nat) (hF:jAN H is=some F) (hd:JV is=true) {id:Nat} (hm:P.follows .mixedOrders=true) (hB:jMo ops.toArray p z=true)
  (h:HD P N ops p σ B H F (KZ P ops z (jCE P f k R))):HR P f N (.code (.region id ops.toArray true)::k) σ B H R:=by
 intro w hw a ha;simp only[jMo,Bool.and_eq_true]at hB;obtain ⟨⟨⟨⟨h1,h2⟩,h3⟩,h4⟩,h5⟩:=hB;have hb:Below w.heap.size w { w with drawn:=w.drawn+1 }:=⟨rfl,rfl,rfl,Nat.le_refl _,fun _ _=>rfl⟩;have hw1:Sat B H { w with drawn:=w.drawn+1 }:=hw.grow hb;refine QU (wp_region_any hm (jBM (S:=fun w=>Sat B F w) (z:=z) _ _ _ _ ?_));rw[show ops.toArray.size=p.length+1 from (Nat.eq_of_beq_eq_true h2).symm];rw[show ops.toArray.size=p.length+1 from (Nat.eq_of_beq_eq_true h2).symm]at h5;exact jAV h1 h4 p _ _ _ (hw1.pick is hF hd) h3 h5 (h _ hw1 (hw1.pick is hF hd) a ha)
theorem qo (ho:ops[z]? =some o) (h:HL P N ops [o] σ B H K):HD P N ops [] σ B H F (KZ P ops z K):=by
 intro w hw _ a ha
 replace h:=h w hw a ha
 show wpOp P ops.toArray (QN K) z K a w;simp only[wpOp,show ops.toArray[z]? =some o by simpa using ho];unfold wpList at h
 split
 ·rename_i hw'
  rw[if_pos hw']at h;rcases h with h|h
  ·left
   have h2:o.wp P a w (fun a' w'=>(QN K) .normal a' w') (QN K):=h;exact Oper.wp_mono (fun a' w' h'=>h'.2) h2
  ·exact (KM (K:=K) h.2).elim
 ·rename_i hw'
  rw[if_neg hw']at h;exact h.2
theorem Q9 {d i:Nat} {p:List (Nat×Bool)} {ty:TypeId} {pos:String} {af:Array Edge} {gd:Option (Nat×Bool)} {v:Value} {s:TypeId} {x:Operand} {fl:List Field} {fi j n:Nat} {fd:Field} {ti:TypeInfo} {cs:List Value} (hv:Rd B F v cs n) (hj:j<cs.length) (ho:ops[i]? =some ⟨some d,.fieldAddr s x fi,ty,pos,af,gd⟩) (hs:stat N ops ⟨some d,.fieldAddr s x fi,ty,pos,af,gd⟩ σ=true) (hT:P.underlying s=some (.struct ⟨fl⟩)) (hf:jK4 fl fi=some fd) (hti:P.info? fd.type=some ti) (hz:Nat.ble 1 ti.size=true) (hx:lookO σ x=some (jv v j))
  (h:HD P N ops p ((d,jv v (j+fd.offset))::σ) B H F K):HD P N ops ((i,true)::p) σ B H F K:=yS ho hs (jDB hv hj hT hf hti hz hx) h
end
end Go.GX
