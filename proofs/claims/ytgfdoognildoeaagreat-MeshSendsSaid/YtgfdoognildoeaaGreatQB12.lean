/- A part of the proof: contracts of the program's functions. Conditions: none. -/
import Derived.Carry
import Derived.Deep.MidRow
import Derived.Deep.Quiet
import Derived.Laws.IdiomRangeMap
import Derived.Laws.MakeOwn
import Derived.Laws.StructEq
import Derived.Laws.Tables
import Derived.Lib.AppendStr
import Derived.Lib.AppendZerosOnto
import Derived.Lib.OthersKept
import Derived.Lib.Overlaps
import Derived.Lib.OwnBridge
import Derived.Lib.SlicesCompact
import Derived.MapKept
import Derived.Orders
import Derived.OrdersHeld
import Derived.Scope
import Derived.Sort.Grow
import Derived.StillTail
import Derived.Test.YtgfdoognildoeaaGreatProg
import Derived.Test.YtgfdoognildoeaaGreatShelf
import Derived.WalkKit
import Derived.WalkLawsBesides
import Derived.WalkSpells
import Derived.Test.YtgfdoognildoeaaGreatQB1
import Derived.Test.YtgfdoognildoeaaGreatQB2
import Derived.Test.YtgfdoognildoeaaGreatQB3
import Derived.Test.YtgfdoognildoeaaGreatQB4
import Derived.Test.YtgfdoognildoeaaGreatQB5
import Derived.Test.YtgfdoognildoeaaGreatQB6
import Derived.Test.YtgfdoognildoeaaGreatQB7
import Derived.Test.YtgfdoognildoeaaGreatQB8
import Derived.Test.YtgfdoognildoeaaGreatQB9
import Derived.Test.YtgfdoognildoeaaGreatQB10
import Derived.Test.YtgfdoognildoeaaGreatQB11
set_option linter.unusedVariables false
set_option linter.unusedSectionVars false
set_option linter.unusedSimpArgs false
set_option maxRecDepth 100000
set_option maxHeartbeats 4000000
namespace Go.Proofs.YtgfdoognildoeaaGreat
open Go.GX Go.RowKit
attribute [local irreducible] Calls Run jg jh JU HR HL HD jU jK Jc Rd jL jd
open Nd
theorem jQm {V:NV} {n:Nd} {w:World} (hg:(jD (ndH V n)).p w) (hp:pts V.ps=n.parts):OkN w V n:=by
 have g1:=jS hg (c:=cTa (sv V.ta n.table.length) n.table) (by simp)
 have g2:=jS hg (c:=cLi (sv V.li n.links.length) n.links) (by simp)
 have g3:=jS hg (c:=cSn (sv V.ou n.out.length) n.out) (by simp)
 have g4:=jS hg (c:=cI (sv V.ch n.children.length) n.children) (by simp)
 have g5:=jS hg (c:=cMa (sv V.bo n.boxes.length) n.boxes) (by simp)
 have g6:=jS hg (c:=cPr (sv V.se n.seen.length) n.seen) (by simp)
 have g7:=jS hg (c:=cPt (sv V.pa V.ps.length) V.ps) (by simp)
 have g8:=jS hg (c:=jD (ptG V.ps)) (by simp)
 have g9:=jS hg (c:=cDe (sv V.ib n.inbox.length) n.inbox) (by simp)
 exact ⟨Jv g1,Jv g2,Jv g3,Jv g4,Jv g5,Jv g6,⟨Jv g7,fun p hp=>⟨Jv (jS g8 (jEF hp).1),Jv (jS g8 (jEF hp).2)⟩⟩,Jv g9,hp⟩
abbrev Own (V:NV) (G:List Chunk) (n:Nd):Prop:=∀w2,(jD G).p w2→OkN w2 V n
theorem Pts.own {V:NV} {n:Nd} (h:Pts V n):Own V (ndH V n) n:=fun w2 hg=>jQm hg h.eq
theorem KS {B:Base} {G:List Chunk} {w:World} (h:Sat B G w):Sat B [jD G] w:=by
 have h:Sat B (G++[]) w:=by rw[List.append_nil];exact h
 exact h.group
theorem jH4 (addr poll:Int) (w:World):
  Calls Tryz.prog 36 #[.int .i64 addr,.int .i64 poll] w fun e w'=>∃x:NV×List Chunk,e= .returned (.agg ⟨ndC x.1 (new addr poll)⟩)∧Own x.1 x.2 (new addr poll)∧Sat (base w) [jD x.2] w':=
 (jNh addr poll w).mono fun e w' ⟨V',h1,h2,h3⟩=>⟨(V',ndH V' _),h1,h2.own,KS h3⟩
theorem jLn (V:NV) (n:Nd) (w:World) (h:OkN w V n) (hs:SmN n):
  Calls Tryz.prog 58 #[.agg ⟨ndC V n⟩] w fun e w'=>∃x:(NV×SV)×List Chunk,e= .returned (.tuple ⟨[.agg ⟨ndC x.1.1 (take n).1⟩,sv x.1.2 (take n).2.length]⟩)∧(Own x.1.1 x.2 (take n).1∧∀w2,(jD x.2).p w2→Sl w2 (sv x.1.2 (take n).2.length) (cellsOf deC (take n).2) (take n).2.length)∧Sat (base w) [jD x.2] w':=
 (jK7 V n w h hs).mono fun e w' ⟨⟨V',y⟩,h1,h2,h3⟩=>⟨((V',y),[jD (ndH V' (take n).1),cDe (sv y (take n).2.length) (take n).2]),h1,
  ⟨fun w2 hg=>h2.own w2 (jS hg (List.mem_cons_self ..)),fun w2 hg=>Jv (jS hg (c:=cDe (sv y (take n).2.length) (take n).2) (by simp))⟩,by
   have e1:Ent (base w) (cDe (sv y (take n).2.length) (take n).2::ndH V' (take n).1) (ndH V' (take n).1++[cDe (sv y (take n).2.length) (take n).2]):=Ent.pick [1,2,3,4,5,6,7,8,9,0] I I
   exact KS (Ent.group (G:=ndH V' (take n).1) (H:=[cDe (sv y (take n).2.length) (take n).2]) w' (e1 w' h3))⟩
theorem jLp (V:NV) (n:Nd) (target:Int) (ur:Bool) (text:By) (w:World) (h:OkN w V n) (hs:SmN n) (htx:text.length≤9223372036854775807):
  Calls Tryz.prog 53 #[.agg ⟨ndC V n⟩,.int .i64 target,.bool ur,str text] w fun e w'=>∃x:NV×List Chunk,e= .returned (.tuple ⟨[.agg ⟨ndC x.1 (send n target ur text).1⟩,.int .i64 (send n target ur text).2]⟩)∧Own x.1 x.2 (send n target ur text).1∧Sat (base w) [jD x.2] w':=
 (jK8 V n target ur text w h hs htx).mono fun e w' ⟨V',h1,h2,h3⟩=>⟨(V',ndH V' _),h1,h2.own,KS h3⟩
theorem kQ (V:NV) (n:Nd) (f:Fr) (ok:Bool) (w:World) (h:OkN w V n) (hs:SmN n):
  Calls Tryz.prog 44 #[.agg ⟨ndC V n⟩,.agg ⟨frC f⟩,.bool ok] w fun e w'=>∃x:NV×List Chunk,e= .returned (.agg ⟨ndC x.1 (result n f ok)⟩)∧Own x.1 x.2 (result n f ok)∧Sat (base w) [jD x.2] w':=
 (jGW V n f ok w h hs).mono fun e w' ⟨V',h1,h2,h3⟩=>⟨(V',ndH V' _),h1,h2.own,KS h3⟩
theorem jLk (V:NV) (n:Nd) (now:Int) (w:World) (h:OkN w V n) (hs:SmN n) (hf:∀s∈n.out,fits .i64 s.wt):
  Calls Tryz.prog 79 #[.agg ⟨ndC V n⟩,.int .i64 now] w fun e w'=>∃x:NV×List Chunk,e= .returned (.agg ⟨ndC x.1 (kE n now)⟩)∧Own x.1 x.2 (kE n now)∧Sat (base w) [jD x.2] w':=
 (jK5 V n now w h hs hf).mono fun e w' ⟨V',h1,h2,h3⟩=>⟨(V',ndH V' _),h1,h2.own,KS h3⟩
theorem jLm (V:NV) (n:Nd) (now:Int) (w:World) (h:OkN w V n) (hs:SmN n):
  Calls Tryz.prog 80 #[.agg ⟨ndC V n⟩,.int .i64 now] w fun e w'=>∃x:NV×List Chunk,e= .returned (.tuple ⟨[.agg ⟨ndC x.1 (talk n now).1⟩,.agg ⟨frC (talk n now).2.1⟩,.bool (talk n now).2.2]⟩)∧Own x.1 x.2 (talk n now).1∧Sat (base w) [jD x.2] w':=
 (jK6 V n now w h hs).mono fun e w' ⟨V',h1,h2,h3⟩=>⟨(V',ndH V' _),h1,h2.own,KS h3⟩
theorem jL1 (V:NV) (n:Nd) (now:Int) (f:Fr) (w:World) (h:OkN w V n) (hs:SmN n) (hfl:f.da.length≤9223372036854775807):
  Calls Tryz.prog 87 #[.agg ⟨ndC V n⟩,.int .i64 now,.agg ⟨frC f⟩] w fun e w'=>∃x:NV×List Chunk,e= .returned (.agg ⟨ndC x.1 (hear n now f)⟩)∧Own x.1 x.2 (hear n now f)∧Sat (base w) [jD x.2] w':=
 (jLF V n now f w h hs hfl).mono fun e w' ⟨V',h1,h2,h3⟩=>⟨(V',ndH V' _),h1,h2.own,KS h3⟩
structure PtSm (l:List Pt):Prop where
 len:l.length≤1000
 sm:∀p∈l,jBj p
theorem jCR {n:Nd} (h:Ord n) (hp:PtSm n.parts):SmN n:=
 ⟨Nat.le_trans (jNb h) (by decide),Nat.le_trans (llen h) (by decide),Nat.le_trans h.out (by decide),Nat.le_trans (klen h) (by decide),Nat.le_trans h.boxes (by decide),Nat.le_trans h.seen (by decide),hp.len,Nat.le_trans h.inbox (by decide),hp.sm⟩
theorem jJ0 {p:Pt} (h:zJ p=true):jBj p:=by
 have H:=kR (ZC h)
 have h1:=H.hv
 have h2:=H.da
 have h3:=H.ct1
 exact ⟨by omega,by omega,fun s hs=>by have:=jFN h s hs;omega⟩
theorem jCL (l:List Pt):∀p∈zQ l,jBj p:=fun p hp=>jJ0 (ZL p hp)
theorem jL2 (l:List Pt) (now life:Int):PtSm (jEH l now life):=
 ⟨Nat.le_trans (Nat.le_trans (List.length_filter_le _ _) (Ku l)) (by decide),fun p hp=>jCL l p (List.mem_filter.1 hp).1⟩
theorem jFR {l:List Pt} {s id c:Int} {p:Pt} (h:p∈(zA l s id c).1):p∈l:=by
 unfold zA at h
 split at h
 ·split at h
  ·exact h
  ·exact List.mem_of_mem_eraseIdx h
 ·exact h
theorem jN3 {p:Pt} {i:Nat} {d:By} (h:jBj p) (hd:d.length≤1000):jBj (jAh p i d):=by
 unfold jAh
 split
 ·exact h
 ·refine ⟨?_,?_,fun s hs=>?_⟩
  ·show (p.hv.set i true).length≤140737488355328
   rw[List.length_set];exact h.1
  ·show (p.da.set i d).length≤8796093022208
   rw[List.length_set];exact h.2.1
  ·rcases List.mem_or_eq_of_mem_set hs with hs|rfl
   ·exact h.2.2 s hs
   ·omega
theorem jL5 {l:List Pt} {s now:Int} {x:By} (hx:x.length≤1000) (he:(jFV l s now x).e=0):PtSm (jFV l s now x).l:=by
 unfold jFV at he ⊢
 split
 ·exact ⟨Nat.zero_le _,fun p hp=>by cases hp⟩
 ·rename_i hc
  have hc:jGM x=0:=Decidable.not_not.1 hc
  obtain ⟨c1,c2,c3,c4,c5,c6,c7,c8⟩:=jFS hc
  have ho8:=Ku l
  split
  ·exact ⟨Nat.le_trans (jAi ho8 s (b8 x 0) 1) (by decide),fun p hp=>jCL l p (jFR hp)⟩
  ·rename_i h1
   have hd8:=jAi ho8 s (b8 x 0) (b8 x 2)
   have hm:∀p∈(zA (zQ l) s (b8 x 0) (b8 x 2)).1,jBj p:=fun p hp=>jCL l p (jFR hp)
   have hnew:(∀ p∈(jEn (zA (zQ l) s (b8 x 0) (b8 x 2)) s (b8 x 0) (b8 x 2) now).1,jBj p)∧(jEn (zA (zQ l) s (b8 x 0) (b8 x 2)) s (b8 x 0) (b8 x 2) now).1.length≤8:=by
    unfold jEn
    split
    ·exact ⟨hm,hd8⟩
    ·have hr:=jCK hd8
     refine ⟨fun p hp=>?_,by rw[List.length_append];simp;omega⟩
     rcases List.mem_append.1 hp with hp|hp
     ·unfold jAL at hp
      split at hp
      ·exact hm p (List.mem_of_mem_eraseIdx hp)
      ·exact hm p hp
     ·rw [List.mem_singleton.1 hp]
      refine ⟨?_,?_,fun s hs=>?_⟩
      ·show (List.replicate (b8 x 2).toNat false).length≤140737488355328
       rw[List.length_replicate];omega
      ·show (List.replicate (b8 x 2).toNat ([]:By)).length≤8796093022208
       rw[List.length_replicate];omega
      ·have hs:s∈List.replicate (b8 x 2).toNat ([]:By):=hs
       rw[(List.mem_replicate.1 hs).2];simp
   generalize jEn (zA (zQ l) s (b8 x 0) (b8 x 2)) s (b8 x 0) (b8 x 2) now=o at hnew ⊢
   obtain ⟨n1,n2⟩:=hnew
   have hz:jBj pz:=⟨by decide,by decide,fun s hs=>by cases hs⟩
   have hg:jBj (o.1.getD o.2 pz):=by
    rw[List.getD_eq_getElem?_getD]
    cases hq:o.1[o.2]? with
    |none=>exact hz
    |some q=>exact n1 q (List.mem_of_getElem? hq)
   have hdl:(x.drop 3).length≤1000:=by rw[List.length_drop];omega
   unfold jRt
   split
   ·exact ⟨Nat.le_trans (List.length_eraseIdx_le _ _) (by omega),fun p hp=>n1 p (List.mem_of_mem_eraseIdx hp)⟩
   ·refine ⟨by rw[List.length_set];omega,fun p hp=>?_⟩
    rcases List.mem_or_eq_of_mem_set hp with hp|rfl
    ·exact n1 p hp
    ·exact jN3 hg hdl
theorem jPJ (a p:Int):PtSm (new a p).parts:=⟨Nat.zero_le _,fun p hp=>by cases hp⟩
theorem jB7 {target:Int} {ur:Bool}:∀ {l:List By} {n m:Nd},sends target ur l n=some m→m.parts=n.parts
 |[],n,m,e=>by cases e;rfl
 |p::l,n,m,e=>by
  unfold sends at e
  split at e
  ·have:=jB7 e
   rw[this];exact zM n _
  ·cases e
theorem jLH {n:Nd} {target:Int} {ur:Bool} {text:By} (h:PtSm n.parts):PtSm (send n target ur text).1.parts:=by
 have h0:PtSm nd0.parts:=⟨by decide,fun p hp=>by cases hp⟩
 unfold send
 simp only
 split
 ·exact h0
 ·split
  ·exact h0
  ·split
   ·rw [zu];exact h
   ·split
    ·rename_i m hm;rw[jB7 hm];exact h
    ·exact h0
theorem Zc (now:Int):∀(k:Nat) (n:Nd) (i:Nat),(zx now k n i).1.parts=n.parts
 |0,n,i=>rfl
 |k+1,n,i=>by
  unfold zx
  split
  ·rfl
  ·split
   ·exact Zc now k n _
   ·split
    ·rfl
    ·split
     ·rw [Zc now k];exact jCm _ _ _
     ·split
      ·rfl
      ·split
       ·rw [Zc now k];rfl
       ·rw [Zc now k]
theorem jK1 {n:Nd} {now:Int} (h:PtSm n.parts):PtSm (talk n now).1.parts:=by
 unfold talk;rw[Zc];exact h
theorem jGo {n:Nd} {f:Fr} {ok:Bool} (h:PtSm n.parts):PtSm (result n f ok).parts:=by
 unfold result
 simp only
 split
 ·exact h
 ·split
  ·rw [jBZ];split<;>exact h
  ·split<;>exact h
theorem jKz (n:Nd) (now:Int):PtSm (kE n now).parts:=by
 have e:(kE n now).parts=jEH (order n).parts (tick now) 120:=by
  have k1:∀(c:Prop) [Decidable c] (a:Nd),(if c then Nd.ZQ a else a).parts=a.parts:=by intro c _ a;split;exact jBe _;rfl
  have k2:∀(c:Prop) [Decidable c] (a:Nd),(if c then Nd.poll a else a).parts=a.parts:=by intro c _ a;split;exact jDR _;rfl
  unfold kE
  simp only
  rw[k2,k1,jBf]
 rw[e];exact jL2 _ _ _
theorem jMv {n:Nd} {now:Int} {f:Fr} (h:PtSm n.parts):PtSm (hear n now f).parts:=by
 unfold hear
 simp only
 split
 ·exact h
 ·rename_i h1
  have hc:jC3 f=0:=Decidable.not_not.1 fun e=>h1 (.inl e)
  have hl:=(jHQ hc).2.2.2.2.2.2
  split
  ·rw [KJ];exact h
  ·split
   ·rw [jBV];exact h
   ·split
    ·unfold received
     simp only
     split
     ·exact h
     ·split
      ·split
       ·exact h
       ·rename_i he
        have hp:PtSm (jFV (order n).parts f.so (tick now) f.da).l:=jL5 (by omega) (Decidable.not_not.1 he)
        split
        ·rw [zu];exact hp
        ·exact hp
      ·split
       ·exact h
       ·rw [zM];exact h
    ·exact h
end Go.Proofs.YtgfdoognildoeaaGreat
namespace Go.Proofs.YtgfdoognildoeaaGreat
open Go.GX Go.RowKit
attribute [local irreducible] Calls Run jg jh JU HR HL HD jU jK Jc Rd jL jd
open Nd
theorem fn19:IsFn Tryz.prog 19:=⟨⟨_,_,Tryz.func19,rfl,by decide⟩⟩
theorem fn146:IsFn Tryz.prog 146:=⟨⟨_,_,Tryz.func146,rfl,by decide⟩⟩
theorem jCB (a b:List Int) (va vb:Value) (w:World) (ha:Sl w va (cellsOf iC a) a.length) (hb:Sl w vb (cellsOf iC b) b.length) (hla:a.length≤1000000):
  Calls Tryz.prog 19 #[va,vb] w fun e' w'=>e'= .returned (.bool (decide (a=b)))∧Below w.heap.size w w':=by
 refine jB Tryz.func19 I (Nat.le_of_ble_eq_true I) ?_
 refine HR.sub (σ':=[(0,va),(1,vb)]) ⟨I,I,trivial⟩ ?_
 repeat' (first|refine zh ?_|refine HL.j4 (Rd.arg ha) I I I ?_|refine HL.j4 (Rd.arg hb) I I I ?_|apply zb ?_ ?_|exact zc|(refine zi fun hb=>?_;try simp at hb)|intro (bk:Nat))
 refine HR.cond I (fun h1=>?_) (fun h1=>?_)
 ·repeat' (first|refine zh ?_|apply zb ?_ ?_|exact zc|(refine zi fun hb=>?_;try simp at hb)|intro (bk:Nat))
  refine HR.ret Tryz.func19 I [_] (fun _ _=>⟨I,trivial⟩) ?_
  have:a≠b:=by rintro rfl;simp at h1
  exact fun w' hw=>⟨by simp[this,Zv],hw.jE⟩
 have hl:a.length=b.length:=by have h1':((a.length:Int) != (b.length:Int))=false:=h1;simp at h1';omega
 repeat' (first|refine zh ?_|apply zb ?_ ?_|exact zc|(refine zi fun hb=>?_;try simp at hb)|intro (bk:Nat))
 refine HR.loop (ι:=Nat) (fun k=>k≤a.length∧a.take k=b.take k) (fun k=>[(0,va),(1,vb),(5,.int .i64 (k:Int))]) (fun _=>[]) (fun k=>a.length-k) 0 ⟨Nat.zero_le _,by simp⟩ ⟨I,I,I,trivial⟩ Ent.refl ?_
 rintro k ⟨hk,hg⟩ ih
 repeat' (first|refine zh ?_|refine HL.j4 (Rd.arg ha) I I I ?_|apply zb ?_ ?_|exact zc|(refine zi fun hb=>?_;try simp at hb)|intro (bk:Nat))
 refine HR.cond I (fun h2=>?_) (fun h2=>?_)
 ·have hlt:k<a.length:=by have:=of_decide_eq_true h2;omega
  obtain ⟨x,hx⟩:=jH hlt
  obtain ⟨y,hy⟩:=jH (show k<b.length by omega)
  repeat' (first|refine zh ?_|apply zb ?_ ?_|exact zc|(refine zi fun hb=>?_;try simp at hb)|intro (bk:Nat))
  refine HR.jo JZ (by kernel_rfl) ?_
  repeat' (first|refine zq ?_|refine HQ.jw (Rd.arg ha) Jg k I I I I hlt ?_|refine HQ.jw (Rd.arg hb) Jg k I I I I (by omega) ?_|refine HQ.jY (Rd.arg ha) I I I I (jV hx) ?_|refine HQ.jY (Rd.arg hb) I I I I (jV hy) ?_|apply zb ?_ ?_|exact zc|(refine zi fun hb=>?_;try simp at hb))
  refine HR.cond I (fun h3=>?_) (fun h3=>?_)
  ·repeat' (first|refine zh ?_|apply zb ?_ ?_|exact zc|(refine zi fun hb=>?_;try simp at hb)|intro (bk:Nat))
   refine HR.ret Tryz.func19 I [_] (fun _ _=>⟨I,trivial⟩) ?_
   have:a≠b:=by rintro rfl;rw[hx]at hy;cases hy;simp at h3
   exact fun w' hw=>⟨by simp[this,Zv],hw.jE⟩
  ·repeat' (first|refine zh ?_|apply zb ?_ ?_|exact zc|(refine zi fun hb=>?_;try simp at hb)|intro (bk:Nat))
   refine ih (k+1) _ _ ⟨hlt,?_⟩ (by omega) ⟨I,I,I,trivial⟩ Ent.refl
   rw[jG hx,jG hy,hg]
   have hxy:x=y:=by simpa using h3
   rw[hxy]
 ·have hke:k=a.length:=by have:=of_decide_eq_false h2;omega
  subst hke
  repeat' (first|refine zh ?_|apply zb ?_ ?_|exact zc|(refine zi fun hb=>?_;try simp at hb)|intro (bk:Nat))
  refine HR.ret Tryz.func19 I [_] (fun _ _=>⟨I,trivial⟩) ?_
  have:a=b:=by rw[← List.take_length (l:=a),hg,hl,List.take_length]
  exact fun w' hw=>⟨by simp[this,Zv],hw.jE⟩
theorem jGd (a b:List By) (va vb:Value) (w:World) (ha:Sl w va (cellsOf sC a) a.length) (hb:Sl w vb (cellsOf sC b) b.length) (hla:a.length≤8796093022208):
  Calls Tryz.prog 146 #[va,vb] w fun e' w'=>e'= .returned (.bool (decide (a=b)))∧Below w.heap.size w w':=by
 refine jB Tryz.func146 I (Nat.le_of_ble_eq_true I) ?_
 refine HR.sub (σ':=[(0,va),(1,vb)]) ⟨I,I,trivial⟩ ?_
 repeat' (first|refine zh ?_|refine HL.j4 (Rd.arg ha) I I I ?_|refine HL.j4 (Rd.arg hb) I I I ?_|apply zb ?_ ?_|exact zc|(refine zi fun hb=>?_;try simp at hb)|intro (bk:Nat))
 refine HR.cond I (fun h1=>?_) (fun h1=>?_)
 ·repeat' (first|refine zh ?_|apply zb ?_ ?_|exact zc|(refine zi fun hb=>?_;try simp at hb)|intro (bk:Nat))
  refine HR.ret Tryz.func146 I [_] (fun _ _=>⟨I,trivial⟩) ?_
  have:a≠b:=by rintro rfl;simp at h1
  exact fun w' hw=>⟨by simp[this,Zv],hw.jE⟩
 have hl:a.length=b.length:=by have h1':((a.length:Int) != (b.length:Int))=false:=h1;simp at h1';omega
 repeat' (first|refine zh ?_|apply zb ?_ ?_|exact zc|(refine zi fun hb=>?_;try simp at hb)|intro (bk:Nat))
 refine HR.loop (ι:=Nat) (fun k=>k≤a.length∧a.take k=b.take k) (fun k=>[(0,va),(1,vb),(5,.int .i64 (k:Int))]) (fun _=>[]) (fun k=>a.length-k) 0 ⟨Nat.zero_le _,by simp⟩ ⟨I,I,I,trivial⟩ Ent.refl ?_
 rintro k ⟨hk,hg⟩ ih
 repeat' (first|refine zh ?_|refine HL.j4 (Rd.arg ha) I I I ?_|apply zb ?_ ?_|exact zc|(refine zi fun hb=>?_;try simp at hb)|intro (bk:Nat))
 refine HR.cond I (fun h2=>?_) (fun h2=>?_)
 ·have hlt:k<a.length:=by have:=of_decide_eq_true h2;omega
  obtain ⟨x,hx⟩:=jH hlt
  obtain ⟨y,hy⟩:=jH (show k<b.length by omega)
  repeat' (first|refine zh ?_|apply zb ?_ ?_|exact zc|(refine zi fun hb=>?_;try simp at hb)|intro (bk:Nat))
  refine HR.jo JZ (by kernel_rfl) ?_
  repeat' (first|refine zq ?_|refine HQ.jw (Rd.arg ha) Zr k I I I I hlt ?_|refine HQ.jw (Rd.arg hb) Zr k I I I I (by omega) ?_|refine HQ.jY (Rd.arg ha) I I I I (jV hx) ?_|refine HQ.jY (Rd.arg hb) I I I I (jV hy) ?_|apply zb ?_ ?_|exact zc|(refine zi fun hb=>?_;try simp at hb))
  refine HR.cond I (fun h3=>?_) (fun h3=>?_)
  ·repeat' (first|refine zh ?_|apply zb ?_ ?_|exact zc|(refine zi fun hb=>?_;try simp at hb)|intro (bk:Nat))
   refine HR.ret Tryz.func146 I [_] (fun _ _=>⟨I,trivial⟩) ?_
   have:a≠b:=by rintro rfl;rw[hx]at hy;cases hy;simp at h3
   exact fun w' hw=>⟨by simp[this,Zv],hw.jE⟩
  ·repeat' (first|refine zh ?_|apply zb ?_ ?_|exact zc|(refine zi fun hb=>?_;try simp at hb)|intro (bk:Nat))
   refine ih (k+1) _ _ ⟨hlt,?_⟩ (by omega) ⟨I,I,I,trivial⟩ Ent.refl
   rw[jG hx,jG hy,hg]
   have hxy:x=y:=by simpa using h3
   rw[hxy]
 ·have hke:k=a.length:=by have:=of_decide_eq_false h2;omega
  subst hke
  repeat' (first|refine zh ?_|apply zb ?_ ?_|exact zc|(refine zi fun hb=>?_;try simp at hb)|intro (bk:Nat))
  refine HR.ret Tryz.func146 I [_] (fun _ _=>⟨I,trivial⟩) ?_
  have:a=b:=by rw[← List.take_length (l:=a),hg,hl,List.take_length]
  exact fun w' hw=>⟨by simp[this,Zv],hw.jE⟩
end Go.Proofs.YtgfdoognildoeaaGreat
namespace Me
open Go.GX Nd Tp
structure Mesh where
 tick:Int
 nodes:List Nd.Nd
def jEQ:Mesh:=⟨0,[]⟩
abbrev Air:=Ra.Air
def idx (l:List Nd.Nd) (a:Int):Option Nat:=l.findIdx? fun n=>n.addr==a
def nth (l:List Nd.Nd) (i:Nat):Nd.Nd:=l.getD i nd0
def Jz (l:List Int) (i:Nat):Int:=match l[i]? with
 |none=>0
 |some a=>if okN a=false then 2 else if a∈l.take i then 9 else 0
def jCM (polls:List Int) (i:Nat):Int:=polls.getD i 0
def nodeAt (addrs polls:List Int) (i:Nat):Nd.Nd:=new (addrs.getD i 0) (jCM polls i)
def put (l:List Nd.Nd) (n:Nd.Nd):List Nd.Nd:=ins (fun x=>decide (x.addr<n.addr)) l n
def build (addrs polls:List Int):Nat→List Nd.Nd
 |0=>[]
 |k+1=>put (build addrs polls k) (nodeAt addrs polls k)
def jGN (addrs polls:List Int):Mesh×Int:=
 if addrs.length>24 then (jEQ,3)
 else if jf (Jz addrs) addrs.length≠0 then (jEQ,jf (Jz addrs) addrs.length)
 else (⟨0,build addrs polls addrs.length⟩,0)
def jMC (t:Int):Int:=max 0 (min t (JY-1))+1
def live (a:Air) (addr:Int):Bool:=!(Ra.check a==0)||!decide (addr∈a.o)
def phase1 (a:Air) (now:Int) (n:Nd.Nd):Nd.Nd:=if live a n.addr then kE n now else n
def jK3 (now:Int) (lv:Bool) (n:Nd.Nd):Nd.Nd×Fr×Bool:=if lv then talk n now else (n,fr0,false)
def jC2 (f:Fr) (now:Int) (s:List Nd.Nd×Bool) (to:Int):List Nd.Nd×Bool:=match idx s.1 to with
 |none=>s
 |some k=>if awake (nth s.1 k) now then (s.1.set k (hear (nth s.1 k) now f),s.2||(to==f.dst))else s
def hears (f:Fr) (now:Int) (l:List Nd.Nd) (tos:List Int):List Nd.Nd×Bool:=tos.foldl (jC2 f now) (l,false)
def told (a:Air) (now:Int) (l:List Nd.Nd) (i:Nat) (f:Fr):List Nd.Nd:=
 let h:=hears f now l (Ra.recv (Ra.san a) f)
 h.1.set i (result (nth h.1 i) f (Ra.jHf (Ra.san a) f&&(h.2||(f.dst==255))))
def jRm (a:Air) (now:Int) (l:List Nd.Nd) (i:Nat):Option (Fr×Bool)→List Nd.Nd
 |some (f,true)=>told a now l i f
 |_=>l
def tells (a:Air) (now:Int) (fs:List (Fr×Bool)):Nat→List Nd.Nd→List Nd.Nd
 |0,l=>l
 |k+1,l=>jRm a now (tells a now fs k l) k fs[k]?
def spoken (m:Mesh) (a:Air):List (Nd.Nd×Fr×Bool):=m.nodes.map fun n=>jK3 (jMC m.tick) (live a n.addr) (phase1 a (jMC m.tick) n)
def jSB (m:Mesh) (a:Air):Mesh:=
 ⟨jMC m.tick,tells a (jMC m.tick) ((spoken m a).map (·.2)) m.nodes.length ((spoken m a).map (·.1))⟩
def jBG (m:Mesh) (source target:Int) (ur:Bool) (text:By):Mesh×Int:=match idx m.nodes source with
 |none=>(jEQ,8)
 |some i=>if (send (nth m.nodes i) target ur text).2≠0 then (jEQ,(send (nth m.nodes i) target ur text).2)
  else (⟨m.tick,m.nodes.set i (send (nth m.nodes i) target ur text).1⟩,0)
def jAN (m:Mesh) (addr:Int):Mesh×List De:=match idx m.nodes addr with
 |none=>(m,[])
 |some i=>(⟨m.tick,m.nodes.set i (take (nth m.nodes i)).1⟩,(take (nth m.nodes i)).2)
def jF9 (addr:Int) (l t:List Ro):List Ro:=l.foldl (fun t r=>if r.nx≠addr∧r.nx≠255 then jJx t addr r.nx else t) t
def again (n:Nd.Nd) (addr:Int):Nd.Nd:={ new addr n.poll with seq:=n.seq,table:=jF9 addr n.table n.table }
def ZV (m:Mesh) (addr:Int):Mesh:=match idx m.nodes addr with
 |none=>m
 |some i=>⟨m.tick,m.nodes.set i (again (nth m.nodes i) addr)⟩
def jNY (l:List Nd.Nd) (to:Int):Nat→List Int→Int→List Int×Int
 |0,p,_=>(p,1)
 |k+1,p,now=>match idx l now with
  |none=>(p,1)
  |some i=>if now∈p then (p,2)else if now=to then (p++[now],0)
   else if (KF (nth l i).table to).2 then jNY l to k (p++[now]) (KF (nth l i).table to).1 else (p++[now],1)
def follow (l:List Nd.Nd) (src to:Int):List Int×Int:=jNY l to (l.length+2) [] src
def path (l:List Nd.Nd) (src to:Int):List Int×Bool:=if (follow l src to).2=0 then ((follow l src to).1,true)else ([],false)
def loops (l:List Nd.Nd):Bool:=l.any fun n=>n.table.any fun r=>(follow l n.addr r.dest).2==2
structure Op where
 kind:Int
 n:Int
 m:Int
 ur:Bool
 te:By
 air:Air
end Me
namespace Me
open Go.GX Nd Tp
theorem jH0 {α:Type} {dr ur:α→Bool} {q:List α} {x y:α} (h:y∈(jGw dr ur q x).1):y∈q∨y=x:=by
 have hi:∀l:List α,(∀ z∈l,z∈q)→y∈ins ur l x→y∈q∨y=x:=by
  intro l hl h
  unfold ins at h
  rcases List.mem_append.1 h with h|h
  ·exact .inl (hl y ((List.takeWhile_sublist _).subset h))
  ·rcases List.mem_cons.1 h with h|h
   ·exact .inr h
   ·exact .inl (hl y ((List.dropWhile_sublist _).subset h))
 unfold jGw at h
 split at h
 ·split at h
  ·exact .inl (List.mem_of_mem_take h)
  ·rcases List.mem_append.1 h with h|h
   ·exact .inl (List.mem_of_mem_take h)
   ·exact .inr (List.mem_singleton.1 h)
 ·split at h
  ·split at h
   ·exact .inl (List.mem_of_mem_take h)
   ·exact hi _ (fun z hz=>List.mem_of_mem_take (List.mem_of_mem_eraseIdx hz)) h
  ·exact hi _ (fun z hz=>List.mem_of_mem_take hz) h
theorem jPs {q:List Ma} {f:Fr} {now:Int} {s:Ma} (h:s∈(jGB q f now).1):s∈q∨s.f=f:=by
 rcases jH0 h with h|rfl
 ·exact .inl h
 ·exact .inr I
theorem jCi {to now life:Int}:∀ {l:List Ma} {s:Fr×List Ma×Bool},(∀ m∈(l.foldl (zL to now life) s).2.1,m∈l∨m∈s.2.1)∧((l.foldl (zL to now life) s).2.2=true→s.2.2=true∧(l.foldl (zL to now life) s).1=s.1∨∃m∈l,m.f=(l.foldl (zL to now life) s).1)
 |[],s=>⟨fun m hm=> .inr hm,fun h=> .inl ⟨h,rfl⟩⟩
 |a::l,s=>by
  obtain ⟨h1,h2⟩:=jCi (to:=to) (now:=now) (life:=life) (l:=l) (s:=zL to now life s a)
  rw[List.foldl_cons]
  have hb:(zL to now life s a=s)∨(zL to now life s a=(a.f,s.2.1,true))∨(zL to now life s a=(s.1,s.2.1++[a],s.2.2)):=by
   unfold zL;split
   ·exact .inl I
   ·split
    ·exact .inr (.inl I)
    ·exact .inr (.inr I)
  refine ⟨fun m hm=>?_,fun h=>?_⟩
  ·rcases h1 m hm with h|h
   ·exact .inl (List.mem_cons_of_mem _ h)
   ·rcases hb with e|e|e
    ·rw [e]at h;exact .inr h
    ·rw [e]at h;exact .inr h
    ·rw [e]at h
     rcases List.mem_append.1 h with h|h
     ·exact .inr h
     ·exact .inl (by rw[List.mem_singleton.1 h];exact List.mem_cons_self ..)
  ·rcases h2 h with ⟨g1,g2⟩|⟨m,hm,e⟩
   ·rcases hb with e|e|e
    ·rw [e]at g1 g2 ⊢;exact .inl ⟨g1,g2⟩
    ·rw [e]at g2 ⊢;exact .inr ⟨a,List.mem_cons_self ..,g2.symm⟩
    ·rw [e]at g1 g2 ⊢;exact .inl ⟨g1,g2⟩
   ·exact .inr ⟨m,List.mem_cons_of_mem _ hm,e⟩
theorem jNS {l:List Ma} {to now life:Int} {m:Ma} (h:m∈(ZY l to now life).2.1):m∈l:=by
 unfold ZY at h
 rcases (jCi).1 m h with h|h
 ·exact List.mem_of_mem_take h
 ·cases h
theorem jPr {l:List Ma} {to now life:Int} (h:(ZY l to now life).2.2=true):∃m∈l,m.f=(ZY l to now life).1:=by
 unfold ZY at h ⊢
 rcases (jCi).2 h with ⟨h,_⟩|⟨m,hm,e⟩
 ·cases h
 ·exact ⟨m,List.mem_of_mem_take hm,e⟩
def Knows (t:List Ro) (q:Ro):Prop:=∃s∈t,s.dest=q.dest∧(s.sq>q.sq∨(s.sq=q.sq∧s.cost≤q.cost))
def jRe (t:List Ro) (q:Ro):Prop:=∃s∈t,s.dest=q.dest∧(s.sq>q.sq∨(s.sq=q.sq∧s.cost<q.cost))
structure Ctx where
 D:Fr→Prop
 K:List Pt→Prop
 M:Int→De→Prop
 hD:∀(f:Fr) (fr dst hp:Int),D f→D { f with fr:=fr,dst:=dst,hp:=hp }
 hK:∀(l:List Pt) (f:Fr) (now:Int),K l→D f→(jFV l f.so now f.da).e=0→K (jFV l f.so now f.da).l∧((jFV l f.so now f.da).ok=true→M f.ta ⟨f.so,(jFV l f.so now f.da).t⟩)
 hE:∀(l:List Pt) (now life:Int),K l→K (jEH l now life)
 hN:K []
structure Sound (C:Ctx) (a:Int) (t:List Ro) (f:Fr):Prop where
 bea:f.kd=1→f.fr=a∧∀q∈(jBg f.da).1,Knows t q
 pol:f.kd=3→f.fr=a∧Knows t ⟨a,f.sq,0,0⟩
 dat:f.kd=2→C.D f
section
variable {C : Ctx} {R : Ro → Prop} {n m : Nd.Nd}
theorem kT {a poll:Int} (h:okN a=true):(new a poll).addr=a∧(new a poll).out=[]∧(new a poll).boxes=[]∧(new a poll).parts=[]∧(new a poll).inbox=[]∧(new a poll).table=[jGk a]:=by
 rw[ZR]at h
 have hc:clamp a 0 250=a:=by unfold clamp;omega
 refine ⟨hc,rfl,rfl,rfl,rfl,?_⟩
 show (if KL [] (clamp a 0 250)=0 then []else [jGk (clamp a 0 250)])=_
 rw[hc,if_neg]
 unfold KL
 rw[if_neg (by decide),if_neg (by rw[(ZR a).2 h];decide)]
 simp[jf]
end
end Me
namespace Me
open Go.GX Nd Tp
structure Inv (C:Ctx) (l:List Nd.Nd):Prop where
 ord:∀x∈l,Ord x
 dis:∀(i j:Nat) (x y:Nd.Nd),l[i]? =some x→l[j]? =some y→x.addr=y.addr→i=j
 rt:∀x∈l,∀r∈x.table,r.dest≠x.addr→fin r=true→∀y∈l,y.addr=r.nx→jRe y.table r
 out:∀x∈l,∀s∈x.out,Sound C x.addr x.table s.f
 bx:∀x∈l,∀b∈x.boxes,b.f.kd=2∧C.D b.f
 pt:∀x∈l,C.K x.parts
 ib:∀x∈l,∀d∈x.inbox,C.M x.addr d
theorem jR7 {l:List Nd.Nd} {k:Nat} (hk:k<l.length):l[k]? =some (nth l k):=by
 unfold nth;rw[List.getD_eq_getElem?_getD,List.getElem?_eq_getElem hk];rfl
theorem jBx {l:List Nd.Nd} {a:Int} {k:Nat} (h:idx l a=some k):l[k]? =some (nth l k)∧(nth l k).addr=a:=by
 obtain ⟨h1,h2,_⟩:=List.findIdx?_eq_some_iff_getElem.1 h
 have:=jR7 h1
 refine ⟨this,?_⟩
 rw[List.getElem?_eq_getElem h1]at this
 rw[← Option.some.inj this]
 simpa using h2
theorem jPY {l:List Nd.Nd} {a:Int} (h:idx l a=none):∀x∈l,x.addr≠a:=by
 intro x hx e
 have:=List.findIdx?_eq_none_iff.1 h x hx
 simp[e]at this
theorem jMp {l:List Nd.Nd} {x:Nd.Nd} (hx:x∈l):∃k,idx l x.addr=some k:=by
 cases h:idx l x.addr with
 |some k=>exact ⟨k,rfl⟩
 |none=>exact absurd I (jPY h x hx)
theorem asc_one {t:List Ro} (h:Asc (·.dest) t) {r s:Ro} (hr:r∈t) (hs:s∈t) (e:r.dest=s.dest):r=s:=by
 obtain ⟨i,hi⟩:=List.getElem?_of_mem hr
 obtain ⟨j,hj⟩:=List.getElem?_of_mem hs
 rcases Nat.lt_trichotomy i j with hij|rfl|hij
 ·have:=h.lt hij hi hj;omega
 ·rw [hi]at hj;cases hj;rfl
 ·have:=h.lt hij hj hi;omega
theorem jQW {t:List Ro} {d:Int} (h:(KF t d).2=true):∃r∈t,r.dest=d∧fin r=true∧(KF t d).1=r.nx:=by
 unfold KF at h ⊢
 split at h
 ·rename_i r hr
  split at h
  ·rename_i hf
   exact ⟨r,List.mem_of_find?_eq_some hr,by simpa using List.find?_some hr,hf,by rw[if_pos hf]⟩
  ·cases h
 ·cases h
theorem jM2 {C:Ctx} {l:List Nd.Nd} (h:Inv C l) (to:Int):∀(k:Nat) (p:List Int) (now:Int),
  (∀ b∈p,b≠to∧∃y∈l,y.addr=b∧∃r∈y.table,r.dest=to∧∀z∈l,z.addr=now→jRe z.table r)→(jNY l to k p now).2≠2
 |0,p,now,_=>fun e=>absurd (show (1:Int)=2 from e) (by decide)
 |k+1,p,now,hp=>by
  unfold jNY
  split
  ·exact fun e=>absurd (show (1:Int)=2 from e) (by decide)
  ·rename_i i hi
   obtain ⟨h1,h2⟩:=jBx hi
   have hm:=List.mem_of_getElem? h1
   split
   ·rename_i hin
    exfalso
    obtain ⟨_,y,hy,e,r,hr,hd,ha⟩:=hp now hin
    obtain ⟨s,hs,e1,e2⟩:=ha y hy e
    have:=asc_one (h.ord y hy).table.asc hs hr e1
    subst this
    omega
   ·split
    ·exact fun e=>absurd (show (0:Int)=2 from e) (by decide)
    ·rename_i hto
     split
     ·rename_i hh
      obtain ⟨r,hr,hd,hf,hn⟩:=jQW hh
      have hab:∀z∈l,z.addr=(KF (nth l i).table to).1→jRe z.table r:=fun z hz e=>h.rt _ hm r hr (by rw[hd,h2];exact fun e=>hto e.symm) hf z hz (e.trans hn)
      refine jM2 h to k _ _ fun b hb=>?_
      rcases List.mem_append.1 hb with hb|hb
      ·obtain ⟨g1,y,hy,e,q,hq,hqd,ha⟩:=hp b hb
       refine ⟨g1,y,hy,e,q,hq,hqd,fun z hz ez=>?_⟩
       obtain ⟨s,hs,e1,e2⟩:=ha _ hm h2
       have:=asc_one (h.ord _ hm).table.asc hs hr (by rw[e1,hqd,hd])
       subst this
       obtain ⟨u,hu,u1,u2⟩:=hab z hz ez
       exact ⟨u,hu,by rw[u1,e1],by omega⟩
      ·rw [List.mem_singleton.1 hb]
       exact ⟨hto,_,hm,h2,r,hr,hd,hab⟩
     ·exact fun e=>absurd (show (1:Int)=2 from e) (by decide)
theorem Inv.jPH {C:Ctx} {l:List Nd.Nd} (h:Inv C l):loops l=false:=by
 unfold loops
 rw[← Bool.not_eq_true,List.any_eq_true]
 rintro ⟨n,hn,h2⟩
 obtain ⟨r,hr,h3⟩:=List.any_eq_true.1 h2
 have:=jM2 h r.dest (l.length+2) [] n.addr fun b hb=>by cases hb
 exact this (by simpa[follow]using h3)
end Me
namespace Me
open Go.GX Nd Tp
theorem jPX {α:Type} (p:α→Bool) (l:List α) (x:α):(ins p l x).Perm (x::l):=by
 unfold ins
 have:=List.perm_middle (a:=x) (l₁:=l.takeWhile p) (l₂:=l.dropWhile p)
 rwa[List.takeWhile_append_dropWhile]at this
theorem K8 (addrs polls:List Int):∀k,(build addrs polls k).Perm ((List.range k).map (nodeAt addrs polls))
 |0=>List.Perm.refl _
 |k+1=>by
  unfold build put
  refine (jPX _ _ _).trans ?_
  rw[List.range_succ,List.map_append]
  exact ((K8 addrs polls k).cons _).trans (List.perm_append_singleton _ _).symm
theorem jPz {addrs:List Int} (h:jf (Jz addrs) addrs.length=0):(∀ a∈addrs,okN a=true)∧addrs.Nodup:=by
 have key:∀(i:Nat) (a:Int),addrs[i]? =some a→okN a=true∧a ∉ addrs.take i:=by
  intro i a hi
  have h1:=ZF h i (List.getElem?_eq_some_iff.1 hi).1
  unfold Jz at h1
  rw[hi]at h1
  simp only at h1
  split at h1
  ·cases h1
  ·rename_i h2
   split at h1
   ·cases h1
   ·rename_i h3
    exact ⟨by cases e:okN a;exact absurd e h2;rfl,h3⟩
 refine ⟨fun a ha=>?_,?_⟩
 ·obtain ⟨i,hi⟩:=List.getElem?_of_mem ha
  exact (key i a hi).1
 ·refine List.pairwise_iff_getElem.2 fun i j hi hj hij e=>?_
  refine (key j addrs[j] (List.getElem?_eq_getElem hj)).2 ?_
  rw[← e]
  exact List.mem_of_getElem? (i:=i) (by rw[List.getElem?_take_of_lt hij,List.getElem?_eq_getElem hi])
theorem jS1 {l:List Nd.Nd} (h:(l.map (·.addr)).Nodup):∀(i j:Nat) (x y:Nd.Nd),l[i]? =some x→l[j]? =some y→x.addr=y.addr→i=j:=by
 intro i j x y hi hj e
 have hi':(l.map (·.addr))[i]? =some x.addr:=by rw[List.getElem?_map,hi];rfl
 have hj':(l.map (·.addr))[j]? =some y.addr:=by rw[List.getElem?_map,hj];rfl
 exact (List.getElem?_inj (List.getElem?_eq_some_iff.1 hi').1 h).1 (by rw[hi',hj',e])
theorem jNP {C:Ctx} {addrs polls:List Int} (h:jf (Jz addrs) addrs.length=0):Inv C (build addrs polls addrs.length)∧(build addrs polls addrs.length).length=addrs.length:=by
 obtain ⟨h1,h2⟩:=jPz h
 have hp:=K8 addrs polls addrs.length
 have hat:∀k,k<addrs.length→okN (addrs.getD k 0)=true:=fun k hk=>by
  rw[List.getD_eq_getElem?_getD,List.getElem?_eq_getElem hk]
  exact h1 _ (List.getElem_mem hk)
 have hx:∀x∈build addrs polls addrs.length,∃a p,okN a=true∧x=new a p:=fun x hx=>by
  obtain ⟨k,hk,rfl⟩:=List.mem_map.1 (hp.mem_iff.1 hx)
  exact ⟨_,_,hat k (List.mem_range.1 hk),rfl⟩
 have ha:((List.range addrs.length).map (nodeAt addrs polls)).map (·.addr)=addrs:=by
  refine List.ext_getElem? fun k=>?_
  rw[List.map_map,List.getElem?_map]
  by_cases hk:k<addrs.length
  ·rw [List.getElem?_range hk,List.getElem?_eq_getElem hk]
   show some (new (addrs.getD k 0) (jCM polls k)).addr=some addrs[k]
   rw[(kT (hat k hk)).1,List.getD_eq_getElem?_getD,List.getElem?_eq_getElem hk];rfl
  ·rw [List.getElem?_eq_none (by simpa using hk),List.getElem?_eq_none (by simpa using hk)];rfl
 have hd:((build addrs polls addrs.length).map (·.addr)).Nodup:=by
  refine (hp.map (·.addr)).nodup_iff.2 ?_
  rw[ha];exact h2
 refine ⟨⟨fun x hm=>?_,jS1 hd,fun x hm r hr hne=>?_,fun x hm s hs=>?_,fun x hm s hs=>?_,fun x hm=>?_,fun x hm s hs=>?_⟩,by rw[hp.length_eq];simp⟩
 all_goals obtain ⟨a,p,hok,rfl⟩:=hx x hm
 all_goals obtain ⟨e1,e2,e3,e4,e5,e6⟩:=kT (poll:=p) hok
 ·exact Ji _
 ·rw [e6,List.mem_singleton]at hr
  subst hr
  rw[e1]at hne
  exact absurd I hne
 ·rw [e2]at hs;cases hs
 ·rw [e3]at hs;cases hs
 ·rw [e4];exact C.hN
 ·rw [e5]at hs;cases hs
theorem Inv.new {C:Ctx} {addrs polls:List Int} (h:(jGN addrs polls).2=0):Inv C (jGN addrs polls).1.nodes∧(jGN addrs polls).1.tick=0∧(jGN addrs polls).1.nodes.length=addrs.length:=by
 unfold jGN at h ⊢
 split at h
 ·cases h
 ·rename_i h1
  rw[if_neg h1]
  split at h
  ·rename_i h2;exact absurd h h2
  ·rename_i h2
   rw[if_neg h2]
   obtain ⟨g1,g2⟩:=jNP (C:=C) (polls:=polls) (Decidable.not_not.1 h2)
   exact ⟨g1,rfl,g2⟩
end Me
namespace Go.Proofs.YtgfdoognildoeaaGreat
open Go.GX Go.RowKit
attribute [local irreducible] Calls Run jg jh JU HR HL HD jU jK Jc Rd jL jd
open Nd Me
theorem ptsm0:PtSm []:=⟨Nat.zero_le _,fun p hp=>by cases hp⟩
def ctx0:Ctx where
 D f:=f.da.length≤1000
 K:=PtSm
 M _ _:=True
 hD _ _ _ _ h:=h
 hK _ _ _ _ hd he:=⟨jL5 hd he,fun _=>trivial⟩
 hE l now life _:=jL2 l now life
 hN:=ptsm0
end Go.Proofs.YtgfdoognildoeaaGreat
namespace Go.Proofs.YtgfdoognildoeaaGreat
open Go.GX Go.RowKit
attribute [local irreducible] Calls Run jg jh JU HR HL HD jU jK Jc Rd jL jd
open Nd
abbrev zR (p:NV×Nd):List Value:=ndC p.1 p.2
theorem jZ (p:NV×Nd):(zR p).length=13:=rfl
theorem jBs (p:NV×Nd):J9 (zR p)=true:=rfl
theorem JV:Elem Tryz.prog 24 62 13 232:=⟨rfl,⟨_,_,rfl,rfl,rfl,rfl,rfl⟩,by decide⟩
structure OkL (w:World) (v:Value) (xs:List (NV×Nd)):Prop where
 s:Sl w v (cellsOf zR xs) xs.length
 r:∀x∈xs,OkN w x.1 x.2
theorem OkL.ext {w w':World} {v:Value} {xs:List (NV×Nd)} (h:OkL w v xs) (hb:Below w.heap.size w w'):OkL w' v xs:=⟨h.s.ext hb,fun x hx=>(h.r x hx).ext hb⟩
abbrev nds (xs:List (NV×Nd)):List Nd:=xs.map (·.2)
end Go.Proofs.YtgfdoognildoeaaGreat
namespace Go.Proofs.YtgfdoognildoeaaGreat
open Go.GX Go.RowKit
attribute [local irreducible] Calls Run jg jh JU HR HL HD jU jK Jc Rd jL jd
open Nd
theorem fn148:IsFn Tryz.prog 148:=⟨⟨_,_,Tryz.func148,rfl,by decide⟩⟩
theorem fn204:IsFn Tryz.prog 204:=⟨⟨_,_,Tryz.func204,rfl,by decide⟩⟩
theorem fn35:IsFn Tryz.prog 35:=⟨⟨_,_,Tryz.func35,rfl,by decide⟩⟩
theorem fn71:IsFn Tryz.prog 71:=⟨⟨_,_,Tryz.func71,rfl,by decide⟩⟩
theorem fn28:IsFn Tryz.prog 28:=⟨⟨_,_,Tryz.func28,rfl,by decide⟩⟩
theorem jKf (l:List Int) (v:Value) (w:World) (hv:Sl w v (cellsOf iC l) l.length) (hl:l.length≤1000):
  Calls Tryz.prog 148 #[v] w fun e w'=>∃v',e= .returned v'∧Sat (base w) [jK v' 3 1 l.length (cellsOf iC l)] w':=by
 obtain ⟨a,c,rfl,_⟩:=hv.2
 refine jB Tryz.func148 I (Nat.le_of_ble_eq_true I) ?_
 refine HR.sub (σ':=[(0,.slice a l.length c)]) ⟨I,trivial⟩ ?_
 repeat' (first|refine zh ?_|refine HL.eqNil I I I I ?_|apply zb ?_ ?_|exact zc|(refine zi fun hb=>?_;try simp at hb)|intro (bk:Nat))
 refine HR.cond I (fun h=>?_) (fun h=>?_)
 ·have ha:a=none:=by simpa using h
  have hz:l=[]:=by
   subst ha
   rcases hv.1 with ⟨_,h0,_⟩|⟨b,off,cap,he,_⟩
   ·exact List.eq_nil_of_length_eq_zero h0
   ·cases he
  subst hz
  repeat' (first|refine zh ?_|apply zb ?_ ?_|exact zc|(refine zi fun hb=>?_;try simp at hb)|intro (bk:Nat))
  refine HR.zY 3 1 ?_
  refine HR.ret Tryz.func148 I [_] (fun _ _=>⟨I,trivial⟩) ?_
  exact fun w' hw=>⟨.slice none 0 0,rfl,hw⟩
 ·repeat' (first|refine zh ?_|refine HL.Jy Jg I ?_|apply zb ?_ ?_|exact zc|(refine zi fun hb=>?_;try simp at hb)|intro (bk:Nat))
  intro v1
  repeat' (first|refine zh ?_|refine HL.zD 0 I Jg (Rd.arg hv) I I I (jC KH _) (jT jQB _) (by omega) (by omega) ?_|apply zb ?_ ?_|exact zc|(refine zi fun hb=>?_;try simp at hb)|intro (bk:Nat))
  intro v2
  repeat' (first|refine zh ?_|apply zb ?_ ?_|exact zc|(refine zi fun hb=>?_;try simp at hb)|intro (bk:Nat))
  refine HR.ret Tryz.func148 I [_] (fun _ _=>⟨I,trivial⟩) ?_
  exact fun w' hw=>⟨v2,rfl,Ent.JM (Nat.zero_add _) (List.nil_append _) w' hw⟩
theorem jHW (l:List PtV) (v:Value) (w:World) (hv:Sl w v (cellsOf ptC l) l.length) (hsh:∀p∈l,jBN p) (hl:l.length≤1000):
  Calls Tryz.prog 204 #[v] w fun e w'=>∃v',e= .returned v'∧Sat (base w) [jK v' 173 6 l.length (cellsOf ptC l)] w':=by
 obtain ⟨a,c,rfl,_⟩:=hv.2
 refine jB Tryz.func204 I (Nat.le_of_ble_eq_true I) ?_
 refine HR.sub (σ':=[(0,.slice a l.length c)]) ⟨I,trivial⟩ ?_
 repeat' (first|refine zh ?_|refine HL.eqNil I I I I ?_|apply zb ?_ ?_|exact zc|(refine zi fun hb=>?_;try simp at hb)|intro (bk:Nat))
 refine HR.cond I (fun h=>?_) (fun h=>?_)
 ·have ha:a=none:=by simpa using h
  have hz:l=[]:=by
   subst ha
   rcases hv.1 with ⟨_,h0,_⟩|⟨b,off,cap,he,_⟩
   ·exact List.eq_nil_of_length_eq_zero h0
   ·cases he
  subst hz
  repeat' (first|refine zh ?_|apply zb ?_ ?_|exact zc|(refine zi fun hb=>?_;try simp at hb)|intro (bk:Nat))
  refine HR.zY 173 6 ?_
  refine HR.ret Tryz.func204 I [_] (fun _ _=>⟨I,trivial⟩) ?_
  exact fun w' hw=>⟨.slice none 0 0,rfl,hw⟩
 ·repeat' (first|refine zh ?_|refine HL.Jy JR I ?_|apply zb ?_ ?_|exact zc|(refine zi fun hb=>?_;try simp at hb)|intro (bk:Nat))
  intro v1
  repeat' (first|refine zh ?_|refine HL.zD 0 I JR (Rd.arg hv) I I I (jC JX _) (jLo hsh) (by omega) (by omega) ?_|apply zb ?_ ?_|exact zc|(refine zi fun hb=>?_;try simp at hb)|intro (bk:Nat))
  intro v2
  repeat' (first|refine zh ?_|apply zb ?_ ?_|exact zc|(refine zi fun hb=>?_;try simp at hb)|intro (bk:Nat))
  refine HR.ret Tryz.func204 I [_] (fun _ _=>⟨I,trivial⟩) ?_
  exact fun w' hw=>⟨v2,rfl,Ent.JM (Nat.zero_add _) (List.nil_append _) w' hw⟩
theorem jMm (l:List (NV×Nd)) (x:(NV×Nd)) (i:Nat) (v va:Value) (B0:Base) (w:World) (hw0:Sat B0 [jK va 62 13 1 (zR x),jK v 62 13 l.length (cellsOf zR l)] w) (hi:i≤l.length) (hl:l.length≤1000):
  Calls Tryz.prog 35 #[v,.int .i64 (i:Int),va] w fun e w'=>∃r:Value,e= .returned r∧True∧Sat ⟨w,Zi [jK va 62 13 1 (zR x),jK v 62 13 l.length (cellsOf zR l)]⟩ [jK r 62 13 (l.take i++x::l.drop i).length (cellsOf zR (l.take i++x::l.drop i))] w':=by
 obtain ⟨ga,oa,ca,rfl,hnca,hcma⟩:=Vw.row (Sat.vw hw0 (i:=0) I) (by decide)
 have hlen:(l.take i++x::l.drop i).length=l.length+1:=by simp;omega
 have hcl:(cellsOf zR l).length=l.length*13:=jC jZ l
 have hcells:cellsOf zR (l.take i++x::l.drop i)=(cellsOf zR l).take (i*13)++zR x++(cellsOf zR l).drop (i*13):=by
  rw[JW jZ,JH jZ,jM,List.append_assoc];rfl
 have ha1:∀u∈cellsOf zR l,u.oneCell'=true:=jT jBs _
 refine ji [jK (.slice (some ⟨ga,oa,none⟩) 1 ca) 62 13 1 (zR x),jK v 62 13 l.length (cellsOf zR l)] (hw0) Tryz.func35 I (Nat.le_of_ble_eq_true I) ?_
 refine HR.sub (σ':=[(0,v),(1,.int .i64 (i:Int)),(2,.slice (some ⟨ga,oa,none⟩) 1 ca)]) ⟨I,I,I,trivial⟩ ?_
 repeat' (first|refine zh ?_|refine HL.j4 (Rd.own 1 I) I I I ?_|refine HL.KP (sz:=13) i l.length (Rd.own 1 I) I I I I (.inr ⟨_,_,_,rfl,rfl,rfl⟩) (.inl ⟨rfl,rfl⟩) hi (Nat.le_refl _) ?_|apply zb ?_ ?_|exact zc|(refine zi fun hb=>?_;try simp at hb)|intro (bk:Nat))
 refine HR.cond I (fun h=>?_) (fun h=>?_)
 ·have hil:i=l.length:=by have:=eq_of_beq h;omega
  repeat' (first|refine zh ?_|refine HL.zD 1 I JV (Rd.own 0 I) I I I I (jJ I) (by omega) (by omega) ?_|apply zb ?_ ?_|exact zc|(refine zi fun hb=>?_;try simp at hb)|intro (bk:Nat))
  intro v2
  repeat' (first|refine zh ?_|apply zb ?_ ?_|exact zc|(refine zi fun hb=>?_;try simp at hb)|intro (bk:Nat))
  refine HR.ret Tryz.func35 I [_] (fun _ _=>⟨I,trivial⟩) ?_
  refine fun w' hw=>⟨_,rfl,trivial,Ent.JM ?_ ?_ w' (hw.pick [1] I rfl)⟩
  ·rw [hlen]
  ·subst hil;rw[hcells,List.take_of_length_le (by omega),List.drop_eq_nil_of_le (by omega),List.append_nil]
 have hlt:i<l.length:=by have h:((i:Int)==(l.length:Int))=false:=h;simp at h;omega
 refine HR.row 1 I (by omega) fun g off c hv hnc hcm=>?_
 subst hv
 have hcm:c≤9223372036854775807:=hcm
 repeat' (first|refine zh ?_|refine HL.j4 (Rd.own 1 I) I I I ?_|refine HL.jS4 I I I ?_|apply zb ?_ ?_|exact zc|(refine zi fun hb=>?_;try simp at hb)|intro (bk:Nat))
 refine HR.cond I (fun h2=>?_) (fun h2=>?_)
 ·have hc:c<l.length+1:=by have:=of_decide_eq_true h2;omega
  repeat' (first|refine zh ?_|refine HL.KP (sz:=13) 0 i (Rd.own 1 I) I I I I (.inl ⟨rfl,rfl⟩) (.inr ⟨_,_,_,rfl,rfl,rfl⟩) (Nat.zero_le _) hi ?_|refine HL.jCr i (l.length+1-i) 1 I JV I I I I I (by omega) hi (by omega) hnc (by omega) (by omega) (by omega) ?_|apply zb ?_ ?_|exact zc|(refine zi fun hb=>?_;try simp at hb)|intro (bk:Nat))
  intro v2
  have hN:i+(l.length+1-i)=l.length+1:=by omega
  rw[hN]
  refine HL.row 0 I (by omega) fun g2 o2 c2 hv2 hnc2 hcm2=>?_
  subst hv2
  repeat' (first|refine zh ?_|refine HL.KP (sz:=13) i (l.length+1) (Rd.own 0 I) I I I I (.inr ⟨_,_,_,rfl,rfl,rfl⟩) (.inl ⟨rfl,rfl⟩) (by omega) (Nat.le_refl _) ?_|refine HL.Zu i 1 0 I (Rd.own 1 I) I I I I I I (jJ I) (Nat.min_eq_left (by omega)) (by decide) ?_|apply zb ?_ ?_|exact zc|(refine zi fun hb=>?_;try simp at hb)|intro (bk:Nat))
  refine HR.j3 [(0,true),(1,true),(2,true),(3,true),(4,true),(5,true),(6,true),(7,true),(8,false)] [] I I JZ (by kernel_rfl) ?_
  repeat' (first|refine HD.ev I I I ?_|refine HD.evc I I I (by first|omega|(simp;done)|(simp;omega)) ?_|refine HD.cut (sz:=13) (i+1) (l.length+1) c2 I I I I I (.inr ⟨_,_,rfl,rfl⟩) (.inl ⟨rfl,rfl,rfl⟩) (.inl ⟨rfl,rfl⟩) (by omega) hnc2 (Nat.le_refl _) ?_|refine HD.cut (sz:=13) i l.length c I I I I I (.inr ⟨_,_,rfl,rfl⟩) (.inl ⟨rfl,rfl,rfl⟩) (.inl ⟨rfl,rfl⟩) hi hnc (Nat.le_refl _) ?_|refine HD.L 0 I I I I I ?_|refine HD.L 1 I I I I I ?_|refine HD.L 2 I I I I I ?_|refine HD.L 3 I I I I I ?_|refine HD.build I I I ?_|refine HD.field I I I ?_|refine HD.skip I I I ?_|refine HD.kH I I I ?_|(refine HD.one I ?_;first|refine HL.ev I I ?_|refine HL.Zu (i+1) (l.length-i) 0 I (Rd.sub (Rd.own 2 I) hcl hi (Nat.le_refl _)) I I I I I (by rw[List.length_take,List.length_drop,hcl];omega) (fun u hu=>ha1 u (List.mem_of_mem_drop (List.mem_of_mem_take (List.mem_of_mem_take hu)))) (Nat.min_eq_left (by omega)) (by omega) ?_|(refine HL.isLoad ?_;first|refine HL.L 0 I I I I ?_|refine HL.L 1 I I I I ?_|refine HL.L 2 I I I I ?_|refine HL.L 3 I I I I ?_)|(refine HL.jQ ?_;first|refine HL.S 0 I I I I I ?_|refine HL.S 1 I I I I I ?_|refine HL.S 2 I I I I I ?_|refine HL.S 3 I I I I I ?_)|(refine HL.alloc I I ?_;intro bk))|refine HL.back [] rfl rfl ?_|refine HD.nil ?_)
  repeat' (first|refine zh ?_|apply zb ?_ ?_|exact zc|(refine zi fun hb=>?_;try simp at hb)|intro (bk:Nat))
  refine HR.ret Tryz.func35 I [_] (fun _ _=>⟨I,trivial⟩) ?_
  refine fun w' hw=>⟨_,rfl,trivial,Ent.JM ?_ ?_ w' (hw.pick [0] I rfl)⟩
  ·rw [hlen]
  ·rw [hcells,← jAr (xs:=cellsOf zR l) (X:=zR x) (Z:=(List.replicate (l.length+1-i) (zR (V0,nd0))).flatten) (p:=i*13) (q:=13) (s:=(l.length-i)*13) (by rw[hcl];omega) I (by rw[jX];simp;omega)]
   rw[show (i+1)*13=i*13+13 by omega]
   rfl
 ·have hc:l.length+1≤c:=by have:=of_decide_eq_false h2;omega
  repeat' (first|refine zh ?_|refine HL.jSu (sz:=13) (l.length+1) 1 I I I I I I I (by omega) hc ?_|apply zb ?_ ?_|exact zc|(refine zi fun hb=>?_;try simp at hb)|intro (bk:Nat))
  intro junk hj
  repeat' (first|refine zh ?_|refine HL.cut (sz:=13) (i+1) (l.length+1) c I I I I (.inr ⟨_,_,rfl,rfl⟩) (.inl ⟨rfl,rfl,rfl⟩) (.inl ⟨rfl,rfl⟩) (by omega) hc (Nat.le_refl _) ?_|intro (bk:Nat))
  refine HL.jCx (ZJ (by omega)) ?_
  refine HL.ovl 0 1 I I (by decide) I I I (tS:=24) (tR:=4) I I (by omega) (by decide) I (by kernel_rfl) (by kernel_rfl) (by kernel_rfl) (by kernel_rfl) ?_
  repeat' (first|refine zh ?_|apply zb ?_ ?_|exact zc|(refine zi fun hb=>?_;try simp at hb)|intro (bk:Nat))
  refine HR.j3 [(0,true),(1,true),(2,true),(3,true),(4,true),(5,true),(6,true),(7,true),(8,false)] [] I I JZ (by kernel_rfl) ?_
  repeat' (first|refine HD.ev I I I ?_|refine HD.evc I I I (by first|omega|(simp;done)|(simp;omega)) ?_|refine HD.cut (sz:=13) (i+1) (l.length+1) c I I I I I (.inr ⟨_,_,rfl,rfl⟩) (.inl ⟨rfl,rfl,rfl⟩) (.inl ⟨rfl,rfl⟩) (by omega) hc (Nat.le_refl _) ?_|refine HD.cut (sz:=13) i (l.length+1) c I I I I I (.inr ⟨_,_,rfl,rfl⟩) (.inl ⟨rfl,rfl,rfl⟩) (.inl ⟨rfl,rfl⟩) (by omega) hc (Nat.le_refl _) ?_|refine HD.L 0 I I I I I ?_|refine HD.L 1 I I I I I ?_|refine HD.L 2 I I I I I ?_|refine HD.L 3 I I I I I ?_|refine HD.build I I I ?_|refine HD.field I I I ?_|refine HD.skip I I I ?_|refine HD.kH I I I ?_|(refine HD.one I ?_;first|refine HL.ev I I ?_|refine HL.Zu (i+1) (l.length-i) 1 I (Rd.sub (sz:=13) (l:=i) (h:=l.length+1) (Rd.own 1 I) (by rw[List.length_append,hcl,hj];omega) (by omega) (Nat.le_refl _)) I I I I I (by rw[List.length_take,List.length_drop,List.length_append,hcl,hj];omega) (fun u hu=>ha1 u (KR (p:=i*13) (s:=(l.length-i)*13) (u:=(l.length+1-i)*13) (by rw[hcl];omega) (by omega) hu)) (show min (l.length+1-i) (l.length+1-(i+1))=l.length-i by omega) (by omega) ?_|(refine HL.isLoad ?_;first|refine HL.L 0 I I I I ?_|refine HL.L 1 I I I I ?_|refine HL.L 2 I I I I ?_|refine HL.L 3 I I I I ?_)|(refine HL.jQ ?_;first|refine HL.S 0 I I I I I ?_|refine HL.S 1 I I I I I ?_|refine HL.S 2 I I I I I ?_|refine HL.S 3 I I I I I ?_)|(refine HL.alloc I I ?_;intro bk))|refine HL.back [] rfl rfl ?_|refine HD.nil ?_)
  repeat' (first|refine zh ?_|refine HL.KP (sz:=13) i (l.length+1) (Rd.own 1 I) I I I I (.inr ⟨_,_,_,rfl,rfl,rfl⟩) (.inl ⟨rfl,rfl⟩) (by omega) (Nat.le_refl _) ?_|refine HL.Zu i 1 1 I (Rd.own 0 I) I I I I I I (jJ I) (Nat.min_eq_left (by omega)) (by decide) ?_|apply zb ?_ ?_|exact zc|(refine zi fun hb=>?_;try simp at hb)|intro (bk:Nat))
  refine HR.ret Tryz.func35 I [_] (fun _ _=>⟨I,trivial⟩) ?_
  refine fun w' hw=>⟨_,rfl,trivial,Ent.JM ?_ ?_ w' (hw.pick [1] I rfl)⟩
  ·rw [hlen]
  ·rw [hcells,← Kg (xs:=cellsOf zR l) (X:=zR x) (J:=junk) (p:=i*13) (q:=13) (s:=(l.length-i)*13) (u:=(l.length+1-i)*13) (by rw[hcl];omega) I (by rw[hj];omega) (by omega)]
   rw[show (i+1)*13=i*13+13 by omega]
theorem jE4 (a b:List Ro) (va vb:Value) (w:World) (ha:Sl w va (cellsOf roC a) a.length) (hb:Sl w vb (cellsOf roC b) b.length) (hla:a.length≤1000000):
  Calls Tryz.prog 71 #[va,vb] w fun e' w'=>e'= .returned (.bool (decide (a=b)))∧Below w.heap.size w w':=by
 refine jB Tryz.func71 I (Nat.le_of_ble_eq_true I) ?_
 refine HR.sub (σ':=[(0,va),(1,vb)]) ⟨I,I,trivial⟩ ?_
 repeat' (first|refine zh ?_|refine HL.j4 (Rd.arg ha) I I I ?_|refine HL.j4 (Rd.arg hb) I I I ?_|apply zb ?_ ?_|exact zc|(refine zi fun hb=>?_;try simp at hb)|intro (bk:Nat))
 refine HR.cond I (fun h1=>?_) (fun h1=>?_)
 ·repeat' (first|refine zh ?_|apply zb ?_ ?_|exact zc|(refine zi fun hb=>?_;try simp at hb)|intro (bk:Nat))
  refine HR.ret Tryz.func71 I [_] (fun _ _=>⟨I,trivial⟩) ?_
  have:a≠b:=by rintro rfl;simp at h1
  exact fun w' hw=>⟨by simp[this,Zv],hw.jE⟩
 have hl:a.length=b.length:=by have h1':((a.length:Int) != (b.length:Int))=false:=h1;simp at h1';omega
 repeat' (first|refine zh ?_|apply zb ?_ ?_|exact zc|(refine zi fun hb=>?_;try simp at hb)|intro (bk:Nat))
 refine HR.loop (ι:=Nat) (fun k=>k≤a.length∧a.take k=b.take k) (fun k=>[(0,va),(1,vb),(5,.int .i64 (k:Int))]) (fun _=>[]) (fun k=>a.length-k) 0 ⟨Nat.zero_le _,by simp⟩ ⟨I,I,I,trivial⟩ Ent.refl ?_
 rintro k ⟨hk,hg⟩ ih
 repeat' (first|refine zh ?_|refine HL.j4 (Rd.arg ha) I I I ?_|apply zb ?_ ?_|exact zc|(refine zi fun hb=>?_;try simp at hb)|intro (bk:Nat))
 refine HR.cond I (fun h2=>?_) (fun h2=>?_)
 ·have hlt:k<a.length:=by have:=of_decide_eq_true h2;omega
  obtain ⟨x,hx⟩:=jH hlt
  obtain ⟨y,hy⟩:=jH (show k<b.length by omega)
  repeat' (first|refine zh ?_|apply zb ?_ ?_|exact zc|(refine zi fun hb=>?_;try simp at hb)|intro (bk:Nat))
  refine HR.jo JZ (by kernel_rfl) ?_
  repeat' (first|refine zq ?_|refine HQ.jw (Rd.arg ha) JE k I I I I hlt ?_|refine HQ.jw (Rd.arg hb) JE k I I I I (by omega) ?_|refine HQ.JB (Rd.arg ha) I I I I (by simp) I (jF jW hx) ?_|refine HQ.JB (Rd.arg hb) I I I I (by simp) I (jF jW hy) ?_|refine jh.neS I (by kernel_rfl) (by kernel_rfl) I I I ?_|apply zb ?_ ?_|exact zc|(refine zi fun hb=>?_;try simp at hb))
  refine HR.cond I (fun h3=>?_) (fun h3=>?_)
  ·repeat' (first|refine zh ?_|apply zb ?_ ?_|exact zc|(refine zi fun hb=>?_;try simp at hb)|intro (bk:Nat))
   refine HR.ret Tryz.func71 I [_] (fun _ _=>⟨I,trivial⟩) ?_
   have:a≠b:=by rintro rfl;rw[hx]at hy;cases hy;simp at h3
   exact fun w' hw=>⟨by simp[this,Zv],hw.jE⟩
  ·repeat' (first|refine zh ?_|apply zb ?_ ?_|exact zc|(refine zi fun hb=>?_;try simp at hb)|intro (bk:Nat))
   refine ih (k+1) _ _ ⟨hlt,?_⟩ (by omega) ⟨I,I,I,trivial⟩ Ent.refl
   rw[jG hx,jG hy,hg]
   have hxy:x=y:=by
    obtain ⟨a1,a2,a3,a4⟩:=x
    obtain ⟨b1,b2,b3,b4⟩:=y
    simp at h3
    simp[h3]
   rw[hxy]
 ·have hke:k=a.length:=by have:=of_decide_eq_false h2;omega
  subst hke
  repeat' (first|refine zh ?_|apply zb ?_ ?_|exact zc|(refine zi fun hb=>?_;try simp at hb)|intro (bk:Nat))
  refine HR.ret Tryz.func71 I [_] (fun _ _=>⟨I,trivial⟩) ?_
  have:a=b:=by rw[← List.take_length (l:=a),hg,hl,List.take_length]
  exact fun w' hw=>⟨by simp[this,Zv],hw.jE⟩
theorem jBS (a b:List De) (va vb:Value) (w:World) (ha:Sl w va (cellsOf deC a) a.length) (hb:Sl w vb (cellsOf deC b) b.length) (hla:a.length≤1000000):
  Calls Tryz.prog 28 #[va,vb] w fun e' w'=>e'= .returned (.bool (decide (a=b)))∧Below w.heap.size w w':=by
 refine jB Tryz.func28 I (Nat.le_of_ble_eq_true I) ?_
 refine HR.sub (σ':=[(0,va),(1,vb)]) ⟨I,I,trivial⟩ ?_
 repeat' (first|refine zh ?_|refine HL.j4 (Rd.arg ha) I I I ?_|refine HL.j4 (Rd.arg hb) I I I ?_|apply zb ?_ ?_|exact zc|(refine zi fun hb=>?_;try simp at hb)|intro (bk:Nat))
 refine HR.cond I (fun h1=>?_) (fun h1=>?_)
 ·repeat' (first|refine zh ?_|apply zb ?_ ?_|exact zc|(refine zi fun hb=>?_;try simp at hb)|intro (bk:Nat))
  refine HR.ret Tryz.func28 I [_] (fun _ _=>⟨I,trivial⟩) ?_
  have:a≠b:=by rintro rfl;simp at h1
  exact fun w' hw=>⟨by simp[this,Zv],hw.jE⟩
 have hl:a.length=b.length:=by have h1':((a.length:Int) != (b.length:Int))=false:=h1;simp at h1';omega
 repeat' (first|refine zh ?_|apply zb ?_ ?_|exact zc|(refine zi fun hb=>?_;try simp at hb)|intro (bk:Nat))
 refine HR.loop (ι:=Nat) (fun k=>k≤a.length∧a.take k=b.take k) (fun k=>[(0,va),(1,vb),(5,.int .i64 (k:Int))]) (fun _=>[]) (fun k=>a.length-k) 0 ⟨Nat.zero_le _,by simp⟩ ⟨I,I,I,trivial⟩ Ent.refl ?_
 rintro k ⟨hk,hg⟩ ih
 repeat' (first|refine zh ?_|refine HL.j4 (Rd.arg ha) I I I ?_|apply zb ?_ ?_|exact zc|(refine zi fun hb=>?_;try simp at hb)|intro (bk:Nat))
 refine HR.cond I (fun h2=>?_) (fun h2=>?_)
 ·have hlt:k<a.length:=by have:=of_decide_eq_true h2;omega
  obtain ⟨x,hx⟩:=jH hlt
  obtain ⟨y,hy⟩:=jH (show k<b.length by omega)
  repeat' (first|refine zh ?_|apply zb ?_ ?_|exact zc|(refine zi fun hb=>?_;try simp at hb)|intro (bk:Nat))
  refine HR.jo JZ (by kernel_rfl) ?_
  repeat' (first|refine zq ?_|refine HQ.jw (Rd.arg ha) jAK k I I I I hlt ?_|refine HQ.jw (Rd.arg hb) jAK k I I I I (by omega) ?_|refine HQ.JB (Rd.arg ha) I I I I (by simp) I (jF jAS hx) ?_|refine HQ.JB (Rd.arg hb) I I I I (by simp) I (jF jAS hy) ?_|refine jh.neS I (by kernel_rfl) (by kernel_rfl) I I I ?_|apply zb ?_ ?_|exact zc|(refine zi fun hb=>?_;try simp at hb))
  refine HR.cond I (fun h3=>?_) (fun h3=>?_)
  ·repeat' (first|refine zh ?_|apply zb ?_ ?_|exact zc|(refine zi fun hb=>?_;try simp at hb)|intro (bk:Nat))
   refine HR.ret Tryz.func28 I [_] (fun _ _=>⟨I,trivial⟩) ?_
   have:a≠b:=by rintro rfl;rw[hx]at hy;cases hy;simp at h3
   exact fun w' hw=>⟨by simp[this,Zv],hw.jE⟩
  ·repeat' (first|refine zh ?_|apply zb ?_ ?_|exact zc|(refine zi fun hb=>?_;try simp at hb)|intro (bk:Nat))
   refine ih (k+1) _ _ ⟨hlt,?_⟩ (by omega) ⟨I,I,I,trivial⟩ Ent.refl
   rw[jG hx,jG hy,hg]
   have hxy:x=y:=by
    obtain ⟨a1,a2⟩:=x
    obtain ⟨b1,b2⟩:=y
    simp at h3
    simp[h3]
   rw[hxy]
 ·have hke:k=a.length:=by have:=of_decide_eq_false h2;omega
  subst hke
  repeat' (first|refine zh ?_|apply zb ?_ ?_|exact zc|(refine zi fun hb=>?_;try simp at hb)|intro (bk:Nat))
  refine HR.ret Tryz.func28 I [_] (fun _ _=>⟨I,trivial⟩) ?_
  have:a=b:=by rw[← List.take_length (l:=a),hg,hl,List.take_length]
  exact fun w' hw=>⟨by simp[this,Zv],hw.jE⟩
end Go.Proofs.YtgfdoognildoeaaGreat
namespace Me
open Go.GX Nd Tp
structure WfS (s:Sn):Prop where
 tr:Go.GX.fits .i64 s.tr
 wt:Go.GX.fits .i64 s.wt
 da:s.f.da.length≤9223372036854775807
structure WfO (n:Nd.Nd):Prop where
 out:∀s∈n.out,WfS s
 bx:∀b∈n.boxes,b.f.da.length≤9223372036854775807
theorem jSt:Go.GX.fits .i64 0:=by show (-9223372036854775808:Int)≤0∧(0:Int)≤9223372036854775807;omega
section
variable {n m : Nd.Nd}
theorem WfO.of (h:WfO n) (h1:∀s∈m.out,s∈n.out) (h2:∀b∈m.boxes,b∈n.boxes):WfO m:=⟨fun s hs=>h.out s (h1 s hs),fun b hb=>h.bx b (h2 b hb)⟩
theorem WfO.order (h:WfO n):WfO (order n):=h.of (fun s hs=>List.mem_of_mem_take hs) fun b hb=>List.mem_of_mem_take hb
theorem WfO.lose (h:WfO n):WfO (lose n):=⟨h.out,h.bx⟩
theorem WfO.queue (h:WfO n) {f:Fr} (hf:f.da.length≤9223372036854775807):WfO (queue n f).1:=by
 have hs:∀s∈(jC1 n.out f).1,WfS s:=fun s hs=>by
  rcases jH0 hs with hs|rfl
  ·exact h.out s hs
  ·exact ⟨jSt,jSt,hf⟩
 unfold Nd.queue
 simp only
 split
 ·exact ⟨hs,h.bx⟩
 ·exact ⟨hs,h.bx⟩
theorem WfO.box (h:WfO n) {f:Fr} (hf:f.da.length≤9223372036854775807) (now:Int):WfO (box n f now):=by
 have hs:∀b∈(jGB n.boxes f now).1,b.f.da.length≤9223372036854775807:=fun b hb=>by
  rcases jPs hb with hb|e
  ·exact h.bx b hb
  ·rw [e];exact hf
 unfold Nd.box
 simp only
 split
 ·exact ⟨h.out,hs⟩
 ·exact ⟨h.out,hs⟩
theorem WfO.deliver (h:WfO n) (d:De):WfO (deliver n d):=by
 unfold Nd.deliver;split
 ·exact h.lose
 ·exact ⟨h.out,h.bx⟩
theorem jG9 (s:Sn):0≤JG s∧JG s≤8:=by unfold JG;omega
theorem jEP {q:List Sn} {i:Nat} {ok:Bool} (h:∀s∈q,WfS s):∀s∈(KM q i ok).1,WfS s:=by
 have h16:∀s∈q.take 16,WfS s:=fun s hs=>h s (List.mem_of_mem_take hs)
 unfold KM
 intro s hs
 split at hs
 ·exact h16 s hs
 ·rename_i t ht
  split at hs
  ·exact h16 s (List.mem_of_mem_eraseIdx hs)
  ·split at hs
   ·exact h16 s (List.mem_of_mem_eraseIdx hs)
   ·rcases List.mem_or_eq_of_mem_set hs with hs|rfl
    ·exact h16 s hs
    ·have:=jG9 t
     refine ⟨?_,?_,(h16 t (List.mem_of_getElem? ht)).da⟩
     ·show (-9223372036854775808:Int)≤JG t∧JG t≤9223372036854775807
      omega
     ·show (-9223372036854775808:Int)≤(if t.f.ur then 0 else min (JG t) 4)∧(if t.f.ur then 0 else min (JG t) 4)≤(9223372036854775807:Int)
      split<;>omega
theorem jPL {q:List Sn} (h:∀s∈q,WfS s):∀s∈jAA q,WfS s:=by
 intro s hs
 unfold jAA at hs
 obtain ⟨t,ht,rfl⟩:=List.mem_map.1 hs
 have h1:=h t (List.mem_of_mem_take ht)
 unfold jAJ;split
 ·rename_i hw
  have h2:(-9223372036854775808:Int)≤t.wt∧t.wt≤9223372036854775807:=h1.wt
  refine ⟨h1.tr,?_,h1.da⟩
  show (-9223372036854775808:Int)≤t.wt-1∧t.wt-1≤9223372036854775807
  omega
 ·exact h1
theorem WfO.boxes (now:Int):∀(l:List Fr) {n:Nd.Nd},(∀ f∈l,f.da.length≤9223372036854775807)→WfO n→WfO (l.foldl (fun n f=>Nd.box n f now) n)
 |[],_,_,h=>h
 |f::l,n,hl,h=>WfO.boxes now l (fun g hg=>hl g (List.mem_cons_of_mem _ hg)) (h.box (hl f (List.mem_cons_self ..)) now)
theorem WfO.asleep (h:WfO n) (now:Int):WfO (asleep n now):=by
 unfold Nd.asleep
 refine WfO.boxes now _ (fun f hf=>?_) ⟨fun s hs=>h.out s (List.mem_filter.1 hs).1,h.bx⟩
 obtain ⟨s,hs,rfl⟩:=List.mem_map.1 hf
 exact (h.out s (List.mem_filter.1 hs).1).da
theorem jJu (t:List Ro):(jGL t).length≤9223372036854775807:=by
 unfold jGL
 rw[jEC]
 have:((t.filter usable).take 24).length≤24:=List.length_take_le _ _
 omega
theorem WfO.ZQ (h:WfO n):WfO (ZQ n):=by
 have hb:WfO (bumped n):=⟨h.out,h.bx⟩
 unfold Nd.ZQ;split
 ·exact hb.queue (jJu _)
 ·exact hb
theorem WfO.poll (h:WfO n):WfO (poll n):=by
 have hb:WfO (bumped n):=⟨h.out,h.bx⟩
 unfold Nd.poll;split
 ·exact hb.queue (Nat.zero_le _)
 ·exact hb
theorem WfO.tick (h:WfO n) (now:Int):WfO (kE n now):=by
 have ho:=h.order
 unfold kE
 simp only
 have h1:WfO (Nd.asleep { Nd.order n with out:=jAA (Nd.order n).out,boxes:=jCv (Nd.order n).boxes (Nd.tick now) 120,parts:=jEH (Nd.order n).parts (Nd.tick now) 120 } (Nd.tick now)):=
  WfO.asleep ⟨jPL ho.out,fun b hb=>ho.bx b (List.mem_of_mem_take (List.mem_filter.1 hb).1)⟩ _
 generalize Nd.asleep { Nd.order n with out:=jAA (Nd.order n).out,boxes:=jCv (Nd.order n).boxes (Nd.tick now) 120,parts:=jEH (Nd.order n).parts (Nd.tick now) 120 } (Nd.tick now)=a at h1 ⊢
 have h2:WfO (if a.poll=0∧Nd.tick now%8=a.addr%8 then Nd.ZQ a else a):=by
  split
  ·exact h1.ZQ
  ·exact h1
 generalize (if a.poll=0∧Nd.tick now%8=a.addr%8 then Nd.ZQ a else a)=b at h2 ⊢
 split
 ·exact h2.poll
 ·exact h2
theorem WfO.zx {now:Int}:∀(k:Nat) {n:Nd.Nd} {i:Nat},WfO n→WfO (zx now k n i).1∧(zx now k n i).2.1.da.length≤9223372036854775807
 |0,n,i,h=>⟨h,Nat.zero_le _⟩
 |k+1,n,i,h=>by
  unfold Nd.zx
  split
  ·exact ⟨h,Nat.zero_le _⟩
  ·rename_i x hx
   have hm:x∈n.out:=List.mem_of_getElem? hx
   have hd:=(h.out x hm).da
   split
   ·exact WfO.zx k h
   ·split
    ·exact ⟨h,hd⟩
    ·split
     ·exact WfO.zx k (WfO.box (n:={ n with out:=n.out.eraseIdx i }) (f:={ x.f with dst:=x.f.ta }) ⟨fun s hs=>h.out s (List.mem_of_mem_eraseIdx hs),h.bx⟩ hd _)
     ·split
      ·exact ⟨h,hd⟩
      ·split
       ·exact WfO.zx k (WfO.lose (n:={ n with out:=(KM n.out i false).1 }) ⟨jEP h.out,h.bx⟩)
       ·exact WfO.zx k (n:={ n with out:=(KM n.out i false).1 }) ⟨jEP h.out,h.bx⟩
theorem WfO.talk (h:WfO n) (now:Int):WfO (talk n now).1∧(talk n now).2.1.da.length≤9223372036854775807:=WfO.zx _ h.order
theorem WfO.giveUp (h:WfO n) (to:Int):WfO (giveUp n to):=by
 unfold Nd.giveUp;split
 ·exact h.lose
 ·exact ⟨h.out,h.bx⟩
theorem WfO.result (h:WfO n) (f:Fr) (ok:Bool):WfO (result n f ok):=by
 have ho:=h.order
 unfold Nd.result
 simp only
 split
 ·exact ho
 ·rename_i i hi
  have h2:WfO (if okN f.dst=true then { Nd.order n with out:=(KM (Nd.order n).out i ok).1,links:=ZW (Nd.order n).links f.dst ok } else { Nd.order n with out:=(KM (Nd.order n).out i ok).1 }):=by
   split
   ·exact ⟨jEP ho.out,ho.bx⟩
   ·exact ⟨jEP ho.out,ho.bx⟩
  split
  ·exact h2.giveUp _
  ·exact h2
theorem WfO.drain {fr now:Int}:∀(k:Nat) {n:Nd.Nd},WfO n→WfO (drain fr now k n)
 |0,_,h=>h
 |k+1,n,h=>by
  unfold Nd.drain
  simp only
  have h1:WfO { n with boxes:=(ZY n.boxes fr now 120).2.1 }:=⟨h.out,fun b hb=>h.bx b (jNS hb)⟩
  split
  ·rename_i ht
   obtain ⟨b,hb,e⟩:=jPr ht
   refine WfO.drain k (h1.queue ?_)
   show (ZY n.boxes fr now 120).1.da.length≤_
   rw[← e];exact h.bx b hb
  ·exact h1
theorem WfO.Jh (h:WfO n) (f:Fr):WfO (Jh n f):=by
 unfold Nd.Jh
 simp only
 split
 ·exact ⟨h.out,h.bx⟩
 ·split
  ·exact ⟨h.out,h.bx⟩
  ·exact ⟨h.out,h.bx⟩
theorem WfO.received (h:WfO n) {f:Fr} (hf:f.da.length≤9223372036854775807) (now:Int):WfO (received n f now):=by
 have h1:WfO { n with seen:=(KG n.seen ⟨f.so,f.sq⟩).1 }:=⟨h.out,h.bx⟩
 unfold Nd.received
 simp only
 split
 ·exact h1
 ·split
  ·split
   ·exact h1
   ·split
    ·exact WfO.deliver (n:={ n with seen:=(KG n.seen ⟨f.so,f.sq⟩).1,parts:=_ }) ⟨h.out,h.bx⟩ _
    ·exact ⟨h.out,h.bx⟩
  ·split
   ·exact h1.lose
   ·exact h1.queue hf
theorem WfO.hear (h : WfO n) {f : Fr} (hf : f.da.length ≤ 9223372036854775807) (now : Int) : WfO (hear n now f) := by
  have ho := h.order
  unfold Nd.hear
  simp only
  split
  · exact ho
  · split
    · exact ho.Jh f
    · split
      · unfold Nd.polled
        exact WfO.drain _ (n := { Nd.order n with children := _, table := _ }) ⟨ho.out, ho.bx⟩
      · first
        | exact ho.received hf _
        | (split
           · exact ho.received hf _
           · exact ho)
theorem WfO.sends {target:Int} {ur:Bool}:∀ {l:List By} {m z:Nd.Nd},(∀ p∈l,p.length≤9223372036854775807)→WfO m→sends target ur l m=some z→WfO z
 |[],m,z,_,h,e=>by cases e;exact h
 |p::l,m,z,hl,h,e=>by
  unfold Nd.sends at e
  split at e
  ·have hq:WfO (Nd.queue m (kL m target ur p)).1:=h.queue (hl p (List.mem_cons_self ..))
   exact WfO.sends (l:=l) (m:={ (Nd.queue m (kL m target ur p)).1 with seq:=(m.seq+1)%65536 }) (fun q hq=>hl q (List.mem_cons_of_mem _ hq)) ⟨hq.out,hq.bx⟩ e
  ·cases e
theorem jN6 {s:By} {id:Int} {i:Nat}:(piece s id i).length≤9223372036854775807:=by
 unfold piece
 simp
 omega
theorem WfO.nd0:WfO nd0:=⟨fun s hs=>(List.not_mem_nil hs).elim,fun b hb=>(List.not_mem_nil hb).elim⟩
theorem WfO.send (h:WfO n) (target:Int) (ur:Bool) (text:By):WfO (send n target ur text).1:=by
 have ho:=h.order
 unfold Nd.send
 simp only
 split
 ·exact WfO.nd0
 ·split
  ·exact WfO.nd0
  ·split
   ·exact ho.deliver _
   ·split
    ·rename_i z hz
     refine WfO.sends (fun p hp=>?_) ho hz
     unfold ze at hp
     split at hp
     ·cases hp
     ·split at hp
      ·cases hp
      ·obtain ⟨k,_,rfl⟩:=List.mem_map.1 hp
       exact jN6
    ·exact WfO.nd0
theorem WfO.take (h:WfO n):WfO (take n).1:=⟨h.order.out,h.order.bx⟩
theorem WfO.new (addr poll:Int):WfO (new addr poll):=WfO.order (n:=⟨addr,poll,255,[],[],[],[],[],[],[],[],0,0⟩) ⟨fun s hs=>(List.not_mem_nil hs).elim,fun b hb=>(List.not_mem_nil hb).elim⟩
theorem WfO.again (addr:Int):WfO (again n addr):=⟨(WfO.new addr n.poll).out,(WfO.new addr n.poll).bx⟩
end
end Me
namespace Go.Proofs.YtgfdoognildoeaaGreat
open Go.GX Go.RowKit
attribute [local irreducible] Calls Run jg jh JU HR HL HD jU jK Jc Rd jL jd
open Nd
structure GdN (n:Nd):Prop where
 sm:SmN n
 wf:Me.WfO n
theorem SmN.ptS {n:Nd} (h:SmN n):PtSm n.parts:=⟨h.pa,h.sm⟩
section
variable {n : Nd}
theorem GdN.tick (h:GdN n) (now:Int):GdN (kE n now):=⟨jCR (jK0 n now).ord (jKz n now),h.wf.tick now⟩
theorem GdN.talk (h:GdN n) (now:Int):GdN (talk n now).1∧(talk n now).2.1.da.length≤9223372036854775807:=⟨⟨jCR (jK2 n now).ord (jK1 h.sm.ptS),(h.wf.talk now).1⟩,(h.wf.talk now).2⟩
theorem GdN.hear (h:GdN n) {f:Fr} (hf:f.da.length≤9223372036854775807) (now:Int):GdN (hear n now f):=⟨jCR (jMw n now f).ord (jMv h.sm.ptS),h.wf.hear hf now⟩
theorem GdN.result (h:GdN n) (f:Fr) (ok:Bool):GdN (result n f ok):=⟨jCR (jGp n f ok).ord (jGo h.sm.ptS),h.wf.result f ok⟩
theorem GdN.take (h:GdN n):GdN (take n).1:=⟨jCR (jK4 n).ord (show PtSm n.parts from h.sm.ptS),h.wf.take⟩
theorem GdN.send (h:GdN n) {target:Int} {ur:Bool} {text:By} (e:(send n target ur text).2=0):GdN (send n target ur text).1:=⟨jCR (jLJ e).ord (jLH h.sm.ptS),h.wf.send target ur text⟩
theorem GdN.new (a p:Int):GdN (new a p):=⟨jCR (Ji _) (jPJ a p),Me.WfO.new a p⟩
theorem jB1 (a:Int):∀(l t:List Ro),t.length≤1000→(Me.jF9 a l t).length≤1000
 |[],t,h=>h
 |x::l,t,h=>by
  have hs:Me.jF9 a (x::l) t=Me.jF9 a l (if x.nx≠a∧x.nx≠255 then jJx t a x.nx else t):=rfl
  rw[hs]
  refine jB1 a l _ ?_
  split
  ·rw [jBo,List.length_map]
   have:=(ZT t a).len
   omega
  ·exact h
theorem GdN.again (h:GdN n) (a:Int):GdN (Me.again n a):=
 ⟨⟨jB1 a _ _ h.sm.ta,(GdN.new a n.poll).sm.li,(GdN.new a n.poll).sm.ou,(GdN.new a n.poll).sm.ch,(GdN.new a n.poll).sm.bo,(GdN.new a n.poll).sm.se,(GdN.new a n.poll).sm.pa,(GdN.new a n.poll).sm.ib,(GdN.new a n.poll).sm.sm⟩,Me.WfO.again a⟩
end
theorem zG:Elem Tryz.prog 70 77 24 320:=⟨rfl,⟨_,_,rfl,rfl,rfl,rfl,rfl⟩,by decide⟩
abbrev meC (t:Int) (v:Value):List Value:=[.int .i64 t,v]
abbrev meV (t:Int) (v:Value):Value:= .agg ⟨meC t v⟩
abbrev cNd (v:Value) (xs:List (NV×Nd)):Chunk:=jK v 62 13 xs.length (cellsOf zR xs)
theorem jNL (v:Value) (ys:List (NV×Nd)) (x:NV×Nd):cNd v (ys++[x])=jK v 62 13 (ys.length+1) (cellsOf zR ys++zR x):=by
 show jK v _ 13 (ys++[x]).length (cellsOf zR (ys++[x]))=_
 rw[jM,List.length_append,J6];rfl
theorem JQ (xs:List (NV×Nd)):(nds xs).length=xs.length:=by simp[nds]
theorem kU {xs:List (NV×Nd)} {k:Nat} {x:NV×Nd} (h:xs[k]? =some x):(nds xs)[k]? =some x.2:=by unfold nds;rw[List.getElem?_map,h];rfl
theorem jMG (xs:List (NV×Nd)) (k:Nat) (x:NV×Nd):nds (xs.set k x)=(nds xs).set k x.2:=by unfold nds;rw[List.map_set]
theorem jBE {xs:List (NV×Nd)} {k:Nat} {x:NV×Nd} (h:xs[k]? =some x):Me.nth (nds xs) k=x.2:=by unfold Me.nth;rw[List.getD_eq_getElem?_getD,kU h];rfl
theorem jD2 {α:Type} {l:List α} {k:Nat} {a:α} (h:l[k]? =some a):l.set k a=l:=by
 obtain ⟨hk,rfl⟩:=List.getElem?_eq_some_iff.1 h
 exact List.set_getElem_self hk
def jMq (l:List Nd) (a:Int):Int:=match Me.idx l a with
 |some i=>(i:Int)
 |none=>-1
theorem jFq (xs:List (NV×Nd)) (a:Int):jMq (nds xs) a=fidx (fun x=>x.2.addr==a) xs:=by
 unfold jMq fidx Me.idx nds
 rw[List.findIdx?_map];rfl
theorem zU (xs:List (NV×Nd)) (a:Int):(jMq (nds xs) a= -1∧Me.idx (nds xs) a=none)∨∃(i:Nat) (x:NV×Nd),jMq (nds xs) a=(i:Int)∧Me.idx (nds xs) a=some i∧xs[i]? =some x∧x.2.addr=a:=by
 unfold jMq
 cases h:Me.idx (nds xs) a with
 |none=>exact .inl ⟨rfl,rfl⟩
 |some i=>
  obtain ⟨h1,h2⟩:=Me.jBx h
  have hl:i<xs.length:=by have:=(List.getElem?_eq_some_iff.1 h1).1;rwa[JQ]at this
  obtain ⟨x,hx⟩:=jH hl
  exact .inr ⟨i,x,rfl,rfl,hx,by rw[jBE hx]at h2;exact h2⟩
end Go.Proofs.YtgfdoognildoeaaGreat
namespace Go.GX
open Go.RowKit
section
variable {P : Program} {N : Nat} {σ : Store} {B : Base} {H : List Chunk} {ops l : List Oper} {K : Act → World → Prop}
variable {d : Nat} {ty : TypeId} {pos : String} {af : Array Edge} {gd : Option (Nat × Bool)}
theorem HL.jQG {α:Type} {r:α→Value} {Q:α→Prop} {G:α→List Chunk} {g:FuncId} {x:Operand} {args:List Operand} {a1 caps:List Value} {tys:Array TypeId} (hg:IsFn P g) (hx:lookO σ x=some (.func (.func g) #[] caps.toArray))
  (hs:stat N ops ⟨some d,.call ⟨.value x,args.toArray,tys⟩,ty,pos,af,gd⟩ σ=true) (ha:vals σ args=some a1)
  (hc:∀w,Sat B H w→Calls P g ((a1++caps).toArray) w fun e w'=>∃x,e= .returned (r x)∧Q x∧Sat (base w) (G x) w')
  (h:∀x,Q x→HL P N ops l ((d,r x)::σ) B (G x++H) K):HL P N ops (⟨some d,.call ⟨.value x,args.toArray,tys⟩,ty,pos,af,gd⟩::l) σ B H K:=
 fun w hw=>jg.enter hs (jJG hg hx ha) ((hc w hw).mono fun e w' ⟨x,h1,h2,h3⟩=>⟨r x,h1,h x h2 w' (hw.join h3)⟩)
theorem HR.seq {f:FuncId} {k:List Item} {R:Ending→World→Prop} {x y:Code} (h:HR P f N (.code x:: .code y::k) σ B H R):HR P f N (.code (.seq x y)::k) σ B H R:=fun w hw=>Run.seq (h w hw)
end
end Go.GX
namespace Go.Proofs.YtgfdoognildoeaaGreat
open Go.GX Go.RowKit
attribute [local irreducible] Calls Run jg jh JU HR HL HD jU jK Jc Rd jL jd
open Nd
theorem fn76:IsFn Tryz.prog 76:=⟨⟨_,_,Tryz.func76,rfl,by decide⟩⟩
theorem fn38:IsFn Tryz.prog 38:=⟨⟨_,_,Tryz.func38,rfl,by decide⟩⟩
theorem fn12:IsFn Tryz.prog 12:=⟨⟨_,_,Tryz.func12,rfl,by decide⟩⟩
theorem jHw {w:World} {p:PtV} (h:RdPt w p):∃aa ca ab cb,p=⟨.slice aa p.pt.hv.length ca,.slice ab p.pt.da.length cb,p.pt⟩:=by
 obtain ⟨vh,vd,q⟩:=p
 obtain ⟨aa,ca,e1,_⟩:=h.h.2
 obtain ⟨ab,cb,e2,_⟩:=h.d.2
 have e1:vh= .slice aa q.hv.length ca:=e1
 have e2:vd= .slice ab q.da.length cb:=e2
 exact ⟨aa,ca,ab,cb,by rw[e1,e2]⟩
theorem jD5 (La Lb:List PtV) (va vb:Value) (w:World) (ha:RdPts w va La) (hb:RdPts w vb Lb) (he:pts La=pts Lb) (hs:∀p∈La,jBj p.pt) (hl:La.length≤1000):
  Calls Tryz.prog 76 #[va,vb] w fun e w'=>e= .returned (.bool true)∧Below w.heap.size w w':=by
 have hlen:Lb.length=La.length:=by rw[← JF,← he,JF]
 refine jB Tryz.func76 I (Nat.le_of_ble_eq_true I) ?_
 refine HR.sub (σ':=[(0,va),(1,vb)]) ⟨I,I,trivial⟩ ?_
 repeat' (first|refine zh ?_|refine HL.j4 (Rd.arg ha.s) I I I ?_|refine HL.j4 (Rd.arg hb.s) I I I ?_|intro (bk:Nat))
 refine HR.jCu 13 false I (by rw[hlen];simp) ?_
 repeat' (first|refine zh ?_|intro (bk:Nat))
 refine HR.loop (ι:=Nat) (fun k=>k≤La.length) (fun k=>[(0,va),(1,vb),(5,.int .i64 (k:Int))]) (fun _=>[]) (fun k=>La.length-k) 0 (Nat.zero_le _) ⟨I,I,I,trivial⟩ Ent.refl ?_
 rintro k hk ih
 have hk:k≤La.length:=hk
 repeat' (first|refine zh ?_|refine HL.j4 (Rd.arg ha.s) I I I ?_|intro (bk:Nat))
 refine HR.cond I (fun h2=>?_) (fun h2=>?_)
 rotate_left
 ·repeat' (first|refine zh ?_|intro (bk:Nat))
  refine HR.ret Tryz.func76 I [_] (fun _ _=>⟨I,trivial⟩) ?_
  exact fun w' hw=>⟨rfl,hw.jE⟩
 have hlt:k<La.length:=by have:(k:Int)<(La.length:Int):=of_decide_eq_true h2;omega
 obtain ⟨p,hp⟩:=jH hlt
 obtain ⟨p',hp'⟩:=jH (show k<Lb.length by omega)
 have hpp:p'.pt=p.pt:=by
  have e1:=Zo hp
  have e2:=Zo hp'
  rw[he,e2]at e1
  exact Option.some.inj e1
 have hr1:=ha.r p (List.mem_of_getElem? hp)
 have hr2:=hb.r p' (List.mem_of_getElem? hp')
 have hsp:=hs p (List.mem_of_getElem? hp)
 obtain ⟨aa,ca,ab,cb,ex⟩:=jHw hr1
 obtain ⟨aa',ca',ab',cb',ex'⟩:=jHw hr2
 obtain ⟨q,hq⟩:∃q,q=p.pt:=⟨_,rfl⟩
 rw[hpp]at ex'
 rw[← hq]at ex ex' hsp
 subst ex
 subst ex'
 have hh:Sl w (.slice aa q.hv.length ca) (cellsOf bC q.hv) q.hv.length:=hr1.h
 have hd:Sl w (.slice ab q.da.length cb) (cellsOf sC q.da) q.da.length:=hr1.d
 have hh':Sl w (.slice aa' q.hv.length ca') (cellsOf bC q.hv) q.hv.length:=hr2.h
 have hd':Sl w (.slice ab' q.da.length cb') (cellsOf sC q.da) q.da.length:=hr2.d
 have hs1:q.hv.length≤140737488355328:=hsp.1
 have hs2:q.da.length≤8796093022208:=hsp.2.1
 clear hr1 hr2 hsp
 repeat' (first|refine zh ?_|intro (bk:Nat))
 refine HR.join (ι:=Nat×Nat) (fun _=>True) (fun x=>[(0,va),(1,vb),(5,.int .i64 (k:Int)),(6,ptr x.1),(7,ptr x.2)]) (fun x=>[jU x.1 (ptC ⟨.slice aa q.hv.length ca,.slice ab q.da.length cb,q⟩) 173,jU x.2 (ptC ⟨.slice aa' q.hv.length ca',.slice ab' q.da.length cb',q⟩) 173]) ?_ (fun hj=>?_)
 rotate_left
 ·refine HR.kM [] I I JZ ?_
  refine za 0 ?_
  refine za 1 ?_
  refine HA.rd 2 (by kernel_rfl) I I (jFr (Rd.arg ha.s) JR k I I I hlt) ?_
  refine HA.rd 3 (by kernel_rfl) I I (jAs (us:=ptC ⟨.slice aa q.hv.length ca,.slice ab q.da.length cb,q⟩) (Rd.arg ha.s) I I I (by simp) I (jF JX hp)) ?_
  refine za 4 ?_
  refine za 5 ?_
  refine HA.rd 6 (by kernel_rfl) I I (jFr (Rd.arg hb.s) JR k I I I (by omega)) ?_
  refine HA.rd 7 (by kernel_rfl) I I (jAs (us:=ptC ⟨.slice aa' q.hv.length ca',.slice ab' q.da.length cb',q⟩) (Rd.arg hb.s) I I I (by simp) I (jF JX hp')) ?_
  refine HA.two 8 9 (by kernel_rfl) I I ?_ ?_
  ·refine HL.alloc I I ?_
   intro b6
   refine HL.jm [] I I ?_
   refine HA.one 9 (by kernel_rfl) I ?_
   refine HL.alloc I I ?_
   intro b7
   refine HL.jm [] I I ?_
   refine HA.one 10 (by kernel_rfl) I ?_
   repeat' (first|refine zn ?_|intro (bk:Nat))
   refine HL.jm [] I I ?_
   refine HA.one 11 (by kernel_rfl) I ?_
   repeat' (first|refine zn ?_|intro (bk:Nat))
   refine HL.jm [] I I ?_
   refine HA.done (by kernel_rfl) ?_
   exact hj (b6,b7) _ _ trivial ⟨I,I,I,I,I,trivial⟩ (Ent.pick [1,0] I I)
  ·refine HL.alloc I I ?_
   intro b7
   refine HL.jm [] I I ?_
   refine HA.one 8 (by kernel_rfl) I ?_
   refine HL.alloc I I ?_
   intro b6
   refine HL.jm [] I I ?_
   refine HA.one 10 (by kernel_rfl) I ?_
   repeat' (first|refine zn ?_|intro (bk:Nat))
   refine HL.jm [] I I ?_
   refine HA.one 11 (by kernel_rfl) I ?_
   repeat' (first|refine zn ?_|intro (bk:Nat))
   refine HL.jm [] I I ?_
   refine HA.done (by kernel_rfl) ?_
   exact hj (b6,b7) _ _ trivial ⟨I,I,I,I,I,trivial⟩ (Ent.pick [0,1] I I)
 rintro ⟨b6,b7⟩ _
 repeat' (first|refine zh ?_|refine HL.j4 (Rd.arg hh) I I I ?_|refine HL.j4 (Rd.arg hh') I I I ?_|refine HL.jN fn146 I I (fun w1 hw1=>jGd q.da q.da _ _ w1 ((Rd.arg hd).at hw1) ((Rd.arg hd').at hw1) hs2) ?_|apply zb ?_ ?_|exact zc|(refine zi fun hb=>?_;try simp at hb)|intro (bk:Nat))
 refine HR.cond I (fun h3=>?_) (fun h3=>?_)
 ·simp at h3
 repeat' (first|refine zh ?_|intro (bk:Nat))
 refine HR.loop (ι:=Nat) (fun j=>j≤q.hv.length) (fun j=>[(0,va),(1,vb),(5,.int .i64 (k:Int)),(6,ptr b6),(7,ptr b7),(8,.int .i64 (j:Int))]) (fun _=>[jU b6 (ptC ⟨.slice aa q.hv.length ca,.slice ab q.da.length cb,q⟩) 173,jU b7 (ptC ⟨.slice aa' q.hv.length ca',.slice ab' q.da.length cb',q⟩) 173]) (fun j=>q.hv.length-j) 0 (Nat.zero_le _) ⟨I,I,I,I,I,I,trivial⟩ Ent.refl ?_
 rintro j hj2 ih2
 have hj2:j≤q.hv.length:=hj2
 repeat' (first|refine zh ?_|refine HL.j4 (Rd.arg hh) I I I ?_|intro (bk:Nat))
 refine HR.cond I (fun h4=>?_) (fun h4=>?_)
 rotate_left
 ·repeat' (first|refine zh ?_|intro (bk:Nat))
  exact ih (k+1) _ _ hlt (by show La.length-(k+1)<La.length-k;omega) ⟨I,I,I,trivial⟩ (Ent.pick [] I I)
 have hjl:j<q.hv.length:=by have:(j:Int)<(q.hv.length:Int):=of_decide_eq_true h4;omega
 obtain ⟨b,hbj⟩:=jH hjl
 repeat' (first|refine zh ?_|intro (bk:Nat))
 refine HR.jo JZ (by kernel_rfl) ?_
 repeat' (first|refine zq ?_|refine HQ.jw (Rd.arg hh) jAR j I I I I hjl ?_|refine HQ.jY (Rd.arg hh) I I I I (jV hbj) ?_|refine HQ.jw (Rd.arg hh') jAR j I I I I hjl ?_|refine HQ.jY (Rd.arg hh') I I I I (jV hbj) ?_|apply zb ?_ ?_|exact zc|(refine zi fun hb=>?_;try simp at hb))
 refine HR.cond I (fun h5=>?_) (fun h5=>?_)
 ·cases b<;>cases h5
 repeat' (first|refine zh ?_|intro (bk:Nat))
 exact ih2 (j+1) _ _ hjl (by show q.hv.length-(j+1)<q.hv.length-j;omega) ⟨I,I,I,I,I,I,trivial⟩ Ent.refl
theorem jE3 (Va Vb:NV) (n:Nd) (w:World) (ha:OkN w Va n) (hc:OkN w Vb n) (hs:SmN n):
  Calls Tryz.prog 38 #[.agg ⟨ndC Va n⟩,.agg ⟨ndC Vb n⟩] w fun e w'=>e= .returned (.bool true)∧Below w.heap.size w w':=by
 have t1:=hs.ta
 have t2:=hs.li
 have t3:=hs.ou
 have t4:=hs.ch
 have t5:=hs.bo
 have t6:=hs.se
 have t7:=hs.ib
 refine jB Tryz.func38 I (Nat.le_of_ble_eq_true I) ?_
 refine HR.sub (σ':=[(0,.agg ⟨ndC Va n⟩),(1,.agg ⟨ndC Vb n⟩)]) ⟨I,I,trivial⟩ ?_
 repeat' (first|refine zh ?_|refine HL.jN fn71 I I (fun w1 hw1=>jE4 n.table n.table _ _ w1 ((Rd.arg ha.ta).at hw1) ((Rd.arg hc.ta).at hw1) (by omega)) ?_|refine HL.jN fn72 I I (fun w1 hw1=>jJi n.links n.links _ _ w1 ((Rd.arg ha.li).at hw1) ((Rd.arg hc.li).at hw1) (by omega)) ?_|refine HL.jN fn73 I I (fun w1 hw1=>jJf n.out n.out _ _ w1 ((Rd.arg ha.ou).at hw1) ((Rd.arg hc.ou).at hw1) (by omega)) ?_|refine HL.jN fn19 I I (fun w1 hw1=>jCB n.children n.children _ _ w1 ((Rd.arg ha.ch).at hw1) ((Rd.arg hc.ch).at hw1) (by omega)) ?_|refine HL.jN fn74 I I (fun w1 hw1=>jJh n.boxes n.boxes _ _ w1 ((Rd.arg ha.bo).at hw1) ((Rd.arg hc.bo).at hw1) (by omega)) ?_|refine HL.jN fn75 I I (fun w1 hw1=>jJg n.seen n.seen _ _ w1 ((Rd.arg ha.se).at hw1) ((Rd.arg hc.se).at hw1) (by omega)) ?_|refine HL.jN fn76 I I (fun w1 hw1=>jD5 Va.ps Vb.ps _ _ w1 (ha.pa.ext hw1.jE) (hc.pa.ext hw1.jE) (ha.eq.trans hc.eq.symm) (fun p hp=>hs.sm p.pt (by rw[← ha.eq];exact List.mem_map.2 ⟨p,hp,rfl⟩)) (by rw[← JF,ha.eq];exact hs.pa)) ?_|refine HL.jN fn28 I I (fun w1 hw1=>jBS n.inbox n.inbox _ _ w1 ((Rd.arg ha.ib).at hw1) ((Rd.arg hc.ib).at hw1) (by omega)) ?_|apply zb ?_ ?_|exact zc|(refine zi fun hb=>?_;try simp at hb)|intro (bk:Nat))
 refine HR.ret Tryz.func38 I [_] (fun _ _=>⟨I,trivial⟩) ?_
 exact fun w' hw=>⟨by simp[Zv],hw.jE⟩
theorem jA8 (t:Int) (va vb:Value) (xs ys:List (NV×Nd)) (w:World) (ha:OkL w va xs) (hc:OkL w vb ys) (he:nds xs=nds ys) (hs:∀x∈xs,SmN x.2) (hl:xs.length≤1000):
  Calls Tryz.prog 12 #[meV t va,meV t vb] w fun e w'=>e= .returned (.bool true)∧Below w.heap.size w w':=by
 have hlen:ys.length=xs.length:=by rw[← JQ,← he,JQ]
 refine jB Tryz.func12 I (Nat.le_of_ble_eq_true I) ?_
 refine HR.sub (σ':=[(0,meV t va),(1,meV t vb)]) ⟨I,I,trivial⟩ ?_
 refine HR.ctl I ?_
 refine HR.region ?_
 refine HL.box I I ?_
 intro b2
 refine HL.box I I ?_
 intro b3
 repeat' (first|refine zh ?_|refine HL.j4 (Rd.arg ha.s) I I I ?_|refine HL.j4 (Rd.arg hc.s) I I I ?_|apply zb ?_ ?_|exact zc|(refine zi fun hb=>?_;try simp at hb)|intro (bk:Nat))
 refine HR.cond I (fun h1=>?_) (fun h1=>?_)
 ·rw [hlen]at h1;simp at h1
 repeat' (first|refine zh ?_|intro (bk:Nat))
 refine HR.loop (ι:=Nat) (fun k=>k≤xs.length) (fun k=>[(2,ptr b2),(3,ptr b3),(5,.int .i64 (k:Int))]) (fun _=>[jU b3 (meC t vb) 26,jU b2 (meC t va) 26]) (fun k=>xs.length-k) 0 (Nat.zero_le _) ⟨I,I,I,trivial⟩ Ent.refl ?_
 rintro k hk ih
 have hk:k≤xs.length:=hk
 repeat' (first|refine zh ?_|refine HL.j4 (Rd.arg ha.s) I I I ?_|intro (bk:Nat))
 refine HR.cond I (fun h2=>?_) (fun h2=>?_)
 rotate_left
 ·repeat' (first|refine zh ?_|intro (bk:Nat))
  refine HR.ret Tryz.func12 I [_] (fun _ _=>⟨I,trivial⟩) ?_
  exact fun w' hw=>⟨rfl,hw.jE⟩
 have hlt:k<xs.length:=by have:(k:Int)<(xs.length:Int):=of_decide_eq_true h2;omega
 obtain ⟨⟨V,n⟩,hx⟩:=jH hlt
 obtain ⟨⟨W,m⟩,hy⟩:=jH (show k<ys.length by omega)
 have hnm:m=n:=by
  have e1:=kU hx
  have e2:=kU hy
  rw[he,e2]at e1
  exact Option.some.inj e1
 subst hnm
 have hV:OkN w V m:=ha.r _ (List.mem_of_getElem? hx)
 have hW:OkN w W m:=hc.r _ (List.mem_of_getElem? hy)
 have hsn:SmN m:=hs _ (List.mem_of_getElem? hx)
 repeat' (first|refine zh ?_|intro (bk:Nat))
 refine HR.j3 [(0,true),(1,true),(2,true),(3,true),(4,true),(5,true),(6,true),(7,true),(8,true),(9,true),(10,false),(11,true)] [0,1] I I JZ (by kernel_rfl) ?_
 repeat' (first|refine zd ?_|refine HD.jw (Rd.arg ha.s) JV k I I I I I hlt ?_|refine HD.JB (us:=ndC V m) (Rd.arg ha.s) I I I I I (by simp) I (jF jZ hx) ?_|refine HD.jw (Rd.arg hc.s) JV k I I I I I (by omega) ?_|refine HD.JB (us:=ndC W m) (Rd.arg hc.s) I I I I I (by simp) I (jF jZ hy) ?_)
 refine HD.one I ?_
 refine HL.jN (r:= .bool true) fn38 I I (fun w1 hw1=>jE3 V W m w1 (hV.ext hw1.jE) (hW.ext hw1.jE) hsn) ?_
 refine HL.back [0,1] I I ?_
 repeat' (first|refine zd ?_|fail)
 refine HD.nil ?_
 repeat' (first|refine zh ?_|intro (bk:Nat))
 exact ih (k+1) _ _ hlt (by show xs.length-(k+1)<xs.length-k;omega) ⟨I,I,I,trivial⟩ Ent.refl
end Go.Proofs.YtgfdoognildoeaaGreat
namespace Go.Proofs.YtgfdoognildoeaaGreat
open Go.GX Go.RowKit
attribute [local irreducible] Calls Run jg jh JU HR HL HD jU jK Jc Rd jL jd
open Nd
theorem fn64:IsFn Tryz.prog 64:=⟨⟨_,_,Tryz.func64,rfl,by decide⟩⟩
theorem fn65:IsFn Tryz.prog 65:=⟨⟨_,_,Tryz.func65,rfl,by decide⟩⟩
theorem jM5:IsFn Tryz.prog 34:=⟨⟨_,_,Tryz.func34,rfl,by decide⟩⟩
theorem jRh:IsFn Tryz.prog 55:=⟨⟨_,_,Tryz.func55,rfl,by decide⟩⟩
theorem fn149:IsFn Tryz.prog 149:=⟨⟨_,_,Tryz.func149,rfl,by decide⟩⟩
theorem fn78:IsFn Tryz.prog 78:=⟨⟨_,_,Tryz.func78,rfl,by decide⟩⟩
theorem jFn (l:List (NV×Nd)) (p:NV×Nd→Bool) (g:FuncId) (caps:List Value) (v:Value) (w:World) (hg:IsFn Tryz.prog g) (hp:jQN Tryz.prog g caps (fun a=> .agg ⟨zR a⟩) p l w) (hv:Sl w v (cellsOf zR l) l.length) (hl:l.length≤1000000):
  Calls Tryz.prog 64 #[v,.func (.func g) #[] caps.toArray] w fun e w'=>e= .returned (.int .i64 (fidx p l))∧Below w.heap.size w w':=by
 refine jB Tryz.func64 I (Nat.le_of_ble_eq_true I) ?_
 refine HR.sub (σ':=[(0,v),(1,.func (.func g) #[] caps.toArray)]) ⟨I,I,trivial⟩ ?_
 repeat' (first|refine zh ?_|refine HL.j4 (Rd.arg hv) I I I ?_|intro (bk:Nat))
 refine HR.loop (ι:=Nat) (fun k=>k≤l.length∧∀j b,j<k→l[j]? =some b→p b=false) (fun k=>[(0,v),(1,.func (.func g) #[] caps.toArray),(7,.int .i64 (l.length:Int)),(8,.int .i64 (k:Int))]) (fun _=>[]) (fun k=>l.length-k) 0 ⟨Nat.zero_le _,fun j b hj=>absurd hj (Nat.not_lt_zero _)⟩ ⟨I,I,I,I,trivial⟩ Ent.refl ?_
 rintro k ⟨hk,hno⟩ ih
 repeat' (first|refine zh ?_|intro (bk:Nat))
 refine HR.cond I (fun h2=>?_) (fun h2=>?_)
 ·have hlt:k<l.length:=by have:=of_decide_eq_true h2;omega
  obtain ⟨x,hx⟩:=jH hlt
  repeat' (first|refine zh ?_|refine HL.jw (Rd.arg hv) JV k I I I I hlt ?_|refine HL.JB (Rd.arg hv) I I I I (by simp) I (jF jZ hx) ?_|refine HL.jEi (caps:=caps) hg I I I (fun w' hw=>hp x (List.mem_of_getElem? hx) w' hw.jE) ?_|intro (bk:Nat))
  refine HR.cond I (fun h3=>?_) (fun h3=>?_)
  ·have h3:p x=true:=h3
   repeat' (first|refine zh ?_|intro (bk:Nat))
   refine HR.ret Tryz.func64 I [_] (fun _ _=>⟨I,trivial⟩) ?_
   rw[Zq hx h3 hno]
   exact fun w' hw=>⟨rfl,hw.jE⟩
  ·have h3:p x=false:=h3
   repeat' (first|refine zh ?_|intro (bk:Nat))
   refine ih (k+1) _ _ ⟨hlt,fun j b hj hb=>?_⟩ (by omega) ⟨I,I,I,I,trivial⟩ Ent.refl
   by_cases e:j=k
   ·subst e;rw[hx]at hb;cases hb;exact h3
   ·exact hno j b (by omega) hb
 ·have hke:k=l.length:=by have:=of_decide_eq_false h2;omega
  subst hke
  rw[zK hno]
  repeat' (first|refine zh ?_|intro (bk:Nat))
  refine HR.ret Tryz.func64 I [_] (fun _ _=>⟨I,trivial⟩) ?_
  exact fun w' hw=>⟨rfl,hw.jE⟩
theorem jHC (bt:Nat) (k:Int) (x:NV×Nd) (w:World) (hb:Sl w (.slice (some ⟨bt,0,none⟩) 1 1) [.int .i64 k] 1):Calls Tryz.prog 65 #[.agg ⟨zR x⟩,.pointer (some ⟨bt,0,none⟩)] w fun e w'=>e= .returned (.bool (x.2.addr==k))∧Below w.heap.size w w':=by
 refine jB Tryz.func65 I (Nat.le_of_ble_eq_true I) ?_
 refine HR.sub (σ':=[(0,.agg ⟨zR x⟩),(1,.pointer (some ⟨bt,0,none⟩))]) ⟨I,I,trivial⟩ ?_
 repeat' (first|refine zh ?_|refine HL.jY (j:=0) (Rd.arg hb) I I I I I ?_|intro (bk:Nat))
 refine HR.ret Tryz.func65 I [_] (fun _ _=>⟨I,trivial⟩) ?_
 exact fun w' hw=>⟨rfl,hw.jE⟩
theorem Jq (xs:List (NV×Nd)) (a:Int) (v:Value) (w:World) (h:Sl w v (cellsOf zR xs) xs.length) (hl:xs.length≤1000000):
  Calls Tryz.prog 34 #[v,.int .i64 a] w fun e w'=>e= .returned (.int .i64 (jMq (nds xs) a))∧Below w.heap.size w w':=by
 rw[jFq]
 refine jB Tryz.func34 I (Nat.le_of_ble_eq_true I) ?_
 refine HR.sub (σ':=[(0,v),(1,.int .i64 a)]) ⟨I,I,trivial⟩ ?_
 repeat' (first|refine zh ?_|refine HL.mkF (g:=65) (caps:=[_]) I I ?_|refine HL.jN fn64 I I (fun w1 hw1=>jFn xs (fun x=>x.2.addr==a) 65 [.pointer (some ⟨bk,0,none⟩)] v w1 fn65 (fun x hx w2 hb=>jHC bk a x w2 (((Rd.blk (n:=1) 0 rfl).at hw1).ext hb)) ((Rd.arg h).at hw1) hl) ?_|intro (bk:Nat))
 refine HR.ret Tryz.func34 I [_] (fun _ _=>⟨I,trivial⟩) ?_
 exact fun w' hw=>⟨rfl,hw.jE⟩
theorem Z6 (xs:List (NV×Nd)) (t a:Int) (v:Value) (w:World) (h:Sl w v (cellsOf zR xs) xs.length) (hl:xs.length≤1000000):
  Calls Tryz.prog 55 #[meV t v,.int .i64 a] w fun e w'=>e= .returned (.int .i64 (jMq (nds xs) a))∧Below w.heap.size w w':=by
 rw[jFq]
 have cx:(cellsOf zR xs).length=xs.length*13:=jC jZ _
 refine jB Tryz.func55 I (Nat.le_of_ble_eq_true I) ?_
 refine HR.sub (σ':=[(0,meV t v),(1,.int .i64 a)]) ⟨I,I,trivial⟩ ?_
 repeat' (first|refine zh ?_|intro (bk:Nat))
 refine HR.loop (ι:=Nat) (fun k=>k≤xs.length∧∀j b,j<k→xs[j]? =some b→(b.2.addr==a)=false) (fun k=>[(1,.int .i64 a),(2,ptr bk),(5,.int .i64 (k:Int))]) (fun _=>[jU bk (meC t v) 26]) (fun k=>xs.length-k) 0 ⟨Nat.zero_le _,fun j b hj=>absurd hj (Nat.not_lt_zero _)⟩ ⟨I,I,I,trivial⟩ Ent.refl ?_
 rintro k ⟨hk,hno⟩ ih
 repeat' (first|refine zh ?_|refine HL.j4 (Rd.arg h) I I I ?_|intro (bk:Nat))
 refine HR.cond I (fun h2=>?_) (fun h2=>?_)
 ·have hlt:k<xs.length:=by have:=of_decide_eq_true h2;omega
  obtain ⟨x,hx⟩:=jH hlt
  repeat' (first|refine zh ?_|refine HL.jw (Rd.arg h) JV k I I I I hlt ?_|refine HL.JL 0 (Rd.arg h) (by rw[cx];omega) I I I I I I I ?_|refine HL.jY (Rd.arg h) I I I I (jR jZ hx (i:=0) I) ?_|intro (bk:Nat))
  refine HR.cond I (fun h3=>?_) (fun h3=>?_)
  ·have h3:(x.2.addr==a)=true:=h3
   repeat' (first|refine zh ?_|intro (bk:Nat))
   refine HR.ret Tryz.func55 I [_] (fun _ _=>⟨I,trivial⟩) ?_
   rw[Zq hx h3 hno]
   exact fun w' hw=>⟨rfl,hw.jE⟩
  ·have h3:(x.2.addr==a)=false:=h3
   repeat' (first|refine zh ?_|intro (bk:Nat))
   refine ih (k+1) _ _ ⟨hlt,fun j b hj hb=>?_⟩ (by omega) ⟨I,I,I,trivial⟩ Ent.refl
   by_cases e:j=k
   ·subst e;rw[hx]at hb;cases hb;exact h3
   ·exact hno j b (by omega) hb
 ·have hke:k=xs.length:=by have:=of_decide_eq_false h2;omega
  subst hke
  rw[zK hno]
  repeat' (first|refine zh ?_|intro (bk:Nat))
  refine HR.ret Tryz.func55 I [_] (fun _ _=>⟨I,trivial⟩) ?_
  exact fun w' hw=>⟨rfl,hw.jE⟩
theorem drop_at {α:Type} {l m:List α} {k:Nat} {x:α} (h:l.drop k=m.drop k) (hx:m[k]? =some x):l[k]? =some x:=by
 have e:(l.drop k)[0]? =(m.drop k)[0]? :=by rw[h]
 rw[List.getElem?_drop,List.getElem?_drop,Nat.add_zero,hx]at e
 exact e
theorem jC4 (L:List PtV) (v:Value) (w:World) (hv:RdPts w v L) (hs:∀p∈L,jBj p.pt) (hl:L.length≤1000):
  Calls Tryz.prog 149 #[v] w fun e w'=>∃x:Value×List PtV,e= .returned x.1∧jEm x (pts L)∧Sat (base w) (jGy x) w':=by
 have hsh:∀p∈L,jBN p:=fun p hp=>(hv.r p hp).sh
 have cL:(cellsOf ptC L).length=L.length*6:=jC JX _
 refine jB Tryz.func149 I (Nat.le_of_ble_eq_true I) ?_
 refine HR.sub (σ':=[(0,v)]) ⟨I,trivial⟩ ?_
 repeat' (first|refine zh ?_|refine HL.JN fn204 I I (fun w1 hw1=>jHW L v w1 ((Rd.arg hv.s).at hw1) hsh hl) ?_|intro (bk:Nat))
 intro v1
 repeat' (first|refine zh ?_|refine HL.j4 (Rd.own 0 I) I I I ?_|intro (bk:Nat))
 refine HR.Kc (α:=Nat) (β:=List PtV) (fun k M=>k≤L.length∧pts M=pts L∧M.drop k=L.drop k∧∀p∈M,jBN p) (fun k M=>[(0,v),(3,v1),(8,.int .i64 (L.length:Int)),(9,.int .i64 (k:Int))]) (fun k M=>[jK v1 173 6 M.length (cellsOf ptC M),jD (ptG (M.take k))]) (fun k _=>L.length-k) 0 L ⟨Nat.zero_le _,rfl,rfl,hsh⟩ ⟨I,I,I,I,trivial⟩ (Ent.trans Ent.jKt (Ent.pick [1,0] I I)) ?_
 rintro k M ⟨hk,hpM,hdr,hshM⟩ ih
 have hk:k≤L.length:=hk
 have hML:M.length=L.length:=by rw[← JF,hpM,JF]
 have cM:(cellsOf ptC M).length=M.length*6:=jC JX _
 repeat' (first|refine zh ?_|intro (bk:Nat))
 refine HR.cond I (fun h2=>?_) (fun h2=>?_)
 ·have hlt:k<L.length:=by have:(k:Int)<(L.length:Int):=of_decide_eq_true h2;omega
  obtain ⟨p,hp⟩:=jH hlt
  have hpm:=drop_at hdr hp
  have hrp:=hv.r p (List.mem_of_getElem? hp)
  have hsp:=hs p (List.mem_of_getElem? hp)
  obtain ⟨aa,na,ca,ab,nb,cb,ex⟩:=hrp.sh.lit
  obtain ⟨q,hq⟩:∃q,q=p.pt:=⟨_,rfl⟩
  rw[← hq]at ex hsp
  subst ex
  have hh:Sl w (.slice aa na ca) (cellsOf bC q.hv) q.hv.length:=hrp.h
  have hd:Sl w (.slice ab nb cb) (cellsOf sC q.da) q.da.length:=hrp.d
  have hs1:q.hv.length≤140737488355328:=hsp.1
  have hs2:q.da.length≤8796093022208:=hsp.2.1
  repeat' (first|refine zh ?_|refine HL.jw (Rd.arg hv.s) JR k I I I I hlt ?_|refine HL.JL 4 (Rd.arg hv.s) (by rw[cL];omega) I I I I I I I ?_|refine HL.jY (Rd.arg hv.s) I I I I (jR JX hp (i:=4) I) ?_|refine HL.JN jSm I I (fun w1 hw1=>jDs q.hv _ w1 ((Rd.arg hh).at hw1) hs1) ?_|intro (bk:Nat))
  intro u1
  refine HL.shape 0 I fun a1 c1 hu=>?_
  subst hu
  repeat' (first|refine zh ?_|refine HL.jw (Rd.own 1 I) JR k I I I I (by omega) ?_|refine HL.JL 4 (Rd.own 1 I) (by rw[cM];omega) I I I I I I I ?_|refine HL.KD (j:=k*6+4) 1 I I I I I I I (by rw[cM];omega) ?_|intro (bk:Nat))
  obtain ⟨M1,hM1⟩:∃M1,M1=M.set k ⟨.slice a1 q.hv.length c1,.slice ab nb cb,q⟩:=⟨_,rfl⟩
  have hg1:M1[k]? =some ⟨.slice a1 q.hv.length c1,.slice ab nb cb,q⟩:=by rw[hM1];simp[hML,hlt]
  have hl1:M1.length=M.length:=by rw[hM1];exact List.length_set
  have cM1:(cellsOf ptC M1).length=M1.length*6:=jC JX _
  refine HL.ent (H':=[jK v1 173 6 M1.length (cellsOf ptC M1),jK (.slice a1 q.hv.length c1) 4 1 q.hv.length (cellsOf bC q.hv),jD (ptG (M.take k))]) (Ent.trans (Ent.pick [1,0,2] I I) (Ent.JM hl1.symm (by rw[hM1];exact J2 (i:=4) JX hpm I (by decide)))) ?_
  repeat' (first|refine zh ?_|refine HL.jw (Rd.arg hv.s) JR k I I I I hlt ?_|refine HL.JL 5 (Rd.arg hv.s) (by rw[cL];omega) I I I I I I I ?_|refine HL.jY (Rd.arg hv.s) I I I I (jR JX hp (i:=5) I) ?_|refine HL.JN jSk I I (fun w1 hw1=>jDr q.da _ w1 ((Rd.arg hd).at hw1) hs2) ?_|intro (bk:Nat))
  intro u2
  refine HL.shape 0 I fun a2 c2 hu=>?_
  subst hu
  repeat' (first|refine zh ?_|refine HL.jw (Rd.own 1 I) JR k I I I I (by omega) ?_|refine HL.JL 5 (Rd.own 1 I) (by rw[cM1];omega) I I I I I I I ?_|refine HL.KD (j:=k*6+5) 1 I I I I I I I (by rw[cM1];omega) ?_|intro (bk:Nat))
  obtain ⟨Q,hQ⟩:∃Q:PtV,Q=⟨.slice a1 q.hv.length c1,.slice a2 q.da.length c2,q⟩:=⟨_,rfl⟩
  have hms:M1.set k Q=M.set k Q:=by rw[hM1,List.set_set]
  have htk:(M.set k Q).take (k+1)=M.take k++[Q]:=by
   rw[jG (show (M.set k Q)[k]? =some Q by simp[hML,hlt]),List.take_set_of_le (Nat.le_refl k)]
  refine ih (k+1) (M.set k Q) _ _ ⟨hlt,?_,?_,?_⟩ (by show L.length-(k+1)<L.length-k;omega) ⟨I,I,I,I,trivial⟩ ?_
  ·unfold pts
   rw[List.map_set,hQ]
   show (pts M).set k q=pts L
   have hqk:(pts M)[k]? =some q:=Zo hpm
   rw[jD2 hqk];exact hpM
  ·rw [List.drop_set_of_lt (Nat.lt_succ_self k)]
   have:=congrArg (List.drop 1) hdr
   rwa[List.drop_drop,List.drop_drop]at this
  ·intro x hx
   rcases List.mem_or_eq_of_mem_set hx with hx|rfl
   ·exact hshM x hx
   ·rw [hQ];exact ⟨⟨_,_,_,rfl⟩,⟨_,_,_,rfl⟩⟩
  ·show Ent _ _ [jK v1 173 6 (M.set k Q).length (cellsOf ptC (M.set k Q)),jD (ptG ((M.set k Q).take (k+1)))]
   rw[htk,kP,jCG,hQ]
   refine Ent.trans (Ent.pick (H':=[ptH ⟨.slice a1 q.hv.length c1,.slice a2 q.da.length c2,q⟩,ptD ⟨.slice a1 q.hv.length c1,.slice a2 q.da.length c2,q⟩,jD (ptG (M.take k)),_]) [2,0,3,1] I I) (Ent.trans (Ent.group (G:=[ptH _,ptD _])) (Ent.trans Ent.jM0 (Ent.trans (Ent.pick [1,0] I I) (Ent.JM (by rw[hl1,List.length_set]) ?_))))
   rw[← hQ,← hms,hQ]
   exact J2 (i:=5) JX hg1 I (by decide)
 ·have hke:k=L.length:=by have:¬(k:Int)<(L.length:Int):=of_decide_eq_false h2;omega
  subst hke
  repeat' (first|refine zh ?_|intro (bk:Nat))
  refine HR.ret Tryz.func149 I [_] (fun _ _=>⟨I,trivial⟩) ?_
  refine fun w' hw=>⟨(v1,M),rfl,⟨hpM,hshM⟩,?_⟩
  rw[← hML,List.take_length]at hw
  exact hw
theorem jDY (V:NV) (n:Nd) (w:World) (h:OkN w V n) (hs:SmN n):
  Calls Tryz.prog 78 #[.agg ⟨ndC V n⟩] w fun e w'=>∃x:NV×List Chunk,e= .returned (.agg ⟨ndC x.1 n⟩)∧Own x.1 x.2 n∧Sat (base w) [jD x.2] w':=by
 refine jB Tryz.func78 I (Nat.le_of_ble_eq_true I) ?_
 refine HR.sub (σ':=[(0,.agg ⟨ndC V n⟩)]) ⟨I,trivial⟩ ?_
 repeat' (first|refine zh ?_|refine HL.JN fn61 I I (fun w1 hw1=>KC n.table _ w1 ((Rd.arg h.ta).at hw1) hs.ta) ?_|intro (bk:Nat))
 intro v1
 refine HL.shape 0 I fun a1 c1 hv=>?_
 subst hv
 repeat' (first|refine zh ?_|refine HL.JN jSo I I (fun w1 hw1=>jCg n.links _ w1 ((Rd.arg h.li).at hw1) hs.li) ?_|intro (bk:Nat))
 intro v2
 refine HL.shape 0 I fun a2 c2 hv=>?_
 subst hv
 repeat' (first|refine zh ?_|refine HL.JN jPh I I (fun w1 hw1=>KA n.out _ w1 ((Rd.arg h.ou).at hw1) hs.ou) ?_|intro (bk:Nat))
 intro v3
 refine HL.shape 0 I fun a3 c3 hv=>?_
 subst hv
 repeat' (first|refine zh ?_|refine HL.JN fn148 I I (fun w1 hw1=>jKf n.children _ w1 ((Rd.arg h.ch).at hw1) hs.ch) ?_|intro (bk:Nat))
 intro v4
 refine HL.shape 0 I fun a4 c4 hv=>?_
 subst hv
 repeat' (first|refine zh ?_|refine HL.JN jRC I I (fun w1 hw1=>jAU n.boxes _ w1 ((Rd.arg h.bo).at hw1) hs.bo) ?_|intro (bk:Nat))
 intro v5
 refine HL.shape 0 I fun a5 c5 hv=>?_
 subst hv
 refine HL.ent (Ent.pick [6,0,1,2,3,4,5] I I) ?_
 repeat' (first|refine zh ?_|refine HL.JN jRA I I (fun w1 hw1=>jAT n.seen _ w1 ((Rd.arg h.se).at hw1) hs.se) ?_|intro (bk:Nat))
 intro v6
 refine HL.shape 0 I fun a6 c6 hv=>?_
 subst hv
 repeat' (first|refine zh ?_|intro (bk:Nat))
 refine HL.JD (r:=fun x:Value×List PtV=>x.1) (Q:=fun x=>jEm x (pts V.ps)) (G:=fun x=>jGy x) fn149 I I (fun w1 hw1=>jC4 V.ps _ w1 (h.pa.ext hw1.jE) (fun p hp=>hs.sm p.pt (by rw[← h.eq];exact List.mem_map.2 ⟨p,hp,rfl⟩)) (by rw[← JF,h.eq];exact hs.pa)) ?_
 rintro ⟨v7,L7⟩ ⟨hp7,hsh7⟩
 have hp7:pts L7=pts V.ps:=hp7
 refine HL.ent (H':=jK v7 173 6 L7.length (cellsOf ptC L7)::jD (ptG L7)::_) Ent.refl ?_
 refine HL.shape 0 I fun a7 c7 hv=>?_
 subst hv
 repeat' (first|refine zh ?_|refine HL.JN fn59 I I (fun w1 hw1=>jAV n.inbox _ w1 ((Rd.arg h.ib).at hw1) hs.ib) ?_|intro (bk:Nat))
 intro v8
 refine HL.shape 0 I fun a8 c8 hv=>?_
 subst hv
 refine HL.ent (Ent.pick [10,4,0,1,2,3,5,6,7,8,9] I I) ?_
 repeat' (first|refine zh ?_|intro (bk:Nat))
 refine HR.ret Tryz.func78 I [_] (fun w hw=>⟨⟨_,rfl,jP hw 0 I I I I rfl⟩,trivial⟩) ?_
 refine fun w' hw=>⟨(⟨(a1,c1),(a2,c2),(a3,c3),(a4,c4),(a5,c5),(a6,c6),(a7,c7),(a8,c8),L7⟩,ndH ⟨(a1,c1),(a2,c2),(a3,c3),(a4,c4),(a5,c5),(a6,c6),(a7,c7),(a8,c8),L7⟩ n),rfl,Pts.own ⟨by rw[← h.eq];exact hp7,hsh7⟩,KS (hw.pick [10,9,8,7,6,5,3,4,2] I rfl)⟩
end Go.Proofs.YtgfdoognildoeaaGreat
