/- Part of a proof. Conditions: none. -/
import Derived.Test.YtgfdoognildoeaaGreatSB10
set_option linter.unusedVariables false
set_option linter.unusedSectionVars false
set_option linter.unusedSimpArgs false
set_option maxRecDepth 100000
set_option maxHeartbeats 4000000
namespace Go.Proofs.YtgfdoognildoeaaGreat
open Go.GX Go.RowKit
attribute [local irreducible] Calls Run JH JL zU HR HL HD jS jM ZN Rd jg Jf
open Nd
theorem jGz {f:Fr} (k1:((f.kd==1)||(f.kd==4))=true) (k3:(f.kd==3)=false):jAQ f=(((f.fr != f.dst)&&(f.dst==255))&&(f.ta==255)):=by
 unfold jAQ;rw[k1,k3];simp[bne,Bool.and_assoc]
theorem jLT {f:Fr} (k1:((f.kd==1)||(f.kd==4))=false) (k3:(f.kd==3)=true):jAQ f=(((f.fr != f.dst)&&decide (f.da=[]))&&(f.dst != 255)):=by
 unfold jAQ;rw[k1,k3];simp[bne,Bool.and_assoc]
theorem jLU {f:Fr} (k1:((f.kd==1)||(f.kd==4))=false) (k3:(f.kd==3)=false):jAQ f=(f.fr != f.dst):=by
 unfold jAQ;rw[k1,k3];simp[bne]
theorem Kq (f:Fr):Kr f=((((!Tp.okN f.fr||!Tp.okN f.so)||!okT f.dst)||!okT f.ta)||(((decide (f.sq<0)||decide (f.sq>65535))||decide (f.hp<0))||decide (f.hp>15))):=by
 unfold Kr;simp only[Bool.or_assoc]
theorem jDG {f:Fr} (h1:¬(f.kd<1\/f.kd>4)) (h2:Kr f=false) (h3:¬f.da.length>109) (h4:jAQ f=false):Kv f=4:=by
 unfold Kv;rw[if_neg h1,if_neg (by rw[h2];decide),if_neg h3,if_pos h4]
theorem jG2 {f:Fr} (h1:¬(f.kd<1\/f.kd>4)) (h2:Kr f=false) (h3:¬f.da.length>109) (h4:jAQ f=true):Kv f=0:=by
 unfold Kv;rw[if_neg h1,if_neg (by rw[h2];decide),if_neg h3,if_neg (by rw[h4];decide)]
theorem jLV (f:Fr) (w:World) (hd:f.da.length<=9223372036854775807):Calls Tryz.prog 162 #[.agg ⟨frC f⟩] w fun e w'=>e= .returned (.int .i64 (Kv f))/\Below w.heap.size w w':=by
 refine zE Tryz.func162 I [(0,.agg ⟨frC f⟩)] ?_
 repeat' (first|refine zh ?_|apply zb ?_ ?_|exact zc|(refine zi fun hb=>?_;try simp at hb)|intro (bk:Nat))
 refine HR.cond I (fun h=>?_) (fun h=>?_)
 ·have h:(decide (f.kd<1)||decide (f.kd>4))=true:=h;simp only[Bool.or_eq_true,decide_eq_true_eq]at h;refine zh ?_;refine HR.ret Tryz.func162 I [_] (fun _ _=>⟨I,trivial⟩) ?_
  exact fun w' hw=>⟨by rw[Kv,if_pos h];rfl,hw.jF⟩
 have h:(decide (f.kd<1)||decide (f.kd>4))=false:=h;have hk:¬(f.kd<1\/f.kd>4):=by simp only[Bool.or_eq_false_iff,decide_eq_false_iff_not]at h;omega
 repeat' (first|refine zh ?_|refine qB jSz I I (fun w _=>jGv _ w) ?_|refine qB fn215 I I (fun w _=>jKQ _ w) ?_|apply zb ?_ ?_|exact zc|(refine zi fun hb=>?_;try simp at hb)|fail)
 refine HR.cond I (fun h2=>?_) (fun h2=>?_)
 ·have h2:Kr f=true:=h2;refine zh ?_;refine HR.ret Tryz.func162 I [_] (fun _ _=>⟨I,trivial⟩) ?_
  exact fun w' hw=>⟨by rw[Kv,if_neg hk,if_pos h2];rfl,hw.jF⟩
 have h2:Kr f=false:=h2;refine zh ?_;refine HR.cond I (fun h3=>?_) (fun h3=>?_)
 ·have h3:f.da.length>109:=by have:=of_decide_eq_true h3;omega
  refine zh ?_;refine HR.ret Tryz.func162 I [_] (fun _ _=>⟨I,trivial⟩) ?_
  exact fun w' hw=>⟨by rw[Kv,if_neg hk,if_neg (by rw[h2];decide),if_pos h3];rfl,hw.jF⟩
 have h3:¬f.da.length>109:=by have:=of_decide_eq_false h3;omega
 refine zh ?_;refine HR.cond I (fun h4=>?_) (fun h4=>?_)
 ·have h4:(f.kd==1)=true:=h4;have e:f.kd=1:=by simpa using h4
  have hf:=jGz (f:=f) (by simp[e]) (by simp[e])
  repeat' (first|refine zh ?_|apply zb ?_ ?_|exact zc|(refine zi fun hb=>?_;try simp at hb)|fail)
  refine HR.cond I (fun h5=>?_) (fun h5=>?_)
  ·have h5:(!(((f.fr != f.dst)&&(f.dst==255))&&(f.ta==255)))=true:=h5;rw[<- hf]at h5;refine zh ?_;refine HR.ret Tryz.func162 I [_] (fun _ _=>⟨I,trivial⟩) ?_
   exact fun w' hw=>⟨by rw[jDG hk h2 h3 (by simpa using h5)];rfl,hw.jF⟩
  ·have h5:(!(((f.fr != f.dst)&&(f.dst==255))&&(f.ta==255)))=false:=h5;rw[<- hf]at h5;refine zh ?_;refine HR.ret Tryz.func162 I [_] (fun _ _=>⟨I,trivial⟩) ?_
   exact fun w' hw=>⟨by rw[jG2 hk h2 h3 (by simpa using h5)];rfl,hw.jF⟩
 have h4:(f.kd==1)=false:=h4;refine zh ?_;refine HR.cond I (fun h6=>?_) (fun h6=>?_)
 ·have h6:(f.kd==4)=true:=h6;have e:f.kd=4:=by simpa using h6
  have hf:=jGz (f:=f) (by simp[e]) (by simp[e])
  repeat' (first|refine zh ?_|apply zb ?_ ?_|exact zc|(refine zi fun hb=>?_;try simp at hb)|fail)
  refine HR.cond I (fun h5=>?_) (fun h5=>?_)
  ·have h5:(!(((f.fr != f.dst)&&(f.dst==255))&&(f.ta==255)))=true:=h5;rw[<- hf]at h5;refine zh ?_;refine HR.ret Tryz.func162 I [_] (fun _ _=>⟨I,trivial⟩) ?_
   exact fun w' hw=>⟨by rw[jDG hk h2 h3 (by simpa using h5)];rfl,hw.jF⟩
  ·have h5:(!(((f.fr != f.dst)&&(f.dst==255))&&(f.ta==255)))=false:=h5;rw[<- hf]at h5;refine zh ?_;refine HR.ret Tryz.func162 I [_] (fun _ _=>⟨I,trivial⟩) ?_
   exact fun w' hw=>⟨by rw[jG2 hk h2 h3 (by simpa using h5)];rfl,hw.jF⟩
 have h6:(f.kd==4)=false:=h6;refine zh ?_;refine HR.cond I (fun h7=>?_) (fun h7=>?_)
 ·have h7:(f.kd==3)=true:=h7;have hf:=jLT (f:=f) (by rw[h4,h6];rfl) h7
  repeat' (first|refine zh ?_|apply zb ?_ ?_|exact zc|(refine zi fun hb=>?_;try simp at hb)|fail)
  refine HR.cond I (fun h5=>?_) (fun h5=>?_)
  ·have h5:(!(((f.fr != f.dst)&&(f.da==[]))&&(f.dst != 255)))=true:=h5;rw[show (f.da==[])=decide (f.da=[]) by cases f.da<;>rfl,<- hf]at h5
   repeat' (first|refine zh ?_|fail)
   refine HR.ret Tryz.func162 I [_] (fun _ _=>⟨I,trivial⟩) ?_
   exact fun w' hw=>⟨by rw[jDG hk h2 h3 (by simpa using h5)];rfl,hw.jF⟩
  ·have h5:(!(((f.fr != f.dst)&&(f.da==[]))&&(f.dst != 255)))=false:=h5;rw[show (f.da==[])=decide (f.da=[]) by cases f.da<;>rfl,<- hf]at h5
   repeat' (first|refine zh ?_|fail)
   refine HR.ret Tryz.func162 I [_] (fun _ _=>⟨I,trivial⟩) ?_
   exact fun w' hw=>⟨by rw[jG2 hk h2 h3 (by simpa using h5)];rfl,hw.jF⟩
 ·have h7:(f.kd==3)=false:=h7;have hf:=jLU (f:=f) (by rw[h4,h6];rfl) h7
  repeat' (first|refine zh ?_|fail)
  refine HR.cond I (fun h5=>?_) (fun h5=>?_)
  ·have h5:(!(f.fr != f.dst))=true:=h5;rw[<- hf]at h5
   repeat' (first|refine zh ?_|fail)
   refine HR.ret Tryz.func162 I [_] (fun _ _=>⟨I,trivial⟩) ?_
   exact fun w' hw=>⟨by rw[jDG hk h2 h3 (by simpa using h5)];rfl,hw.jF⟩
  ·have h5:(!(f.fr != f.dst))=false:=h5;rw[<- hf]at h5
   repeat' (first|refine zh ?_|fail)
   refine HR.ret Tryz.func162 I [_] (fun _ _=>⟨I,trivial⟩) ?_
   exact fun w' hw=>⟨by rw[jG2 hk h2 h3 (by simpa using h5)];rfl,hw.jF⟩
theorem jGC (f:Fr) (w:World) (hd:f.da.length<=9223372036854775807):Calls Tryz.prog 189 #[.agg ⟨frC f⟩] w fun e w'=>e= .returned (.int .i64 (Kv f))/\Below w.heap.size w w':=by
 refine zE Tryz.func189 I [(0,.agg ⟨frC f⟩)] ?_
 repeat' (first|refine zh ?_|apply zb ?_ ?_|exact zc|(refine zi fun hb=>?_;try simp at hb)|intro (bk:Nat))
 refine HR.cond I (fun h=>?_) (fun h=>?_)
 ·have h:(decide (f.kd<1)||decide (f.kd>4))=true:=h;simp only[Bool.or_eq_true,decide_eq_true_eq]at h;refine zh ?_;refine HR.ret Tryz.func189 I [_] (fun _ _=>⟨I,trivial⟩) ?_
  exact fun w' hw=>⟨by rw[Kv,if_pos h];rfl,hw.jF⟩
 have h:(decide (f.kd<1)||decide (f.kd>4))=false:=h;have hk:¬(f.kd<1\/f.kd>4):=by simp only[Bool.or_eq_false_iff,decide_eq_false_iff_not]at h;omega
 repeat' (first|refine zh ?_|refine qB jSq I I (fun w _=>jDr _ w) ?_|refine qB fn237 I I (fun w _=>jLY _ w) ?_|apply zb ?_ ?_|exact zc|(refine zi fun hb=>?_;try simp at hb)|fail)
 refine HR.cond I (fun h2=>?_) (fun h2=>?_)
 ·have h2:(((!Tp.okN f.fr||!Tp.okN f.so)||!okT f.dst)||!okT f.ta)=true:=h2;refine zh ?_;refine HR.ret Tryz.func189 I [_] (fun _ _=>⟨I,trivial⟩) ?_
  exact fun w' hw=>⟨by rw[Kv,if_neg hk,if_pos (by rw[Kq,h2];rfl)];rfl,hw.jF⟩
 have h2:(((!Tp.okN f.fr||!Tp.okN f.so)||!okT f.dst)||!okT f.ta)=false:=h2
 repeat' (first|refine zh ?_|apply zb ?_ ?_|exact zc|(refine zi fun hb=>?_;try simp at hb)|fail)
 refine HR.cond I (fun h2'=>?_) (fun h2'=>?_)
 ·have h2':(((decide (f.sq<0)||decide (f.sq>65535))||decide (f.hp<0))||decide (f.hp>15))=true:=h2';refine zh ?_;refine HR.ret Tryz.func189 I [_] (fun _ _=>⟨I,trivial⟩) ?_
  exact fun w' hw=>⟨by rw[Kv,if_neg hk,if_pos (by rw[Kq,h2,h2'];rfl)];rfl,hw.jF⟩
 have h2':(((decide (f.sq<0)||decide (f.sq>65535))||decide (f.hp<0))||decide (f.hp>15))=false:=h2';have h2:Kr f=false:=by rw[Kq,h2,h2'];rfl
 refine zh ?_;refine HR.cond I (fun h3=>?_) (fun h3=>?_)
 ·have h3:f.da.length>109:=by have:=of_decide_eq_true h3;omega
  refine zh ?_;refine HR.ret Tryz.func189 I [_] (fun _ _=>⟨I,trivial⟩) ?_
  exact fun w' hw=>⟨by rw[Kv,if_neg hk,if_neg (by rw[h2];decide),if_pos h3];rfl,hw.jF⟩
 have h3:¬f.da.length>109:=by have:=of_decide_eq_false h3;omega
 repeat' (first|refine zh ?_|apply zb ?_ ?_|exact zc|(refine zi fun hb=>?_;try simp at hb)|fail)
 refine HR.cond I (fun h4=>?_) (fun h4=>?_)
 ·have h4:(((f.kd==1)||(f.kd==4))&&((f.dst != 255)||(f.ta != 255)))=true:=h4;refine zh ?_;refine HR.ret Tryz.func189 I [_] (fun _ _=>⟨I,trivial⟩) ?_;have hq:jAQ f=false:=by
   simp only[Bool.and_eq_true]at h4;unfold jAQ;rw[h4.1];have:=h4.2
   revert this
   simp only[bne];cases (f.dst==255)<;>cases (f.ta==255)<;>simp
  exact fun w' hw=>⟨by rw[jDG hk h2 h3 hq];rfl,hw.jF⟩
 have h4:(((f.kd==1)||(f.kd==4))&&((f.dst != 255)||(f.ta != 255)))=false:=h4
 repeat' (first|refine zh ?_|apply zb ?_ ?_|exact zc|(refine zi fun hb=>?_;try simp at hb)|fail)
 refine HR.cond I (fun h5=>?_) (fun h5=>?_)
 ·have h5:((f.kd==3)&&((f.da != [])||(f.dst==255)))=true:=h5
  repeat' (first|refine zh ?_|fail)
  refine HR.ret Tryz.func189 I [_] (fun _ _=>⟨I,trivial⟩) ?_;have hq:jAQ f=false:=by
   simp only[Bool.and_eq_true]at h5;unfold jAQ;rw[h5.1];have:=h5.2
   revert this
   cases (f.dst==255)<;>cases hd:f.da<;>simp
  exact fun w' hw=>⟨by rw[jDG hk h2 h3 hq];rfl,hw.jF⟩
 have h5:((f.kd==3)&&((f.da != [])||(f.dst==255)))=false:=h5;have hff:jAQ f=!(f.fr==f.dst):=by
  unfold jAQ;have e1:(!((f.kd==1)||(f.kd==4))||((f.dst==255)&&(f.ta==255)))=true:=by
   revert h4
   cases ((f.kd==1)||(f.kd==4))<;>cases hq1:(f.dst==255)<;>cases hq2:(f.ta==255)<;>simp_all
  have e2:(!(f.kd==3)||(decide (f.da=[])&&!(f.dst==255)))=true:=by
   revert h5
   cases (f.kd==3)<;>cases (f.dst==255)<;>cases hd:f.da<;>simp_all
  rw[e1,e2];simp
 repeat' (first|refine zh ?_|fail)
 refine HR.cond I (fun h6=>?_) (fun h6=>?_)
 ·have h6:(f.fr==f.dst)=true:=h6
  repeat' (first|refine zh ?_|fail)
  refine HR.ret Tryz.func189 I [_] (fun _ _=>⟨I,trivial⟩) ?_
  exact fun w' hw=>⟨by rw[jDG hk h2 h3 (by rw[hff,h6];rfl)];rfl,hw.jF⟩
 ·have h6:(f.fr==f.dst)=false:=h6
  repeat' (first|refine zh ?_|fail)
  refine HR.ret Tryz.func189 I [_] (fun _ _=>⟨I,trivial⟩) ?_
  exact fun w' hw=>⟨by rw[jG2 hk h2 h3 (by rw[hff,h6];rfl)];rfl,hw.jF⟩
theorem fn72:IsFn Tryz.prog 72:=zF Tryz.func72 I
theorem fn75:IsFn Tryz.prog 75:=zF Tryz.func75 I
theorem fn73:IsFn Tryz.prog 73:=zF Tryz.func73 I
theorem fn74:IsFn Tryz.prog 74:=zF Tryz.func74 I
theorem jKY (a b:List Li) (va vb:Value) (w:World) (ha:Sl w va (cellsOf liC a) a.length) (hb:Sl w vb (cellsOf liC b) b.length) (hla:a.length<=1000000):
  Calls Tryz.prog 72 #[va,vb] w fun e' w'=>e'= .returned (.bool (decide (a=b)))/\Below w.heap.size w w':=by
 refine zE Tryz.func72 I [(0,va),(1,vb)] (zh ?_);refine qD (qA ha) I I I (zh ?_);refine qD (qA hb) I I I (zh ?_);refine HR.cond I (fun h1=>?_) (fun h1=>?_)
 ·refine zh ?_;refine HR.ret Tryz.func72 I [_] (fun _ _=>⟨I,trivial⟩) ?_;have:a≠b:=by rintro rfl;simp at h1
  exact fun w' hw=>⟨by simp[this,ZJ],hw.jF⟩
 have hl:a.length=b.length:=by have h1':((a.length:Int) != (b.length:Int))=false:=h1;simp at h1';omega
 refine zh ?_;refine HR.loop (ι:=Nat) (fun k=>k<=a.length/\a.take k=b.take k) (fun k=>[(0,va),(1,vb),(5,.int .i64 (k:Int))]) (fun _=>[]) (fun k=>a.length-k) 0 ⟨Nat.zero_le _,by simp⟩ ⟨I,I,I,trivial⟩ Ent.refl ?_
 rintro k ⟨hk,hg⟩ ih
 refine zh ?_;refine qD (qA ha) I I I (zh ?_);refine HR.cond I (fun h2=>?_) (fun h2=>?_)
 ·have hlt:k<a.length:=by have:=of_decide_eq_true h2;omega
  obtain ⟨x,hx⟩:=jG hlt;obtain ⟨y,hy⟩:=jG (show k<b.length by omega);refine zh ?_;refine qK j3 (by kernel_rfl) (zq ?_);refine qW (qA ha) JG k I I I I hlt ?_;refine qy (qA ha) I I I I (by simp) I (jD jd hx) (zq ?_);refine qW (qA hb) JG k I I I I (by omega) ?_;refine qy (qA hb) I I I I (by simp) I (jD jd hy) ?_;refine Qg I (by kernel_rfl) (by kernel_rfl) I I I (zq ?_);refine HR.cond I (fun h3=>?_) (fun h3=>?_)
  ·refine zh ?_;refine HR.ret Tryz.func72 I [_] (fun _ _=>⟨I,trivial⟩) ?_;have:a≠b:=by rintro rfl;rw[hx]at hy;cases hy;simp at h3
   exact fun w' hw=>⟨by simp[this,ZJ],hw.jF⟩
  ·refine zh ?_;refine ih (k+1) _ _ ⟨hlt,?_⟩ (by omega) ⟨I,I,I,trivial⟩ Ent.refl;rw[jE hx,jE hy,hg];have hxy:x=y:=by
    obtain ⟨a1,a2,a3⟩:=x;obtain ⟨b1,b2,b3⟩:=y
    simp at h3
    simp[h3]
   rw[hxy]
 ·have hke:k=a.length:=by have:=of_decide_eq_false h2;omega
  subst hke;refine zh ?_;refine HR.ret Tryz.func72 I [_] (fun _ _=>⟨I,trivial⟩) ?_;have:a=b:=by rw[<- List.take_length (l:=a),hg,hl,List.take_length]
  exact fun w' hw=>⟨by simp[this,ZJ],hw.jF⟩
theorem jKW (a b:List Pr) (va vb:Value) (w:World) (ha:Sl w va (cellsOf prC a) a.length) (hb:Sl w vb (cellsOf prC b) b.length) (hla:a.length<=1000000):
  Calls Tryz.prog 75 #[va,vb] w fun e' w'=>e'= .returned (.bool (decide (a=b)))/\Below w.heap.size w w':=by
 refine zE Tryz.func75 I [(0,va),(1,vb)] (zh ?_);refine qD (qA ha) I I I (zh ?_);refine qD (qA hb) I I I (zh ?_);refine HR.cond I (fun h1=>?_) (fun h1=>?_)
 ·refine zh ?_;refine HR.ret Tryz.func75 I [_] (fun _ _=>⟨I,trivial⟩) ?_;have:a≠b:=by rintro rfl;simp at h1
  exact fun w' hw=>⟨by simp[this,ZJ],hw.jF⟩
 have hl:a.length=b.length:=by have h1':((a.length:Int) != (b.length:Int))=false:=h1;simp at h1';omega
 refine zh ?_;refine HR.loop (ι:=Nat) (fun k=>k<=a.length/\a.take k=b.take k) (fun k=>[(0,va),(1,vb),(5,.int .i64 (k:Int))]) (fun _=>[]) (fun k=>a.length-k) 0 ⟨Nat.zero_le _,by simp⟩ ⟨I,I,I,trivial⟩ Ent.refl ?_
 rintro k ⟨hk,hg⟩ ih
 refine zh ?_;refine qD (qA ha) I I I (zh ?_);refine HR.cond I (fun h2=>?_) (fun h2=>?_)
 ·have hlt:k<a.length:=by have:=of_decide_eq_true h2;omega
  obtain ⟨x,hx⟩:=jG hlt;obtain ⟨y,hy⟩:=jG (show k<b.length by omega);refine zh ?_;refine qK j3 (by kernel_rfl) (zq ?_);refine qW (qA ha) Zm k I I I I hlt ?_;refine qy (qA ha) I I I I (by simp) I (jD J9 hx) (zq ?_);refine qW (qA hb) Zm k I I I I (by omega) ?_;refine qy (qA hb) I I I I (by simp) I (jD J9 hy) ?_;refine Qg I (by kernel_rfl) (by kernel_rfl) I I I (zq ?_);refine HR.cond I (fun h3=>?_) (fun h3=>?_)
  ·refine zh ?_;refine HR.ret Tryz.func75 I [_] (fun _ _=>⟨I,trivial⟩) ?_;have:a≠b:=by rintro rfl;rw[hx]at hy;cases hy;simp at h3
   exact fun w' hw=>⟨by simp[this,ZJ],hw.jF⟩
  ·refine zh ?_;refine ih (k+1) _ _ ⟨hlt,?_⟩ (by omega) ⟨I,I,I,trivial⟩ Ent.refl;rw[jE hx,jE hy,hg];have hxy:x=y:=by
    obtain ⟨a1,a2⟩:=x;obtain ⟨b1,b2⟩:=y
    simp at h3
    simp[h3]
   rw[hxy]
 ·have hke:k=a.length:=by have:=of_decide_eq_false h2;omega
  subst hke;refine zh ?_;refine HR.ret Tryz.func75 I [_] (fun _ _=>⟨I,trivial⟩) ?_;have:a=b:=by rw[<- List.take_length (l:=a),hg,hl,List.take_length]
  exact fun w' hw=>⟨by simp[this,ZJ],hw.jF⟩
theorem jKV (a b:List Sn) (va vb:Value) (w:World) (ha:Sl w va (cellsOf snC a) a.length) (hb:Sl w vb (cellsOf snC b) b.length) (hla:a.length<=1000000):
  Calls Tryz.prog 73 #[va,vb] w fun e' w'=>e'= .returned (.bool (decide (a=b)))/\Below w.heap.size w w':=by
 refine zE Tryz.func73 I [(0,va),(1,vb)] (zh ?_);refine qD (qA ha) I I I (zh ?_);refine qD (qA hb) I I I (zh ?_);refine HR.cond I (fun h1=>?_) (fun h1=>?_)
 ·refine zh ?_;refine HR.ret Tryz.func73 I [_] (fun _ _=>⟨I,trivial⟩) ?_;have:a≠b:=by rintro rfl;simp at h1
  exact fun w' hw=>⟨by simp[this,ZJ],hw.jF⟩
 have hl:a.length=b.length:=by have h1':((a.length:Int) != (b.length:Int))=false:=h1;simp at h1';omega
 refine zh ?_;refine HR.loop (ι:=Nat) (fun k=>k<=a.length/\a.take k=b.take k) (fun k=>[(0,va),(1,vb),(5,.int .i64 (k:Int))]) (fun _=>[]) (fun k=>a.length-k) 0 ⟨Nat.zero_le _,by simp⟩ ⟨I,I,I,trivial⟩ Ent.refl ?_
 rintro k ⟨hk,hg⟩ ih
 refine zh ?_;refine qD (qA ha) I I I (zh ?_);refine HR.cond I (fun h2=>?_) (fun h2=>?_)
 ·have hlt:k<a.length:=by have:=of_decide_eq_true h2;omega
  obtain ⟨x,hx⟩:=jG hlt;obtain ⟨y,hy⟩:=jG (show k<b.length by omega);refine zh ?_;refine qK j3 (by kernel_rfl) (zq ?_);refine qW (qA ha) jy k I I I I hlt ?_;refine qy (qA ha) I I I I (by simp) I (jD jU hx) (zq ?_);refine qW (qA hb) jy k I I I I (by omega) ?_;refine qy (qA hb) I I I I (by simp) I (jD jU hy) ?_;refine yT I (by kernel_rfl) (by kernel_rfl) I I I (zq ?_);refine HR.cond I (fun h3=>?_) (fun h3=>?_)
  ·refine zh ?_;refine HR.ret Tryz.func73 I [_] (fun _ _=>⟨I,trivial⟩) ?_;have:a≠b:=by rintro rfl;rw[hx]at hy;cases hy;simp at h3
   exact fun w' hw=>⟨by simp[this,ZJ],hw.jF⟩
  ·refine zh ?_;refine ih (k+1) _ _ ⟨hlt,?_⟩ (by omega) ⟨I,I,I,trivial⟩ Ent.refl;rw[jE hx,jE hy,hg];have hxy:x=y:=by
    obtain ⟨⟨a1,a2,a3,a4,a5,a6,a7,a8,a9⟩,a10,a11⟩:=x;obtain ⟨⟨b1,b2,b3,b4,b5,b6,b7,b8,b9⟩,b10,b11⟩:=y
    simp at h3
    simp[h3]
   rw[hxy]
 ·have hke:k=a.length:=by have:=of_decide_eq_false h2;omega
  subst hke;refine zh ?_;refine HR.ret Tryz.func73 I [_] (fun _ _=>⟨I,trivial⟩) ?_;have:a=b:=by rw[<- List.take_length (l:=a),hg,hl,List.take_length]
  exact fun w' hw=>⟨by simp[this,ZJ],hw.jF⟩
theorem jKX (a b:List Ma) (va vb:Value) (w:World) (ha:Sl w va (cellsOf maC a) a.length) (hb:Sl w vb (cellsOf maC b) b.length) (hla:a.length<=1000000):
  Calls Tryz.prog 74 #[va,vb] w fun e' w'=>e'= .returned (.bool (decide (a=b)))/\Below w.heap.size w w':=by
 refine zE Tryz.func74 I [(0,va),(1,vb)] (zh ?_);refine qD (qA ha) I I I (zh ?_);refine qD (qA hb) I I I (zh ?_);refine HR.cond I (fun h1=>?_) (fun h1=>?_)
 ·refine zh ?_;refine HR.ret Tryz.func74 I [_] (fun _ _=>⟨I,trivial⟩) ?_;have:a≠b:=by rintro rfl;simp at h1
  exact fun w' hw=>⟨by simp[this,ZJ],hw.jF⟩
 have hl:a.length=b.length:=by have h1':((a.length:Int) != (b.length:Int))=false:=h1;simp at h1';omega
 refine zh ?_;refine HR.loop (ι:=Nat) (fun k=>k<=a.length/\a.take k=b.take k) (fun k=>[(0,va),(1,vb),(5,.int .i64 (k:Int))]) (fun _=>[]) (fun k=>a.length-k) 0 ⟨Nat.zero_le _,by simp⟩ ⟨I,I,I,trivial⟩ Ent.refl ?_
 rintro k ⟨hk,hg⟩ ih
 refine zh ?_;refine qD (qA ha) I I I (zh ?_);refine HR.cond I (fun h2=>?_) (fun h2=>?_)
 ·have hlt:k<a.length:=by have:=of_decide_eq_true h2;omega
  obtain ⟨x,hx⟩:=jG hlt;obtain ⟨y,hy⟩:=jG (show k<b.length by omega);refine zh ?_;refine qK j3 (by kernel_rfl) (zq ?_);refine qW (qA ha) JB k I I I I hlt ?_;refine qy (qA ha) I I I I (by simp) I (jD j4 hx) (zq ?_);refine qW (qA hb) JB k I I I I (by omega) ?_;refine qy (qA hb) I I I I (by simp) I (jD j4 hy) ?_;refine yT I (by kernel_rfl) (by kernel_rfl) I I I (zq ?_);refine HR.cond I (fun h3=>?_) (fun h3=>?_)
  ·refine zh ?_;refine HR.ret Tryz.func74 I [_] (fun _ _=>⟨I,trivial⟩) ?_;have:a≠b:=by rintro rfl;rw[hx]at hy;cases hy;simp at h3
   exact fun w' hw=>⟨by simp[this,ZJ],hw.jF⟩
  ·refine zh ?_;refine ih (k+1) _ _ ⟨hlt,?_⟩ (by omega) ⟨I,I,I,trivial⟩ Ent.refl;rw[jE hx,jE hy,hg];have hxy:x=y:=by
    obtain ⟨⟨a1,a2,a3,a4,a5,a6,a7,a8,a9⟩,a10⟩:=x;obtain ⟨⟨b1,b2,b3,b4,b5,b6,b7,b8,b9⟩,b10⟩:=y
    simp at h3
    simp[h3]
   rw[hxy]
 ·have hke:k=a.length:=by have:=of_decide_eq_false h2;omega
  subst hke;refine zh ?_;refine HR.ret Tryz.func74 I [_] (fun _ _=>⟨I,trivial⟩) ?_;have:a=b:=by rw[<- List.take_length (l:=a),hg,hl,List.take_length]
  exact fun w' hw=>⟨by simp[this,ZJ],hw.jF⟩
end Go.Proofs.YtgfdoognildoeaaGreat
namespace Go.GX
open Go.RowKit
section
variable {P : Program} {ops : Array Oper} {Q : Exit -> Act -> World -> Prop} {md : Region.Mode} {S : World -> Prop} {T : List Nat} {listed : Array Bool}
def jAX (P:Program) (md:Region.Mode) (ops:Array Oper) (Q:Exit->Act->World->Prop) (S:World->Prop) (T:List Nat):Nat->Array Bool->Act->World->Prop
 |0,listed,a,w=>Region.ready md ops listed=[]/\Q .normal a w
 |fuel+1,listed,a,w=>
  (Region.ready md ops listed=[]->Q .normal a w)/\
  ∀i∈Region.ready md ops listed,wpOp P ops Q i (fun a' w'=>(Zp i T=true\/S w')/\jAX P md ops Q S T fuel (listed.setIfInBounds i true) a' w') a w
theorem jBN:∀(fuel:Nat) (listed:Array Bool) (a:Act) (w:World),jAX P md ops Q S T fuel listed a w->wpAny P md ops Q fuel listed a w
 |0,_,_,_,h=>h
 |fuel+1,_,_,_,h=>⟨h.1,fun i hi=>wpOp_mono (fun a' w' h'=>jBN fuel _ a' w' h'.2) (h.2 i hi)⟩
def jDk (md:Region.Mode) (ops:Array Oper) (T:List Nat) (z:Nat):Bool:=(List.range ops.size).all fun i=>Zp i T||Zp i (jKG md ops 12 (jMh md ops z))
theorem jHM {z:Nat} (hz:jDk md ops T z=true) (hc:Closed md ops listed) (hr:z∈Region.ready md ops listed) {i:Nat} (hi:i<ops.size) (hne:Zp i T=false):listed.getD i false=true:=by
 have h1:=List.all_eq_true.1 hz i (List.mem_range.2 hi);rw[hne,Bool.false_or]at h1;obtain ⟨_,oz,hoz,hall⟩:=mem_ready.1 hr;refine KH hc 12 _ (fun y hy=>?_) i (kJ h1);obtain ⟨o,ho,e,he,hb,rfl⟩:=jBV hy;rw[hoz]at ho;cases ho;exact hall e he hb
theorem jBk (hz:∀z,Zp z T=true->jDk md ops T z=true) {i:Nat} {oi:Oper} {v:Value} (hi:ops[i]? =some oi) (hiz:Zp i T=false) (hsel:∀(j:Nat) (o:Oper) cs b,ops[j]? =some o->o.op≠ .select cs b)
  (hQ:∀c a w,Q (.panic c) (a.put oi.dst v) w->Q (.panic c) a w):
  ∀(fuel:Nat) (listed:Array Bool) (a:Act) (w:World),Closed md ops listed->
   (∀ j oj,ops[j]? =some oj->j≠i->listed.getD j true=false->(∀ e∈oj.after,Region.binds md e=true->e.on≠i)->oi.apart ops oj=true)->
   i∈Region.ready md ops listed->YieldsIf P ops S oi v a->S w->
   jAX P md ops Q S T fuel (listed.setIfInBounds i true) (a.put oi.dst v) w->jAX P md ops Q S T (fuel+1) listed a w:=by
 intro fuel
 induction fuel with
 |zero=>
  intro listed a w _ _ hr hy hS H;refine ⟨fun h=>(by rw[h]at hr;cases hr),fun j hj=>?_⟩
  by_cases hji:j=i
  ·subst hji;exact hy.wpOp hi hS ⟨.inr hS,H⟩
  ·have:=ready_mono hj hji;rw[H.1]at this;cases this
 |succ fuel ih=>
  intro listed a w hc hfree hr hy hS H;refine ⟨fun h=>(by rw[h]at hr;cases hr),fun j hj=>?_⟩
  by_cases hji:j=i
  ·subst hji;exact hy.wpOp hi hS ⟨.inr hS,H⟩
  ·have h1:=H.2 j (ready_mono hj hji);obtain ⟨hjun,oj,hoj,hall⟩:=mem_ready.1 hj;have h0:=(mem_ready.1 hr).1;have hnot:∀e∈oj.after,Region.binds md e=true->e.on≠i:=fun e he hb heq=>by
    have h1:=hall e he hb;rw[heq]at h1;rw[jAF h1]at h0;cases h0
   have hjz:Zp j T=false:=by
    rw[<- Bool.not_eq_true];intro e;have:=jHM (hz j e) hc hj (Array.getElem?_eq_some_iff.1 hi).1 hiz;rw[jAF this]at h0;cases h0
   have h2:=wpOp_putIf hoj (hfree j oj hoj hji hjun hnot) (fun cs b=>hsel i oi cs b hi) (fun cs b=>hsel j oj cs b hoj) hQ hy h1
   have hfree':∀k ok,ops[k]? =some ok->k≠i->(listed.setIfInBounds j true).getD k true=false->
     (∀ e∈ok.after,Region.binds md e=true->e.on≠i)->oi.apart ops ok=true:=fun k ok hk hki hun hno=>by
    refine hfree k ok hk hki ?_ hno
    by_cases hjk:j=k
    ·subst hjk;exact hjun
    ·rw [getD_set_ne true hjk]at hun;exact hun
   refine wpOp_mono (fun a' w' h3=>?_) h2;have hS':S w':=h3.2.1.resolve_left (by rw[hjz];nofun);refine ⟨.inr hS',ih (listed.setIfInBounds j true) a' w' (hc.set hj) hfree' (ready_mono hr (Ne.symm hji)) h3.1 hS' ?_⟩;rw[Array.setIfInBounds_comm _ _ hji];exact h3.2.2
end
def jPs (T:List Nat):List (Nat×Bool)->Bool
 |[]=>true
 |(i,_)::p=>match Zp i T with
  |true=>false
  |false=>jPs T p
def jBH (T:List Nat):List (Nat×Bool):=T.map fun z=>(z,false)
def jMq (ops:Array Oper) (p:List (Nat×Bool)) (T:List Nat):Bool:=Region.noSelect ops&&Nat.beq (p.length+T.length) ops.size&&jPs T p&&T.all (jDk .any ops T)&&zA ops (p++jBH T) (Array.replicate ops.size false)
section
variable {P : Program} {f : FuncId} {N : Nat} {k : List Item} {σ : Store} {B : Base} {H F : List Chunk} {R : Ending -> World -> Prop} {ops l : List Oper} {o : Oper} {K : Act -> World -> Prop} {S : World -> Prop} {T : List Nat}
def jDj (P:Program) (ops:Array Oper) (K:Act->World->Prop):List Nat->Act->World->Prop
 |[],a,w=>K a w
 |z::l,a,w=>wpOp P ops (QN K) z (fun a w=>jDj P ops K l a w) a w
theorem jAW {ops:Array Oper}:∀(t:List Nat) (listed:Array Bool) (a:Act) (w:World),(∀ z∈t,Zp z T=true)->zA ops (jBH t) listed=true->jDj P ops K t a w->jAX P .any ops (QN K) S T t.length listed a w
 |[],listed,a,w,_,hB,h=>⟨by simpa[zA,jBH]using hB,rfl,h⟩
 |z::t,listed,a,w,ht,hB,h=>by
  simp only[jBH,List.map_cons,zA,Bool.and_eq_true,decide_eq_true_eq]at hB;refine ⟨fun h0=>absurd (hB.1.symm.trans h0) (by simp),fun j hj=>?_⟩;rw[hB.1]at hj;have:j=z:=by simpa using hj
  subst this;exact wpOp_mono (fun a' w' h'=>⟨.inl (ht j (List.mem_cons_self ..)),jAW t _ _ _ (fun y hy=>ht y (List.mem_cons_of_mem _ hy)) hB.2 h'⟩) h
theorem Zy {ops:Array Oper} (hn:Region.noSelect ops=true) (hz:∀z,Zp z T=true->jDk .any ops T z=true):∀(p:List (Nat×Bool)) (listed:Array Bool) (a:Act) (w:World),S w->Closed .any ops listed->jPs T p=true->
  zA ops (p++jBH T) listed=true->Zq P ops S (fun a w=>jDj P ops K T a w) p a w->jAX P .any ops (QN K) S T (p.length+T.length) listed a w
 |[],listed,a,w,hS,_,_,hB,h=>by
  rw[List.length_nil,Nat.zero_add];exact jAW T listed a w (fun z hz=>jFC hz) hB h
 |(i,true)::p,listed,a,w,hS,hc,hnz,hB,h=>by
  obtain ⟨o,v,ho,hy,h⟩:=h;simp only[List.cons_append,zA,Bool.and_eq_true]at hB;have hf:=Region.free_spec ho hB.1.2;unfold jPs at hnz
  split at hnz
  ·cases hnz
  ·rename_i hb
   have hr:i∈Region.ready .any ops listed:=by simpa using hB.1.1
   rw[List.length_cons,Nat.add_right_comm];exact jBk hz ho hb (Region.noSelect_spec hn) (fun c a w h=>absurd h.1 (by nofun)) _ listed a w hc hf hr hy hS (Zy hn hz p _ _ _ hS (hc.set hr) hnz hB.2 h)
 |(i,false)::p,listed,a,w,hS,hc,hnz,hB,h=>by
  simp only[List.cons_append,zA,Bool.and_eq_true,decide_eq_true_eq]at hB;rw[List.length_cons,Nat.add_right_comm];refine ⟨fun h0=>absurd (hB.1.symm.trans h0) (by simp),fun j hj=>?_⟩;have hj0:=hj;rw[hB.1]at hj;have:j=i:=by simpa using hj
  subst this;unfold jPs at hnz
  split at hnz
  ·cases hnz
  ·exact jEj (wpOp_mono (fun a' w' h'=>⟨.inr h'.1,Zy hn hz p _ _ _ h'.1 (hc.set hj0) hnz hB.2 h'.2⟩) h)
def KW (P:Program) (ops:List Oper) (T:List Nat) (K:Act->World->Prop):Act->World->Prop:=fun a w=>jDj P ops.toArray K T a w
theorem YP (p:List (Nat×Bool)) (T:List Nat) (is:List Nat) (hF:jAN H is=some F) (hd:JV is=true) {id:Nat} (hm:P.follows .mixedOrders=true) (hB:jMq ops.toArray p T=true)
  (h:HD P N ops p σ B H F (KW P ops T (jCE P f k R))):HR P f N (.code (.region id ops.toArray true)::k) σ B H R:=by
 intro w hw a ha;simp only[jMq,Bool.and_eq_true]at hB;obtain ⟨⟨⟨⟨h1,h2⟩,h3⟩,h4⟩,h5⟩:=hB;have hb:Below w.heap.size w { w with drawn:=w.drawn+1 }:=⟨rfl,rfl,rfl,Nat.le_refl _,fun _ _=>rfl⟩;have hw1:Sat B H { w with drawn:=w.drawn+1 }:=hw.grow hb;refine QU (wp_region_any hm (jBN (S:=fun w=>Sat B F w) (T:=T) _ _ _ _ ?_));have hsz:=(Nat.eq_of_beq_eq_true h2).symm;rw[hsz];rw[hsz]at h5;exact Zy h1 (fun z hz=>List.all_eq_true.1 h4 z (kJ hz)) p _ _ _ (hw1.pick is hF hd) (Closed.start (Nat.eq_of_beq_eq_true h2)) h3 h5 (h _ hw1 (hw1.pick is hF hd) a ha)
def jJ4 (ops:List Oper):List Nat->Option (List Oper)
 |[]=>some []
 |z::l=>match ops[z]?,jJ4 ops l with
  |some o,some r=>some (o::r)
  |_,_=>none
theorem Zx:∀(T:List Nat) (l:List Oper),jJ4 ops T=some l->∀a w,wpList P ops.toArray (QN K) l a w->jDj P ops.toArray K T a w
 |[],l,hl,a,w,h=>by cases hl;exact h.2
 |z::T,l,hl,a,w,h=>by
  unfold jJ4 at hl
  split at hl
  ·rename_i o r ho hr
   cases hl;unfold jDj;unfold wpList at h;simp only[wpOp,show ops.toArray[z]? =some o by simpa using ho]
   split
   ·rename_i hw'
    rw[if_pos hw']at h;rcases h with h|h
    ·exact .inl (Oper.wp_mono (fun a' w' h'=>Zx T r hr a' w' h') h)
    ·exact (KM (K:=K) h.2).elim
   ·rename_i hw'
    rw[if_neg hw']at h;exact Zx T r hr _ _ h
  ·cases hl
theorem HD.tail (hl:jJ4 ops T=some l) (h:HL P N ops l σ B H K):HD P N ops [] σ B H F (KW P ops T K):=by
 intro w hw _ a ha;exact Zx T l hl a w (h w hw a ha)
end
end Go.GX
namespace Go.Proofs.YtgfdoognildoeaaGreat
open Go.GX Go.RowKit
attribute [local irreducible] Calls Run JH JL zU HR HL HD jS jM ZN Rd jg Jf
open Nd
theorem jSB:IsFn Tryz.prog 68:=zF Tryz.func68 I
structure OkN (w:World) (V:NV) (n:Nd):Prop where
 ta:Sl w (sv V.ta n.table.length) (cellsOf roC n.table) n.table.length
 li:Sl w (sv V.li n.links.length) (cellsOf liC n.links) n.links.length
 ou:Sl w (sv V.ou n.out.length) (cellsOf snC n.out) n.out.length
 ch:Sl w (sv V.ch n.children.length) (cellsOf iC n.children) n.children.length
 bo:Sl w (sv V.bo n.boxes.length) (cellsOf maC n.boxes) n.boxes.length
 se:Sl w (sv V.se n.seen.length) (cellsOf prC n.seen) n.seen.length
 pa:RdPts w (sv V.pa V.ps.length) V.ps
 ib:Sl w (sv V.ib n.inbox.length) (cellsOf deC n.inbox) n.inbox.length
 eq:pts V.ps=n.parts
structure SmN (n:Nd):Prop where
 ta:n.table.length<=1000
 li:n.links.length<=1000
 ou:n.out.length<=1000
 ch:n.children.length<=1000
 bo:n.boxes.length<=1000
 se:n.seen.length<=1000
 pa:n.parts.length<=1000
 ib:n.inbox.length<=1000
 sm:∀p∈n.parts,jAS p
theorem OkN.ext {w w':World} {V:NV} {n:Nd} (h:OkN w V n) (hb:Below w.heap.size w w'):OkN w' V n:=⟨h.ta.ext hb,h.li.ext hb,h.ou.ext hb,h.ch.ext hb,h.bo.ext hb,h.se.ext hb,h.pa.ext hb,h.ib.ext hb,h.eq⟩
theorem Qp {α:Type} {E:α->List Value} {sz:Nat} (hE:∀a,(E a).length=sz) {w:World} {l m:List α} {v:Value} (hv:Sl w v (cellsOf E l) l.length) {k:Nat} (hk:k<=l.length) (hm:m=l.take k):Sl w (kS sz v 0 k) (cellsOf E m) m.length:=by
 subst hm;exact (Qq hE (B:=base w) (H:=[]) (qA hv) hk).at (Sat.start w)
theorem YK {α:Type} {E:α->List Value} {sz:Nat} (hE:∀a,(E a).length=sz) {w:World} {l m:List α} {v:Value} (hv:Sl w v (cellsOf E l) l.length) {k:Nat} (hk:k<=l.length) (hm:m=l.drop k):Sl w (kS sz v k l.length) (cellsOf E m) m.length:=by
 subst hm;exact (yK hE (B:=base w) (H:=[]) (qA hv) hk).at (Sat.start w)
theorem jNw (n:Int):clamp (clamp n 0 250) 0 250=clamp n 0 250:=by unfold clamp;omega
theorem jH9 (a:Int) (l:List Int):kids a l=Tf.dif (l.filter fun c=>Tp.okN c&&!(c==a)):=by
 refine jJM (jCT a l).1 (Tf.jR5 _) fun x=>?_
 rw[(jCT a l).2,Tf.jR4,List.mem_filter]
 simp
theorem jLA (k n:Nat):(if (k:Int)<(n:Int)then (k:Int)else (n:Int))=((min n k:Nat):Int):=by split<;>omega
theorem Z9 {α:Type} (l:List α) (k:Nat):l.take k=l.take (min l.length k):=by
 by_cases h:l.length<=k
 ·rw [Nat.min_eq_left h,List.take_length,List.take_of_length_le h]
 ·rw [Nat.min_eq_right (by omega)]
theorem kP (V:NV) (n:Nd) (now:Int) (w:World) (h:OkN w V n) (hs:SmN n):
  Calls Tryz.prog 68 #[.agg ⟨ndC V n⟩,.int .i64 now] w fun e w'=>∃x:Nat×NV,e= .returned (ptr x.1)/\Pts x.2 (order n)/\Sat (base w) (stH x.1 x.2 (order n) (tick now)) w':=by
 have l1:=hs.ta;have l2:=hs.li;have l3:=hs.ou;have l4:=hs.ch;have l5:=hs.bo;have l6:=hs.se;have l7:=hs.ib;have l8:V.ps.length<=1000:=by rw[<- jW,h.eq];exact hs.pa
 obtain ⟨m,hm⟩:∃m,m=order n:=⟨_,rfl⟩;have e_ad:m.addr=clamp n.addr 0 250:=by rw[hm];rfl
 have e_po:m.poll=if n.poll<1 then 0 else max n.poll 4:=by rw[hm];rfl
 have e_pr:m.parent=if Tp.okN n.parent=false\/n.parent=m.addr then 255 else n.parent:=by rw[hm];rfl
 have e_ta:m.table=if KR n.table m.addr=0 then n.table else [jHg m.addr]:=by rw[hm];rfl
 have e_li:m.links=if jAs n.links=0 then n.links else []:=by rw[hm];rfl
 have e_ou:m.out=n.out.take (min n.out.length 16):=by rw[hm,<- Z9];rfl
 have e_ch:m.children=Tf.dif (n.children.filter fun c=>Tp.okN c&&!(c==m.addr)):=by rw[<- jH9,hm];rfl
 have e_bo:m.boxes=n.boxes.take (min n.boxes.length 16):=by rw[hm,<- Z9];rfl
 have e_se:m.seen=n.seen.drop (n.seen.length-32):=by rw[hm];rfl
 have e_pa:m.parts=n.parts:=by rw[hm];rfl
 have e_ib:m.inbox=n.inbox.take (min n.inbox.length 256):=by rw[hm,<- Z9];rfl
 have e_sq:m.seq=if n.seq<0\/n.seq>65535 then 0 else n.seq:=by rw[hm];rfl
 have e_lo:m.lost=clamp n.lost 0 1099511627776:=by rw[hm];rfl
 have e_nw:jDv m.addr=[jHg m.addr]:=by rw[e_ad];unfold jDv lim;rw[jNw]
 have s_ou:=Qp jU h.ou (Nat.min_le_left _ _) e_ou;have s_bo:=Qp j4 h.bo (Nat.min_le_left _ _) e_bo;have s_se:=YK J9 h.se (Nat.sub_le _ _) e_se;have s_ib:=Qp jAh h.ib (Nat.min_le_left _ _) e_ib;have k3:m.out.length<=16:=by rw[e_ou,List.length_take];omega
 have k5:m.boxes.length<=16:=by rw[e_bo,List.length_take];omega
 have k6:m.seen.length<=32:=by rw[e_se,List.length_drop];omega
 have k7:m.inbox.length<=256:=by rw[e_ib,List.length_take];omega
 rw[<- hm];refine zE Tryz.func68 I [(0,.agg ⟨ndC V n⟩),(1,.int .i64 now)] ?_;refine HR.ctl I (HR.region ?_);refine HL.box I I ?_;intro b1;refine zh ?_;refine qO [(0,true),(1,true),(2,false),(3,true),(4,false),(5,true)] [0] I I j3 (by kernel_rfl) (zd ?_);refine HD.one I (qB jRp I I (fun w _=>jE9 now 0 1099511627776 w) ?_);refine HL.back [0] I I (zd ?_);refine HD.one I (HL.box I I ?_);intro b;refine HL.back [1] I I (zd ?_);refine HD.nil (zh ?_);refine qB jRp I I (fun w _=>jE9 n.addr 0 250 w) (zh ?_);refine HR.join (ι:=Unit) (fun _=>True) (fun _=>[(2,ptr b1),(5,ptr b)]) (fun _=>[jS b [.int .i64 m.addr,.int .i64 m.poll,.int .i64 n.parent,sv V.ta n.table.length,sv V.li n.links.length,sv V.ou n.out.length,sv V.ch n.children.length,sv V.bo n.boxes.length,sv V.se n.seen.length,sv V.pa V.ps.length,sv V.ib n.inbox.length,.int .i64 n.seq,.int .i64 n.lost,.int .i64 (tick now)] 113,jS b1 (ndC V n) 62]) (fun _ _=>?_) (fun hj=>?_)
 rotate_left
 ·refine HR.cond I (fun h=>?_) (fun h=>?_)
  ·have h:n.poll<1:=of_decide_eq_true h;refine HR.region (zn ?_);refine hj () _ _ trivial ⟨I,I,trivial⟩ (Ent.of_eq ?_);rw[e_po,if_pos h,e_ad];rfl
  ·have h:¬n.poll<1:=of_decide_eq_false h;refine HR.region (zn ?_);refine hj () _ _ trivial ⟨I,I,trivial⟩ (Ent.of_eq ?_);rw[show m.poll=(if (4:Int)>n.poll then 4 else n.poll)from by rw[e_po,if_neg h];split<;>omega,e_ad];rfl
 repeat' (first|refine zh ?_|fail)
 refine HR.join (ι:=Unit) (fun _=>True) (fun _=>[(2,ptr b1),(5,ptr b),(49,.bool (!Tp.okN n.parent||(n.parent==m.addr)))]) (fun _=>[jS b [.int .i64 m.addr,.int .i64 m.poll,.int .i64 n.parent,sv V.ta n.table.length,sv V.li n.links.length,sv V.ou n.out.length,sv V.ch n.children.length,sv V.bo n.boxes.length,sv V.se n.seen.length,sv V.pa V.ps.length,sv V.ib n.inbox.length,.int .i64 n.seq,.int .i64 n.lost,.int .i64 (tick now)] 113,jS b1 (ndC V n) 62]) (fun _ _=>?_) (fun hj=>?_)
 rotate_left
 ·refine qO [(0,true),(1,true),(2,false),(3,true),(4,true),(5,true),(6,true),(7,true),(8,true),(9,true),(10,true),(11,true),(12,true),(13,true)] [0,1] I I j3 (by kernel_rfl) ?_
  repeat' (first|refine zd ?_|fail)
  refine HD.one I (qB fn91 I I (fun w _=>jAD n.parent w) ?_);refine HL.back [0,1] I I (QM I I I ?_);refine QM I I I (HD.split 40 I (fun hb=>?_) (fun hb=>?_))
  ·repeat' (first|refine zd ?_|fail)
   refine HD.nil (hj () _ _ trivial ⟨rfl,rfl,?_,trivial⟩ Ent.refl);show some (Value.bool true)=some (Value.bool (!Tp.okN n.parent||(n.parent==m.addr)));rw[show (!Tp.okN n.parent)=true from hb];rfl
  ·repeat' (first|refine zd ?_|fail)
   refine HD.nil (hj () _ _ trivial ⟨rfl,rfl,?_,trivial⟩ Ent.refl);show some (Value.bool (n.parent==m.addr))=some (Value.bool (!Tp.okN n.parent||(n.parent==m.addr)));rw[show (!Tp.okN n.parent)=false from hb];rfl
 refine HR.join (ι:=Unit) (fun _=>True) (fun _=>[(2,ptr b1),(5,ptr b)]) (fun _=>[jS b [.int .i64 m.addr,.int .i64 m.poll,.int .i64 m.parent,sv V.ta n.table.length,sv V.li n.links.length,sv V.ou n.out.length,sv V.ch n.children.length,sv V.bo n.boxes.length,sv V.se n.seen.length,sv V.pa V.ps.length,sv V.ib n.inbox.length,.int .i64 n.seq,.int .i64 n.lost,.int .i64 (tick now)] 113,jS b1 (ndC V n) 62]) (fun _ _=>?_) (fun hj=>?_)
 rotate_left
 ·refine HR.cond I (fun h=>?_) (fun h=>?_)
  ·have h:(!Tp.okN n.parent||(n.parent==m.addr))=true:=h;have h2:Tp.okN n.parent=false\/n.parent=m.addr:=by simpa using h
   refine HR.region ?_
   repeat' (first|refine zn ?_|fail)
   refine hj () _ _ trivial ⟨I,I,trivial⟩ (Ent.of_eq ?_);rw[e_pr,if_pos h2];rfl
  ·have h:(!Tp.okN n.parent||(n.parent==m.addr))=false:=h;have h2:¬(Tp.okN n.parent=false\/n.parent=m.addr):=by simpa using h
   refine HR.skip (hj () _ _ trivial ⟨I,I,trivial⟩ (Ent.of_eq ?_));rw[e_pr,if_neg h2]
 repeat' (first|refine zh ?_|refine qI fn61 I I (fun w hw=>jAi n.table _ w ((qA h.ta).at hw) l1) ?_|fail)
 intro v1;refine HL.shape 0 I fun a c hv=>?_
 subst hv
 repeat' (first|refine zh ?_|fail)
 refine qR (H':=[jS b [.int .i64 m.addr,.int .i64 m.poll,.int .i64 m.parent,.slice a n.table.length c,sv V.li n.links.length,sv V.ou n.out.length,sv V.ch n.children.length,sv V.bo n.boxes.length,sv V.se n.seen.length,sv V.pa V.ps.length,sv V.ib n.inbox.length,.int .i64 n.seq,.int .i64 n.lost,.int .i64 (tick now)] 113,jS b1 (ndC V n) 62,cTa (.slice a n.table.length c) n.table]) (Ent.pick [1,2,0] I I) (qO [(0,true),(1,true),(2,true),(3,true),(4,true),(5,true),(6,true),(7,false),(8,true)] [0,1] I I j3 (by kernel_rfl) ?_)
 repeat' (first|refine zd ?_|fail)
 refine HD.one I (qB jTQ I I (fun w hw=>jD2 n.table m.addr _ w ((qA h.ta).at hw) l1) ?_);refine HL.back [0,1] I I ?_
 repeat' (first|refine zd ?_|fail)
 refine HD.nil (HR.join (ι:=SV) (fun _=>True) (fun _=>[(2,ptr b1),(5,ptr b)]) (fun x=>[jS b [.int .i64 m.addr,.int .i64 m.poll,.int .i64 m.parent,sv x m.table.length,sv V.li n.links.length,sv V.ou n.out.length,sv V.ch n.children.length,sv V.bo n.boxes.length,sv V.se n.seen.length,sv V.pa V.ps.length,sv V.ib n.inbox.length,.int .i64 n.seq,.int .i64 n.lost,.int .i64 (tick now)] 113,jS b1 (ndC V n) 62,cTa (sv x m.table.length) m.table]) (fun xt _=>?_) (fun hj=>?_))
 rotate_left
 ·refine HR.cond I (fun h2=>?_) (fun h2=>?_)
  ·have h2:¬KR n.table m.addr=0:=by simpa using h2
   refine HR.region ?_
   repeat' (first|refine zn ?_|refine qI fn69 I I (fun w _=>jEy m.addr w) ?_|fail)
   intro v2;refine HL.shape 0 I fun a2 c2 hv=>?_
   subst hv
   repeat' (first|refine zn ?_|fail)
   refine hj (a2,c2) _ _ trivial ⟨I,I,trivial⟩ ?_;rw[e_ta,if_neg h2,<- e_nw];exact Ent.pick [1,2,0] I I
  ·have h2:KR n.table m.addr=0:=by simpa using h2
   refine HR.skip (hj (a,c) _ _ trivial ⟨I,I,trivial⟩ ?_);rw[e_ta,if_pos h2];exact Ent.refl
 repeat' (first|refine zh ?_|refine qI jTP I I (fun w hw=>jDL n.links _ w ((qA h.li).at hw) l2) ?_|fail)
 intro v1;refine HL.shape 0 I fun a c hv=>?_
 subst hv
 repeat' (first|refine zh ?_|refine qB jTN I I (fun w hw=>jEN n.links _ w ((qA h.li).at hw) l2) ?_|fail)
 refine qR (H':=[jS b [.int .i64 m.addr,.int .i64 m.poll,.int .i64 m.parent,sv xt m.table.length,.slice a n.links.length c,sv V.ou n.out.length,sv V.ch n.children.length,sv V.bo n.boxes.length,sv V.se n.seen.length,sv V.pa V.ps.length,sv V.ib n.inbox.length,.int .i64 n.seq,.int .i64 n.lost,.int .i64 (tick now)] 113,jS b1 (ndC V n) 62,cTa (sv xt m.table.length) m.table,cLi (.slice a n.links.length c) n.links]) (Ent.pick [1,2,3,0] I I) (HR.join (ι:=SV) (fun _=>True) (fun _=>[(2,ptr b1),(5,ptr b)]) (fun x=>[jS b [.int .i64 m.addr,.int .i64 m.poll,.int .i64 m.parent,sv xt m.table.length,sv x m.links.length,sv V.ou n.out.length,sv V.ch n.children.length,sv V.bo n.boxes.length,sv V.se n.seen.length,sv V.pa V.ps.length,sv V.ib n.inbox.length,.int .i64 n.seq,.int .i64 n.lost,.int .i64 (tick now)] 113,jS b1 (ndC V n) 62,cTa (sv xt m.table.length) m.table,cLi (sv x m.links.length) m.links]) (fun xl _=>?_) (fun hj=>?_))
 rotate_left
 ·refine HR.cond I (fun h2=>?_) (fun h2=>?_)
  ·have h2:¬jAs n.links=0:=by simpa using h2
   refine HR.region ?_
   repeat' (first|refine zn ?_|fail)
   refine HR.J6 162 3 (hj (none,0) _ _ trivial ⟨I,I,trivial⟩ ?_);rw[e_li,if_neg h2];exact Ent.pick [1,2,3,0] I I
  ·have h2:jAs n.links=0:=by simpa using h2
   refine HR.skip (hj (a,c) _ _ trivial ⟨I,I,trivial⟩ ?_);rw[e_li,if_pos h2];exact Ent.refl
 repeat' (first|refine zh ?_|fail)
 refine QB 101 (v':= .int .i64 ((min n.out.length 16:Nat):Int)) I (by rw[<- jLA];rfl) ?_
 repeat' (first|refine qX (sz:=11) 0 (min n.out.length 16) (qA h.ou) I I I I (.inl ⟨rfl,rfl⟩) (.inr ⟨_,_,_,rfl,rfl,rfl⟩) (Nat.zero_le _) (Nat.min_le_left _ _) ?_|refine qI jQL I I (fun w hw=>KJ m.out _ w ((qA s_ou).at hw) (by omega)) ?_|fail)
 intro v1;refine HL.shape 0 I fun a3 c3 hv=>?_
 subst hv;refine qM (H':=[jS b [.int .i64 m.addr,.int .i64 m.poll,.int .i64 m.parent,sv xt m.table.length,sv xl m.links.length,sv V.ou n.out.length,sv V.ch n.children.length,sv V.bo n.boxes.length,sv V.se n.seen.length,sv V.pa V.ps.length,sv V.ib n.inbox.length,.int .i64 n.seq,.int .i64 n.lost,.int .i64 (tick now)] 113,jS b1 (ndC V n) 62,cTa (sv xt m.table.length) m.table,cLi (sv xl m.links.length) m.links,cSn (.slice a3 m.out.length c3) m.out]) (Ent.pick [1,2,3,4,0] I I) ?_
 repeat' (first|refine zh ?_|fail)
 refine QB 113 (v':= .int .i64 ((min n.boxes.length 16:Nat):Int)) I (by rw[<- jLA];rfl) ?_
 repeat' (first|refine qX (sz:=10) 0 (min n.boxes.length 16) (qA h.bo) I I I I (.inl ⟨rfl,rfl⟩) (.inr ⟨_,_,_,rfl,rfl,rfl⟩) (Nat.zero_le _) (Nat.min_le_left _ _) ?_|refine qI jRo I I (fun w hw=>jAk m.boxes _ w ((qA s_bo).at hw) (by omega)) ?_|fail)
 intro v1;refine HL.shape 0 I fun a5 c5 hv=>?_
 subst hv;refine qM (H':=[jS b [.int .i64 m.addr,.int .i64 m.poll,.int .i64 m.parent,sv xt m.table.length,sv xl m.links.length,.slice a3 m.out.length c3,sv V.ch n.children.length,sv V.bo n.boxes.length,sv V.se n.seen.length,sv V.pa V.ps.length,sv V.ib n.inbox.length,.int .i64 n.seq,.int .i64 n.lost,.int .i64 (tick now)] 113,jS b1 (ndC V n) 62,cTa (sv xt m.table.length) m.table,cLi (sv xl m.links.length) m.links,cSn (.slice a3 m.out.length c3) m.out,cMa (.slice a5 m.boxes.length c5) m.boxes]) (Ent.pick [1,2,3,4,5,0] I I) ?_
 repeat' (first|refine zh ?_|fail)
 refine HR.J6 3 1 ?_;obtain ⟨g,hg⟩:∃g:Nat->List Int,g=fun k=>(n.children.take k).filter fun c=>Tp.okN c&&!(c==m.addr):=⟨_,rfl⟩
 have hgl:∀k,(g k).length<=1000:=fun k=>by rw[hg];exact Nat.le_trans (List.length_filter_le _ _) (by rw[List.length_take];omega)
 refine HR.loop (ι:=Nat×SV) (fun x=>x.1<=n.children.length) (fun x=>[(2,ptr b1),(5,ptr b),(124,sv V.ch n.children.length),(125,.int .i64 (n.children.length:Int)),(126,.int .i64 (x.1:Int))]) (fun x=>[jS b [.int .i64 m.addr,.int .i64 m.poll,.int .i64 m.parent,sv xt m.table.length,sv xl m.links.length,.slice a3 m.out.length c3,sv x.2 (g x.1).length,.slice a5 m.boxes.length c5,sv V.se n.seen.length,sv V.pa V.ps.length,sv V.ib n.inbox.length,.int .i64 n.seq,.int .i64 n.lost,.int .i64 (tick now)] 113,jS b1 (ndC V n) 62,cTa (sv xt m.table.length) m.table,cLi (sv xl m.links.length) m.links,cSn (.slice a3 m.out.length c3) m.out,cMa (.slice a5 m.boxes.length c5) m.boxes,cI (sv x.2 (g x.1).length) (g x.1)]) (fun x=>n.children.length-x.1) (0,none,0) (Nat.zero_le _) ⟨I,I,I,I,I,trivial⟩ (by rw[hg];exact Ent.pick [1,2,3,4,5,6,0] I I) ?_
 rintro ⟨k,x⟩ hk ih
 have hk:k<=n.children.length:=hk;have hgk:(g (k,x).fst).length<=1000:=hgl k
 repeat' (first|refine zh ?_|fail)
 refine HR.cond I (fun h2=>?_) (fun h2=>?_)
 ·have hlt:k<n.children.length:=by have:=of_decide_eq_true h2;omega
  obtain ⟨c,hc⟩:=jG hlt;have hgs:=Zd (p:=fun c=>Tp.okN c&&!(c==m.addr)) hc;have hgs:g (k+1)=if (Tp.okN c&&!(c==m.addr))=true then g k++[c]else g k:=by rw[hg];exact hgs
  repeat' (first|refine zh ?_|refine qE (qA h.ch) j5 k I I I I hlt ?_|refine qF (qA h.ch) I I I I (jN hc) ?_|refine qB fn91 I I (fun w _=>jAD c w) ?_|apply zb ?_ ?_|exact zc|(refine zi fun hb=>?_;try simp at hb)|fail)
  refine HR.cond I (fun h3=>?_) (fun h3=>?_)
  ·have h3:(Tp.okN c&&!(c==m.addr))=true:=h3;rw[if_pos h3]at hgs
   repeat' (first|refine zh ?_|fail)
   refine qH j5 I I I I I (by decide) (by decide) ?_;intro va;refine qJ 7 I j5 (Rd.own 0 I) I I I I (jH I) (by omega) (by omega) ?_;intro v2;refine HL.shape 7 I fun a2 c2 hv=>?_
   subst hv
   repeat' (first|refine zh ?_|fail)
   refine ih (k+1,a2,c2) _ _ hlt (by show n.children.length-(k+1)<n.children.length-k;omega) ⟨I,I,I,I,I,trivial⟩ ?_;show Ent _ _ [jS b [.int .i64 m.addr,.int .i64 m.poll,.int .i64 m.parent,sv xt m.table.length,sv xl m.links.length,.slice a3 m.out.length c3,.slice a2 (g (k+1)).length c2,.slice a5 m.boxes.length c5,sv V.se n.seen.length,sv V.pa V.ps.length,sv V.ib n.inbox.length,.int .i64 n.seq,.int .i64 n.lost,.int .i64 (tick now)] 113,jS b1 (ndC V n) 62,cTa (sv xt m.table.length) m.table,cLi (sv xl m.links.length) m.links,cSn (.slice a3 m.out.length c3) m.out,cMa (.slice a5 m.boxes.length c5) m.boxes,jM (.slice a2 (g (k+1)).length c2) 3 1 (g (k+1)).length (cellsOf iC (g (k+1)))];rw[show (g (k+1)).length=(g k).length+1 from by rw[hgs];simp,show cellsOf iC (g (k+1))=cellsOf iC (g k)++iC c from by rw[hgs,jL];rfl];exact Ent.pick [1,2,3,4,5,6,7] I I
  ·have h3:(Tp.okN c&&!(c==m.addr))=false:=h3;rw[if_neg (by rw[h3];decide)]at hgs
   repeat' (first|refine zh ?_|fail)
   refine ih (k+1,x) _ _ hlt (by show n.children.length-(k+1)<n.children.length-k;omega) ⟨I,I,I,I,I,trivial⟩ ?_;show Ent _ _ [jS b [.int .i64 m.addr,.int .i64 m.poll,.int .i64 m.parent,sv xt m.table.length,sv xl m.links.length,.slice a3 m.out.length c3,sv x (g (k+1)).length,.slice a5 m.boxes.length c5,sv V.se n.seen.length,sv V.pa V.ps.length,sv V.ib n.inbox.length,.int .i64 n.seq,.int .i64 n.lost,.int .i64 (tick now)] 113,jS b1 (ndC V n) 62,cTa (sv xt m.table.length) m.table,cLi (sv xl m.links.length) m.links,cSn (.slice a3 m.out.length c3) m.out,cMa (.slice a5 m.boxes.length c5) m.boxes,cI (sv x (g (k+1)).length) (g (k+1))];rw[hgs];exact Ent.refl
 have hke:k=n.children.length:=by have:=of_decide_eq_false h2;omega
 subst hke;obtain ⟨L,hL⟩:∃L,L=g n.children.length:=⟨_,rfl⟩;have hLe:L=n.children.filter fun c=>Tp.okN c&&!(c==m.addr):=by rw[hL,hg];show (n.children.take n.children.length).filter _=_;rw[List.take_length]
 have hLl:L.length<=1000:=by rw[hL];exact hgl _
 have hLd:Tf.dif L=m.children:=by rw[e_ch,hLe]
 refine qR (H':=[jS b [.int .i64 m.addr,.int .i64 m.poll,.int .i64 m.parent,sv xt m.table.length,sv xl m.links.length,.slice a3 m.out.length c3,sv x L.length,.slice a5 m.boxes.length c5,sv V.se n.seen.length,sv V.pa V.ps.length,sv V.ib n.inbox.length,.int .i64 n.seq,.int .i64 n.lost,.int .i64 (tick now)] 113,jS b1 (ndC V n) 62,cTa (sv xt m.table.length) m.table,cLi (sv xl m.links.length) m.links,cSn (.slice a3 m.out.length c3) m.out,cMa (.slice a5 m.boxes.length c5) m.boxes,cI (sv x L.length) L]) (Ent.of_eq (by rw[hL])) (qR (H':=[cI (sv x L.length) L,jS b [.int .i64 m.addr,.int .i64 m.poll,.int .i64 m.parent,sv xt m.table.length,sv xl m.links.length,.slice a3 m.out.length c3,sv x L.length,.slice a5 m.boxes.length c5,sv V.se n.seen.length,sv V.pa V.ps.length,sv V.ib n.inbox.length,.int .i64 n.seq,.int .i64 n.lost,.int .i64 (tick now)] 113,jS b1 (ndC V n) 62,cTa (sv xt m.table.length) m.table,cLi (sv xl m.links.length) m.links,cSn (.slice a3 m.out.length c3) m.out,cMa (.slice a5 m.boxes.length c5) m.boxes]) (Ent.pick [6,0,1,2,3,4,5] I I) ?_)
 repeat' (first|refine zh ?_|fail)
 refine qQ (r:=fun _:Unit=> .tuple #[]) (Q:=fun _=>True) (G0:=[cI (sv x L.length) L]) (H0:=[jS b [.int .i64 m.addr,.int .i64 m.poll,.int .i64 m.parent,sv xt m.table.length,sv xl m.links.length,.slice a3 m.out.length c3,sv x L.length,.slice a5 m.boxes.length c5,sv V.se n.seen.length,sv V.pa V.ps.length,sv V.ib n.inbox.length,.int .i64 n.seq,.int .i64 n.lost,.int .i64 (tick now)] 113,jS b1 (ndC V n) 62,cTa (sv xt m.table.length) m.table,cLi (sv xl m.links.length) m.links,cSn (.slice a3 m.out.length c3) m.out,cMa (.slice a5 m.boxes.length c5) m.boxes]) (G:=fun _=>[jM (sv x L.length) 3 1 L.length (cellsOf iC (Tf.srt L))]) jRn I I I (fun w hw=>jCc _ _ L w (hw.vw (i:=0) I) (by omega)) ?_;intro _ _
 repeat' (first|refine zh ?_|fail)
 refine qQ (r:=fun z:Value=>z) (Q:=fun _=>True) (G0:=[jM (sv x L.length) 3 1 L.length (cellsOf iC (Tf.srt L))]) (H0:=[jS b [.int .i64 m.addr,.int .i64 m.poll,.int .i64 m.parent,sv xt m.table.length,sv xl m.links.length,.slice a3 m.out.length c3,sv x L.length,.slice a5 m.boxes.length c5,sv V.se n.seen.length,sv V.pa V.ps.length,sv V.ib n.inbox.length,.int .i64 n.seq,.int .i64 n.lost,.int .i64 (tick now)] 113,jS b1 (ndC V n) 62,cTa (sv xt m.table.length) m.table,cLi (sv xl m.links.length) m.links,cSn (.slice a3 m.out.length c3) m.out,cMa (.slice a5 m.boxes.length c5) m.boxes]) (G:=fun z=>[jM z 3 1 (Tf.dif L).length (cellsOf iC (Tf.dif L))]) fn136 I I I (fun w hw=>jG5 _ _ (Tf.srt L) w (hw.vw (i:=0) I) (by omega)) ?_;intro z _;rw[hLd];refine HL.shape 0 I fun a4 c4 hv=>?_
 subst hv;refine qM (H':=[jS b [.int .i64 m.addr,.int .i64 m.poll,.int .i64 m.parent,sv xt m.table.length,sv xl m.links.length,.slice a3 m.out.length c3,sv x L.length,.slice a5 m.boxes.length c5,sv V.se n.seen.length,sv V.pa V.ps.length,sv V.ib n.inbox.length,.int .i64 n.seq,.int .i64 n.lost,.int .i64 (tick now)] 113,jS b1 (ndC V n) 62,cTa (sv xt m.table.length) m.table,cLi (sv xl m.links.length) m.links,cSn (.slice a3 m.out.length c3) m.out,cMa (.slice a5 m.boxes.length c5) m.boxes,cI (.slice a4 m.children.length c4) m.children]) (Ent.pick [1,2,3,4,5,6,0] I I) ?_
 repeat' (first|refine zh ?_|fail)
 refine QB 177 (v':= .int .i64 ((n.seen.length-32:Nat):Int)) I (by rw[<- max0]) ?_
 repeat' (first|refine qX (sz:=2) (n.seen.length-32) n.seen.length (qA h.se) I I I I (.inr ⟨_,_,_,rfl,rfl,rfl⟩) (.inl ⟨rfl,rfl⟩) (Nat.sub_le _ _) (Nat.le_refl _) ?_|refine qI jRm I I (fun w hw=>jAj m.seen _ w ((qA s_se).at hw) (by omega)) ?_|fail)
 intro v1;refine HL.shape 0 I fun a6 c6 hv=>?_
 subst hv;refine qM (H':=[jS b [.int .i64 m.addr,.int .i64 m.poll,.int .i64 m.parent,sv xt m.table.length,sv xl m.links.length,.slice a3 m.out.length c3,.slice a4 m.children.length c4,.slice a5 m.boxes.length c5,sv V.se n.seen.length,sv V.pa V.ps.length,sv V.ib n.inbox.length,.int .i64 n.seq,.int .i64 n.lost,.int .i64 (tick now)] 113,jS b1 (ndC V n) 62,cTa (sv xt m.table.length) m.table,cLi (sv xl m.links.length) m.links,cSn (.slice a3 m.out.length c3) m.out,cMa (.slice a5 m.boxes.length c5) m.boxes,cI (.slice a4 m.children.length c4) m.children,cPr (.slice a6 m.seen.length c6) m.seen]) (Ent.pick [1,2,3,4,5,6,7,0] I I) ?_
 repeat' (first|refine zh ?_|fail)
 refine QB 189 (v':= .int .i64 ((min n.inbox.length 256:Nat):Int)) I (by rw[<- jLA];rfl) ?_
 repeat' (first|refine qX (sz:=2) 0 (min n.inbox.length 256) (qA h.ib) I I I I (.inl ⟨rfl,rfl⟩) (.inr ⟨_,_,_,rfl,rfl,rfl⟩) (Nat.zero_le _) (Nat.min_le_left _ _) ?_|refine qI fn59 I I (fun w hw=>jDM m.inbox _ w ((qA s_ib).at hw) (by omega)) ?_|fail)
 intro v1;refine HL.shape 0 I fun a7 c7 hv=>?_
 subst hv;refine qM (H':=[jS b [.int .i64 m.addr,.int .i64 m.poll,.int .i64 m.parent,sv xt m.table.length,sv xl m.links.length,.slice a3 m.out.length c3,.slice a4 m.children.length c4,.slice a5 m.boxes.length c5,.slice a6 m.seen.length c6,sv V.pa V.ps.length,sv V.ib n.inbox.length,.int .i64 n.seq,.int .i64 n.lost,.int .i64 (tick now)] 113,jS b1 (ndC V n) 62,cTa (sv xt m.table.length) m.table,cLi (sv xl m.links.length) m.links,cSn (.slice a3 m.out.length c3) m.out,cMa (.slice a5 m.boxes.length c5) m.boxes,cI (.slice a4 m.children.length c4) m.children,cPr (.slice a6 m.seen.length c6) m.seen,cDe (.slice a7 m.inbox.length c7) m.inbox]) (Ent.pick [1,2,3,4,5,6,7,8,0] I I) ?_
 repeat' (first|refine zh ?_|fail)
 refine HR.J6 173 6 (qR (H':=[jS b [.int .i64 m.addr,.int .i64 m.poll,.int .i64 m.parent,sv xt m.table.length,sv xl m.links.length,.slice a3 m.out.length c3,.slice a4 m.children.length c4,.slice a5 m.boxes.length c5,.slice a6 m.seen.length c6,.slice none 0 0,.slice a7 m.inbox.length c7,.int .i64 n.seq,.int .i64 n.lost,.int .i64 (tick now)] 113,jS b1 (ndC V n) 62,cTa (sv xt m.table.length) m.table,cLi (sv xl m.links.length) m.links,cSn (.slice a3 m.out.length c3) m.out,cMa (.slice a5 m.boxes.length c5) m.boxes,cI (.slice a4 m.children.length c4) m.children,cPr (.slice a6 m.seen.length c6) m.seen,cDe (.slice a7 m.inbox.length c7) m.inbox,jM (.slice none 0 0) 173 6 0 [],jC []]) (Ent.trans QJ (Ent.pick [2,3,4,5,6,7,8,9,10,1,0] I I)) ?_);refine HR.loop (ι:=Nat×SV×List PtV) (fun x=>x.1<=V.ps.length/\pts x.2.2=(pts V.ps).take x.1/\∀p∈x.2.2,kR p) (fun x=>[(2,ptr b1),(5,ptr b),(200,sv V.pa V.ps.length),(201,.int .i64 (V.ps.length:Int)),(202,.int .i64 (x.1:Int))]) (fun x=>[jS b [.int .i64 m.addr,.int .i64 m.poll,.int .i64 m.parent,sv xt m.table.length,sv xl m.links.length,.slice a3 m.out.length c3,.slice a4 m.children.length c4,.slice a5 m.boxes.length c5,.slice a6 m.seen.length c6,sv x.2.1 x.2.2.length,.slice a7 m.inbox.length c7,.int .i64 n.seq,.int .i64 n.lost,.int .i64 (tick now)] 113,jS b1 (ndC V n) 62,cTa (sv xt m.table.length) m.table,cLi (sv xl m.links.length) m.links,cSn (.slice a3 m.out.length c3) m.out,cMa (.slice a5 m.boxes.length c5) m.boxes,cI (.slice a4 m.children.length c4) m.children,cPr (.slice a6 m.seen.length c6) m.seen,cDe (.slice a7 m.inbox.length c7) m.inbox,cPt (sv x.2.1 x.2.2.length) x.2.2,jC (ptG x.2.2)]) (fun x=>V.ps.length-x.1) (0,(none,0),[]) ⟨Nat.zero_le _,rfl,fun p hp=>by cases hp⟩ ⟨I,I,I,I,I,trivial⟩ Ent.refl ?_
 rintro ⟨k,y,L2⟩ ⟨hk,hL2,hsh⟩ ih
 have hk:k<=V.ps.length:=hk;have hL2:pts L2=(pts V.ps).take k:=hL2;have hsh:∀p∈L2,kR p:=hsh;have hLl2:L2.length<=1000:=by rw[<- jW,hL2,List.length_take];have:=jW V.ps;omega
 repeat' (first|refine zh ?_|fail)
 refine HR.cond I (fun h2=>?_) (fun h2=>?_)
 ·have hlt:k<V.ps.length:=by have:=of_decide_eq_true h2;omega
  obtain ⟨p,hp⟩:=jG hlt;have hrp:=h.pa.r p (List.mem_of_getElem? hp);have hsp:=hs.sm p.pt (by rw[<- h.eq];exact List.mem_of_getElem? (J3 hp));have hst:(pts V.ps).take (k+1)=pts L2++[p.pt]:=by rw[hL2];exact jE (J3 hp)
  obtain ⟨aa,na,ca,ab,nb,cb,ex⟩:=hrp.sh.lit;obtain ⟨q,hq⟩:∃q,q=p.pt:=⟨_,rfl⟩;rw[<- hq]at hst ex hsp;subst ex;have hh:Sl w (.slice aa na ca) (cellsOf bC q.hv) q.hv.length:=hrp.h;have hd:Sl w (.slice ab nb cb) (cellsOf sC q.da) q.da.length:=hrp.d;have hs1:q.hv.length<=140737488355328:=hsp.1;have hs2:q.da.length<=8796093022208:=hsp.2.1
  repeat' (first|refine zh ?_|refine qE (qA h.pa.s) jX k I I I I hlt ?_|refine qN (qA h.pa.s) I I I I (by simp) I (jD jY hp) ?_|intro (bk:Nat))
  refine YP [(0,true),(1,true),(3,true),(4,true),(2,false),(6,true),(5,false)] [7,8,9] [0] I I j3 (by kernel_rfl) ?_
  repeat' (first|refine zd ?_|fail)
  refine HD.one I (qI jTM I I (fun w1 hw1=>jEf q.hv _ w1 ((qA hh).at hw1) (by omega)) ?_);intro v1;refine HL.shape 0 I fun a1 c1 hv=>?_
  subst hv;refine HL.back [1] I I ?_
  repeat' (first|refine zd ?_|fail)
  refine HD.one I (qI jTL I I (fun w1 hw1=>jEe q.da _ w1 ((qA hd).at hw1) (by omega)) ?_);intro v2;refine HL.shape 0 I fun a2 c2 hv=>?_
  subst hv;refine HL.back [2] I I (HD.tail I ?_)
  repeat' (first|refine zn ?_|fail)
  obtain ⟨Q,hQ⟩:∃Q:PtV,Q=⟨.slice a1 q.hv.length c1,.slice a2 q.da.length c2,q⟩:=⟨_,rfl⟩;refine qR (H':=[jS bk (ptC ⟨.slice a1 q.hv.length c1,.slice a2 q.da.length c2,q⟩) 173,jS b [.int .i64 m.addr,.int .i64 m.poll,.int .i64 m.parent,sv xt m.table.length,sv xl m.links.length,.slice a3 m.out.length c3,.slice a4 m.children.length c4,.slice a5 m.boxes.length c5,.slice a6 m.seen.length c6,sv y L2.length,.slice a7 m.inbox.length c7,.int .i64 n.seq,.int .i64 n.lost,.int .i64 (tick now)] 113,jS b1 (ndC V n) 62,cPt (sv y L2.length) L2,cTa (sv xt m.table.length) m.table,cLi (sv xl m.links.length) m.links,cSn (.slice a3 m.out.length c3) m.out,cMa (.slice a5 m.boxes.length c5) m.boxes,cI (.slice a4 m.children.length c4) m.children,cPr (.slice a6 m.seen.length c6) m.seen,cDe (.slice a7 m.inbox.length c7) m.inbox,jC (ptG L2),ptH ⟨.slice a1 q.hv.length c1,.slice a2 q.da.length c2,q⟩,ptD ⟨.slice a1 q.hv.length c1,.slice a2 q.da.length c2,q⟩]) (Ent.pick [2,3,4,12,5,6,7,8,9,10,11,13,1,0] I I) (qU [(0,true),(1,true),(2,true),(3,true),(4,true),(5,true),(6,true),(7,false),(8,false),(9,true),(10,true),(11,true)] 12 [0,1] I I j3 (by kernel_rfl) ?_)
  repeat' (first|refine zd ?_|fail)
  refine HD.one I (qH jX I I I I I (by decide) (by decide) ?_);intro va;refine HL.back [1,2] I I (HD.one I ?_);refine qJ 4 I jX (Rd.own 0 I) I I I I (jH I) (by show (L2.length+1)*80<=_;omega) (by show L2.length+1<=_;omega) ?_;intro v3;refine HL.back [1,2] I I ?_
  repeat' (first|refine zd ?_|fail)
  refine qo I ?_;refine HL.shape 4 I fun a9 c9 hv=>?_
  subst hv
  repeat' (first|refine zn ?_|fail)
  repeat' (first|refine zh ?_|fail)
  refine ih (k+1,(a9,c9),L2++[Q]) _ _ ⟨hlt,?_,?_⟩ (by show V.ps.length-(k+1)<V.ps.length-k;omega) ⟨I,I,I,I,I,trivial⟩ ?_
  ·show pts (L2++[Q])=(pts V.ps).take (k+1);rw[jCv,hst,hQ];rfl
  ·intro p hp;have hp:p∈L2++[Q]:=hp;rcases List.mem_append.1 hp with hp|hp
   ·exact hsh p hp
   ·rw [List.mem_singleton]at hp;rw[hp,hQ];exact ⟨⟨_,_,_,rfl⟩,⟨_,_,_,rfl⟩⟩
  ·have hl1:L2.length+1=(L2++[Q]).length:=by simp
   have hc1:cellsOf ptC L2++ptC Q=cellsOf ptC (L2++[Q]):=by rw[jL];rfl
   show Ent _ _ [jS b [.int .i64 m.addr,.int .i64 m.poll,.int .i64 m.parent,sv xt m.table.length,sv xl m.links.length,.slice a3 m.out.length c3,.slice a4 m.children.length c4,.slice a5 m.boxes.length c5,.slice a6 m.seen.length c6,sv (a9,c9) (L2++[Q]).length,.slice a7 m.inbox.length c7,.int .i64 n.seq,.int .i64 n.lost,.int .i64 (tick now)] 113,jS b1 (ndC V n) 62,cTa (sv xt m.table.length) m.table,cLi (sv xl m.links.length) m.links,cSn (.slice a3 m.out.length c3) m.out,cMa (.slice a5 m.boxes.length c5) m.boxes,cI (.slice a4 m.children.length c4) m.children,cPr (.slice a6 m.seen.length c6) m.seen,cDe (.slice a7 m.inbox.length c7) m.inbox,cPt (sv (a9,c9) (L2++[Q]).length) (L2++[Q]),jC (ptG (L2++[Q]))];rw[<- hl1,show cPt (sv (a9,c9) (L2.length+1)) (L2++[Q])=jM (.slice a9 (L2.length+1) c9) 173 6 (L2.length+1) (cellsOf ptC L2++ptC Q)from by rw[hc1,hl1],Zi,jAc,hQ];refine Ent.trans (Ent.pick (H':=[ptH ⟨.slice a1 q.hv.length c1,.slice a2 q.da.length c2,q⟩,ptD ⟨.slice a1 q.hv.length c1,.slice a2 q.da.length c2,q⟩,jC (ptG L2),jS b [.int .i64 m.addr,.int .i64 m.poll,.int .i64 m.parent,sv xt m.table.length,sv xl m.links.length,.slice a3 m.out.length c3,.slice a4 m.children.length c4,.slice a5 m.boxes.length c5,.slice a6 m.seen.length c6,.slice a9 (L2.length+1) c9,.slice a7 m.inbox.length c7,.int .i64 n.seq,.int .i64 n.lost,.int .i64 (tick now)] 113,jS b1 (ndC V n) 62,cTa (sv xt m.table.length) m.table,cLi (sv xl m.links.length) m.links,cSn (.slice a3 m.out.length c3) m.out,cMa (.slice a5 m.boxes.length c5) m.boxes,cI (.slice a4 m.children.length c4) m.children,cPr (.slice a6 m.seen.length c6) m.seen,cDe (.slice a7 m.inbox.length c7) m.inbox,jM (.slice a9 (L2.length+1) c9) 173 6 (L2.length+1) (cellsOf ptC L2++ptC ⟨.slice a1 q.hv.length c1,.slice a2 q.da.length c2,q⟩)]) [13,14,12,2,3,5,6,7,8,9,10,11,4] I I) (Ent.trans (Ent.group (G:=[ptH _,ptD _])) (Ent.trans QV ?_));exact Ent.pick [1,2,3,4,5,6,7,8,9,10,0] I I
 have hke:k=V.ps.length:=by have:=of_decide_eq_false h2;omega
 subst hke;have hL2:pts L2=m.parts:=by rw[hL2,<- jW,List.take_length,e_pa,h.eq]
 repeat' (first|refine zh ?_|apply zb ?_ ?_|exact zc|(refine zi fun hb=>?_;try simp at hb)|fail)
 refine HR.join (ι:=Unit) (fun _=>True) (fun _=>[(2,ptr b1),(5,ptr b)]) (fun _=>[jS b [.int .i64 m.addr,.int .i64 m.poll,.int .i64 m.parent,sv xt m.table.length,sv xl m.links.length,.slice a3 m.out.length c3,.slice a4 m.children.length c4,.slice a5 m.boxes.length c5,.slice a6 m.seen.length c6,sv y L2.length,.slice a7 m.inbox.length c7,.int .i64 m.seq,.int .i64 n.lost,.int .i64 (tick now)] 113,jS b1 (ndC V n) 62,cTa (sv xt m.table.length) m.table,cLi (sv xl m.links.length) m.links,cSn (.slice a3 m.out.length c3) m.out,cMa (.slice a5 m.boxes.length c5) m.boxes,cI (.slice a4 m.children.length c4) m.children,cPr (.slice a6 m.seen.length c6) m.seen,cDe (.slice a7 m.inbox.length c7) m.inbox,cPt (sv y L2.length) L2,jC (ptG L2)]) (fun _ _=>?_) (fun hj=>?_)
 rotate_left
 ·refine HR.cond I (fun h2=>?_) (fun h2=>?_)
  ·have h2:(decide (n.seq<0)||decide (n.seq>65535))=true:=h2;have h3:n.seq<0\/n.seq>65535:=by simpa using h2
   refine HR.region ?_
   repeat' (first|refine zn ?_|fail)
   refine hj () _ _ trivial ⟨I,I,trivial⟩ (Ent.of_eq ?_);rw[e_sq,if_pos h3];rfl
  ·have h2:(decide (n.seq<0)||decide (n.seq>65535))=false:=h2;have h3:¬(n.seq<0\/n.seq>65535):=by simpa using h2
   refine HR.skip (hj () _ _ trivial ⟨I,I,trivial⟩ (Ent.of_eq ?_));rw[e_sq,if_neg h3]
 repeat' (first|refine zh ?_|refine qB jRp I I (fun w _=>jE9 n.lost 0 1099511627776 w) ?_|fail)
 refine HR.ret Tryz.func68 I [_] (fun _ _=>⟨I,trivial⟩) ?_;refine fun w' hw=>⟨(b,⟨xt,xl,(a3,c3),(a4,c4),(a5,c5),(a6,c6),y,(a7,c7),L2⟩),rfl,⟨hL2,hsh⟩,?_⟩
 rw[show stH b ⟨xt,xl,(a3,c3),(a4,c4),(a5,c5),(a6,c6),y,(a7,c7),L2⟩ m (tick now)=stH b ⟨xt,xl,(a3,c3),(a4,c4),(a5,c5),(a6,c6),y,(a7,c7),L2⟩ { m with lost:=clamp n.lost 0 1099511627776 } (tick now)from by rw[<- e_lo]];exact hw.pick [0,2,3,4,6,5,7,9,10,8] I I
theorem fn36:IsFn Tryz.prog 36:=zF Tryz.func36 I
theorem fn86:IsFn Tryz.prog 86:=zF Tryz.func86 I
abbrev V0:NV:=⟨(none,0),(none,0),(none,0),(none,0),(none,0),(none,0),(none,0),(none,0),[]⟩
abbrev n0 (addr poll:Int):Nd:=⟨addr,poll,255,[],[],[],[],[],[],[],[],0,0⟩
theorem okn0 (addr poll:Int) (w:World):OkN w V0 (n0 addr poll):=⟨Sl.nil w,Sl.nil w,Sl.nil w,Sl.nil w,Sl.nil w,Sl.nil w,⟨Sl.nil w,fun p hp=>by cases hp⟩,Sl.nil w,rfl⟩
theorem smn0 (addr poll:Int):SmN (n0 addr poll):=⟨Nat.zero_le _,Nat.zero_le _,Nat.zero_le _,Nat.zero_le _,Nat.zero_le _,Nat.zero_le _,Nat.zero_le _,Nat.zero_le _,fun p hp=>by cases hp⟩
theorem jPc (n:Int):KR [] (clamp n 0 250)=8:=by
 unfold KR;rw[jKH]
 simp[jf]
theorem jM5 (addr poll:Int):(new addr poll).table=jDv (new addr poll).addr:=by
 show (if KR [] (clamp addr 0 250)=0 then []else [jHg (clamp addr 0 250)])=[jHg (clamp (clamp addr 0 250) 0 250)];rw[jPc,if_neg (by decide),jNw]
theorem jPT (addr poll:Int) (w:World):
  Calls Tryz.prog 36 #[.int .i64 addr,.int .i64 poll] w fun e w'=>∃V':NV,e= .returned (.agg ⟨ndC V' (new addr poll)⟩)/\Pts V' (new addr poll)/\Sat (base w) (ndH V' (new addr poll)) w':=by
 obtain ⟨m,hm⟩:∃m,m=new addr poll:=⟨_,rfl⟩;have hmt:m.table=jDv m.addr:=by rw[hm];exact jM5 addr poll
 refine zE Tryz.func36 I [(0,.int .i64 addr),(1,.int .i64 poll)] ?_;rw[<- hm];refine zh ?_;intro (bk:Nat);refine zh ?_;refine qL (r:=fun x:Nat×NV=>ptr x.1) (Q:=fun x=>Pts x.2 m) (G:=fun x=>stH x.1 x.2 m (tick 0)) jSB I I (fun w1 _=>by rw[hm];exact kP V0 (n0 addr poll) 0 w1 (okn0 addr poll w1) (smn0 addr poll)) ?_
 rintro ⟨b,V⟩ hP
 have hP:Pts V m:=hP;refine qM (Ent.pick [10,0,1,2,3,4,5,6,7,8,9] I I) (zh ?_);refine qI fn69 I I (fun w1 _=>jEy m.addr w1) ?_;intro v1;refine HL.shape 0 I fun a c hv=>?_
 subst hv;refine zh ?_;refine HR.ret Tryz.func36 I [_] (fun w hw=>⟨⟨_,rfl,jQ hw 1 I I I I rfl⟩,trivial⟩) ?_;refine fun w' hw=>⟨{ V with ta:=(a,c) },?_,⟨hP.eq,hP.sh⟩,?_⟩
 ·show Ending.returned (.agg ⟨ndC { V with ta:=(a,c) } { m with table:=jDv m.addr }⟩)=Ending.returned (.agg ⟨ndC { V with ta:=(a,c) } m⟩);rw[<- hmt]
 ·have e:ndH { V with ta:=(a,c) } m=ndH { V with ta:=(a,c) } { m with table:=jDv m.addr }:=by rw[<- hmt]
  rw[e];exact hw.pick [0,4,5,6,7,8,9,10,11] I I
theorem jKU (V:NV) (n:Nd) (now:Int) (w:World) (h:OkN w V n) (hs:SmN n):
  Calls Tryz.prog 86 #[.agg ⟨ndC V n⟩,.int .i64 now] w fun e w'=>e= .returned (.bool (awake n now))/\Below w.heap.size w w':=by
 obtain ⟨m,hm⟩:∃m,m=order n:=⟨_,rfl⟩;have ho:Ord m:=by rw[hm];exact JJ n
 have hpo:=ho.poll;have ht0:0<=tick now:=by unfold tick clamp;omega
 have hsp:awake n now=(((m.poll==0)||(m.parent==255)||decide (0<m.parts.length))||decide (tick now%m.poll<3)):=by rw[hm];rfl
 refine zE Tryz.func86 I [(0,.agg ⟨ndC V n⟩),(1,.int .i64 now)] ?_;rw[hsp];refine zh ?_;intro (bk:Nat);refine zh ?_;refine qL (r:=fun x:Nat×NV=>ptr x.1) (Q:=fun x=>Pts x.2 m) (G:=fun x=>stH x.1 x.2 m (tick now)) jSB I I (fun w1 hw1=>by rw[hm];exact kP V n now w1 (h.ext hw1.jF) hs) ?_
 rintro ⟨b,V2⟩ hP
 have hP:Pts V2 m:=hP;have hpl:V2.ps.length=m.parts.length:=by rw[<- jW,hP.eq]
 refine zh ?_;refine qK j3 (by kernel_rfl) ?_
 repeat' (first|refine zq ?_|apply zb ?_ ?_|exact zc|(refine zi fun hb=>?_;try simp at hb)|fail)
 refine HR.ret Tryz.func86 I [_] (fun _ _=>⟨I,trivial⟩) ?_;refine fun w' hw=>⟨?_,hw.jF⟩
 rw[hpl,show decide (0<m.parts.length)=decide ((m.parts.length:Int)>0)from decide_eq_decide.2 (by omega)];rfl
abbrev zerC:List Value:=[.int .i64 0,.int .i64 0,.int .i64 0,.slice none 0 0,.slice none 0 0,.slice none 0 0,.slice none 0 0,.slice none 0 0,.slice none 0 0,.slice none 0 0,.slice none 0 0,.int .i64 0,.int .i64 0]
theorem jBB (n:Nd) (d:De):(deliver n d).parts=n.parts:=by unfold deliver lose;split<;>rfl
theorem Zu (n:Nd) (f:Fr):∃q l,(queue n f).1={ n with out:=q,lost:=l }:=by
 by_cases h:(jDf n.out f).2=false\/(jDf n.out f).1.length=n.out.length
 ·exact ⟨(jDf n.out f).1,min (n.lost+1) jw,by unfold queue lose;simp only[if_pos h]⟩
 ·exact ⟨(jDf n.out f).1,n.lost,by unfold queue;simp only[if_neg h]⟩
theorem Zh (n:Nd) (f:Fr):(queue n f).1.parts=n.parts:=by obtain ⟨q,l,e⟩:=Zu n f;rw[e]
theorem fn93:IsFn Tryz.prog 93:=zF Tryz.func93 I
theorem fn44:IsFn Tryz.prog 44:=zF Tryz.func44 I
theorem fn89:IsFn Tryz.prog 89:=zF Tryz.func89 I
theorem jDA {l:List Li} (h:jAs l=0):l.length<=24:=by
 unfold jAs at h
 split at h
 ·cases h
 ·omega
theorem llen {n:Nd} (h:Ord n):n.links.length<=24:=jDA h.links
theorem jRM {n:Nd} (h:Ord n):n.children.length<=251:=jHF h.kids fun x hx=>(h.kid x hx).1
abbrev tiC (bt:Nat) (to:Int):Chunk:=jS bt [.int .i64 to] 3
theorem jHW (b:Nat) (V:NV) (n:Nd) (now to:Int) (B:Base) (w:World) (hw:Sat B (stH b V n now) w) (ho:Ord n):
  Calls Tryz.prog 93 #[ptr b,.int .i64 to] w fun e w'=>∃x:SV×SV×SV,e= .returned (.tuple ⟨[]⟩)/\True/\Sat ⟨w,zN (stH b V n now)⟩ (stH b { V with ta:=x.1,li:=x.2.1,ch:=x.2.2 } (giveUp n to) now) w':=by
 have h24:=jFa ho;have l24:=llen ho;have k251:=jRM ho;have hsp:giveUp n to=if Tp.okN to=false then lose n else { lose n with table:=jMY n.table n.addr to,links:=JE n.links to,children:=n.children.filter fun c=>!(c==to),parent:=if n.parent=to then 255 else n.parent }:=rfl
 rw[hsp];refine jc (stH b V n now) (hw) Tryz.func93 I (Nat.le_of_ble_eq_true I) (HR.sub (σ':=[(0,ptr b),(1,.int .i64 to)]) ⟨I,I,trivial⟩ ?_);refine HR.ctl I (HR.region ?_);refine HL.box I I ?_;intro bt;refine zh ?_;refine qM (H':=jDW b V n now::tiC bt to::ndH V n) (Ent.pick [1,0,2,3,4,5,6,7,8,9,10] I I) (qQ (r:=fun _:Unit=> .tuple ⟨[]⟩) (Q:=fun _=>True) (G0:=[jDW b V n now]) (H0:=tiC bt to::ndH V n) (G:=fun _=>[jDW b V (lose n) now]) jLQ I I I (fun w1 hw1=>kC b V n now _ w1 (hw1.pick [0] I I) ho.lost) ?_);intro _ _;refine zh ?_;refine qB fn91 I I (fun w _=>jAD to w) (zh ?_);refine HR.cond I (fun h1=>?_) (fun h1=>?_)
 ·have h1:Tp.okN to=false:=by simpa using h1
  rw[if_pos h1];refine HR.ret Tryz.func93 I [] (fun _ _=>trivial) ?_
  exact fun w' hw=>⟨(V.ta,V.li,V.ch),rfl,trivial,hw.pick [0,2,3,4,5,6,7,8,9,10] I rfl⟩
 have h1:¬Tp.okN to=false:=by simpa using h1
 rw[if_neg h1];refine zh ?_;refine qU [(0,true),(1,true),(2,true),(3,true),(4,true),(5,true),(6,true),(7,true),(8,true),(9,true),(10,true),(11,true),(12,false),(13,true),(14,true),(15,true)] 16 [0,1] I I j3 (by kernel_rfl) (zd ?_);refine HD.one I (qI fn62 I I (fun w1 hw1=>jPe n.table n.addr to _ w1 ((Rd.own 2 rfl).at hw1) (by omega)) ?_);intro v1;refine HL.shape 0 I fun a1 c1 hv=>?_
 subst hv;refine HL.back [1,2] I I (zd ?_);refine qo I (zn ?_);refine qR (Ent.pick [1,2,0,4,5,6,7,8,9,10,11] I I) (zh ?_);refine qU [(0,true),(1,true),(2,true),(3,true),(4,true),(5,true),(6,true),(7,false),(8,true),(9,true),(10,true)] 11 [0,1] I I j3 (by kernel_rfl) (zd ?_);refine HD.one I (qI fn170 I I (fun w1 hw1=>jH6 n.links to _ w1 ((Rd.own 3 rfl).at hw1) (by omega)) ?_);intro v2;refine HL.shape 0 I fun a2 c2 hv=>?_
 subst hv;refine HL.back [1,2] I I (zd ?_);refine qo I (zn ?_);refine qR (Ent.pick [6,2,1,3,0,5,7,8,9,10,11] I I) (zh ?_);refine yP (g:=172) (caps:=[_]) I I (qQ (r:=fun z:Value=>z) (Q:=fun _=>True) (G0:=[cI (sv V.ch n.children.length) n.children,tiC bt to]) (H0:=[_,_,_,_,_,_,_,_,_]) (G:=fun z=>[jM z 3 1 (n.children.filter fun c=>!(c==to)).length (cellsOf iC (n.children.filter fun c=>!(c==to))),tiC bt to]) fn171 I I I (fun w1 hw1=>jNt n.children to bt _ _ w1 (hw1.pick [0,1] I I) (by omega)) ?_);intro z _;refine HL.shape 0 I fun a3 c3 hv=>?_
 subst hv;refine zh ?_;refine qR (Ent.pick [2,1,3,4,5,0,6,7,8,9,10] I I) (qK j3 (by kernel_rfl) (zq ?_));refine HR.cond I (fun h2=>?_) (fun h2=>?_)
 ·have h2:n.parent=to:=eq_of_beq h2;rw[if_pos h2];refine zh ?_;refine QS Tryz.func93 I [] (fun _ _=>trivial) ?_
  exact fun w' hw=>⟨((a1,c1),(a2,c2),(a3,c3)),rfl,trivial,hw.pick [0,2,3,4,5,6,7,8,9,10] I rfl⟩
 ·have h2:(n.parent==to)=false:=h2;have h2:¬n.parent=to:=by simpa using h2
  rw[if_neg h2];refine zh ?_;refine QS Tryz.func93 I [] (fun _ _=>trivial) ?_
  exact fun w' hw=>⟨((a1,c1),(a2,c2),(a3,c3)),rfl,trivial,hw.pick [0,2,3,4,5,6,7,8,9,10] I rfl⟩
theorem jHm (bf:Nat) (f:Fr) (x:Sn) (w:World) (hcap:Sl w (.slice (some ⟨bf,0,none⟩) 9 9) (frC f) 9):Calls Tryz.prog 89 #[.agg ⟨snC x⟩,.pointer (some ⟨bf,0,none⟩)] w fun e w'=>e= .returned (.bool (hits f x))/\Below w.heap.size w w':=by
 refine zE Tryz.func89 I [(0,.agg ⟨snC x⟩),(1,.pointer (some ⟨bf,0,none⟩))] ?_
 repeat' (first|refine zh ?_|refine qF (j:=0) (qA hcap) I I I I I ?_|refine qF (j:=3) (qA hcap) I I I I I ?_|refine qF (j:=5) (qA hcap) I I I I I ?_|apply zb ?_ ?_|exact zc|(refine zi fun hb=>?_;try simp at hb)|intro (bk:Nat))
 exact zR Tryz.func89
theorem jBw (n:Nd) (to:Int):(giveUp n to).parts=n.parts:=by
 by_cases h:Tp.okN to=false
 ·unfold giveUp;rw[if_pos h];rfl
 ·unfold giveUp;rw[if_neg h];rfl
theorem jHS (V:NV) (n:Nd) (f:Fr) (ok:Bool) (w:World) (h:OkN w V n) (hs:SmN n):
  Calls Tryz.prog 44 #[.agg ⟨ndC V n⟩,.agg ⟨frC f⟩,.bool ok] w fun e w'=>∃V':NV,e= .returned (.agg ⟨ndC V' (result n f ok)⟩)/\Pts V' (result n f ok)/\Sat (base w) (ndH V' (result n f ok)) w':=by
 obtain ⟨m,hm⟩:∃m,m=order n:=⟨_,rfl⟩;have ho:Ord m:=by rw[hm];exact JJ n
 have h16:=ho.out;have hsp:result n f ok=match m.out.findIdx? (hits f)with
  |none=>m
  |some i=>if (ZU m.out i ok).2 then giveUp (if Tp.okN f.dst then { m with out:=(ZU m.out i ok).1,links:=JD m.links f.dst ok } else { m with out:=(ZU m.out i ok).1 }) f.dst else (if Tp.okN f.dst then { m with out:=(ZU m.out i ok).1,links:=JD m.links f.dst ok } else { m with out:=(ZU m.out i ok).1 }):=by rw[hm];rfl
 obtain ⟨Z,hZ⟩:∃Z,Z=result n f ok:=⟨_,rfl⟩;rw[<- hZ];rw[hsp]at hZ;refine zE Tryz.func44 I [(0,.agg ⟨ndC V n⟩),(1,.agg ⟨frC f⟩),(2,.bool ok)] ?_;refine HR.ctl I (HR.region ?_);refine HL.box I I ?_;intro bn;refine HL.box I I ?_;intro bf;refine zh ?_;intro (bk:Nat);refine zh ?_;refine qL (r:=fun x:Nat×NV=>ptr x.1) (Q:=fun x=>Pts x.2 m) (G:=fun x=>stH x.1 x.2 m (tick 0)) jSB I I (fun w1 hw1=>by rw[hm];exact kP V n 0 w1 (h.ext hw1.jF) hs) ?_
 rintro ⟨b,V2⟩ hP
 have hP:Pts V2 m:=hP;refine qM (Ent.pick [10,11,0,1,2,3,4,5,6,7,8,9] I I) (zh ?_);refine yP (g:=89) (caps:=[_]) I I ?_;refine qB fn88 I I (fun w1 hw1=>jBv m.out (hits f) 89 [.pointer (some ⟨bf,0,none⟩)] (sv V2.ou m.out.length) w1 fn89 (fun a ha w2 hb=>jHm bf f a w2 (((Qr (n:=9) 1 rfl).at hw1).ext hb)) ((Rd.own 5 rfl).at hw1) (by omega)) (zh ?_);rcases JF (hits f) m.out with ⟨e1,e2,_⟩|⟨i,x,e1,e2,e3,_⟩
 ·rw [e2]at hZ;have hZ:Z=m:=hZ;rw[e1,hZ];refine zh ?_;refine HR.ret Tryz.func44 I [_] (fun w hw=>⟨⟨_,rfl,jQ hw 0 I I I I rfl⟩,trivial⟩) ?_
  exact fun w' hw=>⟨V2,rfl,hP,hw.pick [3,4,5,6,7,8,9,10,11] I rfl⟩
 rw[e2]at hZ;rw[e1];have hmr:=kr m.out i ok;obtain ⟨r,hr⟩:∃r,r=ZU m.out i ok:=⟨_,rfl⟩;rw[<- hr]at hmr;have hm1:=ho.Zr hmr;have hml:Ord { m with out:=r.1,links:=JD m.links f.dst ok }:=hm1.jCG (jAA _ _ _);have hl24:=llen ho;obtain ⟨m2,hm2⟩:∃m2,m2=if Tp.okN f.dst then { m with out:=r.1,links:=JD m.links f.dst ok } else { m with out:=r.1 }:=⟨_,rfl⟩
 have ho2:Ord m2:=by rw[hm2];split;exact hml;exact hm1
 have hp2:m2.parts=m.parts:=by rw[hm2];split<;>rfl
 have hZ:Z=if r.2=true then giveUp m2 f.dst else m2:=by rw[hZ,hm2,hr]
 rw[hZ]
 repeat' (first|refine zh ?_|fail)
 refine qL (r:=fun v':Value=> .tuple ⟨[v',.bool r.2]⟩) (Q:=fun _=>True) (G:=fun v'=>[cSn v' r.1]) fn90 I I (fun w1 hw1=>by rw[hr];exact jC5 m.out i ok _ w1 ((Rd.own 5 rfl).at hw1) (by omega)) ?_;intro v1 _;refine HL.shape 0 I fun a c hv=>?_
 subst hv
 repeat' (first|refine zh ?_|refine qB fn91 I I (fun w _=>jAD f.dst w) ?_|fail)
 refine qR (H':=_::_::stH b { V2 with ou:=(a,c) } { m with out:=r.1 } (tick 0)) (Ent.pick [1,2,3,4,5,0,7,8,9,10,11,12] I I) (HR.join (ι:=SV) (fun _=>True) (fun _=>[(6,ptr bk),(4,ptr bf),(7,ptr b),(10,.bool r.2)]) (fun x=>jS bk zerC 62::jS bf (frC f) 75::stH b { V2 with ou:=(a,c),li:=x } m2 (tick 0)) (fun x _=>?_) (fun hj=>?_))
 rotate_left
 ·refine HR.cond I (fun h1=>?_) (fun h1=>?_)
  ·have h1:Tp.okN f.dst=true:=h1;rw[h1,if_pos rfl]at hm2;refine qU [(0,true),(1,true),(2,true),(3,true),(4,true),(5,true),(6,true),(7,true),(8,true),(9,false),(10,true),(11,true),(12,true)] 13 [1,2] I I j3 (by kernel_rfl) ?_
   repeat' (first|refine zd ?_|fail)
   refine HD.one I (qI fn92 I I (fun w1 hw1=>jGd m.links f.dst ok _ w1 ((Rd.own 4 rfl).at hw1) (by omega)) ?_);intro v2;refine HL.shape 0 I fun a2 c2 hv=>?_
   subst hv;refine HL.back [2,3] I I ?_
   repeat' (first|refine zd ?_|fail)
   refine qo I ?_
   repeat' (first|refine zn ?_|fail)
   refine hj (a2,c2) _ _ trivial ⟨I,I,I,I,trivial⟩ ?_;rw[hm2];exact Ent.pick [1,2,3,4,0,6,7,8,9,10,11,12] I I
  ·have h1:Tp.okN f.dst=false:=h1;rw[h1,if_neg (by decide)]at hm2;refine HR.skip (hj V2.li _ _ trivial ⟨I,I,I,I,trivial⟩ ?_);rw[hm2];exact Ent.refl
 repeat' (first|refine zh ?_|fail)
 refine HR.cond I (fun h1=>?_) (fun h1=>?_)
 ·have h1:r.2=true:=h1;rw[if_pos h1]
  repeat' (first|refine zh ?_|fail)
  refine qM (Ent.pick [2,3,4,5,6,7,8,9,10,11,0] I I) (qQ (r:=fun _:SV×SV×SV=> .tuple ⟨[]⟩) (Q:=fun _=>True) (G0:=stH b { V2 with ou:=(a,c),li:=x } m2 (tick 0)) (H0:=[_]) (G:=fun y=>stH b { V2 with ou:=(a,c),ta:=y.1,li:=y.2.1,ch:=y.2.2 } (giveUp m2 f.dst) (tick 0)) fn93 I I I (fun w1 hw1=>jHW b { V2 with ou:=(a,c),li:=x } m2 (tick 0) f.dst _ w1 (hw1.pick [0,1,2,3,4,5,6,7,8,9] I I) ho2) ?_);intro y _;refine qM (Ent.pick [10,0,1,2,3,4,5,6,7,8,9] I I) ?_
  repeat' (first|refine zh ?_|fail)
  refine HR.ret Tryz.func44 I [_] (fun w hw=>⟨⟨_,rfl,jQ hw 0 I I I I rfl⟩,trivial⟩) ?_
  exact fun w' hw=>⟨{ V2 with ou:=(a,c),ta:=y.1,li:=y.2.1,ch:=y.2.2 },rfl,⟨by rw[jBw,hp2];exact hP.eq,hP.sh⟩,hw.pick [2,3,4,5,6,7,8,9,10] I rfl⟩
 ·have h1:r.2=false:=h1;rw[if_neg (by rw[h1];decide)]
  repeat' (first|refine zh ?_|fail)
  refine HR.ret Tryz.func44 I [_] (fun w hw=>⟨⟨_,rfl,jQ hw 0 I I I I rfl⟩,trivial⟩) ?_
  exact fun w' hw=>⟨{ V2 with ou:=(a,c),li:=x },rfl,⟨by rw[hp2];exact hP.eq,hP.sh⟩,hw.pick [3,4,5,6,7,8,9,10,11] I rfl⟩
theorem fn79:IsFn Tryz.prog 79:=zF Tryz.func79 I
theorem jKJ (n:Nd) (f:Fr) (now:Int):∃q l,box n f now={ n with boxes:=q,lost:=l }:=by
 by_cases h:(jB1 n.boxes f now).2=false\/(jB1 n.boxes f now).1.length=n.boxes.length
 ·exact ⟨(jB1 n.boxes f now).1,min (n.lost+1) jw,by unfold box lose;simp only[if_pos h]⟩
 ·exact ⟨(jB1 n.boxes f now).1,n.lost,by unfold box;simp only[if_neg h]⟩
theorem jDU (n:Nd) (f:Fr) (now:Int):(box n f now).parts=n.parts:=by obtain ⟨q,l,e⟩:=jKJ n f now;rw[e]
theorem jDT (now:Int):∀(l:List Fr) (n:Nd),(l.foldl (fun n f=>box n f now) n).parts=n.parts
 |[],_=>rfl
 |f::l,n=>(jDT now l (box n f now)).trans (jDU n f now)
theorem jB3 (n:Nd) (now:Int):(asleep n now).parts=n.parts:=by unfold asleep;exact jDT now _ _
theorem jB2 (n:Nd):(zP n).parts=n.parts:=by
 unfold zP;split
 ·exact (Zh _ _).trans I
 ·rfl
theorem jEC (n:Nd):(poll n).parts=n.parts:=by
 unfold poll;split
 ·exact (Zh _ _).trans I
 ·rfl
theorem Kg {L:List PtV} {p:PtV} (h:p∈L):ptH p∈ptG L/\ptD p∈ptG L:=by
 unfold ptG;exact ⟨List.mem_flatMap.2 ⟨p,h,List.mem_cons_self ..⟩,List.mem_flatMap.2 ⟨p,h,List.mem_cons_of_mem _ (List.mem_cons_self ..)⟩⟩
theorem RdPts.own {B:Base} {H:List Chunk} {w:World} {v:Value} {L:List PtV} (i j:Nat) (hw:Sat B H w) (hi:J5 H i=some (cPt v L)) (hj:J5 H j=some (jC (ptG L))):RdPts w v L:=
 ⟨(Rd.own i hi).at hw,fun p hp=>⟨(Rd.group j hj (Kg hp).1).at hw,(Rd.group j hj (Kg hp).2).at hw⟩⟩
theorem jL1 (V:NV) (n:Nd) (now:Int) (w:World) (h:OkN w V n) (hs:SmN n) (hf:∀s∈n.out,fits .i64 s.wt):
  Calls Tryz.prog 79 #[.agg ⟨ndC V n⟩,.int .i64 now] w fun e w'=>∃V':NV,e= .returned (.agg ⟨ndC V' (Zb n now)⟩)/\Pts V' (Zb n now)/\Sat (base w) (ndH V' (Zb n now)) w':=by
 obtain ⟨m,hm⟩:∃m,m=order n:=⟨_,rfl⟩;have ho:Ord m:=by rw[hm];exact JJ n
 have h16:=ho.out;have hb16:=ho.boxes;have hmf:∀s∈m.out,fits .i64 s.wt:=fun s hs=>hf s (List.mem_of_mem_take (by rw[hm]at hs;exact hs))
 have hmp:m.parts=n.parts:=by rw[hm];rfl
 obtain ⟨T,hT⟩:∃T,T=tick now:=⟨_,rfl⟩;have ht0:0<=T:=by rw[hT];unfold tick clamp;omega
 obtain ⟨a,ha⟩:∃a,a=asleep { m with out:=ZL m.out,boxes:=jAn m.boxes T 120,parts:=jAr m.parts T 120 } T:=⟨_,rfl⟩;obtain ⟨g,hg⟩:∃g,g=if a.poll=0/\T%8=a.addr%8 then zP a else a:=⟨_,rfl⟩
 have hsp:Zb n now=if g.poll>0/\g.parent≠255/\T%g.poll=0 then poll g else g:=by rw[hg,ha,hT,hm];rfl
 have ho1:Ord { m with out:=ZL m.out,boxes:=jAn m.boxes T 120,parts:=jAr m.parts T 120 }:=((ho.Zr (jC4 m.out)).ZK (jBD m.boxes T 120)).jAw _;have hao:Ord a:=by rw[ha];exact (jDX (Good.refl ho1) T).ord
 have hap:a.parts=jAr m.parts T 120:=by rw[ha];exact jB3 _ _
 have hgo:Ord g:=by rw[hg];split;exact (jAo (Good.refl hao)).ord;exact hao
 have hgp:g.parts=jAr m.parts T 120:=by rw[hg,<- hap];split;exact jB2 _;rfl
 have ha8:=((zL _).1 hao.addr).1;rw[hsp];refine zE Tryz.func79 I [(0,.agg ⟨ndC V n⟩),(1,.int .i64 now)] ?_
 repeat' (first|refine zh ?_|intro (bk:Nat))
 refine qL (r:=fun x:Nat×NV=>ptr x.1) (Q:=fun x=>Pts x.2 m) (G:=fun x=>stH x.1 x.2 m T) jSB I I (fun w1 hw1=>by rw[hm,hT];exact kP V n now w1 (h.ext hw1.jF) hs) ?_
 rintro ⟨b,V2⟩ hP
 have hP:Pts V2 m:=hP;have hpl:V2.ps.length<=1000:=by rw[<- jW,hP.eq,hmp];exact hs.pa
 have hps:∀p∈V2.ps,jAS p.pt:=fun p hp=>hs.sm p.pt (by rw[<- hmp,<- hP.eq];exact List.mem_map.2 ⟨p,hp,rfl⟩)
 refine qM (Ent.pick [10,0,1,2,3,4,5,6,7,8,9] I I) (zh ?_);refine qI fn150 I I (fun w1 hw1=>jM6 m.out _ w1 ((Rd.own 4 rfl).at hw1) (by omega) hmf) ?_;intro v1;refine HL.shape 0 I fun a1 c1 hv=>?_
 subst hv;refine zh ?_;refine qR (Ent.pick [1,2,3,4,0,6,7,8,9,10,11] I I) (qU [(0,true),(1,true),(2,true),(3,true),(4,true),(5,true),(6,true),(7,true),(8,true),(9,true),(10,false),(11,true),(12,true),(13,true)] 14 [1] I I j3 (by kernel_rfl) (zd ?_));refine HD.one I (qI fn151 I I (fun w1 hw1=>jQc m.boxes T 120 _ w1 ((Rd.own 6 rfl).at hw1) (by omega)) ?_);intro v2;refine HL.shape 0 I fun a2 c2 hv=>?_
 subst hv;refine HL.back [2] I I (zd ?_);refine qo I (zn ?_);refine qR (Ent.pick [1,2,3,4,5,6,0,8,9,10,11] I I) (zh ?_);refine qU [(0,true),(1,true),(2,true),(3,true),(4,true),(5,true),(6,true),(7,true),(8,true),(9,true),(10,false),(11,true),(12,true),(13,true)] 14 [1] I I j3 (by kernel_rfl) (zd ?_);refine HD.one I (qL (r:=fun x:Value×List PtV=>x.1) (Q:=fun x=>jAT x (jAr (pts V2.ps) T 120)) (G:=fun x=>jAq x) fn152 I I (fun w1 hw1=>jQS V2.ps T 120 _ w1 (RdPts.own 8 9 hw1 I I) hps hpl) ?_)
 rintro ⟨v3,ps⟩ ⟨hg1,hg2⟩
 have hq1:pts ps=jAr m.parts T 120:=by rw[<- hP.eq];exact hg1
 have hq2:∀p∈ps,kR p:=hg2;refine HL.shape (v:=v3) (e:=173) (sz:=6) (n:=ps.length) (xs:=cellsOf ptC ps) 0 I fun a3 c3 hv=>?_
 subst hv;refine HL.back [3] I I (zd ?_);refine qo I (zn ?_);obtain ⟨V3,hV3⟩:∃V3:NV,V3=⟨V2.ta,V2.li,(a1,c1),V2.ch,(a2,c2),V2.se,(a3,c3),V2.ib,ps⟩:=⟨_,rfl⟩;have hps3:V3.ps=ps:=by rw[hV3]
 refine qR (H':=_::stH b ⟨V2.ta,V2.li,(a1,c1),V2.ch,(a2,c2),V2.se,(a3,c3),V2.ib,ps⟩ { m with out:=ZL m.out,boxes:=jAn m.boxes T 120,parts:=jAr m.parts T 120 } T) (Ent.pick [2,3,4,5,6,7,8,9,0,1,12] I I) ?_;rw[<- hV3];refine zh ?_;refine qM (Ent.pick [1,2,3,4,5,6,7,8,9,10,0] I I) (qQ (r:=fun _:SV×SV=> .tuple ⟨[]⟩) (Q:=fun _=>True) (G0:=stH b V3 { m with out:=ZL m.out,boxes:=jAn m.boxes T 120,parts:=jAr m.parts T 120 } T) (H0:=[_]) (G:=fun x=>stH b { V3 with ou:=x.1,bo:=x.2 } a T) fn153 I I I (fun w1 hw1=>by rw[ha];exact jHY b V3 _ T _ w1 (hw1.pick [0,1,2,3,4,5,6,7,8,9] I I) ho1) ?_)
 rintro ⟨x1,x2⟩ _
 refine zh ?_;refine qK j3 (by kernel_rfl) ?_
 repeat' (first|refine zq ?_|apply zb ?_ ?_|exact zc|(refine zi fun hb=>?_;try simp at hb)|fail)
 refine HR.join (ι:=SV×SV) (fun _=>True) (fun _=>[(4,ptr bk),(5,ptr b)]) (fun y=>stH b { V3 with bo:=x2,ta:=y.1,ou:=y.2 } g T++[jS bk zerC 62]) (fun y _=>?_) (fun hj=>?_)
 rotate_left
 ·refine HR.cond I (fun h1=>?_) (fun h1=>?_)
  ·have h1:((a.poll==0)&&(T%8==a.addr%8))=true:=h1;have h2:a.poll=0/\T%8=a.addr%8:=by simpa using h1
   rw[if_pos h2]at hg;refine HR.region (zn ?_);refine qQ (r:=fun _:SV×SV=> .tuple ⟨[]⟩) (Q:=fun _=>True) (G0:=stH b { V3 with ou:=x1,bo:=x2 } a T) (H0:=[_]) (G:=fun y=>stH b { V3 with bo:=x2,ta:=y.1,ou:=y.2 } g T) fn154 I I I (fun w1 hw1=>by rw[hg];exact jHX b { V3 with ou:=x1,bo:=x2 } a T _ w1 (hw1.pick [0,1,2,3,4,5,6,7,8,9] I I) hao) ?_;intro y _;refine zn ?_;exact hj y _ _ trivial ⟨I,I,trivial⟩ Ent.refl
  ·have h1:((a.poll==0)&&(T%8==a.addr%8))=false:=h1;have h2:¬(a.poll=0/\T%8=a.addr%8):=by simpa using h1
   rw[if_neg h2]at hg;refine HR.skip (hj (V3.ta,x1) _ _ trivial ⟨I,I,trivial⟩ ?_);rw[hg];exact Ent.refl
 obtain ⟨y1,y2⟩:=y;refine zh ?_;refine qK j3 (by kernel_rfl) ?_
 repeat' (first|refine zq ?_|apply zb ?_ ?_|exact zc|(refine zi fun hb=>?_;try simp at hb)|fail)
 refine HR.cond I (fun h1=>?_) (fun h1=>?_)
 ·have h1:((decide (g.poll>0)&&!(g.parent==255))&&(T%g.poll==0))=true:=h1;have h2:g.poll>0/\g.parent≠255/\T%g.poll=0:=by simpa[and_assoc]using h1
  rw[if_pos h2];refine zh ?_;refine qQ (r:=fun _:SV×SV=> .tuple ⟨[]⟩) (Q:=fun _=>True) (G0:=stH b { V3 with bo:=x2,ta:=y1,ou:=y2 } g T) (H0:=[_]) (G:=fun y=>stH b { V3 with bo:=x2,ta:=y.1,ou:=y.2 } (poll g) T) fn155 I I I (fun w1 hw1=>jL7 b { V3 with bo:=x2,ta:=y1,ou:=y2 } g T _ w1 (hw1.pick [0,1,2,3,4,5,6,7,8,9] I I) hgo) ?_;intro z _;refine qM (Ent.pick [10,0,1,2,3,4,5,6,7,8,9] I I) (zh ?_);refine HR.ret Tryz.func79 I [_] (fun w hw=>⟨⟨_,rfl,jQ hw 0 I I I I rfl⟩,trivial⟩) ?_
  exact fun w' hw=>⟨{ V3 with bo:=x2,ta:=z.1,ou:=z.2 },rfl,⟨by rw[jEC,hgp,<- hq1,hV3],by rw[hV3];exact hq2⟩,hw.pick [2,3,4,5,6,7,8,9,10] I rfl⟩
 ·have h1:((decide (g.poll>0)&&!(g.parent==255))&&(T%g.poll==0))=false:=h1;have h2:¬(g.poll>0/\g.parent≠255/\T%g.poll=0):=by
   intro e;have:((decide (g.poll>0)&&!(g.parent==255))&&(T%g.poll==0))=true:=by simpa[and_assoc]using e
   rw[h1]at this;cases this
  rw[if_neg h2];refine HR.skip (qR (Ent.pick [10,0,1,2,3,4,5,6,7,8,9] I I) (zh ?_));refine HR.ret Tryz.func79 I [_] (fun w hw=>⟨⟨_,rfl,jQ hw 0 I I I I rfl⟩,trivial⟩) ?_
  exact fun w' hw=>⟨{ V3 with bo:=x2,ta:=y1,ou:=y2 },rfl,⟨by rw[hgp,<- hq1,hV3],by rw[hV3];exact hq2⟩,hw.pick [2,3,4,5,6,7,8,9,10] I rfl⟩
end Go.Proofs.YtgfdoognildoeaaGreat
