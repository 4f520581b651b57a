import Derived.Test.YtojcoaekhiadcaaGreatA01
import Derived.Test.YtojcoaekhiadcaaGreatProg
import Derived.Test.YtojcoaekhiadcaaGreatA05
import Derived.BigRegion
import Derived.Deep.WholeRow
import Derived.Great.Walk
set_option linter.unusedVariables false
set_option linter.unusedSimpArgs false
namespace Go.Proofs.YtojcoaekhiadcaaGreat
open Tryz Go.RowKit
namespace gf
open Go.ChangeShapes Go.WideShapes Go.ChangeAt kit
attribute [local irreducible] mul b_i b_A f_h pw
def isB(x:Int):Prop:=0<=x/\x<=255
instance (x:Int):Decidable (isB x):=by unfold isB;infer_instance
theorem g_e(x:Int)(h1 : -9223372036854775808<=x)(h2:x<=9223372036854775807):(bits .andNot .i64 x 255 != 0) = !decide (isB x):=by
 rw[j_F x h1 h2];exact congrArg _ (decide_eq_decide.2 Iff.rfl)
theorem b_Z(a b:Nat)(ha:a<256)(hb:b<256)(w:World) :
  Calls prog 252 #[.int .i64 a,.int .i64 b] w fun e w'=>e=.returned (.int .i64 (mul a b:Nat))/\w=w':=by
 have h0:Hid (tmN 8 a b 0=mul a b):=s_M a b;go_enter func252,ntmps252;go_wp2;go_loopg [0,1,5] 8 (fun k a1 b1 o1 wr=>∃x y z:Nat,a1=.int .i64 x/\b1=.int .i64 y/\o1=.int .i64 z/\x<256/\y<256/\z<256/\Hid (y<2 ^ k/\tmN k x y z=mul a b)/\wr=w);case atStart=>exact⟨a,b,0,rfl,rfl,rfl,ha,hb,by omega,⟨by simpa using hb,h0⟩,rfl⟩
 case round=>
  obtain⟨x,y,z,rfl,rfl,rfl,hx,hy,hz,hh,rfl⟩:=hrel
  by_cases hy0:y=0
  ·subst hy0
   have hz':z=mul a b:=by
    have:=hh.o.2;cases gk with
    |zero=>exact this
    |succ g=>simpa [tmN]using this
   have hz':=Hd hz';clear hh h0;go_wp2;go_ret;exact⟨b_e (by rw[hz'.o]),rfl⟩
  ·have hnext:∃g,Hid (gk=g+1/\y/2<2 ^ g/\tmN g (xt x) (y/2) (if y%2=1 then z ^^^ x else z)=mul a b):=by
    obtain⟨h1,h2⟩:=hh.o;cases gk with
    |zero=>simp at h1;omega
    |succ g=>
     refine⟨g,rfl,by rw[Nat.pow_succ]at h1;omega,?_⟩
     rw[tmN,if_neg hy0]at h2;exact h2
   obtain⟨g,HG⟩:=hnext;have hp:0<y:=by omega
   have hxor:bits BinOp.xor IntKind.i64 ↑z ↑x=((z ^^^ x:Nat):Int):=f_4 _ _ (by omega) (by omega)
   have hxr2:bits BinOp.xor IntKind.i64 (↑x*2) 285=((x*2 ^^^ 285:Nat):Int):=by
    have:=f_4 (x*2) 285 (by omega) (by omega)
    simpa using this
   have hodd:=m_D y (by omega)
   have hlt:=Hd (h_7 x hx);have hlz:=Hd (b_o hz hx)
   by_cases hb1:y%2=1
   ·have hbit:(bits BinOp.and IntKind.i64 (↑y) 1==1)=true:=by rw[hodd,hb1];rfl
    have hb1:=Hd hb1;clear hodd hh h0
    by_cases hc:255<x*2
    ·have hc1:(255:Int)<(x:Int)*2:=by omega
     have he:=Hd (show xt x=(x*2) ^^^ 285 from if_pos hc)
     clear hc;go_wp2;obtain⟨g1,g2,g3⟩:=HG.o;rw[<-he.o];rw[if_pos hb1.o]at g3;go_roundg g;case measure=>omega
     case rel=>exact⟨_,_,_,rfl,by go_num,rfl,hlt.o,by omega,hlz.o,⟨g2,g3⟩,rfl⟩
    ·have hc1:(x:Int)*2<=255:=by omega
     have he:=Hd (show xt x=x*2 from if_neg hc)
     clear hc;go_wp2;obtain⟨g1,g2,g3⟩:=HG.o;rw[if_pos hb1.o]at g3;go_roundg g;case measure=>omega
     case rel=>exact⟨xt x,_,_,by rw[he.o];go_num,by go_num,rfl,hlt.o,by omega,hlz.o,⟨g2,g3⟩,rfl⟩
   ·have hbit:(bits BinOp.and IntKind.i64 (↑y) 1==1)=false:=by rw[hodd];simp;omega
    have hb1:=Hd hb1;clear hodd hh h0
    by_cases hc:255<x*2
    ·have hc1:(255:Int)<(x:Int)*2:=by omega
     have he:=Hd (show xt x=(x*2) ^^^ 285 from if_pos hc)
     clear hc;go_wp2;obtain⟨g1,g2,g3⟩:=HG.o;rw[<-he.o];rw[if_neg hb1.o]at g3;go_roundg g;case measure=>omega
     case rel=>exact⟨_,_,_,rfl,by go_num,rfl,hlt.o,by omega,hz,⟨g2,g3⟩,rfl⟩
    ·have hc1:(x:Int)*2<=255:=by omega
     have he:=Hd (show xt x=x*2 from if_neg hc)
     clear hc;go_wp2;obtain⟨g1,g2,g3⟩:=HG.o;rw[if_neg hb1.o]at g3;go_roundg g;case measure=>omega
     case rel=>exact⟨xt x,_,_,by rw[he.o];go_num,by go_num,rfl,hlt.o,by omega,hz,⟨g2,g3⟩,rfl⟩
theorem power_any(a n:Nat)(ha:a<256)(hn:n<9223372036854775808)(w:World) :
  Calls prog 253 #[.int .i64 a,.int .i64 n] w fun e w'=>e=.returned (.int .i64 (pw a n:Nat))/\w=w':=by
 have h0:Hid (mul 1 (pw a n)=pw a n):=one_mul _ (f_1 a ha n);go_enter func253,ntmps253;go_wp2;go_loopg [0,1,5] 63 (fun k a1 n1 o1 w2=>∃x y z:Nat,a1=.int .i64 x/\n1=.int .i64 y/\o1=.int .i64 z/\x<256/\y<=n/\z<256/\Hid (y<2 ^ k/\mul z (pw x y)=pw a n)/\w2=w);case atStart=>exact⟨a,n,1,rfl,rfl,rfl,ha,by omega,by omega,⟨by simpa using hn,h0⟩,rfl⟩
 case round=>
  clear h0;obtain⟨x,y,z,rfl,rfl,rfl,hx,hy,hz,hh,rfl⟩:=hrel
  by_cases hy0:y=0
  ·subst hy0
   have hz':Hid (z=pw a n):=by
    have:=hh.o.2;rw[pw,mul_one]at this;exact this
   clear hh;go_wp2;go_ret;exact⟨b_e (by rw[hz'.o]),rfl⟩
  ·have hnext:∃g,Hid (gk=g+1/\y/2<2 ^ g/\mul (if y%2=1 then mul z x else z) (pw (mul x x) (y/2))=pw a n):=by
    obtain⟨h1,h2⟩:=hh.o;cases gk with
    |zero=>simp at h1;omega
    |succ g=>exact⟨g,rfl,by rw[Nat.pow_succ]at h1;omega,by rw[r_9 x z y hx hz];exact h2⟩
   obtain⟨g,HG⟩:=hnext;have hp:0<y:=by omega
   have hodd:=m_D y (by omega)
   have hl1:=Hd (a_u z x hz);have hl2:=Hd (a_u x x hx)
   by_cases hb1:y%2=1
   ·have hbit:(bits BinOp.and IntKind.i64 (↑y) 1==1)=true:=by rw[hodd,hb1];rfl
    have hb2:=Hd hb1;clear hodd hh hb1;go_wp2_with fail;refine(b_Z z x hz hx _).mono ?_;rintro e w' ⟨rfl,rfl⟩;go_wp2_with fail;refine(b_Z x x hx hx _).mono ?_;rintro e w' ⟨rfl,rfl⟩;go_wp2;obtain⟨g1,g2,g3⟩:=HG.o;rw[if_pos hb2.o]at g3;go_roundg g;case measure=>omega
    case rel=>exact⟨_,y/2,_,rfl,by go_num,rfl,hl2.o,by omega,hl1.o,⟨g2,g3⟩,rfl⟩
   ·have hbit:(bits BinOp.and IntKind.i64 (↑y) 1==1)=false:=by rw[hodd];simp;omega
    have hb2:=Hd hb1;clear hodd hh hb1;go_wp2_with fail;refine(b_Z x x hx hx _).mono ?_;rintro e w' ⟨rfl,rfl⟩;go_wp2;obtain⟨g1,g2,g3⟩:=HG.o;rw[if_neg hb2.o]at g3;go_roundg g;case measure=>omega
    case rel=>exact⟨_,y/2,_,rfl,by go_num,rfl,hl2.o,by omega,hz,⟨g2,g3⟩,rfl⟩
theorem d_6(b:Nat)(x y:Int)(w:World)(hx:w.cell? ⟨b,0,none⟩=some (.int .i64 x))(hy:w.cell? ⟨b,1,none⟩=some (.int .i64 y))
  (x1 : -9223372036854775808<=x) (x2:x<=9223372036854775807) (y1 : -9223372036854775808<=y) (y2:y<=9223372036854775807) :
  Calls prog 251 #[.slice (some ⟨b,0,none⟩) 2 2] w fun e w'=>e=.returned (.bool (!decide (isB x/\isB y)))/\w=w':=by
 have mx:=g_e x x1 x2;have my:=g_e y y1 y2
 by_cases h:isB x
 ·have hdx:(bits BinOp.andNot IntKind.i64 x 255 != 0)=false:=by rw[mx,decide_eq_true h];rfl
  by_cases h2:isB y
  ·have hdy:(bits BinOp.andNot IntKind.i64 y 255 != 0)=false:=by rw[my,decide_eq_true h2];rfl
   rw[decide_eq_true (And.intro h h2)];clear mx my h h2;go_enter func251,ntmps251;go_wp2;go_loop [7] (fun k=>∃i:Nat,k=.int .i64 i/\i<=2) (fun k=>(2-intOf k).toNat);case atStart=>exact⟨0,rfl,by omega⟩
   case round=>
    obtain⟨i,rfl,hi⟩:=hrel;obtain rfl|rfl|rfl:i=0\/i=1\/i=2:=by omega
    ·go_wp2
     go_round;case rel=>exact⟨1,rfl,by omega⟩
     case measure=>simp[intOf]
    ·go_wp2
     go_round;case rel=>exact⟨2,rfl,by omega⟩
     case measure=>simp[intOf]
    ·go_wp2
     go_ret;exact⟨rfl,rfl⟩
  ·have hdy:(bits BinOp.andNot IntKind.i64 y 255 != 0)=true:=by rw[my,decide_eq_false h2];rfl
   rw[decide_eq_false (fun hh:isB x/\isB y=>h2 hh.2)];clear mx my h h2;go_enter func251,ntmps251;go_wp2;go_loop [7] (fun k=>∃i:Nat,k=.int .i64 i/\i<=1) (fun k=>(2-intOf k).toNat);case atStart=>exact⟨0,rfl,by omega⟩
   case round=>
    obtain⟨i,rfl,hi⟩:=hrel;obtain rfl|rfl:i=0\/i=1:=by omega
    ·go_wp2
     go_round;case rel=>exact⟨1,rfl,by omega⟩
     case measure=>simp[intOf]
    ·go_wp2
     go_ret;exact⟨rfl,rfl⟩
 ·have hdx:(bits BinOp.andNot IntKind.i64 x 255 != 0)=true:=by rw[mx,decide_eq_false h];rfl
  rw[decide_eq_false (fun hh:isB x/\isB y=>h hh.1)];clear mx my h;go_enter func251,ntmps251;go_wp2;go_loop [7] (fun k=>∃i:Nat,k=.int .i64 i/\i<=0) (fun k=>(2-intOf k).toNat);case atStart=>exact⟨0,rfl,by omega⟩
  case round=>
   obtain⟨i,rfl,hi⟩:=hrel;obtain rfl:i=0:=by omega
   go_wp2;go_ret;exact⟨rfl,rfl⟩
theorem g_J(b:Nat)(x:Int)(w:World)(hx:w.cell? ⟨b,0,none⟩=some (.int .i64 x))(x1 : -9223372036854775808<=x)(x2:x<=9223372036854775807) :
  Calls prog 251 #[.slice (some ⟨b,0,none⟩) 1 1] w fun e w'=>e=.returned (.bool (!decide (isB x)))/\w=w':=by
 have mx:=g_e x x1 x2
 by_cases h:isB x
 ·have hdx:(bits BinOp.andNot IntKind.i64 x 255 != 0)=false:=by rw[mx,decide_eq_true h];rfl
  rw[decide_eq_true h];clear mx h;go_enter func251,ntmps251;go_wp2;go_loop [7] (fun k=>∃i:Nat,k=.int .i64 i/\i<=1) (fun k=>(2-intOf k).toNat);case atStart=>exact⟨0,rfl,by omega⟩
  case round=>
   obtain⟨i,rfl,hi⟩:=hrel;obtain rfl|rfl:i=0\/i=1:=by omega
   ·go_wp2
    go_round;case rel=>exact⟨1,rfl,by omega⟩
    case measure=>simp[intOf]
   ·go_wp2
    go_ret;exact⟨rfl,rfl⟩
 ·have hdx:(bits BinOp.andNot IntKind.i64 x 255 != 0)=true:=by rw[mx,decide_eq_false h];rfl
  rw[decide_eq_false h];clear mx h;go_enter func251,ntmps251;go_wp2;go_loop [7] (fun k=>∃i:Nat,k=.int .i64 i/\i<=0) (fun k=>(2-intOf k).toNat);case atStart=>exact⟨0,rfl,by omega⟩
  case round=>
   obtain⟨i,rfl,hi⟩:=hrel;obtain rfl:i=0:=by omega
   go_wp2;go_ret;exact⟨rfl,rfl⟩
def p_v(a b:Int):Int:=if isB a/\isB b then(mul a.toNat b.toNat:Nat)else 0
def p_w(a b:Int):Int:=if isB a/\isB b then 0 else 2
def j_W(a b:Int):Int:=if isB a/\isB b then(if b=0 then 0 else(f_h a.toNat b.toNat:Nat))else 0
def j_X(a b:Int):Int:=if isB a/\isB b then(if b=0 then 10 else 0)else 2
theorem e_8{a:Int}(h:isB a):∃n:Nat,a=n/\n<256:=⟨a.toNat,by unfold isB at h;omega,by unfold isB at h;omega⟩
theorem n_7(a b:Int)(w:World)(x1 : -9223372036854775808<=a)(x2:a<=9223372036854775807)(y1 : -9223372036854775808<=b)(y2:b<=9223372036854775807) :
  Calls prog 248 #[.int .i64 a,.int .i64 b] w fun e w'=>e=.returned (.tuple #[.int .i64 (p_v a b),.int .i64 (p_w a b)])/\New w w':=by
 by_cases h:isB a/\isB b
 ·have hd:decide (isB a/\isB b)=true:=decide_eq_true h
  have H:=Hd h;obtain⟨n,rfl,hn⟩:=e_8 h.1;obtain⟨m,rfl,hm⟩:=e_8 h.2;clear h;go_enter func248,ntmps248;go_wp2_with fail;refine(d_6 _ _ _ _ (by simp) (by simp) x1 x2 y1 y2).mono ?_
  rintro e w' ⟨rfl,rfl⟩;go_wp2_with fail;refine(b_Z n m hn hm _).mono ?_;rintro e w' ⟨rfl,rfl⟩;go_wp2;go_ret2;exact⟨d_y (if_pos H.o).symm (if_pos H.o).symm,(New.refl _).alloc _⟩
 ·have hd:decide (isB a/\isB b)=false:=decide_eq_false h
  have H:=Hd h;clear h;go_enter func248,ntmps248;go_wp2_with fail;refine(d_6 _ a b _ (by simp) (by simp) x1 x2 y1 y2).mono ?_
  rintro e w' ⟨rfl,rfl⟩;go_wp2;go_ret2;exact⟨d_y (if_neg H.o).symm (if_neg H.o).symm,(New.refl _).alloc _⟩
theorem s_s(a b:Int)(w:World)(x1 : -9223372036854775808<=a)(x2:a<=9223372036854775807)(y1 : -9223372036854775808<=b)(y2:b<=9223372036854775807) :
  Calls prog 265 #[.int .i64 a,.int .i64 b] w fun e w'=>e=.returned (.tuple #[.int .i64 (j_W a b),.int .i64 (j_X a b)])/\New w w':=by
 by_cases h:isB a/\isB b
 ·have hd:decide (isB a/\isB b)=true:=decide_eq_true h
  have H:=Hd h
  by_cases h0:b=0
  ·subst h0
   have V:Hid (j_W a 0=0/\j_X a 0=10):=⟨by unfold j_W;rw[if_pos h];rfl,by unfold j_X;rw[if_pos h];rfl⟩
   clear h;go_enter func265,ntmps265;go_wp2_with fail;refine(d_6 _ _ _ _ (by simp) (by simp) x1 x2 y1 y2).mono ?_
   rintro e w' ⟨rfl,rfl⟩;go_wp2;go_ret2;exact⟨d_y V.o.1.symm V.o.2.symm,(New.refl _).alloc _⟩
  ·obtain⟨n,rfl,hn⟩:=e_8 h.1
   obtain⟨m,rfl,hm⟩:=e_8 h.2;have h0:m≠0:=by omega
   clear h;have hb0:((m:Int)==0)=false:=by simpa using h0
   have V:Hid (j_W n m=(f_h n m:Nat)/\j_X n m=0):=by
    have e0:((m:Int))≠0:=by omega
    exact⟨by unfold j_W;rw[if_pos H.o,if_neg e0];rfl,by unfold j_X;rw[if_pos H.o,if_neg e0]⟩
   have hdp:=Hd (s_2 n m hn hm h0);have hpl:=f_1 m hm 254;have hm0:=Hd h0;clear h0;go_enter func265,ntmps265;go_wp2_with fail;refine(d_6 _ _ _ _ (by simp) (by simp) x1 x2 y1 y2).mono ?_
   rintro e w' ⟨rfl,rfl⟩;go_wp2_with fail;refine(power_any m 254 hm (by omega) _).mono ?_
   rintro e w' ⟨rfl,rfl⟩;go_wp2_with fail;refine(b_Z n (pw m 254) hn hpl _).mono ?_;rintro e w' ⟨rfl,rfl⟩;go_wp2;go_ret2;exact⟨d_y (by rw[hdp.o];exact V.o.1.symm) V.o.2.symm,(New.refl _).alloc _⟩
 ·have hd:decide (isB a/\isB b)=false:=decide_eq_false h
  have H:=Hd h;clear h;go_enter func265,ntmps265;go_wp2_with fail;refine(d_6 _ a b _ (by simp) (by simp) x1 x2 y1 y2).mono ?_
  rintro e w' ⟨rfl,rfl⟩;go_wp2;go_ret2;exact⟨d_y (if_neg H.o).symm (if_neg H.o).symm,(New.refl _).alloc _⟩
theorem s_n(a:Int)(w:World)(x1 : -9223372036854775808<=a)(x2:a<=9223372036854775807) :
  Calls prog 260 #[.int .i64 a] w fun e w'=>e=.returned (.tuple #[.int .i64 (j_W 1 a),.int .i64 (j_X 1 a)])/\New w w':=by
 go_enter func260,ntmps260;go_wp2_with fail;refine(s_s 1 a _ (by omega) (by omega) x1 x2).mono ?_
 rintro e w' ⟨rfl,hb⟩;go_wp2;go_ret2;exact⟨rfl,hb⟩
def k_M(a n:Int):Prop:=isB a/\0<=n
instance (a n:Int):Decidable (k_M a n):=by unfold k_M;infer_instance
def r_c(a n:Int):Int:=if k_M a n then(pw a.toNat n.toNat:Nat)else 0
def t_S(a n:Int):Int:=if k_M a n then 0 else 2
theorem s_j(a b:Int)(w:World)(x1 : -9223372036854775808<=a)(x2:a<=9223372036854775807)(y1 : -9223372036854775808<=b)(y2:b<=9223372036854775807) :
  Calls prog 249 #[.int .i64 a,.int .i64 b] w fun e w'=>e=.returned (.tuple #[.int .i64 (r_c a b),.int .i64 (t_S a b)])/\New w w':=by
 by_cases ha:isB a
 ·have hd:decide (isB a)=true:=decide_eq_true ha
  by_cases hb:0<=b
  ·have H:Hid (k_M a b):=⟨ha,hb⟩
   obtain⟨n,rfl,hn⟩:=e_8 ha;obtain⟨m,rfl⟩:=Int.eq_ofNat_of_zero_le hb;clear ha hb;go_enter func249,ntmps249;go_wp2_with fail;refine(g_J _ _ _ (by simp) x1 x2).mono ?_
   rintro e w' ⟨rfl,rfl⟩;go_wp2_with fail;refine(power_any n m hn (by omega) _).mono ?_
   rintro e w' ⟨rfl,rfl⟩;go_wp2;go_ret2;exact⟨d_y (if_pos H.o).symm (if_pos H.o).symm,(New.refl _).alloc _⟩
  ·have H:Hid (¬k_M a b):=fun h=>hb h.2
   clear ha;go_enter func249,ntmps249;go_wp2_with fail;refine(g_J _ _ _ (by simp) x1 x2).mono ?_
   rintro e w' ⟨rfl,rfl⟩;go_wp2;go_ret2;exact⟨d_y (if_neg H.o).symm (if_neg H.o).symm,(New.refl _).alloc _⟩
 ·have hd:decide (isB a)=false:=decide_eq_false ha
  have H:Hid (¬k_M a b):=fun h=>ha h.1;clear ha;go_enter func249,ntmps249;go_wp2_with fail;refine(g_J _ _ _ (by simp) x1 x2).mono ?_
  rintro e w' ⟨rfl,rfl⟩;go_wp2;go_ret2;exact⟨d_y (if_neg H.o).symm (if_neg H.o).symm,(New.refl _).alloc _⟩
theorem s_q(n:Int)(w:World)(x1 : -9223372036854775808<=n)(x2:n<=9223372036854775807) :
  Calls prog 245 #[.int .i64 n] w fun e w'=>e=.returned (.tuple #[.int .i64 (r_c 2 n),.int .i64 (t_S 2 n)])/\New w w':=by
 go_enter func245,ntmps245;go_wp2_with fail;refine(s_j 2 n _ (by omega) (by omega) x1 x2).mono ?_
 rintro e w' ⟨rfl,hb⟩;go_wp2;go_ret2;exact⟨rfl,hb⟩
end gf
namespace par
open Go.ChangeShapes Go.WideShapes Go.ChangeAt kit gf Go.Deep
attribute [local irreducible] mul b_i pw
def fcN(j i:Nat):Nat:=b_i ((i*j)%255)
theorem q_3(j i:Nat):fcN j i<256:=(a_x _ (Nat.mod_lt _ (by omega))).1
attribute [local irreducible] fcN
theorem g_z(j i:Nat)(hj:j<=100)(hi:i<=100)(w:World) :
  Calls prog 236 #[.int .i64 j,.int .i64 i] w fun e w'=>e=.returned (.int .i64 (fcN j i:Nat))/\New w w':=by
 have hb:i*j<=100*100:=Nat.mul_le_mul hi hj;obtain⟨p,hp⟩:∃p,Hid (i*j=p):=⟨_,(rfl:_=_)⟩;have hpi:(i:Int)*(j:Int)=(p:Int):=by rw[<-hp.o,Int.natCast_mul]
 have hv:r_c 2 (p:Int)=(fcN j i:Nat):=by
  unfold r_c;rw[if_pos ⟨by unfold isB;omega,by omega⟩]
  show((pw (2:Int).toNat (p:Int).toNat:Nat):Int)=_;rw[show(2:Int).toNat=2 from rfl,Int.toNat_natCast,s_V,<-hp.o]
  unfold fcN;rfl
 have hpb:p<=10000:=by rw[<-hp.o];exact hb
 have hv1:=Hd hv;clear hv hb;go_enter func236,ntmps236;go_wp2_with fail;refine(s_q (p:Int) _ (by omega) (by omega)).mono ?_
 rw[hv1.o];rintro e w1 ⟨rfl,hn⟩;go_wp2;go_ret;exact⟨rfl,hn⟩
theorem k_s(a b:Nat)(ha:a<256)(hb:b<256)(w:World) :
  Calls prog 248 #[.int .i64 a,.int .i64 b] w fun e w'=>e=.returned (.tuple #[.int .i64 (mul a b:Nat),.int .i64 0])/\New w w':=by
 refine(n_7 a b w (by omega) (by omega) (by omega) (by omega)).mono ?_
 have h1:isB (a:Int):=by unfold isB;omega
 have h2:isB (b:Int):=by unfold isB;omega
 have hv:p_v a b=(mul a b:Nat):=by unfold p_v;rw[if_pos ⟨h1,h2⟩];simp
 have he:p_w a b=0:=by unfold p_w;rw[if_pos ⟨h1,h2⟩]
 rw[hv,he];exact fun e w' h=>h
def tbl(x:Nat):Array Value:=(Array.range 256).map fun i=>.int .u8 (mul x i:Nat)
theorem d_T(x:Nat):(tbl x).size=256:=by simp[tbl]
theorem o_G(x i:Nat)(h:i<256):(tbl x)[i]?=some (.int .u8 (mul x i:Nat)):=by simp[tbl,h]
theorem l_S(x:Nat):(tbl x).all (·.oneCell')=true:=by
 rw[Array.all_eq_true_iff_forall_mem];intro v hv;simp[tbl]at hv;obtain⟨i,_,rfl⟩:=hv;rfl
attribute [local irreducible] tbl
theorem m_A:(prog.info? 368).map (·.size)=some 256:=by kernel_rfl
def i_W(x k:Nat):Nat->Value:=fun i=>.int .u8 ((if i<k then mul x i else 0:Nat):Int)
theorem l_N:Tryz.zeroCells368=Array.replicate 256 (.int .u8 0):=by kernel_rfl
theorem s_R(w:World)(x:Nat):(w.alloc (.cells Tryz.zeroCells368 368)).rowIs w.heap.size 368 256 (i_W x 0):=by
 rw[l_N];have:=World.rowIs_alloc w (Array.replicate 256 (Value.int .u8 0)) 368 (i_W x 0) fun i hi=>by
  have:i<256:=by simpa using hi
  simp[i_W,this]
 simpa using this
theorem n_b(x q:Nat):(fun i=>if i=q then Value.int .u8 ((mul x q:Nat):Int)else i_W x q i)=i_W x (q+1):=by
 funext i;unfold i_W
 by_cases hi:i=q
 ·subst hi;rw[if_pos rfl,if_pos (by omega)]
 ·rw[if_neg hi]
  by_cases h:i<q
  ·rw[if_pos h,if_pos (by omega)]
  ·rw[if_neg h,if_neg (by omega)]
theorem r_3{w:World}{b:Nat}{t:TypeId}{n:Nat}{f:Nat->Value}{cs:Array Value}(h:w.rowIs b t n f)(hs:cs.size=n)(hc:∀i,i<n->cs[i]?=some (f i)):Blk w b t cs:=by
 obtain⟨c,h1,h2,h3⟩:=h;have:c=cs:=by
  apply Array.ext
  ·omega
  ·intro i hi1 hi2
   have e1:=h3 i (by omega)
   have e2:=hc i (by omega)
   rw[<-e2]at e1;simpa [hi1,hi2]using e1
 subst this;exact h1
set_option maxRecDepth 100000 in
theorem n_c(x:Nat)(hx:x<256)(w:World) :
  Calls prog 244 #[.int .i64 x] w fun e w'=>e=.returned (.agg (tbl x))/\New w w':=by
 go_enter func244,ntmps244;go_wp2;go_loopw [6] (fun k wr=>∃q:Nat,k=.int .i64 q/\q<=256/\wr.rowIs w.heap.size 368 256 (i_W x q)/\New w wr) (fun k _=>256-(intOf k).toNat);case atStart=>exact⟨0,rfl,by omega,s_R w x,(New.refl w).alloc _⟩
 case round=>
  obtain⟨q,rfl,hq,hrow,hnw⟩:=hrel;have hrow1:=Hd hrow;have hnw1:=Hd hnw;clear hrow hnw
  by_cases hlt:q<256
  ·have hqi:(q:Int)<256:=by omega
   have hml:mul x q<256:=a_u x q hx;go_wp2_with fail;refine(k_s x q hx hlt _).mono ?_;rintro e w1 ⟨rfl,hn1⟩;have hrw:=u_ hrow1.o hn1;have hc:=hrw.cell hlt;have hf:=hrw.frozen q;have hrw1:=Hd hrw;have hnw2:=Hd (hnw1.o.next hn1);have hnext:=Hd (n_b x q);generalize mul x q=m at *;clear hrw hn1;go_wp2;go_roundw;case rel=>exact⟨q+1,by go_num,by omega,by rw[<-hnext.o];exact hrw1.o.set q _,hnw2.o.set (by simp) _⟩
   case measure=>simp[intOf];omega
  ·have hq2:q=256:=by omega
   have hqi:¬(q:Int)<256:=by omega
   have hqj:decide ((q:Int)<256)=false:=by simp;omega
   have hb:Hid (Blk wr w.heap.size 368 (tbl x)):=r_3 hrow1.o (d_T x) fun i hi=>by rw[o_G x i hi];unfold i_W;rw[if_pos (by omega)]
   clear hlt hq hq2;have hu:=l_S x;have hi:=m_A;rw[<-d_T x]at hi;obtain⟨T,hT⟩:∃T,Hid (T=tbl x):=⟨_,(rfl:_=_)⟩;rw[<-hT.o]at hb hu hi;have hu2:=Hd hu;have hi2:=Hd hi;have hT1:=Hd (hb.o.row T);have hN1:=Hd (hnw1.o.row (g:=w.heap.size) (Nat.le_refl _) T);have hret:Hid (Ending.returned (.agg T)=.returned (.agg (tbl x))):=congrArg (fun a=>Ending.returned (Value.agg a)) hT.o;clear hu hi;go_wp2_with (first|(refine wpList_load_row rfl 368 _ rfl w.heap.size rfl 368 T (0,0) _ hb.o underlying368 rfl hi2.o ?_)|(refine wpList_store_row rfl 368 _ _ rfl w.heap.size T rfl rfl 368 T hb.o hi2.o rfl hu2.o ?_;refine(‹∀(a:Act) (w:World),Code.wp prog Code.ret _ a w->_› _ _ ?_);refine wp_ret ?_;exact bodyPost_ret (v:=.agg T) (results_cell_row results244 _ _ w.heap.size 368 T (0,0) _ rfl hT1.o underlying368 rfl hi2.o) rfl ⟨hret.o,hN1.o⟩))
theorem k_q(a b:Nat)(ha:a<256)(hb:b<256):bits .xor .u8 (a:Int) (b:Int)=((a ^^^ b:Nat):Int):=by
 have h1:(BitVec.ofInt 8 (a:Int)).toNat=a:=by rw[BitVec.ofInt_natCast,BitVec.toNat_ofNat];exact Nat.mod_eq_of_lt (by omega)
 have h2:(BitVec.ofInt 8 (b:Int)).toNat=b:=by rw[BitVec.ofInt_natCast,BitVec.toNat_ofNat];exact Nat.mod_eq_of_lt (by omega)
 have hx:a ^^^ b<2 ^ 8:=Nat.xor_lt_two_pow (by omega) (by omega)
 show IntKind.u8.wrap ((BitVec.ofInt 8 (a:Int) ^^^ BitVec.ofInt 8 (b:Int)).toNat:Int)=_;rw[BitVec.toNat_xor,h1,h2,IntKind.wrap_u8];omega
def byV(F:Nat->Nat):Nat->Value:=fun i=>.int .u8 (F i:Nat)
def mxF(F:Nat->Nat)(Z:Nat->Int)(x q:Nat):Nat->Nat:=fun k=>if k<q then F k ^^^ mul x (Z k).toNat else F k
theorem p_t(F:Nat->Nat)(Z:Nat->Int)(x:Nat):mxF F Z x 0=F:=by funext k;unfold mxF;rw[if_neg (by omega)]
theorem p_u(F:Nat->Nat)(Z:Nat->Int)(x q:Nat):(fun k=>if k=q then Value.int .u8 ((F q ^^^ mul x (Z q).toNat:Nat):Int)else byV (mxF F Z x q) k)=byV (mxF F Z x (q+1)):=by
 funext k;unfold byV mxF
 by_cases hk:k=q
 ·subst hk;rw[if_pos rfl,if_pos (by omega)]
 ·rw[if_neg hk]
  by_cases h:k<q
  ·rw[if_pos h,if_pos (by omega)]
  ·rw[if_neg h,if_neg (by omega)]
set_option maxRecDepth 100000 in
theorem i_m(g n c m d x:Nat)(A:Option Addr)(F:Nat->Nat)(Z:Nat->Int)(w:World)(hg:w.rowIs g 5 n (byV F))(hF:∀i,F i<256)(hA:RdI .u8 w A m Z)(hZ:∀i,i<m->0<=Z i/\Z i<=255)
  (hne:0<m->∀b off,A=some ⟨b,off,none⟩->b≠g) (hm:m<=n) (hn:n<=maxLen) (hx:x<256) :
  Calls prog 235 #[.slice (some ⟨g,0,none⟩) n c,.slice A m d,.int .i64 x] w fun e w'=>e=.returned (.tuple #[])/\w'.rowIs g 5 n (byV (mxF F Z x m))/\w.grownBy w' (some g):=by
 unfold maxLen at hn;have hg0:=Hd hg;have hA0:=Hd hA;have hZ0:=Hd hZ;have hne0:=Hd hne;have hF0:=Hd hF;clear hg hA hZ hne hF;go_enter func235,ntmps235;go_wp2_with fail;refine(n_c x hx _).mono ?_;obtain⟨T,hT⟩:∃T,Hid (T=tbl x):=⟨_,(rfl:_=_)⟩;rw[<-hT.o];rintro e w1 ⟨rfl,hn1⟩;have hg1:=Hd (u_ (u_ hg0.o hn1) ((New.refl w1).alloc (.cells T 368)));have hgr:=Hd (b_7 (hn1.alloc (.cells T 368)) (some g));have hA1:=Hd (hA0.o.new (hn1.alloc (.cells T 368)));have hz:=Hd (Blk.fresh w1 368 Tryz.zeroCells368);have hzs:Hid ((Tryz.zeroCells368:Array Value).size=T.size):=by rw[l_N,hT.o,d_T];exact(by simp:(Array.replicate 256 (Value.int .u8 0)).size=256)
 have hu:Hid (T.all (·.oneCell')=true):=by rw[hT.o];exact l_S x
 have hi:Hid ((prog.info? 368).map (·.size)=some T.size):=by rw[hT.o,d_T];exact m_A
 have hset:Hid ((w1.alloc (.cells Tryz.zeroCells368 368)).setRow w1.heap.size T=w1.alloc (.cells T 368)):=World.setRow_alloc_new ..;have htb:=Hd (Blk.fresh w1 368 T);clear hn1;go_wp2_with (refine wpList_store_row rfl 368 _ _ rfl w1.heap.size T rfl rfl 368 Tryz.zeroCells368 hz.o hi.o hzs.o hu.o ?_;rw[hset.o];generalize w1.alloc (.cells T 368)=w2 at *);have hN2:=Hd htb.o.lt;have hgl:g<w2.heap.size:=hg1.o.lt;have hgt:Hid (g≠w1.heap.size):=by
  intro he;have h1:=hg1.o.cell (i:=0);obtain⟨cs,h2,_,_⟩:=hg1.o;have h3:=htb.o;unfold Blk at h3;rw[<-he,h2]at h3;injection h3 with h3;injection h3 with _ h3 _;exact absurd h3 (by decide)
 clear hset hz;go_loopw [13] (fun k wr=>∃q:Nat,k=.int .i64 q/\q<=m/\wr.rowIs g 5 n (byV (mxF F Z x q))/\Blk wr w1.heap.size 368 T/\w2.grownBy wr (some g)) (fun k _=>m-(intOf k).toNat);case atStart=>exact⟨0,rfl,by omega,by rw[p_t];exact hg1.o,htb.o,d_G _ _⟩
 case round=>
  obtain⟨q,rfl,hq,hrow,htab,hgw⟩:=hrel
  by_cases hlt:q<m
  ·obtain⟨b,off,rfl,hb,hcs⟩:=hA1.o.2 (by omega)
   have hbg:=hne0.o (by omega) b off rfl
   have ci:=(hgw.cell_far ⟨b,off+q,none⟩ hb (by simp[hbg])).trans (hcs q hlt)
   obtain⟨y,hy⟩:∃y:Nat,Z q=y/\y<256:=⟨(Z q).toNat,by have:=hZ0.o q hlt;omega,by have:=hZ0.o q hlt;omega⟩
   rw[hy.1]at ci;have hyl:=hy.2;have hnext:=Hd (p_u F Z x q);rw[hy.1,Int.toNat_natCast]at hnext;have hrow1:=Hd hrow;have htab1:=Hd htab;have hgw1:=Hd hgw;have d0:=hrow.cell (i:=q) (by omega)
   have d1:wr.cell? ⟨w1.heap.size,y,none⟩=some (.int .u8 (mul x y:Nat)):=by
    rw[htab.cell y,hT.o];exact o_G x y hyl
   have hfq:byV (mxF F Z x q) q=.int .u8 (F q:Nat):=by unfold byV mxF;rw[if_neg (by omega)]
   rw[hfq]at d0;have hml:mul x y<256:=a_u x y hx;have hFl:=hF0.o q;have hxo:bits .xor .u8 ((F q:Nat):Int) ((mul x y:Nat):Int)=((F q ^^^ mul x y:Nat):Int):=k_q _ _ hFl hml;have e0:(0:Int)<=(q:Int):=by omega
   have e1:(q:Int)<(n:Int):=by omega
   have e2:(q:Int)<(m:Int):=by omega
   have e3:(y:Int)<256:=by omega
   have e4:(0:Int)<=(y:Int):=by omega
   clear hrow htab hgw hcs hy hfq;generalize F q=u at *;generalize mul x y=v at *;have k0:=t_.keep d0;have k1:=t_.keep d1;clear d0 d1;go_wp2
   (refine a_D 9 (by kernel_rfl) (by kernel_rfl) ?_;simp only[List.take_succ_cons,List.take_zero,List.drop_succ_cons,List.drop_zero];(repeat (first|go_big_quiet_step (fail)|quiet_step (fail)));refine wpQuiet_nil ?_;rintro W5 ⟨⟨_,hn_W5⟩,rfl⟩)
   have hrow5:=u_ hrow1.o hn_W5;have hf5:=hrow5.frozen q;have hc5:=hrow5.cell (i:=q) (by omega)
   have hrow6:=Hd hrow5;have htab6:=Hd (htab1.o.new hn_W5);have hgw6:=Hd (hgw1.o.trans (b_7 hn_W5 (some g)));clear hrow5 hn_W5 k0 k1;go_wp2;go_roundw;case rel=>exact⟨q+1,by go_num,by omega,by rw[<-hnext.o];exact hrow6.o.set q _,htab6.o.far (fun h=>hgt.o h.symm) _,hgw6.o.trans (k_ _ _ _ _)⟩
   case measure=>simp[intOf];omega
  ·have hqm:q=m:=by omega
   subst hqm;have hrow1:=Hd hrow;have hg6:=Hd (hgr.o.trans hgw);clear hrow htab hgw;go_wp2;exact Great.bodyPost_end0 rfl rfl ⟨rfl,hrow1.o,hg6.o⟩
def enN(j:Nat)(M:Nat->Nat->Int):Nat->Nat->Nat
 |0,_=>0
 |i+1,k=>enN j M i k ^^^ mul (fcN j i) (M i k).toNat
theorem b_S(j:Nat)(M:Nat->Nat->Int):∀n k,enN j M n k<256
 |0,_=>by unfold enN;omega
 |i+1,k=>by
  unfold enN;exact b_o (b_S j M i k) (a_u _ _ (q_3 j i))
theorem infoU8:(prog.info? 5).map (fun i=>(i.zero,i.size,i.bytes))=some (some (.int .u8 0),1,1):=by kernel_rfl
theorem d_I(A:Option Addr)(n c l j:Nat)(R:Nat->Option Addr)(L C:Nat->Nat)(M:Nat->Nat->Int)(w:World)(hM:RdM .u8 w A n R L C M)(hb:∀i,i<n->∀k,k<L i->0<=M i k/\M i k<=255)
  (hL:∀i,i<n->L i=l) (hn1:1<=n) (hn:n<=12) (hl:l<=4096) (hj:j<=3) :
  Calls prog 216 #[.slice A n c,.int .i64 j] w fun e w'=>∃g,e=.returned (.slice (some ⟨g,0,none⟩) l l)/\w'.rowIs g 5 l (byV (enN j M n))/\New w w'/\w.heap.size<=g:=by
 obtain⟨b,off,rfl,hb1,hcs⟩:=hM.2.1 (by omega)
 have c0:=hcs 0 (by omega)
 rw[hL 0 (by omega),Nat.add_zero]at c0
 have e0:(0:Int)<(n:Int):=by omega
 have e1:0<n:=by omega
 have hM0:=Hd hM;have hb0:=Hd hb;have hL0:=Hd hL;have hcs0:=Hd hcs;have hmk:=run_make_row' (P:=prog) 35 5 (.int .u8 0) 1 underlying35 infoU8 rfl .i64 .i64 l (by omega) (by omega)
 have hrow0:Hid ((w.alloc (.cells (madeCells #[.int .u8 0] l) 5)).rowIs w.heap.size 5 l (byV (enN j M 0))):=(World.rowIs_made w (.int .u8 0) l 5).congr fun i _=>by simp[byV,enN]
 clear hM hb hL hcs;go_enter func216,ntmps216;go_wp2;go_loopw [15] (fun k wr=>∃i:Nat,k=.int .i64 i/\i<=n/\wr.rowIs w.heap.size 5 l (byV (enN j M i))/\New w wr) (fun k _=>n-(intOf k).toNat);case atStart=>exact⟨0,rfl,by omega,hrow0.o,(New.refl w).alloc _⟩
 case round=>
  obtain⟨i,rfl,hi,hrow,hnw⟩:=hrel
  by_cases hlt:i<n
  ·have ci:=(hnw.cell hb1).trans (hcs0.o i hlt)
   rw[hL0.o i hlt]at ci;have hRi:Hid (RdI .u8 w (R i) l (M i)):=by have:=(hM0.o.2.2 i hlt).1;rw[hL0.o i hlt]at this;exact this
   have hrow1:=Hd hrow;have hnw1:=Hd hnw;clear hrow hnw;go_wp2_with fail;refine(g_z j i (by omega) (by omega) _).mono ?_
   rintro e w1 ⟨rfl,hn1⟩;have hrow2:=Hd (u_ hrow1.o hn1);have hnw2:=Hd (hnw1.o.next hn1);clear hn1 ci;go_wp2_with fail;refine(i_m w.heap.size l l l (C i) (fcN j i) (R i) (enN j M i) (M i) _ hrow2.o (fun k=>b_S j M i k) (hRi.o.new hnw2.o) (fun k hk=>hb0.o i hlt k (by rw[hL0.o i hlt];exact hk)) (fun h0 b' off' hA=>by
    obtain⟨b2,off2,hA2,hb2,_⟩:=hRi.o.2 h0;rw[hA]at hA2;injection hA2 with hA2;injection hA2 with h1 _ _;omega) (Nat.le_refl _) (by unfold maxLen;omega) (q_3 j i)).mono ?_
   rintro e w2 ⟨rfl,hrow3,hg3⟩;have hrow4:Hid (w2.rowIs w.heap.size 5 l (byV (enN j M (i+1)))):=hrow3.congr fun k hk=>by unfold byV mxF;rw[if_pos hk];rfl
   have hnw4:=Hd (hnw2.o.grown1 hg3 (Nat.le_refl _));clear hrow3 hg3;go_wp2;go_roundw;case rel=>exact⟨i+1,by go_num,by omega,hrow4.o,hnw4.o⟩
   case measure=>simp[intOf];omega
  ·have hin:i=n:=by omega
   subst hin;have hrow1:=Hd hrow;have hnw1:=Hd hnw;clear hrow hnw;go_wp2;go_ret;exact⟨_,rfl,hrow1.o,hnw1.o,Nat.le_refl _⟩
end par
namespace par
open Go.ChangeShapes Go.WideShapes Go.ChangeAt kit gf Go.Deep
attribute [local irreducible] mul b_i pw fcN enN
def c_O(n:Nat)(L:Nat->Nat)(p:Int):Int:=if g_V n L=true then(if 1<=p/\p<=3 then 0 else 2)else 4
def d_Y(n:Nat)(L:Nat->Nat)(p:Int):Nat:=if c_O n L p=0 then p.toNat else 0
theorem p_B{n:Nat}{L:Nat->Nat}(h:g_V n L=true):1<=n/\n<=12/\∀i,i<n->L i=L 0/\L i<=4096:=by
 unfold g_V at h;rw[Bool.and_eq_true,decide_eq_true_eq]at h;exact⟨h.1.1,h.1.2,m_M h.2⟩
theorem i_w:(prog.info? 35).map (fun i=>(i.zero,i.size,i.bytes))=some (some (.slice none 0 0),1,24):=by kernel_rfl
theorem f_P(p:Int)(w:World):Calls prog 215 #[.int .i64 p] w fun e w'=>e=.returned (.bool (decide (1<=p/\p<=3)))/\w=w':=by
 by_cases h:1<=p/\p<=3
 ·have hd:decide (1<=p/\p<=3)=true:=decide_eq_true h
  rw[hd];obtain⟨h1,h2⟩:=h;clear hd;go_enter func215,ntmps215;go_wp2
  all_goals go_ret
  all_goals exact⟨by simp;try omega,rfl⟩
 ·have hd:decide (1<=p/\p<=3)=false:=decide_eq_false h
  rw[hd];clear hd;go_enter func215,ntmps215;go_wp2
  all_goals go_ret
  all_goals exact⟨by simp;try omega,rfl⟩
theorem l_H(A:Option Addr)(n c:Nat)(p:Int)(R:Nat->Option Addr)(L C:Nat->Nat)(M:Nat->Nat->Int)(w:World)(hM:RdM .u8 w A n R L C M)(hb:∀i,i<n->∀k,k<L i->0<=M i k/\M i k<=255) :
  Calls prog 170 #[.slice A n c,.int .i64 p] w fun e w'=>∃v,e=.returned (.tuple #[v,.int .i64 (c_O n L p)]) /\
   (∃B d R1 C1,v=.slice B (d_Y n L p) d/\RdM .u8 w' B (d_Y n L p) R1 (fun _=>L 0) C1 (fun j k=>(enN j M n k:Nat))/\∀i,i<d_Y n L p->∃g,R1 i=some ⟨g,0,none⟩/\w.heap.size<=g)/\New w w':=by
 obtain⟨cd,hcd⟩:∃cd,Hid (cd=c_O n L p):=⟨_,(rfl:_=_)⟩;obtain⟨ln,hln⟩:∃ln,Hid (ln=d_Y n L p):=⟨_,(rfl:_=_)⟩;rw[<-hcd.o,<-hln.o];have hM0:=Hd hM;have hb0:=Hd hb;clear hM hb;cases hm:g_V n L with
 |false=>
  have hc:cd=4:=by rw[hcd.o];unfold c_O;simp[hm]
  have hl:ln=0:=by rw[hln.o];unfold d_Y;rw[<-hcd.o];simp[hc]
  subst hc hl;go_enter func170,ntmps170;go_wp2_with fail;refine(May_any _ _ _ _ _ _ _ _ hM0.o).mono ?_;rw[hm];rintro e w1 ⟨rfl,hn⟩;go_wp2;go_ret2;exact⟨_,rfl,⟨none,0,fun _=>none,fun _=>0,rfl,m_n _ _ _ _ _ _,fun i hi=>absurd hi (Nat.not_lt_zero i)⟩,hn⟩
 |true=>
  have hm0:=Hd hm;obtain⟨hn1,hn12,hev⟩:=p_B hm;have hev0:=Hd hev;clear hm hev
  by_cases hp:1<=p/\p<=3
  ·have hc:cd=0:=by rw[hcd.o];unfold c_O;rw[if_pos hm0.o,if_pos hp]
   have hl:Hid (ln=p.toNat):=by rw[hln.o];unfold d_Y;rw[<-hcd.o,hc,if_pos rfl];exact(rfl:_=_)
   obtain⟨q,rfl,hq1,hq3⟩:∃q:Nat,p=q/\1<=q/\q<=3:=⟨p.toNat,by omega,by omega,by omega⟩
   have hlq:ln=q:=by rw[hl.o];simp
   subst hc;subst hlq;have hd:Hid (decide ((1:Int)<=(ln:Int)/\(ln:Int)<=3)=true):=decide_eq_true hp;obtain⟨i0,hi0,hz0,hz1,hz2⟩:=info_parts i_w;obtain⟨l,hl0⟩:∃l,Hid (l=L 0):=⟨_,(rfl:_=_)⟩;have hl4:l<=4096:=by have:=(hev0.o 0 (by omega)).2;rw[<-hl0.o]at this;exact this
   clear hp;go_enter func170,ntmps170;go_wp2_with fail;refine(May_any _ _ _ _ _ _ _ _ hM0.o).mono ?_;rw[hm0.o];rintro e w1 ⟨rfl,hn⟩;have hN1:=Hd hn;clear hn;go_wp2_with fail;refine(f_P _ _).mono ?_;rw[hd.o];rintro e w2 ⟨rfl,rfl⟩;go_wp2;go_loopw [15,6] (fun k s wr=>∃(j:Nat) (sv:Value) (G:Nat->Nat),sv=s/\k=.int .i64 j/\j<=ln/\wr.ownsRow w.heap.size 35 1 sv j (f_U G l j)/\New w wr/\Hid (∀i,i<j->wr.rowIs (G i) 5 l (byV (enN i M n))/\w.heap.size<=G i)) (fun k _ _=>ln-(intOf k).toNat);case atStart=>exact⟨0,_,fun _=>0,rfl,rfl,by omega,World.ownsRow_nil _ _ _ _,hN1.o,fun i hi=>absurd hi (Nat.not_lt_zero i)⟩
   case round=>
    obtain⟨j,sv,G,rfl,rfl,hj,hown,hnw,hG⟩:=hrel
    by_cases hlt:j<ln
    ·have hown1:=Hd hown
     have hnw1:=Hd hnw;clear hown hnw;go_wp2_with fail;refine(d_I A n c l j R L C M _ (hM0.o.new hnw1.o) hb0.o (fun i hi=>by rw[(hev0.o i hi).1,hl0.o]) hn1 hn12 hl4 (by omega)).mono ?_
     rintro e w3 ⟨g3,rfl,hrow3,hn3,hg3⟩;have hown3:=Hd (c_ hown1.o hn3);have hG3:Hid (∀i,i<j->w3.rowIs (G i) 5 l (byV (enN i M n))):=fun i hi=>u_ (hG.o i hi).1 hn3;have hnw3:=Hd (hnw1.o.next hn3);have hrow4:=Hd hrow3;have hnext:=Hd (k_G G l j g3);have hsz:=hnw3.o.size;have hg3':w.heap.size<=g3:=Nat.le_trans hnw1.o.size hg3;clear hn3 hrow3 hg3;go_wp2_with (at_builtin;refine wpList_append_own _ rfl _ _ 181 rfl w.heap.size 35 i0 _ 1 24 underlying181 hi0 hz0 hz1 hz2 rfl (by decide) sv j (f_U G l j) rfl (hown3.o.alloc _) ⟨w3.heap.size,0,none⟩ 1 1 [.slice (some ⟨g3,0,none⟩) l l] rfl rfl (World.news_of_block (cs:=#[.slice (some ⟨g3,0,none⟩) l l]) (t:=35) (fr:=(0,0)) (heap_alloc_new w3 _)) (by simp[Value.oneCell']) (by unfold maxLen;omega) (by omega) (by simp;omega) ?_;intro v5 w5 hown5 hgrow hnil)
     have hoa:=Hd (hown3.o.alloc (.cells #[.slice (some ⟨g3,0,none⟩) l l] 35));have hN5:=Hd (hnw3.o.append' hgrow fun g hg=>(hown3.o.lt _ hg).1);have hG5:Hid (∀i,i<j+1->w5.rowIs ((fun i=>if i=j then g3 else G i) i) 5 l (byV (enN i M n))):=fun i hi=>by
      by_cases hij:i=j
      ·subst hij
       simp only[if_pos];exact A_ (hrow4.o.alloc _) hgrow (J_ hoa.o (hrow4.o.alloc _) (by decide))
      ·simp only[if_neg hij]
       have:=hG3.o i (by omega)
       exact A_ (this.alloc _) hgrow (J_ hoa.o (this.alloc _) (by decide))
     rw[<-hnext.o]at hown5;have hown6:=Hd hown5;clear hown5 hgrow hnil;go_wp2;go_roundw;case rel=>exact⟨j+1,_,_,rfl,by go_num,by omega,hown6.o,hN5.o,fun i hi=>⟨hG5.o i hi,by
      by_cases hij:i=j
      ·simp only[if_pos hij];exact hg3'
      ·simp only[if_neg hij];exact(hG.o i (by omega)).2⟩⟩
     case measure=>simp[intOf];omega
    ·have hjl:j=ln:=by omega
     subst hjl;obtain⟨B1,d1,rfl,hR⟩:=r_l (k:=.u8) (f:=fun i k=>enN i M n k) hown (fun i hi=>(hG.o i hi).1) (by unfold maxLen;omega)
     have hR1:=Hd hR;have hnw1:=Hd hnw;clear hown hnw hR;go_wp2;go_ret2;exact⟨_,rfl,⟨B1,⟨d1,rfl⟩,_,⟨_,by rw[<-hl0.o];exact hR1.o⟩,fun i hi=>⟨_,rfl,(hG.o i hi).2⟩⟩,hnw1.o⟩
  ·have hc:cd=2:=by rw[hcd.o];unfold c_O;rw[if_pos hm0.o,if_neg hp]
   have hl:ln=0:=by rw[hln.o];unfold d_Y;rw[<-hcd.o];simp[hc]
   subst hc hl;have hd:Hid (decide (1<=p/\p<=3)=false):=decide_eq_false hp;clear hp;go_enter func170,ntmps170;go_wp2_with fail;refine(May_any _ _ _ _ _ _ _ _ hM0.o).mono ?_;rw[hm0.o];rintro e w1 ⟨rfl,hn⟩;go_wp2_with fail;refine(f_P _ _).mono ?_;rw[hd.o];rintro e w2 ⟨rfl,rfl⟩;go_wp2;go_ret2;exact⟨_,rfl,⟨none,0,fun _=>none,fun _=>0,rfl,m_n _ _ _ _ _ _,fun i hi=>absurd hi (Nat.not_lt_zero i)⟩,hn⟩
end par
namespace par
open Go.ChangeShapes Go.WideShapes Go.ChangeAt kit gf Go.Deep
attribute [local irreducible] mul b_i pw fcN enN
theorem n_p{k:IntKind}{w w':World}{A:Option Addr}{n:Nat}{Z:Nat->Int}{O:Nat}(h:RdI k w A n Z)(hg:w.grownBy w' (some O))(hne:0<n->∀b off,A=some ⟨b,off,none⟩->b≠O):RdI k w' A n Z:=
 ⟨h.1,fun h0=>by
  obtain⟨b,off,hA,hb,hc⟩:=h.2 h0;have hbo:=hne h0 b off hA;exact⟨b,off,hA,Nat.lt_of_lt_of_le hb hg.size,fun i hi=>(hg.cell_far ⟨b,off+i,none⟩ hb (by simp[hbo])).trans (hc i hi)⟩⟩
theorem s_U{w:World}{A:Option Addr}{n m:Nat}{Z:Nat->Int}{O:Nat}{t:TypeId}{f:Nat->Value}(h:RdI .u8 w A n Z)(ho:w.rowIs O t m f)(hf:∀i,i<m->∀z,f i≠.int .u8 z):0<n->∀b off,A=some ⟨b,off,none⟩->b≠O:=by
 intro h0 b off hA he;obtain⟨b',off',hA',hb,hc⟩:=h.2 h0;rw[hA]at hA';injection hA' with hA';injection hA' with h1 h2 _;subst h1 h2 he;have h1:=hc 0 h0;obtain⟨cs,h2,h3,h4⟩:=ho;rw[cell_of_row w b (off+0) cs t (0,0) h2]at h1;have hlt:off+0<m:=by
  rcases Nat.lt_or_ge (off+0) m with h|h
  ·exact h
  ·rw[Array.getElem?_eq_none (by omega)]at h1;cases h1
 rw[h4 _ hlt]at h1;injection h1 with h1;exact hf _ hlt _ h1
end par
namespace fld
open gf
def xs:Nat->(Nat->Nat)->Nat
 |0,_=>0
 |n+1,f=>xs n f ^^^ f n
theorem h_8:∀{n:Nat} {f:Nat->Nat},(∀i,i<n->f i<256)->xs n f<256
 |0,_,_=>by unfold xs;omega
 |n+1,f,h=>b_o (h_8 fun i hi=>h i (by omega)) (h n (by omega))
def fcP(j i:Nat):Nat:=b_i ((i*j)%255)
end fld
namespace mat
open Go.ChangeShapes Go.WideShapes Go.ChangeAt kit
def elP(a:Int):Prop:=0<=a/\a<256
instance (a:Int):Decidable (elP a):=by unfold elP;infer_instance
def f_j(n:Nat)(Z:Nat->Int):Bool:=(List.range n).all fun j=>decide (elP (Z j))
theorem h_S{n:Nat}{Z:Nat->Int}(h:∀j,j<n->elP (Z j)):f_j n Z=true:=by simpa [f_j]using h
theorem q_I{n j:Nat}{Z:Nat->Int}(hj:j<n)(h:¬elP (Z j)):f_j n Z=false:=by
 cases hb:f_j n Z with
 |false=>rfl
 |true=>simp[f_j]at hb;exact absurd (hb j hj) h
theorem q_H{n:Nat}{Z:Nat->Int}(h:f_j n Z=true):∀j,j<n->elP (Z j):=by simpa [f_j]using h
theorem j_U(a:Int)(w:World):Calls prog 264 #[.int .i64 a] w fun e w'=>e=.returned (.bool (decide (elP a)))/\w=w':=by
 go_enter func264,ntmps264;go_wp2
 all_goals go_ret
 all_goals refine⟨b_t ?_,rfl⟩
 all_goals first
 |(refine(decide_eq_true ?_).symm;unfold elP;omega)
 |(refine(decide_eq_false ?_).symm;unfold elP;omega)
 |(refine decide_eq_decide.2 ?_;unfold elP;omega)
theorem q_J(a:Int)(w:World):Calls prog 263 #[.int .i64 a] w fun e w'=>e=.returned (.bool (! decide (elP a)))/\w=w':=by
 go_enter func263,ntmps263;go_wp2_with fail;refine(j_U _ _).mono ?_;rintro e w1 ⟨rfl,rfl⟩;go_wp2;go_ret;simp
theorem h_1(A:Option Addr)(n c:Nat)(Z:Nat->Int)(w:World)(h:RdI .i64 w A n Z) :
  Calls prog 266 #[.slice A n c,.func (.func 263) #[] #[]] w fun e w'=>∃r:Int,e=.returned (.int .i64 r)/\decide (r >= 0)=(! f_j n Z)/\w=w':=by
 obtain⟨hm,hr⟩:=h;unfold maxLen at hm;go_enter func266,ntmps266;go_wp2;go_loopw [8] (fun k wr=>∃i:Nat,k=.int .i64 i/\i<=n/\w=wr/\Hid (∀j,j<i->elP (Z j))) (fun k _=>n-(intOf k).toNat);case atStart=>exact⟨0,rfl,by omega,rfl,fun j hj=>absurd hj (Nat.not_lt_zero j)⟩
 case round=>
  obtain⟨i,rfl,hi,rfl,hup⟩:=hrel
  by_cases hlt:i<n
  ·obtain⟨b,off,rfl,hb,hcs⟩:=hr (by omega)
   have c0:=hcs i hlt;clear hcs hr;go_wp2_with fail;refine(q_J _ _).mono ?_;rintro e w1 ⟨rfl,rfl⟩
   by_cases hp:elP (Z i)
   ·have hd:decide (elP (Z i))=true:=decide_eq_true hp
    have hs:Hid (∀j,j<i+1->elP (Z j)):=fun j hj=>by
     by_cases hji:j=i
     ·subst hji;exact hp
     ·exact hup.o j (by omega)
    clear hp;go_wp2;go_roundw;case rel=>exact⟨i+1,by go_num,by omega,trivial,hs.o⟩
    case measure=>simp[intOf];omega
   ·have hd:decide (elP (Z i))=false:=decide_eq_false hp
    have hp:=Hd hp;go_wp2;go_ret;refine⟨_,rfl,?_,?_⟩
    ·rw[q_I hlt hp.o];simp
    ·simp
  ·have hin:i=n:=by omega
   subst hin;go_wp2;go_ret;refine⟨_,rfl,?_,?_⟩
   ·rw[h_S hup.o];rfl
   ·simp
theorem e_T(A:Option Addr)(n c:Nat)(Z:Nat->Int)(w:World)(h:RdI .i64 w A n Z) :
  Calls prog 262 #[.slice A n c,.func (.func 263) #[] #[]] w fun e w'=>e=.returned (.bool (! f_j n Z))/\w=w':=by
 go_enter func262,ntmps262;go_wp2_with fail;refine(h_1 _ _ _ _ _ h).mono ?_;rintro e w1 ⟨r,rfl,hr,rfl⟩;have hr:=Hd hr;go_wp2
 all_goals go_ret
 all_goals refine⟨b_t ?_,rfl⟩
 all_goals rw[<-hr.o]
theorem all_any(A:Option Addr)(n c:Nat)(Z:Nat->Int)(w:World)(h:RdI .i64 w A n Z) :
  Calls prog 257 #[.slice A n c] w fun e w'=>e=.returned (.bool (f_j n Z))/\w=w':=by
 go_enter func257,ntmps257;go_wp2_with fail;refine(e_T _ _ _ _ _ h).mono ?_;rintro e w1 ⟨rfl,rfl⟩;go_wp2;go_ret;exact⟨by simp,rfl⟩
def g_T(L:Nat->Nat)(M:Nat->Nat->Int)(i:Nat):Prop:=L i=L 0/\1<=L i/\L i<=8/\f_j (L i) (M i)=true
instance (L:Nat->Nat)(M:Nat->Nat->Int)(i:Nat):Decidable (g_T L M i):=by unfold g_T;infer_instance
def f_g(n:Nat)(L:Nat->Nat)(M:Nat->Nat->Int):Bool:=decide (1<=n/\n<=8)&&(List.range n).all fun i=>decide (g_T L M i)
theorem h_s{n:Nat}{L:Nat->Nat}{M:Nat->Nat->Int}(h1:1<=n)(h2:n<=8)(h:∀j,j<n->g_T L M j):f_g n L M=true:=by
 simp[f_g,h1,h2];exact h
theorem n_L{n:Nat}{L:Nat->Nat}{M:Nat->Nat->Int}(h:¬(1<=n/\n<=8)):f_g n L M=false:=by
 unfold f_g;rw[decide_eq_false h];rfl
theorem j_o{n j:Nat}{L:Nat->Nat}{M:Nat->Nat->Int}(hj:j<n)(h:¬g_T L M j):f_g n L M=false:=by
 cases hb:f_g n L M with
 |false=>rfl
 |true=>simp[f_g]at hb;exact absurd (hb.2 j hj) h
theorem p_A{n:Nat}{L:Nat->Nat}{M:Nat->Nat->Int}(h:f_g n L M=true):1<=n/\n<=8/\∀j,j<n->g_T L M j:=by
 simp[f_g]at h;exact⟨h.1.1,h.1.2,h.2⟩
theorem May_any(A:Option Addr)(n c:Nat)(R:Nat->Option Addr)(L C:Nat->Nat)(M:Nat->Nat->Int)(w:World)(h:RdM .i64 w A n R L C M) :
  Calls prog 254 #[.slice A n c] w fun e w'=>e=.returned (.bool (f_g n L M))/\w=w':=by
 obtain⟨hm,hr,hrows⟩:=h;unfold maxLen at hm
 by_cases hsize:¬(1<=n/\n<=8)
 ·go_enter func254,ntmps254
  go_wp2
  all_goals go_ret
  all_goals exact⟨b_t (n_L hsize).symm,rfl⟩
 obtain⟨b,off,rfl,hb,hcs0⟩:=hr (by omega)
 have hrows0:=Hd hrows;have hcs:=Hd hcs0;clear hrows hcs0 hr;have hrows:=hrows0;clear hrows0;have z0:=hcs.o 0 (by omega)
 simp at z0;go_enter func254,ntmps254;go_wp2;go_loopw [15] (fun k wr=>∃i:Nat,k=.int .i64 i/\i<=n/\w=wr/\Hid (∀j,j<i->g_T L M j)) (fun k _=>n-(intOf k).toNat);case atStart=>exact⟨0,rfl,by omega,rfl,fun j hj=>absurd hj (Nat.not_lt_zero j)⟩
 case round=>
  obtain⟨i,rfl,hi,rfl,hup⟩:=hrel
  by_cases hlt:i<n
  ·have c0:=hcs.o i hlt
   have hrow:=Hd (hrows.o i hlt)
   by_cases hp:L i=L 0/\1<=L i/\L i<=8
   ·obtain⟨hp1,hp2,hp3⟩:=hp
    go_wp2_with fail;have hrow1:RdI .i64 w (R i) (L 0) (M i):=by have:=hrow.o.1;rw[hp1]at this;exact this
    refine(all_any _ _ _ _ _ hrow1).mono ?_;rintro e w1 ⟨rfl,rfl⟩;cases ha:f_j (L 0) (M i)with
    |true=>
     have hs:Hid (∀j,j<i+1->g_T L M j):=fun j hj=>by
      by_cases hji:j=i
      ·subst hji;exact⟨hp1,hp2,hp3,by rw[hp1];exact ha⟩
      ·exact hup.o j (by omega)
     go_wp2;go_roundw;case rel=>exact⟨i+1,by go_num,by omega,trivial,hs.o⟩
     case measure=>simp[intOf];omega
    |false=>
     have hs:Hid (¬g_T L M i):=fun h=>by have h2:=h.2.2.2;rw[hp1,ha]at h2;cases h2
     go_wp2;go_ret;exact⟨b_t (j_o hlt hs.o).symm,rfl⟩
   ·have hs:Hid (¬g_T L M i):=fun h=>hp ⟨h.1,h.2.1,h.2.2.1⟩
    go_wp2
    all_goals go_ret
    all_goals exact⟨b_t (j_o hlt hs.o).symm,rfl⟩
  ·have hin:i=n:=by omega
   subst hin;go_wp2;go_ret;exact⟨b_t (h_s (by omega) (by omega) hup.o).symm,rfl⟩
end mat
end Go.Proofs.YtojcoaekhiadcaaGreat
