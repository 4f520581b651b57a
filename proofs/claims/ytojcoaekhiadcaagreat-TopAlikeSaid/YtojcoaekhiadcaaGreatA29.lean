import Derived.Test.YtojcoaekhiadcaaGreatA01
import Derived.Test.YtojcoaekhiadcaaGreatA28
import Derived.Laws.BytesArg
import Derived.Deep.RegionHeld3
import Derived.Test.YtojcoaekhiadcaaGreatA02
set_option linter.unusedVariables false
set_option linter.unusedSimpArgs false
namespace Go.Proofs.YtojcoaekhiadcaaGreat
open Tryz Go.RowKit
namespace label
open Go.ChangeShapes Go.WideShapes Go.ChangeAt kit flet Go.Deep
def b_w(B:Nat->Nat)(i:Nat):Int:=if i<9 then((a_B (fun q=>B (4*i+q)) 4:Nat):Int)else wrap64 (a_B (fun q=>B (36+8*(i-9)+q)) 8:Nat)
def seB(B:Nat->Nat)(j:Nat):Int:=wrap64 (a_B (fun q=>B (96+8*j+q)) 8:Nat)
def k_w(B:Nat->Nat):Int×Int×Int×Int:=a_f B 24 (0,0,0,0)
theorem r_r(B:Nat->Nat)(hB:∀i,i<128->B i<256)(i:Nat)(hi:i<13):a_0 (b_w B i):=by
 unfold b_w;split
 ·have:a_B (fun q=>B (4*i+q)) 4<4294967296:=d_d (B:=fun q=>B (4*i+q)) (s:=4) (fun q hq=>hB _ (by omega)) 4 (Nat.le_refl _)
  unfold a_0;omega
 ·exact d_P _
def f_0(B:Nat->Nat):Prop:=∀j,j<4->at4 (k_w B) j=seB B j
instance (B:Nat->Nat):Decidable (f_0 B):=by unfold f_0;infer_instance
def m_F(B:Nat->Nat):Prop:=∀i,i<96->a_h (b_w B) (fun _=>0) i=B i
instance (B:Nat->Nat):Decidable (m_F B):=by unfold m_F;infer_instance
def h_R(B:Nat->Nat):Prop:=okX (b_w B)/\m_F B
instance (B:Nat->Nat):Decidable (h_R B):=by unfold h_R;infer_instance
def D_(n:Nat)(B:Nat->Nat):Int:=if n=128 then(if f_0 B then(if h_R B then 0 else 4)else 11)else 1
def b_D(n:Nat)(B:Nat->Nat):Nat->Int:=fun i=>if D_ n B=0 then b_w B i else 0
theorem q_E(B:Nat->Nat)(j:Nat):a_0 (at4 (k_w B) j):=by
 have h:=sums_bd B 24 (by omega) (0,0,0,0)
 unfold at4 k_w
 repeat' split
 ·exact h.1
 ·exact h.2.1
 ·exact h.2.2.1
 ·exact h.2.2.2
theorem p_U(B:Nat->Nat)(hB:∀i,i<128->B i<256)(hs:f_0 B):(∀i,i<128->a_h (b_w B) (a_g (b_w B)) i=B i)↔m_F B:=by
 constructor
 ·intro h i hi
  rw[c_d _ _ (a_g (b_w B)) i hi];exact h i (by omega)
 ·intro h i hi
  by_cases h96:i<96
  ·rw[c_d _ _ (fun _=>0) i h96]
   exact h i h96
  ·have e:=e_F (b_w B) (a_g (b_w B)) ((i-96)/8) ((i-96)%8) (by omega) (by omega)
   rw[show 96+8*((i-96)/8)+(i-96)%8=i by omega]at e
   rw[e];have hS:j_7 (b_w B)=k_w B:=e_o (0,0,0,0) 24 fun i hi=>h i (by omega)
   have h2:=hs ((i-96)/8) (by omega)
   have h3:=(r_q (at4 (k_w B) ((i-96)/8)) (fun q=>B (96+8*((i-96)/8)+q)) (fun q hq=>hB _ (by omega)) (q_E B _).1 (q_E B _).2).1 h2 ((i-96)%8) (by omega)
   unfold a_g;rw[hS,h3,show 96+8*((i-96)/8)+(i-96)%8=i by omega]
theorem q_k{B:Nat->Nat}(h:¬f_0 B):D_ 128 B=11:=by unfold D_;rw[if_pos rfl,if_neg h]
theorem m_U{B:Nat->Nat}(h:f_0 B)(h2:¬h_R B):D_ 128 B=4:=by unfold D_;rw[if_pos rfl,if_pos h,if_neg h2]
theorem j_Z{B:Nat->Nat}(h:f_0 B)(h2:h_R B):D_ 128 B=0:=by unfold D_;rw[if_pos rfl,if_pos h,if_pos h2]
theorem g_E{B:Nat->Nat}(h:D_ 128 B≠0):b_D 128 B=fun _=>0:=by funext i;unfold b_D;rw[if_neg h]
theorem e_L{B:Nat->Nat}(h:D_ 128 B=0):b_D 128 B=b_w B:=by funext i;unfold b_D;rw[if_pos h]
def eqB(F G:Nat->Nat)(n:Nat):Bool:=decide (∀i,i<n->F i=G i)
theorem r_S{F G:Nat->Nat}{n i:Nat}(hi:i<n)(h:F i≠G i):eqB F G n=false:=decide_eq_false fun hh=>h (hh i hi)
theorem r_R{F G:Nat->Nat}{n:Nat}(h:eqB F G n=true):∀i,i<n->F i=G i:=of_decide_eq_true h
theorem j_T{F G:Nat->Nat}{n:Nat}(h:∀i,i<n->F i=G i):eqB F G n=true:=decide_eq_true h
attribute [local irreducible] eqB
theorem o_k(A B:Option Addr)(n c d:Nat)(Y Z:Nat->Nat)(w:World)(hY:RdB w A n Y)(hZ:RdB w B n Z) :
  Calls prog 222 #[.slice A n c,.slice B n d] w fun e w'=>e=.returned (.bool (eqB Y Z n))/\New w w':=by
 have hm:=hY.1;unfold maxLen at hm;have hY0:=Hd hY;have hZ0:=Hd hZ;clear hY hZ;go_enter func222,ntmps222;go_wp2;go_loopw [13] (fun k wr=>∃i:Nat,k=.int .i64 i/\i<=n/\New w wr/\Hid (∀j,j<i->Y j=Z j)) (fun k _=>n-(intOf k).toNat);case atStart=>exact⟨0,rfl,by omega,New.refl w,fun j h=>absurd h (Nat.not_lt_zero j)⟩
 case round=>
  obtain⟨i,rfl,hi,hnw,hall⟩:=hrel
  by_cases hlt:i<n
  ·obtain⟨b,off,rfl,hb,hcs⟩:=hY0.o.2.2 (by omega)
   obtain⟨b',off',rfl,hb',hcs'⟩:=hZ0.o.2.2 (by omega)
   have c0:=(hnw.cell hb).trans (hcs i hlt);have c1:=(hnw.cell hb').trans (hcs' i hlt);have hbad:=Hd (fun h:Y i≠Z i=>r_S hlt h);have hlti:(i:Int)<n:=by omega
   have hge:(0:Int)<=i:=by omega
   by_cases he:Y i=Z i
   ·have hs:Hid (∀j,j<i+1->Y j=Z j):=fun j hj=>by
     by_cases hji:j=i
     ·subst hji;exact he
     ·exact hall.o j (by omega)
    rw[<-he]at c1;clear hcs hcs' he;generalize Y i=y at *;go_wp2;go_quiet (fail);go_wp2;go_roundw;case rel=>exact⟨i+1,by go_num,by omega,hnw.drewN _,hs⟩
    case measure=>simp[intOf];omega
   ·have hbd:=Hd (hbad.o he)
    clear hcs hcs';generalize Y i=y at *;generalize Z i=z at *;have hne:((y:Int) != (z:Int))=true:=by simp;omega
    have hne2:((y:Int)==(z:Int))=false:=by simp;omega
    clear he;go_wp2;go_quiet (fail);go_wp2;go_ret;exact⟨b_t hbd.o.symm,hnw.drewN _⟩
  ·have hin:i=n:=by omega
   subst hin;have hbd:=Hd (j_T hall.o);go_wp2;go_ret;exact⟨b_t hbd.o.symm,hnw⟩
theorem i_L{w:World}{t:TypeId}{cs:Array Value}{n:Nat}(h:w.heap.size=n):Blk (w.alloc (.cells cs t)) n t cs:=h▸Blk.fresh w t cs
def c_C(X:Nat->Int)(k:Nat):Nat->Int:=fun i=>if i<k then X i else 0
theorem p_K(Y:Nat->Int)(k:Nat)(v:Int)(hk:k<13):(I_ Y).setIfInBounds k (.int .i64 v)=I_ (fun i=>if i=k then v else Y i):=by
 match k,hk with
 |0,_=>rfl
 |1,_=>rfl
 |2,_=>rfl
 |3,_=>rfl
 |4,_=>rfl
 |5,_=>rfl
 |6,_=>rfl
 |7,_=>rfl
 |8,_=>rfl
 |9,_=>rfl
 |10,_=>rfl
 |11,_=>rfl
 |12,_=>rfl
theorem h_N(X:Nat->Int)(k:Nat):(fun i=>if i=k then X k else c_C X k i)=c_C X (k+1):=by
 funext i;unfold c_C
 by_cases hi:i=k
 ·subst hi;rw[if_pos rfl,if_pos (by omega)]
 ·rw[if_neg hi]
  by_cases h:i<k
  ·rw[if_pos h,if_pos (by omega)]
  ·rw[if_neg h,if_neg (by omega)]
theorem j_B(X:Nat->Int)(k:Nat)(hk:k<13):(I_ (c_C X k)).setIfInBounds k (.int .i64 (X k))=I_ (c_C X (k+1)):=by
 rw[p_K _ k _ hk,h_N]
abbrev n_g(X:Nat->Int):Array Value:=#[.int .i64 (X 0),.int .i64 (X 1),.int .i64 (X 2),.int .i64 (X 3)]
theorem o_K(X:Nat->Int)(k:Nat)(hk:k<4):(n_g (c_C X k)).setIfInBounds k (.int .i64 (X k))=n_g (c_C X (k+1)):=by
 rw[<-h_N X k]
 match k,hk with
 |0,_=>rfl
 |1,_=>rfl
 |2,_=>rfl
 |3,_=>rfl
abbrev o_:Array Value:=#[.int .i64 0,.int .i64 0,.int .i64 0,.int .i64 0,.int .i64 0,.int .i64 0,.int .i64 0,.int .i64 0,.int .i64 0,.int .i64 0,.int .i64 0,.int .i64 0,.int .i64 0]
abbrev h_6:Array Value:=#[.int .i64 0,.int .i64 0,.int .i64 0,.int .i64 0]
theorem i_I{w:World}{g:Nat}{t:TypeId}{X:Nat->Int}(h:Blk w g t (I_ X)):w.cell? ⟨g,0,none⟩=some (.int .i64 (X 0))/\w.cell? ⟨g,1,none⟩=some (.int .i64 (X 1))/\w.cell? ⟨g,2,none⟩=some (.int .i64 (X 2))/\w.cell? ⟨g,3,none⟩=some (.int .i64 (X 3))/\w.cell? ⟨g,4,none⟩=some (.int .i64 (X 4))/\w.cell? ⟨g,5,none⟩=some (.int .i64 (X 5))/\w.cell? ⟨g,6,none⟩=some (.int .i64 (X 6))/\w.cell? ⟨g,7,none⟩=some (.int .i64 (X 7))/\w.cell? ⟨g,8,none⟩=some (.int .i64 (X 8))/\w.cell? ⟨g,9,none⟩=some (.int .i64 (X 9))/\w.cell? ⟨g,10,none⟩=some (.int .i64 (X 10))/\w.cell? ⟨g,11,none⟩=some (.int .i64 (X 11))/\w.cell? ⟨g,12,none⟩=some (.int .i64 (X 12)):=
 ⟨h.cell 0,h.cell 1,h.cell 2,h.cell 3,h.cell 4,h.cell 5,h.cell 6,h.cell 7,h.cell 8,h.cell 9,h.cell 10,h.cell 11,h.cell 12⟩
theorem g_m(X:Nat->Int):(I_ X).all (·.oneCell')=true:=by simp[Value.oneCell']
theorem c_h:o_.all (·.oneCell')=true:=by simp[Value.oneCell']
theorem t_e(X:Nat->Int):I_ (c_C X 13)=I_ X:=by simp[c_C]
theorem l_I(n c:Nat)(A:Option Addr)(w:World)(hm:n<=maxLen)(hn:n≠128) :
  Calls prog 178 #[.slice A n c] w fun e w'=>e=.returned (.tuple #[.agg o_,.int .i64 1])/\New w w':=by
 unfold maxLen at hm;have hne:((n:Int) != 128)=true:=by simp;omega
 go_enter func178,ntmps178;go_wp2;exact bodyPost_ret (v:=.tuple #[.agg o_,.int .i64 1]) (by simp[results,results178,go_sem]) rfl ⟨rfl,(New.refl _).alloc _⟩
set_option maxRecDepth 100000 in
set_option maxHeartbeats 1000000 in
theorem o_l(c:Nat)(A:Option Addr)(B:Nat->Nat)(w:World)(hr:RdB w A 128 B)(hc:128<=c)(hcm:c<=maxLen) :
  Calls prog 178 #[.slice A 128 c] w fun e w'=>e=.returned (.tuple #[.agg (I_ (b_D 128 B)),.int .i64 (D_ 128 B)])/\New w w':=by
 unfold maxLen at hcm;obtain⟨b,off,rfl,hb,hcs⟩:=hr.2.2 (by omega)
 obtain⟨cd,hcd⟩:∃cd,Hid (cd=D_ 128 B):=⟨_,(rfl:_=_)⟩;obtain⟨R,hR⟩:∃R,Hid (R=I_ (b_D 128 B)):=⟨_,(rfl:_=_)⟩;rw[<-hcd.o,<-hR.o];obtain⟨X,hX⟩:∃X,Hid (X=b_w B):=⟨_,(rfl:_=_)⟩;obtain⟨Se,hSe⟩:∃Se,Hid (Se=seB B):=⟨_,(rfl:_=_)⟩;have hr0:=Hd hr;have hw0:Hid (Blk ((((w.alloc (.cells o_ 194)).alloc (.cells o_ 194)).alloc (.cells h_6 105)).alloc (.cells #[.slice (some ⟨b,off,none⟩) 128 c] 348)) w.heap.size 194 o_):=
  (((Blk.fresh w _ _).alloc _).alloc _).alloc _
 have hw1:Hid (Blk ((((w.alloc (.cells o_ 194)).alloc (.cells o_ 194)).alloc (.cells h_6 105)).alloc (.cells #[.slice (some ⟨b,off,none⟩) 128 c] 348)) (w.heap.size+1) 194 (I_ (c_C X 0))):=((i_L (cs:=o_) (by simp)).alloc _).alloc _
 have hw2:Hid (Blk ((((w.alloc (.cells o_ 194)).alloc (.cells o_ 194)).alloc (.cells h_6 105)).alloc (.cells #[.slice (some ⟨b,off,none⟩) 128 c] 348)) (w.heap.size+2) 105 (n_g (c_C Se 0))):=(i_L (cs:=h_6) (by simp)).alloc _
 have hw3:Hid (Blk ((((w.alloc (.cells o_ 194)).alloc (.cells o_ 194)).alloc (.cells h_6 105)).alloc (.cells #[.slice (some ⟨b,off,none⟩) 128 c] 348)) (w.heap.size+3) 348 #[.slice (some ⟨b,off,none⟩) 128 c]):=i_L (by simp)
 have hN0:=Hd (((((New.refl w).alloc (.cells o_ 194)).alloc (.cells o_ 194)).alloc (.cells h_6 105)).alloc (.cells #[.slice (some ⟨b,off,none⟩) 128 c] 348));clear hr hcs;go_enter func178,ntmps178;go_wp2_with fail;refine(h_i _ _).mono ?_;rintro e w1 ⟨rfl,hn1⟩;have hx0:=hw0.o.new hn1;have hx1:=hw1.o.new hn1;have hx2:=hw2.o.new hn1;have hx3:=hw3.o.new hn1;have hNx:=hN0.o.next hn1;clear hn1;have hat:=Hd (m_m (w.heap.size+1));go_wp2;go_loopw [23] (fun k wr=>∃(q:Nat) (A':Option Addr) (c':Nat),k=.int .i64 q/\q<=9/\Blk wr w.heap.size 194 o_/\Blk wr (w.heap.size+1) 194 (I_ (c_C X q))/\Blk wr (w.heap.size+2) 105 (n_g (c_C Se 0))/\Blk wr (w.heap.size+3) 348 #[.slice A' (128-4*q) c'] /\
   Hid (RdB w A' (128-4*q) (fun i=>B (4*q+i)))/\128-4*q<=c'/\New w wr) (fun k _=>9-(intOf k).toNat)
 case atStart=>exact⟨0,_,_,rfl,by omega,hx0,hx1,hx2,hx3,by simpa using hr0,hc,hNx⟩
 case round=>
  obtain⟨q,A',c',rfl,hq,hy0,hy1,hy2,hy3,hrd,hcc,hny⟩:=hrel
  by_cases hlt:q<9
  ·have hix:=hat.o q hlt
   have hqi:(q:Int)<9:=by omega
   have hz0:=Hd hy0;have hz1:=Hd hy1;have hz2:=Hd hy2;have hz3:=Hd hy3;have hnz:=Hd hny;clear hy0 hy1 hy2 hy3 hny;go_wp2_with fail;refine(number_any (w.heap.size+3) 4 (128-4*q) c' A' _ _ hz3.o (hrd.o.new hnz.o) (by omega) (by omega) (by omega) hcc).mono ?_
   have hv:Hid (wrap64 (a_B (fun i=>B (4*q+i)) 4:Nat)=X q):=by
    rw[hX.o];unfold b_w;rw[if_pos hlt];have:a_B (fun i=>B (4*q+i)) 4<4294967296:=d_d (B:=fun i=>B (4*q+i)) (s:=4) (fun i hi=>hrd.o.2.1 i (by omega)) 4 (Nat.le_refl _)
    exact IntWalk.wrap64_in _ (by omega)
   rw[hv.o];rintro e w2 ⟨rfl,⟨A2,c2,hb2,hA2,hc2⟩,hg2⟩;have hz0:=hz0.o.grown hg2 (by simp)
   have hz1:=hz1.o.grown hg2 (by simp)
   have hz2:=hz2.o.grown hg2 (by simp)
   have hnz:=hnz.o.grown1 hg2 (by omega)
   have hcl:=hz1.cell q;rw[f_x _ q (by omega)]at hcl
   have hfr:=hz1.frozen q;have hy0:=Hd hz0;have hy1:=Hd hz1;have hy2:=Hd hz2;have hy3:=Hd hb2;have hny:=Hd hnz;have hA3:=Hd hA2;clear hz0 hz1 hz2 hnz hA2 hg2 hb2;go_wp2;go_roundw;case rel=>
    have hput:=hy1.o.put q (.int .i64 (X q));rw[j_B X q (by omega)]at hput
    have hrd2:=hA3.o w hrd.o;refine⟨q+1,A2,c2,by go_num,by omega,hy0.o.far (by simp) _,hput,hy2.o.far (by simp) _,?_,?_,by omega,hny.o.set (by simp) _⟩
    ·have:=hy3.o.far (p:=⟨w.heap.size+1,q,none⟩) (by simp) (.int .i64 (X q))
     rw[show 128-4*(q+1)=128-4*q-4 by omega]
     exact this
    ·have e:(fun i=>B (4*(q+1)+i))=fun i=>B (4*q+(4+i)):=funext fun i=>congrArg B (by omega)
     show RdB w A2 (128-4*(q+1)) fun i=>B (4*(q+1)+i);rw[show 128-4*(q+1)=128-4*q-4 by omega,e]
     exact hrd2
   case measure=>simp[intOf];omega
  ·have hq9:q=9:=by omega
   subst hq9;have hz0:=Hd hy0;have hz1:=Hd hy1;have hz2:=Hd hy2;have hz3:=Hd hy3;have hnz:=Hd hny;clear hy0 hy1 hy2 hy3 hny hat;go_wp2_with fail;refine(h_c _ _).mono ?_;rintro e w2 ⟨rfl,hn2⟩;have hx0:=hz0.o.new hn2;have hx1:=hz1.o.new hn2;have hx2:=hz2.o.new hn2;have hx3:=hz3.o.new hn2;have hNx:=hnz.o.next hn2;clear hn2;have hat:=Hd (f_q (w.heap.size+1) 9);have hrd36:Hid (RdB w A' (92-8*0) (fun i=>B (36+8*0+i))):=hrd.o;go_wp2;go_loopw [33] (fun k wr=>∃(q:Nat) (A':Option Addr) (c':Nat),k=.int .i64 q/\q<=4/\Blk wr w.heap.size 194 o_/\Blk wr (w.heap.size+1) 194 (I_ (c_C X (9+q)))/\Blk wr (w.heap.size+2) 105 (n_g (c_C Se 0))/\Blk wr (w.heap.size+3) 348 #[.slice A' (92-8*q) c'] /\
     Hid (RdB w A' (92-8*q) (fun i=>B (36+8*q+i)))/\92-8*q<=c'/\New w wr) (fun k _=>4-(intOf k).toNat)
   case atStart=>exact⟨0,_,_,rfl,by omega,hx0,hx1,hx2,hx3,hrd36,hcc,hNx⟩
   case round=>
    obtain⟨q,A',c',rfl,hq,hy0,hy1,hy2,hy3,hrd,hcc,hny⟩:=hrel
    by_cases hlt:q<4
    ·have hix:=hat.o q hlt
     have hqi:(q:Int)<4:=by omega
     have hz0:=Hd hy0;have hz1:=Hd hy1;have hz2:=Hd hy2;have hz3:=Hd hy3;have hnz:=Hd hny;clear hy0 hy1 hy2 hy3 hny;go_wp2_with fail;refine(number_any (w.heap.size+3) 8 (92-8*q) c' A' _ _ hz3.o (hrd.o.new hnz.o) (by omega) (by omega) (by omega) hcc).mono ?_
     have hv:Hid (wrap64 (a_B (fun i=>B (36+8*q+i)) 8:Nat)=X (9+q)):=by
      rw[hX.o];unfold b_w;rw[if_neg (by omega),show 9+q-9=q by omega]
      exact(rfl:_=_)
     rw[hv.o];rintro e w2 ⟨rfl,⟨A2,c2,hb2,hA2,hc2⟩,hg2⟩;have hz0:=hz0.o.grown hg2 (by simp)
     have hz1:=hz1.o.grown hg2 (by simp)
     have hz2:=hz2.o.grown hg2 (by simp)
     have hnz:=hnz.o.grown1 hg2 (by omega)
     have hcl:=hz1.cell (9+q);rw[f_x _ (9+q) (by omega)]at hcl
     have hfr:=hz1.frozen (9+q);have hy0:=Hd hz0;have hy1:=Hd hz1;have hy2:=Hd hz2;have hy3:=Hd hb2;have hny:=Hd hnz;have hA3:=Hd hA2;clear hz0 hz1 hz2 hnz hA2 hg2 hb2;go_wp2;go_roundw;case rel=>
      have hput:=hy1.o.put (9+q) (.int .i64 (X (9+q)));rw[j_B X (9+q) (by omega)]at hput
      have hrd2:=hA3.o w hrd.o;refine⟨q+1,A2,c2,by go_num,by omega,hy0.o.far (by simp) _,hput,hy2.o.far (by simp) _,?_,?_,by omega,hny.o.set (by simp) _⟩
      ·have:=hy3.o.far (p:=⟨w.heap.size+1,9+q,none⟩) (by simp) (.int .i64 (X (9+q)))
       rw[show 92-8*(q+1)=92-8*q-8 by omega]
       exact this
      ·have e:(fun i=>B (36+8*(q+1)+i))=fun i=>B (36+8*q+(8+i)):=funext fun i=>congrArg B (by omega)
       show RdB w A2 (92-8*(q+1)) fun i=>B (36+8*(q+1)+i);rw[show 92-8*(q+1)=92-8*q-8 by omega,e]
       exact hrd2
     case measure=>simp[intOf];omega
    ·have hq4:q=4:=by omega
     subst hq4;have hf3:=hy3.frozen 0;have hc3:=hy3.cell 0;simp at hc3;have hz0:=Hd hy0;have hz1:=Hd hy1;have hz2:=Hd hy2;have hz3:=Hd hy3;have hnz:=Hd hny;have hne96:¬c=96:=by omega
     clear hy0 hy1 hy2 hy3 hny hat;go_wp2_with fail;refine(h_d _ _).mono ?_;rintro e w2 ⟨rfl,hn2⟩;have hz0:=hz0.o.far (p:=⟨w.heap.size+3,0,none⟩) (by simp) (.slice (some ⟨b,off+96,none⟩) 32 (c-96))
     have hz1:=hz1.o.far (p:=⟨w.heap.size+3,0,none⟩) (by simp) (.slice (some ⟨b,off+96,none⟩) 32 (c-96))
     have hz2:=hz2.o.far (p:=⟨w.heap.size+3,0,none⟩) (by simp) (.slice (some ⟨b,off+96,none⟩) 32 (c-96))
     have hz3:=hz3.o.put 0 (.slice (some ⟨b,off+96,none⟩) 32 (c-96));simp only[List.setIfInBounds_toArray,List.set_cons_zero]at hz3;have hnz:=hnz.o.set (p:=⟨w.heap.size+3,0,none⟩) (by simp) (.slice (some ⟨b,off+96,none⟩) 32 (c-96))
     have hx0:=hz0.new hn2;have hx1:=hz1.new hn2;have hx2:=hz2.new hn2;have hx3:=hz3.new hn2;have hNx:=hnz.next hn2;clear hn2 hz0 hz1 hz2 hz3 hnz hc3 hf3;have hat:=Hd (f_q (w.heap.size+1+1) 0);have hrd96:Hid (RdB w (some ⟨b,off+96,none⟩) (32-8*0) (fun i=>B (96+8*0+i))):=by
      obtain⟨b',off',hA,hsub⟩:=r_6 hr0.o (lo:=96) (m:=32) (by omega) (by omega)
      injection hA with hA;injection hA with h1 h2 _;subst h1 h2;exact hsub
     have hcc:32-8*0<=c-96:=by omega
     go_wp2;go_loopw [43] (fun k wr=>∃(q:Nat) (A':Option Addr) (c':Nat),k=.int .i64 q/\q<=4/\Blk wr w.heap.size 194 o_/\Blk wr (w.heap.size+1) 194 (I_ (c_C X 13))/\Blk wr (w.heap.size+2) 105 (n_g (c_C Se q))/\Blk wr (w.heap.size+3) 348 #[.slice A' (32-8*q) c'] /\
       Hid (RdB w A' (32-8*q) (fun i=>B (96+8*q+i)))/\32-8*q<=c'/\New w wr) (fun k _=>4-(intOf k).toNat)
     case atStart=>exact⟨0,_,_,rfl,by omega,hx0,hx1,hx2,hx3,hrd96,hcc,hNx⟩
     case round=>
      obtain⟨q,A',c',rfl,hq,hy0,hy1,hy2,hy3,hrd,hcc,hny⟩:=hrel
      by_cases hlt:q<4
      ·have hix:=hat.o q hlt
       rw[Nat.zero_add]at hix;have hqi:(q:Int)<4:=by omega
       have hz0:=Hd hy0;have hz1:=Hd hy1;have hz2:=Hd hy2;have hz3:=Hd hy3;have hnz:=Hd hny;clear hy0 hy1 hy2 hy3 hny;go_wp2_with fail;refine(number_any (w.heap.size+3) 8 (32-8*q) c' A' _ _ hz3.o (hrd.o.new hnz.o) (by omega) (by omega) (by omega) hcc).mono ?_
       have hv:Hid (wrap64 (a_B (fun i=>B (96+8*q+i)) 8:Nat)=Se q):=by
        rw[hSe.o];exact(rfl:_=_)
       rw[hv.o];rintro e w2 ⟨rfl,⟨A2,c2,hb2,hA2,hc2⟩,hg2⟩;have hz0:=hz0.o.grown hg2 (by simp)
       have hz1:=hz1.o.grown hg2 (by simp)
       have hz2:=hz2.o.grown hg2 (by simp)
       have hnz:=hnz.o.grown1 hg2 (by omega)
       have hcl:w2.cell? ⟨w.heap.size+1+1,q,none⟩=some (.int .i64 (c_C Se q q)):=by
        rw[hz2.cell q]
        match q,hlt with
        |0,_=>rfl
        |1,_=>rfl
        |2,_=>rfl
        |3,_=>rfl
       have hfr:w2.frozen? ⟨w.heap.size+1+1,q,none⟩=false:=hz2.frozen q;have hy0:=Hd hz0;have hy1:=Hd hz1;have hy2:=Hd hz2;have hy3:=Hd hb2;have hny:=Hd hnz;have hA3:=Hd hA2;clear hz0 hz1 hz2 hnz hA2 hg2 hb2;go_wp2;go_roundw;case rel=>
        have hput:=hy2.o.put q (.int .i64 (Se q));rw[o_K Se q (by omega)]at hput
        have hrd2:=hA3.o w hrd.o;refine⟨q+1,A2,c2,by go_num,by omega,hy0.o.far (by simp;try omega) _,hy1.o.far (by simp;try omega) _,hput,?_,?_,by omega,hny.o.set (by simp;omega) _⟩
        ·have:=hy3.o.far (p:=⟨w.heap.size+1+1,q,none⟩) (by simp) (.int .i64 (Se q))
         rw[show 32-8*(q+1)=32-8*q-8 by omega]
         exact this
        ·have e:(fun i=>B (96+8*(q+1)+i))=fun i=>B (96+8*q+(8+i)):=funext fun i=>congrArg B (by omega)
         show RdB w A2 (32-8*(q+1)) fun i=>B (96+8*(q+1)+i);rw[show 32-8*(q+1)=32-8*q-8 by omega,e]
         exact hrd2
       case measure=>simp[intOf];omega
      ·have hq4:q=4:=by omega
       subst hq4;have hz0:=Hd hy0;have hz1:=Hd hy1;have hz2:=Hd hy2;have hnz:=Hd hny;clear hy0 hy1 hy2 hy3 hny hat;go_wp2_with fail;refine(n_6 (some ⟨b,off,none⟩) 96 c B _ (p_1 (hr0.o.new hnz.o) (by omega)) (by omega) (by omega)).mono ?_
       obtain⟨S,hS⟩:∃S,Hid (S=k_w B):=⟨_,(rfl:_=_)⟩;rw[show a_f B (96/4) (0,0,0,0)=S from hS.o.symm]
       rintro e w2 ⟨rfl,hn2⟩;have hx0:=Hd (hz0.o.new hn2);have hx1:=Hd (hz1.o.new hn2);have hx2:=hz2.o.new hn2;have hNx:=Hd (hnz.o.next hn2);have d0:w2.cell? ⟨w.heap.size+1+1,0,none⟩=some (.int .i64 (Se 0)):=hx2.cell 0;have d1:w2.cell? ⟨w.heap.size+1+1,1,none⟩=some (.int .i64 (Se 1)):=hx2.cell 1;have d2:w2.cell? ⟨w.heap.size+1+1,2,none⟩=some (.int .i64 (Se 2)):=hx2.cell 2;have d3:w2.cell? ⟨w.heap.size+1+1,3,none⟩=some (.int .i64 (Se 3)):=hx2.cell 3;have hs2:w.heap.size+1+1<w2.heap.size:=hx2.lt;clear hn2 hx2 hz0 hz1 hz2 hnz;obtain⟨s0,s1,s2,s3⟩:=S
       by_cases hq:s0=Se 0/\s1=Se 1/\s2=Se 2/\s3=Se 3
       ·obtain⟨rfl,rfl,rfl,rfl⟩:=hq
        have hsl:Hid (f_0 B):=fun j hj=>by
         rw[<-hS.o,<-hSe.o]
         match j,hj with
         |0,_=>rfl
         |1,_=>rfl
         |2,_=>rfl
         |3,_=>rfl
        have hs1:w.heap.size+1<w2.heap.size:=by omega
        have hs0:w.heap.size<w2.heap.size:=by omega
        have hx3:Hid (Blk w2 (w.heap.size+1) 194 (I_ X)):=by rw[<-t_e X];exact hx1.o
        obtain⟨c0,c1,c2,c3,c4,c5,c6,c7,c8,c9,c10,c11,c12⟩:=i_I hx3.o;have hXb:Hid (∀i,i<13->a_0 (X i)):=fun i hi=>by rw[hX.o];exact r_r B hr0.o.2.1 i hi
        have hfull:=Hd (p_U B hr0.o.2.1 hsl.o)
        by_cases hok:okX X
        ·have hok0:=Hd hok
         clear hok;go_wp2_with fail;refine(h_Z X _ hok0.o hXb.o).mono ?_;rintro e w3 ⟨g3,rfl,hr3,hn3,_⟩;have hr4:=Hd hr3;have hx4:=Hd ((hx0.o.alloc _).new hn3);have hx5:=Hd ((hx3.o.alloc _).new hn3);have hN3:=Hd ((hNx.o.alloc _).next hn3);clear hn3 hr3 c0 c1 c2 c3 c4 c5 c6 c7 c8 c9 c10 c11 c12;go_wp2_with fail;refine(o_k _ _ 128 128 c _ _ _ hr4.o (hr0.o.new hN3.o)).mono ?_;cases he:eqB (a_h X (a_g X)) B 128 with
         |true=>
          have hgood:Hid (D_ 128 B=0):=j_Z hsl.o ⟨by rw[<-hX.o];exact hok0.o,hfull.o.1 fun i hi=>by
           have:=r_R he i hi;rw[hX.o]at this;exact this⟩
          have hcd0:cd=0:=hcd.o.trans hgood.o;have hRX:Hid (R=I_ X):=by rw[hR.o,e_L hgood.o,hX.o];exact(rfl:_=_)
          subst hcd0;rintro e w4 ⟨rfl,hn4⟩;have hx6:=hx4.o.new hn4;have hx7:=hx5.o.new hn4;have hN4:=hN3.o.next hn4;have hs5:w.heap.size+1<w4.heap.size:=hx7.lt;obtain⟨c0,c1,c2,c3,c4,c5,c6,c7,c8,c9,c10,c11,c12⟩:=i_I hx7;have hx8:=Hd (hx6.row (I_ X));have hN8:=Hd (hN4.row (g:=w.heap.size) (Nat.le_refl w.heap.size) (I_ X));have hx6':=Hd hx6;clear hn4 hx6 hx7 hN4;go_wp2_with (refine wpList_store_row rfl 194 _ _ rfl w.heap.size (I_ X) rfl rfl 194 o_ hx6'.o (by kernel_rfl) rfl (g_m X) ?_)
          exact bodyPost_ret (v:=.tuple #[.agg (I_ X),.int .i64 0]) (U_ results178 _ _ w.heap.size 194 (I_ X) _ rfl hx8.o underlying194 rfl (by kernel_rfl)) rfl ⟨by rw[hRX.o],hN8.o⟩
         |false=>
          have hbad:Hid (D_ 128 B=4):=m_U hsl.o fun h=>by
           have h2:eqB (a_h X (a_g X)) B 128=true:=j_T (by rw[hX.o];exact hfull.o.2 h.2)
           rw[he]at h2;cases h2
          have hcd4:cd=4:=hcd.o.trans hbad.o;have hRX:Hid (R=o_):=by rw[hR.o,g_E (by rw[hbad.o];decide)];exact(rfl:_=_)
          subst hcd4;rintro e w4 ⟨rfl,hn4⟩;have hx6:=hx4.o.new hn4;have hN4:=hN3.o.next hn4;have hx8:=Hd (hx6.row (o_));have hN8:=Hd (hN4.row (g:=w.heap.size) (Nat.le_refl w.heap.size) (o_));have hx6':=Hd hx6;clear hn4 hx6 hN4;go_wp2_with (refine wpList_store_row rfl 194 _ _ rfl w.heap.size (o_) rfl rfl 194 o_ hx6'.o (by kernel_rfl) rfl c_h ?_)
          exact bodyPost_ret (v:=.tuple #[.agg (o_),.int .i64 4]) (U_ results178 _ _ w.heap.size 194 (o_) _ rfl hx8.o underlying194 rfl (by kernel_rfl)) rfl ⟨by rw[hRX.o],hN8.o⟩
        ·have hok0:=Hd hok
         have hbad:Hid (D_ 128 B=4):=m_U hsl.o fun h=>hok0.o (by rw[hX.o];exact h.1)
         have hcd4:cd=4:=hcd.o.trans hbad.o;have hRX:Hid (R=o_):=by rw[hR.o,g_E (by rw[hbad.o];decide)];exact(rfl:_=_)
         subst hcd4;clear hok;go_wp2_with fail;refine(l_G X _ hok0.o).mono ?_;rintro e w3 ⟨rfl,hn3⟩;have hx6:=((hx0.o.alloc _).new hn3);have hN4:=((hNx.o.alloc _).next hn3);have hx8:=Hd (hx6.row (o_));have hN8:=Hd (hN4.row (g:=w.heap.size) (Nat.le_refl w.heap.size) (o_));have hx6':=Hd hx6;clear hn3 hx6 hN4 c0 c1 c2 c3 c4 c5 c6 c7 c8 c9 c10 c11 c12;go_wp2_with (refine wpList_store_row rfl 194 _ _ rfl w.heap.size (o_) rfl rfl 194 o_ hx6'.o (by kernel_rfl) rfl c_h ?_)
         exact bodyPost_ret (v:=.tuple #[.agg (o_),.int .i64 4]) (U_ results178 _ _ w.heap.size 194 (o_) _ rfl hx8.o underlying194 rfl (by kernel_rfl)) rfl ⟨by rw[hRX.o],hN8.o⟩
       ·have hbad:Hid (D_ 128 B=11):=q_k fun h=>hq (by
         have h0:=h 0 (by omega)
         have h1:=h 1 (by omega)
         have h2:=h 2 (by omega)
         have h3:=h 3 (by omega)
         rw[<-hS.o,<-hSe.o]at h0 h1 h2 h3;exact⟨h0,h1,h2,h3⟩)
        have hcd4:cd=11:=hcd.o.trans hbad.o;have hRX:Hid (R=o_):=by rw[hR.o,g_E (by rw[hbad.o];decide)];exact(rfl:_=_)
        subst hcd4;have hx6:=fun o=>hx0.o.alloc o;have hN6:=fun o=>hNx.o.alloc o;have hx7:=Hd hx6;have hN7:=Hd hN6;clear hx6 hN6;go_wp2_with (refine wpList_store_row rfl 194 _ _ rfl w.heap.size o_ rfl rfl 194 o_ (hx7.o _) (by kernel_rfl) rfl c_h ?_)
        all_goals exact bodyPost_ret (v:=.tuple #[.agg o_,.int .i64 11]) (U_ results178 _ _ w.heap.size 194 o_ _ rfl ((hx7.o _).row o_) underlying194 rfl (by kernel_rfl)) rfl ⟨by rw[hRX.o],(hN7.o _).row (Nat.le_refl w.heap.size) o_⟩
end label
namespace label
open Go.ChangeShapes Go.WideShapes Go.ChangeAt kit flet Go.Deep
attribute [local irreducible] b_D D_
theorem m_S{n:Nat}(B:Nat->Nat)(h:n≠128):D_ n B=1:=by with_unfolding_all (exact if_neg h)
theorem q_l{n:Nat}(B:Nat->Nat)(h:n≠128):b_D n B=fun _=>0:=by
 have h1:=m_S B h;unfold b_D;rw[h1];rfl
theorem l_J(n c:Nat)(A:Option Addr)(B:Nat->Nat)(w:World)(hr:RdB w A n B)(hc:n<=c)(hcm:c<=maxLen) :
  Calls prog 178 #[.slice A n c] w fun e w'=>e=.returned (.tuple #[.agg (I_ (b_D n B)),.int .i64 (D_ n B)])/\New w w':=by
 by_cases hn:n=128
 ·subst hn
  exact o_l c A B w hr hc hcm
 ·rw[m_S B hn,q_l B hn]
  exact l_I n c A w hr.1 hn
theorem q_j{n:Nat}{B:Nat->Nat}(h:D_ n B=0):0<=b_D n B 4/\b_D n B 4<=1048576:=by
 have h2:b_D n B=b_w B:=by
  funext i
  with_unfolding_all (exact if_pos h)
 rw[h2];have h3:h_R B:=by
  unfold D_ at h;split at h
  ·split at h
   ·split at h
    ·assumption
    ·cases h
   ·cases h
  ·cases h
 have h4:=h3.1;unfold okX okP at h4;omega
def b_n(ok:Nat->Bool)(T:Nat->Int)(lo hi:Nat):Option Nat->Prop
 |none=>∀i,lo<=i->i<hi->ok i=false
 |some a=>lo<=a/\a<hi/\ok a=true/\(∀i,lo<=i->i<hi->ok i=true->T i<=T a)/\∀i,lo<=i->i<a->ok i=true->T i<T a
theorem q_z(ok:Nat->Bool)(T:Nat->Int)(lo:Nat):b_n ok T lo lo none:=fun i h1 h2=>by omega
theorem t_q{ok:Nat->Bool}{T:Nat->Int}{k:Nat}{r:Option Nat}(h:b_n ok T 0 k r)(hk:ok k=false):b_n ok T 0 (k+1) r:=by
 have key:∀i,i<k+1->ok i=true->i<k:=fun i hi ho=>by
  rcases Nat.lt_or_ge i k with h|h
  ·exact h
  ·have:i=k:=by omega
   rw[this,hk]at ho;cases ho
 cases r with
 |none=>intro i h1 h2;cases ho:ok i with
  |false=>rfl
  |true=>have:=h i h1 (key i h2 ho);rw[ho]at this;exact this
 |some a=>exact⟨h.1,by have:=h.2.1;omega,h.2.2.1,fun i h1 h2 ho=>h.2.2.2.1 i h1 (key i h2 ho) ho,h.2.2.2.2⟩
theorem t_p{ok:Nat->Bool}{T:Nat->Int}{k:Nat}{r:Option Nat}(h:b_n ok T 0 k r)(hk:ok k=true)(ht:∀a,r=some a->T a<T k):b_n ok T 0 (k+1) (some k):=by
 have hlt:∀i,i<k->ok i=true->T i<T k:=fun i hi ho=>by
  cases r with
  |none=>have:=h i (Nat.zero_le _) hi;rw[ho]at this;cases this
  |some a=>have h1:=h.2.2.2.1 i (Nat.zero_le _) hi ho;have h2:=ht a rfl;omega
 refine⟨Nat.zero_le _,by omega,hk,fun i _ hi ho=>?_,fun i _ hi ho=>hlt i hi ho⟩
 rcases Nat.lt_or_ge i k with h2|h2
 ·exact Int.le_of_lt (hlt i h2 ho)
 ·have:i=k:=by omega
  rw[this];exact Int.le_refl _
theorem t_o{ok:Nat->Bool}{T:Nat->Int}{k a:Nat}(h:b_n ok T 0 k (some a))(ht:T k<=T a):b_n ok T 0 (k+1) (some a):=by
 refine⟨h.1,by have:=h.2.1;omega,h.2.2.1,fun i h1 hi ho=>?_,h.2.2.2.2⟩
 rcases Nat.lt_or_ge i k with h2|h2
 ·exact h.2.2.2.1 i h1 h2 ho
 ·have:i=k:=by omega
  rw[this];exact ht
def s_f(X:Nat->Nat->Int):Option Nat->Nat->Int
 |none=>fun _=>0
 |some a=>X a
def s_g:Option Nat->Int
 |none=>0
 |some a=>a
def s_h:Option Nat->Int
 |none=>6
 |some _=>0
theorem p_0{w:World}{A:Option Addr}{n:Nat}{Z:Nat->Int}(h:RdI .u8 w A n Z)(hb:∀i,i<n->0<=Z i/\Z i<=255):RdB w A n (fun i=>(Z i).toNat):=
 ⟨h.1,fun i hi=>by have:=hb i hi;show(Z i).toNat<256;omega,fun h0=>by
  obtain⟨b,off,hA,hbl,hc⟩:=h.2 h0;exact⟨b,off,hA,hbl,fun i hi=>by have:=hb i hi;rw[hc i hi];show some (Value.int .u8 (Z i))=some (.int .u8 ((Z i).toNat:Int));rw[Int.toNat_of_nonneg this.1]⟩⟩
theorem b_0{P:Program}{fn:Func}{p q r:Tmp}{ty:TypeId}(h:fn.results=#[.cell p ty,.tmp q,.tmp r])(tmps:Array Value)(w:World)(g:Nat)(t:TypeId)(cs:Array Value)(d:TypeDesc)
  (hp:tmps.getD p undef=.pointer (some ⟨g,0,none⟩)) (hg:Blk w g t cs) (hu:P.underlying ty=some d) (hd:(match d with | .struct _ | .array _ _=>true|_=>false)=true) (hi:(P.info? ty).map (·.size)=some cs.size) :
  (results fn tmps).run P w=.ok (.tuple #[.agg cs,tmps.getD q undef,tmps.getD r undef]) w:=by
 have hp':tmps[p]?.getD undef=.pointer (some ⟨g,0,none⟩):=by simpa using hp
 simp[results,h,hp',asAddr,run_loadVar_row w g t ty cs (0,0) d hg hu hd hi]
def noX(t:Int):Nat->Int:=fun i=>if i=4 then t else 0
def e_7(X:Nat->Nat->Int)(t:Int):Option Nat->Nat->Int
 |none=>noX t
 |some a=>X a
def p_N:Option Nat->Int
 |none => -1
 |some a=>a
set_option maxRecDepth 100000 in
set_option maxHeartbeats 1000000 in
theorem k_l(A:Option Addr)(n c:Nat)(R:Nat->Option Addr)(L C:Nat->Nat)(M:Nat->Nat->Int)(w:World)(hM:RdM .u8 w A n R L C M)(hb:∀i,i<n->∀k,k<L i->0<=M i k/\M i k<=255) :
  Calls prog 151 #[.slice A n c] w fun e w'=>(∃r,b_n (fun i=>decide (D_ (L i) (fun k=>(M i k).toNat)=0)) (fun i=>b_D (L i) (fun k=>(M i k).toNat) 4) 0 n r /\
   e=.returned (.tuple #[.agg (I_ (s_f (fun i=>b_D (L i) (fun k=>(M i k).toNat)) r)),.int .i64 (s_g r),.int .i64 (s_h r)]))/\New w w':=by
 have hm:=hM.1;unfold maxLen at hm;obtain⟨X,hX⟩:∃X:Nat->Nat->Int,Hid (X=fun i=>b_D (L i) (fun k=>(M i k).toNat)):=⟨_,(rfl:_=_)⟩;obtain⟨K,hK⟩:∃K:Nat->Int,Hid (K=fun i=>D_ (L i) (fun k=>(M i k).toNat)):=⟨_,(rfl:_=_)⟩;have hD:Hid (∀i,i<n->∀w',New w w'->Calls prog 178 #[.slice (R i) (L i) (C i)] w' fun e w''=>e=.returned (.tuple #[.agg (I_ (X i)),.int .i64 (K i)])/\New w' w''):=fun i hi w' hn=>by
  rw[hX.o,hK.out];exact l_J (L i) (C i) (R i) _ w' ((p_0 (hM.2.2 i hi).1 (hb i hi)).new hn) (hM.2.2 i hi).2.1 (hM.2.2 i hi).2.2
 have hT:Hid (∀i,K i=0->0<=X i 4/\X i 4<=1048576):=fun i h=>by
  rw[hX.o];rw[hK.out]at h;exact q_j h
 have hgoal:Hid (∀(r:Option Nat) (e:Ending) (w':World),b_n (fun i=>decide (K i=0)) (fun i=>X i 4) 0 n r->e=.returned (.tuple #[.agg (I_ (s_f X r)),.int .i64 (s_g r),.int .i64 (s_h r)])->New w w'->(∃r,b_n (fun i=>decide (D_ (L i) (fun k=>(M i k).toNat)=0)) (fun i=>b_D (L i) (fun k=>(M i k).toNat) 4) 0 n r /\
   e=.returned (.tuple #[.agg (I_ (s_f (fun i=>b_D (L i) (fun k=>(M i k).toNat)) r)),.int .i64 (s_g r),.int .i64 (s_h r)]))/\New w w'):=fun r e w' h1 h2 h3=>by
  subst h2;have e1:=hX.o;have e2:=hK.out;subst e1 e2;exact⟨⟨r,h1,rfl⟩,h3⟩
 have hM1:=Hd hM;have hb0:Blk ((w.alloc (.cells o_ 194)).alloc (.cells (I_ (e_7 X (-1) none)) 194)) w.heap.size 194 o_:=(Blk.fresh w _ _).alloc _;have hb1:Blk ((w.alloc (.cells o_ 194)).alloc (.cells (I_ (e_7 X (-1) none)) 194)) (w.heap.size+1) 194 (I_ (e_7 X (-1) none)):=i_L (by simp)
 have hN0:=((New.refl w).alloc (.cells o_ 194)).alloc (.cells (I_ (e_7 X (-1) none)) 194);have hb2:=Hd hb0;have hb3:=Hd hb1;have hN1:=Hd hN0;clear hM hb hb0 hb1 hN0;go_enter func151,ntmps151;go_wp2;go_loopw [14,6] (fun k a wr=>∃(q:Nat) (r:Option Nat),k=.int .i64 q/\q<=n/\a=.int .i64 (p_N r)/\Hid (b_n (fun i=>decide (K i=0)) (fun i=>X i 4) 0 q r)/\Blk wr w.heap.size 194 o_/\Blk wr (w.heap.size+1) 194 (I_ (e_7 X (-1) r))/\New w wr) (fun k _ _=>n-(intOf k).toNat);case atStart=>exact⟨0,none,rfl,by omega,rfl,q_z _ _ _,hb2.o,hb3.o,hN1.o⟩
 case round=>
  obtain⟨q,r,rfl,hq,rfl,hbest,hx0,hx1,hnw⟩:=hrel
  by_cases hlt:q<n
  ·obtain⟨b,off,rfl,hbb,hcs⟩:=hM1.o.2.1 (by omega)
   have ci:=(hnw.cell hbb).trans (hcs q hlt);have hx0':=Hd hx0;have hx1':=Hd hx1;have hnw':=Hd hnw;clear hx0 hx1 hnw hcs;go_wp2_with fail;refine(hD.o q hlt _ hnw'.o).mono ?_;rintro e w1 ⟨rfl,hn1⟩;have hy0:=(hx0'.o.new hn1).alloc (.cells (I_ (X q)) 194);have hy1:=(hx1'.o.new hn1).alloc (.cells (I_ (X q)) 194);have hny:=(hnw'.o.next hn1).alloc (.cells (I_ (X q)) 194);have hsz:w.heap.size+1<w1.heap.size:=(hx1'.o.new hn1).lt;have d4:w1.cell? ⟨w.heap.size+1,4,none⟩=some (.int .i64 (e_7 X (-1) r 4)):=(hx1'.o.new hn1).cell 4;have hy0':=Hd hy0;have hy1':=Hd hy1;have hny':=Hd hny;clear hn1 hy0 hy1 hny ci;obtain⟨kq,hkq⟩:∃kq,Hid (K q=kq):=⟨_,(rfl:_=_)⟩;rw[hkq.o]
   by_cases hok:kq=0
   ·subst hok
    have hokb:Hid (decide (K q=0)=true):=decide_eq_true hkq.o;have htq:=hT.o q hkq.o;obtain⟨kt,hkt⟩:∃kt,Hid (e_7 X (-1) r 4=kt):=⟨_,(rfl:_=_)⟩;rw[hkt.o]at d4
    by_cases hgt:kt<X q 4
    ·have hnext:Hid (b_n (fun i=>decide (K i=0)) (fun i=>X i 4) 0 (q+1) (some q)):=t_p hbest.o hokb.o fun a ha=>by
      rw[<-hkt.o,ha]at hgt;exact hgt
     have hy2:=Hd (hy1'.o.row (I_ (X q)));have hy3:=Hd (hy0'.o.row_far (g:=w.heap.size+1) (by omega) (I_ (X q)))
     have hny2:=Hd (hny'.o.row (g:=w.heap.size+1) (by omega) (I_ (X q)))
     go_wp2_with (refine wpList_store_row rfl 194 _ _ rfl (w.heap.size+1) (I_ (X q)) rfl rfl 194 (I_ (e_7 X (-1) r)) hy1'.o (by kernel_rfl) rfl (g_m (X q)) ?_)
     go_roundw;case rel=>exact⟨q+1,some q,by go_num,by omega,rfl,hnext.o,hy3.o,hy2.o,hny2.o⟩
     case measure=>simp[intOf];omega
    ·obtain⟨a,rfl⟩:∃a,r=some a:=by
      cases r with
      |none=>exfalso;have:e_7 X (-1) none 4 = -1:=rfl;rw[hkt.o]at this;omega
      |some a=>exact⟨a,rfl⟩
     have hnext:Hid (b_n (fun i=>decide (K i=0)) (fun i=>X i 4) 0 (q+1) (some a)):=t_o hbest.o (by
      have:X a 4=kt:=hkt.o;show X q 4<=X a 4;omega)
     have hgtb:decide (kt<X q 4)=false:=by simp;omega
     go_wp2;go_roundw;case rel=>exact⟨q+1,some a,by go_num,by omega,rfl,hnext.o,hy0'.o,hy1'.o,hny'.o⟩
     case measure=>simp[intOf];omega
   ·have hokb:Hid (decide (K q=0)=false):=decide_eq_false (by rw[hkq.o];exact hok)
    have hnext:=Hd (t_q hbest.o hokb.o);have hkb:(kq==0)=false:=by simpa using hok
    clear hok;go_wp2;go_roundw;case rel=>exact⟨q+1,r,by go_num,by omega,rfl,hnext.o,hy0'.o,hy1'.o,hny'.o⟩
    case measure=>simp[intOf];omega
  ·have hqn:q=n:=by omega
   subst hqn;have hx0':=Hd hx0;have hx1':=Hd hx1;have hnw':=Hd hnw;cases r with
   |none=>
    have hk1:p_N none = -1:=rfl;rw[hk1];clear hx0 hx1 hnw hk1;go_wp2_with (refine wpList_store_row rfl 194 _ _ rfl w.heap.size o_ rfl rfl 194 o_ hx0'.o (by kernel_rfl) rfl c_h ?_)
    exact bodyPost_ret (v:=.tuple #[.agg o_,.int .i64 0,.int .i64 6]) (b_0 results151 _ _ w.heap.size 194 o_ _ rfl (hx0'.o.row o_) underlying194 rfl (by kernel_rfl)) rfl (hgoal.o none _ _ hbest.o rfl (hnw'.o.row (g:=w.heap.size) (Nat.le_refl _) o_))
   |some a=>
    have hk1:p_N (some a)=(a:Int):=rfl;rw[hk1];obtain⟨r0,r1,r2,r3,r4,r5,r6,r7,r8,r9,r10,r11,r12⟩:=i_I (X:=X a) hx1;clear hx0 hx1 hnw hk1;go_wp2_with (refine wpList_store_row rfl 194 _ _ rfl w.heap.size (I_ (X a)) rfl rfl 194 o_ hx0'.o (by kernel_rfl) rfl (g_m (X a)) ?_)
    exact bodyPost_ret (v:=.tuple #[.agg (I_ (X a)),.int .i64 a,.int .i64 0]) (b_0 results151 _ _ w.heap.size 194 (I_ (X a)) _ rfl (hx0'.o.row (I_ (X a))) underlying194 rfl (by kernel_rfl)) rfl (hgoal.o (some a) _ _ hbest.o rfl (hnw'.o.row (g:=w.heap.size) (Nat.le_refl _) (I_ (X a))))
end label
end Go.Proofs.YtojcoaekhiadcaaGreat
