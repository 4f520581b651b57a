import Derived.Test.YtojcoaekhiadcaaGreatA01
import Derived.Test.YtojcoaekhiadcaaGreatProg
import Derived.Handy
import Derived.Deep.RegionHeld3
import Derived.Deep.AppendLies
import Derived.OwnWalk
import Derived.IntWalk
import Derived.Laws.CopyOwn
import Derived.BigRegion
import Derived.Deep.OwnRows
import Derived.Deep.Onto
import Derived.Maps.AppendAt
import Derived.Great.Walk
import Derived.Lib.SliceRun
set_option linter.unusedVariables false
set_option linter.unusedSimpArgs false
namespace Go.Proofs.YtojcoaekhiadcaaGreat
open Tryz Go.RowKit
namespace flet
open Go.ChangeShapes Go.WideShapes Go.ChangeAt kit
abbrev c_Y(a b c d:Int):Value:=.agg #[.int .i64 a,.int .i64 b,.int .i64 c,.int .i64 d]
theorem t_3(a b c d:Int)(w:World) :
  Calls prog 163 #[c_Y a b c d] w fun e w'=>e=.returned (c_Y a b c d)/\New w w':=by
 go_enter func163,ntmps163;go_wp2;exact bodyPost_ret (v:=c_Y a b c d) (by simp[results,results163,go_sem]) rfl ⟨rfl,(((New.refl _).alloc _).alloc _)⟩
theorem r_1(a b c d:Int)(w:World) :
  Calls prog 165 #[c_Y a b c d] w fun e w'=>e=.returned (c_Y a b c d)/\New w w':=by
 go_enter func165,ntmps165;go_wp2;exact bodyPost_ret (v:=c_Y a b c d) (by simp[results,results165,go_sem]) rfl ⟨rfl,(((New.refl _).alloc _).alloc _)⟩
def wA(a x:Int):Int:=wrap64 (a+x)
def wB(a b x:Int):Int:=wrap64 (b+wA a x)
def wC(a b c x:Int):Int:=wrap64 (c+wB a b x)
def wD(a b c d x:Int):Int:=wrap64 (d+wC a b c x)
theorem i_X(a b c d x:Int)(w:World) :
  Calls prog 164 #[c_Y a b c d,.int .i64 x] w fun e w'=>e=.returned (c_Y (wA a x) (wB a b x) (wC a b c x) (wD a b c d x))/\New w w':=by
 go_enter func164,ntmps164;go_wp2;go_rounds 5;exact bodyPost_ret (v:=c_Y (wA a x) (wB a b x) (wC a b c x) (wD a b c d x)) (by simp[results,results164,go_sem,wA,wB,wC,wD]) rfl ⟨rfl,(((New.refl _).alloc _).alloc _)⟩
def RdB(w:World)(A:Option Addr)(n:Nat)(B:Nat->Nat):Prop:=
 n<=maxLen/\(∀i,i<n->B i<256)/\(0<n->∃b off,A=some ⟨b,off,none⟩/\b<w.heap.size/\∀i,i<n->w.cell? ⟨b,off+i,none⟩=some (.int .u8 (B i:Nat)))
theorem RdB.new{w w':World}{A:Option Addr}{n:Nat}{B:Nat->Nat}(h:RdB w A n B)(hn:New w w'):RdB w' A n B:=
 ⟨h.1,h.2.1,fun h0=>by
  obtain⟨b,off,hA,hb,hc⟩:=h.2.2 h0;exact⟨b,off,hA,Nat.lt_of_lt_of_le hb hn.size,fun i hi=>(hn.cell hb).trans (hc i hi)⟩⟩
theorem RdB.cut{w:World}{A:Option Addr}{n c k:Nat}{B:Nat->Nat}(h:RdB w A n B)(hk:k<=n)(hc:n<=c) :
  RdB w (if c=k then A else A.map (·.add k)) (n-k) (fun i=>B (k+i)):=by
 refine⟨Nat.le_trans (Nat.sub_le _ _) h.1,fun i hi=>h.2.1 _ (by omega),fun h0=>?_⟩
 obtain⟨b,off,rfl,hb,hcs⟩:=h.2.2 (by omega)
 rw[if_neg (by omega)]
 refine⟨b,off+k,?_,hb,fun i hi=>?_⟩
 ·simp[i_]
 ·have:=hcs (k+i) (by omega)
  rw[Nat.add_assoc];exact this
def c_H(x y z t:Nat):Nat:=x+y*256+z*65536+t*16777216
theorem g_8(x y i:Nat)(hx:x<2 ^ i)(hs:y*2 ^ i+2 ^ i<=9223372036854775808):bits .or .i64 (x:Int) ((y:Int)*(2 ^ i:Nat))=(x:Int)+(y:Int)*(2 ^ i:Nat):=by
 have h1:((y:Int)*(2 ^ i:Nat))=((y*2 ^ i:Nat):Int):=by rw[Int.natCast_mul]
 rw[h1,l_8 x (y*2 ^ i) (by omega) (by omega)]
 have h2:x ||| y*2 ^ i=y*2 ^ i+x:=by
  rw[Nat.or_comm];exact nat_join i (y*2 ^ i) x (Nat.mul_mod_left _ _) hx
 rw[h2];omega
def a_f(B:Nat->Nat):Nat->Int×Int×Int×Int->Int×Int×Int×Int
 |0,s=>s
 |k+1,s=>
  let t:=a_f B k s
  let x:Int:=c_H (B (4*k)) (B (4*k+1)) (B (4*k+2)) (B (4*k+3))
  (wA t.1 x,wB t.1 t.2.1 x,wC t.1 t.2.1 t.2.2.1 x,wD t.1 t.2.1 t.2.2.1 t.2.2.2 x)
abbrev p_Z(s:Int×Int×Int×Int):Value:=c_Y s.1 s.2.1 s.2.2.1 s.2.2.2
def j_6:Value->Nat | .slice _ n _=>n|_=>0
theorem s_l(a b c d:Int)(A:Option Addr)(n cap:Nat)(B:Nat->Nat)(w:World)(h:RdB w A n B)(hcap:n<=cap)(h4:n%4=0) :
  Calls prog 128 #[c_Y a b c d,.slice A n cap] w fun e w'=>e=.returned (.tuple #[p_Z (a_f B (n/4) (a,b,c,d)),.int .i64 0])/\New w w':=by
 have hm:=h.1;unfold maxLen at hm;have h4i:((n:Int)%4==0)=true:=by simp;omega
 have h4j:((n:Int)%4 != 0)=false:=by simp;omega
 go_enter func128,ntmps128;go_wp2_with fail;refine(t_3 _ _ _ _ _).mono ?_;rintro e w1 ⟨rfl,hn1⟩;go_wp2_with fail;have hB0:Blk (w1.alloc (.cells #[.int .i64 a,.int .i64 b,.int .i64 c,.int .i64 d] 292)) w1.heap.size 292 #[.int .i64 a,.int .i64 b,.int .i64 c,.int .i64 d]:=Blk.fresh _ _ _;have hR0:Blk w1 (w.heap.size+1) 105 #[.int .i64 0,.int .i64 0,.int .i64 0,.int .i64 0]:=by
  refine Blk.new (w:=(w.alloc (.cells #[.int .i64 a,.int .i64 b,.int .i64 c,.int .i64 d] 105)).alloc (.cells #[.int .i64 0,.int .i64 0,.int .i64 0,.int .i64 0] 105)) ?_ (by first|exact hn1|skip)
  have:=Blk.fresh (w.alloc (.cells #[.int .i64 a,.int .i64 b,.int .i64 c,.int .i64 d] 105)) 105 #[.int .i64 0,.int .i64 0,.int .i64 0,.int .i64 0];simpa using this
 have hN1:New w w1:=hn1.of_alloc.of_alloc;have hne:w.heap.size+1≠w1.heap.size:=by have:=hR0.lt;omega
 go_loopw [1] (fun s wr=>∃(k m cap':Nat) (A':Option Addr),s=.slice A' m cap'/\m+4*k=n/\m<=cap'/\cap'<=cap/\RdB w A' m (fun i=>B (4*k+i)) /\
   Blk wr w1.heap.size 292 #[.int .i64 (a_f B k (a,b,c,d)).1,.int .i64 (a_f B k (a,b,c,d)).2.1,.int .i64 (a_f B k (a,b,c,d)).2.2.1,.int .i64 (a_f B k (a,b,c,d)).2.2.2] /\
   Blk wr (w.heap.size+1) 105 #[.int .i64 0,.int .i64 0,.int .i64 0,.int .i64 0]/\Below w.heap.size w wr) (fun s _=>j_6 s)
 case atStart=>exact⟨0,n,cap,A,rfl,rfl,hcap,Nat.le_refl _,by simpa using h,hB0,hR0.alloc _,hN1.alloc _⟩
 case round=>
  obtain⟨k,m,cap',A',rfl,hk,hmc,hcc,hrd,hG,hR,hbel⟩:=hrel;generalize hS:a_f B k (a,b,c,d)=S at *;obtain⟨s1,s2,s3,s4⟩:=S;dsimp only at hG
  by_cases hm0:0<m
  ·obtain⟨bb,off,rfl,hbb,hcs⟩:=hrd.2.2 hm0
   have hm4:4<=m:=by omega
   have b0:=t_.keep ((hbel.cell hbb).trans (hcs 0 (by omega)))
   have b1:=t_.keep ((hbel.cell hbb).trans (hcs 1 (by omega)))
   have b2:=t_.keep ((hbel.cell hbb).trans (hcs 2 (by omega)))
   have b3:=t_.keep ((hbel.cell hbb).trans (hcs 3 (by omega)))
   have g0:=t_.keep (hG.cell 0);have g1:=t_.keep (hG.cell 1);have g2:=t_.keep (hG.cell 2);have g3:=t_.keep (hG.cell 3);simp at b0 g0 g1 g2 g3;dsimp only at b1 b2 b3;have x0:=hrd.2.1 0 (by omega)
   have x1:=hrd.2.1 1 (by omega)
   have x2:=hrd.2.1 2 (by omega)
   have x3:=hrd.2.1 3 (by omega)
   dsimp only[Nat.add_zero]at x0 x1 x2 x3;have hcut:=Hd (hrd.cut (c:=cap') (k:=4) hm4 hmc);have hstep:Hid (a_f B (k+1) (a,b,c,d)=(wA s1 (c_H (B (4*k)) (B (4*k+1)) (B (4*k+2)) (B (4*k+3))),wB s1 s2 (c_H (B (4*k)) (B (4*k+1)) (B (4*k+2)) (B (4*k+3))),wC s1 s2 s3 (c_H (B (4*k)) (B (4*k+1)) (B (4*k+2)) (B (4*k+3))),wD s1 s2 s3 s4 (c_H (B (4*k)) (B (4*k+1)) (B (4*k+2)) (B (4*k+3))))):=by
    show a_f B (k+1) (a,b,c,d)=_;unfold a_f;rw[hS]
   clear hcs;generalize B (4*k)=y0 at *;generalize B (4*k+1)=y1 at *;generalize B (4*k+2)=y2 at *;generalize B (4*k+3)=y3 at *;have o1:bits .or .i64 (y0:Int) ((y1:Int)*256)=(y0:Int)+(y1:Int)*256:=g_8 y0 y1 8 (by omega) (by omega)
   have o2:bits .or .i64 ((y0:Int)+(y1:Int)*256) ((y2:Int)*65536)=(y0:Int)+(y1:Int)*256+(y2:Int)*65536:=by
    have:=g_8 (y0+y1*256) y2 16 (by omega) (by omega)
    simpa using this
   have o3:bits .or .i64 ((y0:Int)+(y1:Int)*256+(y2:Int)*65536) ((y3:Int)*16777216)=(y0:Int)+(y1:Int)*256+(y2:Int)*65536+(y3:Int)*16777216:=by
    have:=g_8 (y0+y1*256+y2*65536) y3 24 (by omega) (by omega)
    simpa using this
   have i1:(1:Int)<(m:Int):=by omega
   have i2:(2:Int)<(m:Int):=by omega
   have i3:(3:Int)<(m:Int):=by omega
   have i4:(4:Int)<=(m:Int):=by omega
   have i5:(m:Int)<=(cap':Int):=by omega
   have hS:=Hd hS;go_wp2
   (refine a_D 24 (by kernel_rfl) (by kernel_rfl) ?_;simp only[List.take_succ_cons,List.take_zero,List.drop_succ_cons,List.drop_zero];(repeat (first|go_big_quiet_step (first|(go_at_call 164;exact t_.call _ (i_X _ _ _ _ _ _)))|quiet_step (first|(go_at_call 164;exact t_.call _ (i_X _ _ _ _ _ _)))));refine wpQuiet_nil ?_;rintro W2 ⟨⟨_,hn_W2⟩,rfl⟩)
   have hG2:=hG.new hn_W2;have c0:W2.cell? ⟨w1.heap.size,0,none⟩=some (.int .i64 s1):=hG2.cell 0;have c1:W2.cell? ⟨w1.heap.size,1,none⟩=some (.int .i64 s2):=hG2.cell 1;have c2:W2.cell? ⟨w1.heap.size,2,none⟩=some (.int .i64 s3):=hG2.cell 2;have c3:W2.cell? ⟨w1.heap.size,3,none⟩=some (.int .i64 s4):=hG2.cell 3;have e0:=hG2.frozen 0;have e1:=hG2.frozen 1;have e2:=hG2.frozen 2;have e3:=hG2.frozen 3;clear b0 b1 b2 b3 g0 g1 g2 g3;go_wp2;go_roundw;case rel=>
    have hw:((c_H y0 y1 y2 y3:Nat):Int)=(y0:Int)+(y1:Int)*256+(y2:Int)*65536+(y3:Int)*16777216:=by unfold c_H;omega
    rw[<-hw];have hlt:w.heap.size<=w1.heap.size:=hN1.size;refine⟨k+1,m-4,cap'-4,_,rfl,by omega,by omega,by omega,?_,?_,?_,?_⟩
    ·have:=hcut.o
     simp only[Option.map_some,i_]at this;have e:(fun i=>B (4*(k+1)+i))=fun i=>B (4*k+(4+i)):=funext fun i=>congrArg B (by omega)
     rw[e];exact this
    ·rw[hstep.o]
     have:=(((hG2.put 0 (.int .i64 (wA s1 (c_H y0 y1 y2 y3:Nat)))).put 1 (.int .i64 (wB s1 s2 (c_H y0 y1 y2 y3:Nat)))).put 2 (.int .i64 (wC s1 s2 s3 (c_H y0 y1 y2 y3:Nat)))).put 3 (.int .i64 (wD s1 s2 s3 s4 (c_H y0 y1 y2 y3:Nat)));simpa using this
    ·exact((((hR.new hn_W2).far hne _).far hne _).far hne _).far hne _
    ·exact((((Below.next hbel hn_W2 (by have:=hbel.size;omega)).setCell (p:=⟨w1.heap.size,0,none⟩) hlt _).setCell (p:=⟨w1.heap.size,1,none⟩) hlt _).setCell (p:=⟨w1.heap.size,2,none⟩) hlt _).setCell (p:=⟨w1.heap.size,3,none⟩) hlt _
   case measure=>simp[j_6];omega
  ·have hm0':m=0:=by omega
   subst hm0';have hn4:n/4=k:=by omega
   have hfin:Hid (a_f B (n/4) (a,b,c,d)=(s1,s2,s3,s4)):=by rw[hn4];exact hS
   have c0:=hG.cell 0;have c1:=hG.cell 1;have c2:=hG.cell 2;have c3:=hG.cell 3;simp at c0 c1 c2 c3;have hS:=Hd hS;go_wp2_with fail;refine(r_1 _ _ _ _ _).mono ?_;rintro e w2 ⟨rfl,hn2⟩;have hR2:=hR.new hn2;have d0:w2.cell? ⟨w.heap.size+1,0,none⟩=some (.int .i64 0):=hR2.cell 0;have d1:w2.cell? ⟨w.heap.size+1,1,none⟩=some (.int .i64 0):=hR2.cell 1;have d2:w2.cell? ⟨w.heap.size+1,2,none⟩=some (.int .i64 0):=hR2.cell 2;have d3:w2.cell? ⟨w.heap.size+1,3,none⟩=some (.int .i64 0):=hR2.cell 3;have e0:=hR2.frozen 0;have e1:=hR2.frozen 1;have e2:=hR2.frozen 2;have e3:=hR2.frozen 3;have hR3:=(((hR2.put 0 (.int .i64 s1)).put 1 (.int .i64 s2)).put 2 (.int .i64 s3)).put 3 (.int .i64 s4);have q0:=hR3.cell 0;have q1:=hR3.cell 1;have q2:=hR3.cell 2;have q3:=hR3.cell 3;simp at q0 q1 q2 q3;have hbel2:=Below.next hbel hn2 (by have:=hbel.size;omega)
   have hq:=Hd (And.intro q0 (And.intro q1 (And.intro q2 q3)));clear q0 q1 q2 q3;go_wp2;obtain⟨q0,q1,q2,q3⟩:=hq.o;have hlt:w.heap.size<=w.heap.size+1:=by omega
   exact bodyPost_ret (v:=.tuple #[c_Y s1 s2 s3 s4,.int .i64 0]) (by simp[results,results128,go_sem,q0,q1,q2,q3]) rfl ⟨by rw[hfin.o],
    (((hbel2.setCell (p:=⟨w.heap.size+1,0,none⟩) hlt _).setCell (p:=⟨w.heap.size+1,1,none⟩) hlt _).setCell (p:=⟨w.heap.size+1,2,none⟩) hlt _).setCell (p:=⟨w.heap.size+1,3,none⟩) hlt _⟩
theorem n_6(A:Option Addr)(n cap:Nat)(B:Nat->Nat)(w:World)(h:RdB w A n B)(hcap:n<=cap)(h4:n%4=0) :
  Calls prog 79 #[.slice A n cap] w fun e w'=>e=.returned (.tuple #[p_Z (a_f B (n/4) (0,0,0,0)),.int .i64 0])/\New w w':=by
 go_enter func79,ntmps79;go_wp2_with fail;refine(s_l 0 0 0 0 A n cap B _ (h.new ((New.refl _).alloc _)) hcap h4).mono ?_;generalize hS:a_f B (n/4) (0,0,0,0)=S;obtain⟨s1,s2,s3,s4⟩:=S;have hS:=Hd hS;rintro e w2 ⟨rfl,hn2⟩;have hR2:Blk w2 w.heap.size 105 #[.int .i64 0,.int .i64 0,.int .i64 0,.int .i64 0]:=(Blk.fresh w 105 _).new hn2;have hB2:New w w2:=hn2.of_alloc;have d0:w2.cell? ⟨w.heap.size,0,none⟩=some (.int .i64 0):=hR2.cell 0;have d1:w2.cell? ⟨w.heap.size,1,none⟩=some (.int .i64 0):=hR2.cell 1;have d2:w2.cell? ⟨w.heap.size,2,none⟩=some (.int .i64 0):=hR2.cell 2;have d3:w2.cell? ⟨w.heap.size,3,none⟩=some (.int .i64 0):=hR2.cell 3;have e0:=hR2.frozen 0;have e1:=hR2.frozen 1;have e2:=hR2.frozen 2;have e3:=hR2.frozen 3;have hR3:=(((hR2.put 0 (.int .i64 s1)).put 1 (.int .i64 s2)).put 2 (.int .i64 s3)).put 3 (.int .i64 s4);have q0:=hR3.cell 0;have q1:=hR3.cell 1;have q2:=hR3.cell 2;have q3:=hR3.cell 3;simp at q0 q1 q2 q3;have hq:=Hd (And.intro q0 (And.intro q1 (And.intro q2 q3)));clear q0 q1 q2 q3;go_wp2;obtain⟨q0,q1,q2,q3⟩:=hq.o;have hlt:w.heap.size<=w.heap.size:=Nat.le_refl _;exact bodyPost_ret (v:=.tuple #[c_Y s1 s2 s3 s4,.int .i64 0]) (by simp[results,results79,go_sem,q0,q1,q2,q3]) rfl ⟨by rw[hS.o],
  (((hB2.setCell (p:=⟨w.heap.size,0,none⟩) hlt _).setCell (p:=⟨w.heap.size,1,none⟩) hlt _).setCell (p:=⟨w.heap.size,2,none⟩) hlt _).setCell (p:=⟨w.heap.size,3,none⟩) hlt _⟩
end flet
namespace label
open Go.ChangeShapes Go.WideShapes Go.ChangeAt kit flet Go.Deep
theorem infoU8:(prog.info? 5).map (fun i=>(i.zero,i.size,i.bytes))=some (some (.int .u8 0),1,1):=by kernel_rfl
def b_c(x:Int):Nat->Int
 |0=>x
 |k+1=>b_c x k/256
def N_(x:Int)(k:Nat):Nat:=(b_c x k%256).toNat
theorem f_v(x:Int)(k:Nat):N_ x k<256:=by unfold N_;omega
theorem e_3(x:Int)(k:Nat):((N_ x k:Nat):Int)=b_c x k%256:=by unfold N_;omega
theorem i_8{x:Int}(h1 : -9223372036854775808<=x)(h2:x<=9223372036854775807):∀k,-9223372036854775808<=b_c x k/\b_c x k<=9223372036854775807
 |0=>⟨h1,h2⟩
 |k+1=>by have:=i_8 h1 h2 k;unfold b_c;omega
theorem s_Q(x:Int)(h1 : -9223372036854775808<=x)(h2:x<=9223372036854775807)(k:Nat)(hk:k<8):b_c (x%18446744073709551616) k%256=b_c x k%256:=by
 have hx:x%18446744073709551616=x\/x%18446744073709551616=x+18446744073709551616:=by omega
 rcases hx with hx|hx
 ·rw[hx]
 ·rw[hx]
  match k,hk with
  |0,_=>simp only[b_c];omega
  |1,_=>simp only[b_c];omega
  |2,_=>simp only[b_c];omega
  |3,_=>simp only[b_c];omega
  |4,_=>simp only[b_c];omega
  |5,_=>simp only[b_c];omega
  |6,_=>simp only[b_c];omega
  |7,_=>simp only[b_c];omega
def upF(F:Nat->Nat)(N:Nat):Nat->Value:=fun i=>.int .u8 ((if i<N then F i else 0:Nat):Int)
theorem o_z(F:Nat->Nat)(N:Nat)(y:Nat)(h:F N=y):(fun i=>if i=N then Value.int .u8 (y:Int)else upF F N i)=upF F (N+1):=by
 funext i;unfold upF
 by_cases hi:i=N
 ·subst hi;rw[if_pos rfl,if_pos (by omega),h]
 ·rw[if_neg hi]
  by_cases h2:i<N
  ·rw[if_pos h2,if_pos (by omega)]
  ·rw[if_neg h2,if_neg (by omega)]
theorem o_y{F G:Nat->Nat}{N M:Nat}(h:∀i,(if i<N then F i else 0)=(if i<M then G i else 0)):upF F N=upF G M:=by
 funext i;unfold upF;rw[h i]
set_option maxRecDepth 100000 in
theorem e_l(g k s:Nat)(F:Nat->Nat)(x:Int)(w:World)(hrow:w.rowIs g 5 128 (upF F k))(hk:k+s<=128)(hF:∀q,q<s->F (k+q)=N_ x q)(h1 : -9223372036854775808<=x)(h2:x<=9223372036854775807) :
  Calls prog 140 #[.slice (some ⟨g,0,none⟩) k 128,.int .i64 x,.int .i64 s] w fun e w'=>e=.returned (.slice (some ⟨g,0,none⟩) (k+s:Nat) 128)/\w'.rowIs g 5 128 (upF F (k+s))/\w.grownBy w' (some g):=by
 obtain⟨i0,hi0,hz0,hz1,hz2⟩:=info_parts infoU8;have hrow1:=Hd hrow;have hF1:=Hd hF;have hb0:=Hd (i_8 h1 h2);clear hrow hF;go_enter func140,ntmps140;go_wp2;go_loopw [0,1,8] (fun v n c wr=>∃q:Nat,c=.int .i64 q/\q<=s/\v=.slice (some ⟨g,0,none⟩) (k+q) 128/\n=.int .i64 (b_c x q)/\w.grownBy wr (some g)/\wr.rowIs g 5 128 (upF F (k+q))) (fun _ _ c _=>s-(intOf c).toNat);case atStart=>exact⟨0,rfl,by omega,rfl,rfl,d_G _ _,hrow1.o⟩
 case round=>
  obtain⟨q,rfl,hq,rfl,rfl,hg,hrw⟩:=hrel
  by_cases hlt:q<s
  ·obtain⟨y,hy⟩:∃y,Hid (b_c x q=y):=⟨_,(rfl:_=_)⟩
   have hyb:=hb0.o q;rw[hy.o]at hyb ⊢;obtain⟨y1,y2⟩:=hyb;have hrw1:=Hd hrw;have hgl:=hrw.lt;have hc:=hrw.cell (i:=k+q) (by omega)
   have hf:=hrw.frozen (k+q);clear hrw;have hlti:(q:Int)<(s:Int):=by omega
   go_wp2;go_roundw;case rel=>
    have hyl:y%256=((N_ x q:Nat):Int):=by rw[e_3,hy.o]
    rw[hyl];refine⟨q+1,by go_num,by omega,by rw[Nat.add_assoc],by rw[<-hy.o];rfl,(hg.trans (k_ _ _ _ _)).trans (World.grownBy_alloc _ _ _),?_⟩
    have hr:=(hrw1.o.set (k+q) (.int .u8 ((N_ x q:Nat):Int))).alloc (.cells #[.int .u8 ((N_ x q:Nat):Int)] 5);rw[o_z F (k+q) (N_ x q) (hF1.o q hlt)]at hr;exact hr
   case measure=>simp[intOf];omega
  ·have hin:q=s:=by omega
   subst hin;have hrw1:=Hd hrw;clear hrw;go_wp2;go_ret;exact⟨rfl,hrw1.o,hg⟩
end label
namespace drive
open kit
structure DS where
 pl:Nat->Option (Nat->Nat)
 br:Nat->Bool
 ws:List (Nat×(Nat->Nat))
 dead:Bool
def DS.fresh:DS:=⟨fun _=>none,fun _=>false,[],false⟩
def n_r(s:DS)(q:Nat×(Nat->Nat)):DS:={s with pl:=fun i=>if i=q.1 then some q.2 else s.pl i,br:=fun i=>if i=q.1 then false else s.br i}
abbrev noP:Nat×(Nat->Nat):=(0,fun _=>0)
def M_(so:Nat->Bool)(s:DS):Nat->DS
 |0=>s
 |i+1=>if so i=true then n_r (M_ so s i) (s.ws.getD i noP)else M_ so s i
theorem e_q(so:Nat->Bool)(s:DS):∀i,(M_ so s i).ws=s.ws
 |0=>rfl
 |i+1=>by unfold M_;split;exact e_q so s i;exact e_q so s i
theorem b_d(so:Nat->Bool)(s:DS):∀i,(M_ so s i).dead=s.dead
 |0=>rfl
 |i+1=>by unfold M_;split;exact b_d so s i;exact b_d so s i
def a_d(so:Nat->Bool)(s:DS):DS:={M_ so s s.ws.length with ws:=[]}
def a_Q(at_:Nat)(ws:List (Nat×(Nat->Nat))):Nat->Option (Nat->Nat)
 |0=>none
 |i+1=>if(ws.getD i noP).1=at_ then some (ws.getD i noP).2 else a_Q at_ ws i
def b_3(s:DS)(at_:Nat):Int×Option (Nat->Nat):=if s.br at_=true then(12,none)else(0,some (match s.pl at_ with|some d=>d|none=>fun _=>0))
def b_G(s:DS)(at_:Nat):Int×Option (Nat->Nat):=match a_Q at_ s.ws s.ws.length with|some d=>(0,some d)|none=>b_3 s at_
def k_8(kp:Int)(k:Nat):Bool:=decide (kp/2 ^ (k%62)%2=1)
def Q_(k:Int):Prop:=k=1\/k=2\/k=5\/k=6
instance (k:Int):Decidable (Q_ k):=by unfold Q_;infer_instance
def v_(n:Nat)(dead:Bool)(k at_:Int)(len:Nat):Int:=
 if k<1\/8<k then 3 else if dead=true/\k≠8 then 13 else if Q_ k/\(at_<0\/(n:Int)<=at_)then 2 else if(k=1\/k=6)/\len≠128 then 1 else 0
def a_5(n:Nat)(s:DS)(k at_ kp:Int)(len:Nat)(D:Nat->Nat):DS×Int×Option (Nat->Nat):=
 if v_ n s.dead k at_ len≠0 then(s,v_ n s.dead k at_ len,none)
 else if k=1 then({s with ws:=s.ws++[(at_.toNat,D)]},0,none)
 else if k=2 then(s,b_G s at_.toNat)
 else if k=3 then(a_d (fun _=>true) s,0,none)
 else if k=4 then(a_d (k_8 kp) s,0,none)
 else if k=5 then({s with br:=fun i=>if i=at_.toNat then true else s.br i},0,none)
 else if k=6 then(n_r s (at_.toNat,D),0,none)
 else if k=7 then({s with dead:=true},0,none)
 else(DS.fresh,0,none)
theorem j_n(x:Int)(s:Nat)(hs:s<64):((x%18446744073709551616).toNat/2 ^ s)%2=(x/2 ^ s%2).toNat:=by
 have hx:x%18446744073709551616+18446744073709551616*(x/18446744073709551616)=x:=by omega
 have hm:=Int.emod_nonneg x (b:=18446744073709551616) (by decide)
 obtain⟨m,hmm⟩:=Int.eq_ofNat_of_zero_le hm;obtain⟨q,hq⟩:∃q,q=x/18446744073709551616:=⟨_,rfl⟩;rw[<-hq,hmm]at hx;rw[hmm,Int.toNat_natCast];have hp:(18446744073709551616:Int)=2 ^ s*(2*2 ^ (63-s)):=by
  have h1:(18446744073709551616:Int)=2 ^ 64:=by decide
  rw[h1,show(64:Nat)=s+(1+(63-s)) by omega,Int.pow_add,Int.pow_add]
  simp
 have hpos:(2:Int) ^ s≠0:=by
  have:(0:Int)<2 ^ s:=Int.pow_pos (by decide)
  omega
 have h2:x/2 ^ s=(m:Int)/2 ^ s+2*(2 ^ (63-s)*q):=by
  rw[<-hx,hp,Int.mul_assoc,Int.add_mul_ediv_left _ _ hpos];simp[Int.mul_assoc]
 rw[h2];have h3:((m:Int)/2 ^ s)=((m/2 ^ s:Nat):Int):=by push_cast;rfl
 rw[h3];omega
theorem s_i(x:Int):bits .and .i64 x 1=x%2:=by
 show IntKind.i64.wrap ((BitVec.ofInt 64 x &&& BitVec.ofInt 64 1).toNat:Int)=_;rw[BitVec.toNat_and,show(BitVec.ofInt 64 1).toNat=1 by decide,Nat.and_one_is_mod,BitVec.toNat_ofInt,IntKind.wrap_i64]
 have h:=j_n x 0 (by decide)
 simp at h;have h2:((x%((2:Nat) ^ 64:Nat)).toNat)%2=(x%2).toNat:=by
  rw[show(((2:Nat) ^ 64:Nat):Int)=18446744073709551616 by decide]
  exact h
 rw[h2];omega
end drive
namespace kit
open Go.Deep
def cpF(off m:Nat)(u f:Nat->Value):Nat->Value:=fun j=>if off<=j/\j<off+m then u (j-off)else f j
theorem t_y{w:World}{g M:Nat}{t:TypeId}{cur:Array Value}{f u:Nat->Value}{off m:Nat}(hg:w.heap[g]?=some (.cells cur t (0,0)))(hs:cur.size=M)(hf:∀i,i<M->cur[i]?=some (f i))(hfit:off+m<=M) :
  (w.setRow g (cur.toList.take off++(((List.range m).map u)++cur.toList.drop (off+m))).toArray).rowIs g t M (cpF off m u f):=by
 refine⟨_,setRow_heap w g cur _ t _ hg,?_,fun i hi=>?_⟩
 ·simp
  omega
 ·have hl:(cur.toList.take off).length=off:=by rw[List.length_take,Array.length_toList];omega
  have hl2:((List.range m).map u).length=m:=by simp
  rw[List.getElem?_toArray];unfold cpF
  by_cases h1:i<off
  ·rw[List.getElem?_append_left (by omega),if_neg (by omega),List.getElem?_take,if_pos h1]
   simpa using hf i hi
  ·rw[List.getElem?_append_right (by omega),hl]
   by_cases h2:i<off+m
   ·rw[List.getElem?_append_left (by omega),if_pos ⟨by omega,h2⟩]
    simp[show i-off<m by omega]
   ·rw[List.getElem?_append_right (by omega),hl2,if_neg (by omega),List.getElem?_drop,show off+m+(i-off-m)=i by omega]
    simpa using hf i hi
theorem k_1{P:Program}{w:World}(dT sT ty:TypeId)(elem:TypeId)(hu:P.underlying dT=some (.slice elem))(hsz:(P.info? elem).map (·.size)=some 1)
  (g off M:Nat) (t:TypeId) (f:Nat->Value) (hrow:w.rowIs g t M f) (dp sp:Option Addr) (dLen dCap sLen sCap m:Nat) (u:Nat->Value) (hm:m=Nat.min sLen dLen)
  (hpos:0<m->dp=some ⟨g,off,none⟩/\∃b o,sp=some ⟨b,o,none⟩/\∀j,j<m->w.cell? ⟨b,o+j,none⟩=some (u j)) (hfit:off+m<=M) (h1:∀j,j<m->(u j).oneCell'=true) :
  ∃w',(Builtin.copy_ #[dT,sT] ty #[.slice dp dLen dCap,.slice sp sLen sCap]).run P w=.ok (goInt m) w'/\w'.rowIs g t M (cpF off m u f)/\w.grownBy w' (some g):=by
 by_cases h0:m=0
 ·subst h0
  refine⟨w,run_copy_none (P:=P) w dT sT ty elem dp sp dLen dCap sLen sCap hu hsz hm.symm,hrow.congr fun i _=>?_,d_G _ _⟩;unfold cpF;rw[if_neg (by omega)]
 ·obtain⟨rfl,b,o,rfl,hsrc⟩:=hpos (by omega)
  obtain⟨cur,hg,hs,hf⟩:=hrow;have hl2:((List.range m).map u).length=m:=by simp
  have hrun:=run_copy_row (P:=P) w dT sT ty elem g off dLen dCap ⟨b,o,none⟩ sLen sCap cur t ((List.range m).map u) hu hsz hg (by rw[hl2];exact hm) (fun j v hv=>by
   have hj:j<m:=by have:=(List.getElem?_eq_some_iff.1 hv).1;simpa using this
   rw[i_,hsrc j hj];simpa [hj]using hv) (by rw[hl2];omega) (fun v hv=>by
   obtain⟨j,hj,rfl⟩:=List.mem_map.1 hv;exact h1 j (List.mem_range.1 hj))
  rw[hl2,List.append_assoc]at hrun;refine⟨_,hrun,t_y hg hs hf hfit,?_⟩;generalize (cur.toList.take off++(((List.range m).map u)++cur.toList.drop (off+m))).toArray=X;exact⟨rfl,rfl,rfl,by simp,fun k _ hk=>setRow_other w g k _ (fun e=>hk (by rw[e]))⟩
theorem T_{P:Program}{w:World}{ops:Array Oper}{rest:List Oper}{o:Oper}{a:Act}{Q:Exit->Act->World->Prop}(hgd:o.guard=none)(d s:Operand)(dT sT:TypeId)
  (ho:o.op=.call {callee:=.builtin .copy,args:=#[d,s],argTypes:=#[dT,sT]}) (elem:TypeId) (hu:P.underlying dT=some (.slice elem)) (hsz:(P.info? elem).map (·.size)=some 1)
  (g off M:Nat) (t:TypeId) (f:Nat->Value) (hrow:w.rowIs g t M f) (dp sp:Option Addr) (dLen dCap sLen sCap m:Nat) (u:Nat->Value) (hd:a.eval d=.slice dp dLen dCap) (hs:a.eval s=.slice sp sLen sCap) (hm:m=Nat.min sLen dLen)
  (hpos:0<m->dp=some ⟨g,off,none⟩/\∃b o,sp=some ⟨b,o,none⟩/\∀j,j<m->w.cell? ⟨b,o+j,none⟩=some (u j)) (hfit:off+m<=M) (h1:∀j,j<m->(u j).oneCell'=true)
  (h:∀w',Hid (w'.rowIs g t M (cpF off m u f))->w.grownBy w' (some g)->wpList P ops Q rest (a.put o.dst (goInt m)) w'):wpList P ops Q (o::rest) a w:=by
 refine wpList_plain hgd fun K hK=>?_;obtain⟨w',hrun,hr,hgr⟩:=k_1 (P:=P) dT sT o.type elem hu hsz g off M t f hrow dp sp dLen dCap sLen sCap m u hm hpos hfit h1;unfold Oper.wp;simp[execOp,ho,resolve,invoke,builtin,hd,hs,hrun,Result.andThen];exact hK _ _ (h w' hr hgr)
theorem f_c{P:Program}{ops:Array Oper}{o:Oper}{a:Act}{w:World}{K:Act->World->Prop}{Q:Exit->Act->World->Prop}{E:Prop}(hgd:o.guard=none)(d s:Operand)(dT sT:TypeId)
  (ho:o.op=.call {callee:=.builtin .copy,args:=#[d,s],argTypes:=#[dT,sT]}) (elem:TypeId) (hu:P.underlying dT=some (.slice elem)) (hsz:(P.info? elem).map (·.size)=some 1)
  (g off M:Nat) (t:TypeId) (f:Nat->Value) (hrow:w.rowIs g t M f) (dp sp:Option Addr) (dLen dCap sLen sCap m:Nat) (u:Nat->Value) (hd:a.eval d=.slice dp dLen dCap) (hs:a.eval s=.slice sp sLen sCap) (hm:m=Nat.min sLen dLen)
  (hpos:0<m->dp=some ⟨g,off,none⟩/\∃b o,sp=some ⟨b,o,none⟩/\∀j,j<m->w.cell? ⟨b,o+j,none⟩=some (u j)) (hfit:off+m<=M) (h1:∀j,j<m->(u j).oneCell'=true)
  (h:∀w',Hid (w'.rowIs g t M (cpF off m u f))->w.grownBy w' (some g)->K (a.put o.dst (goInt m)) w') :
  if Region.wanted o (yielded ops a.tmps)=true then Oper.wp P o a w K Q else E:=by
 have hw:Region.wanted o (yielded ops a.tmps)=true:=by simp[Region.wanted,hgd]
 rw[if_pos hw];obtain⟨w',hrun,hr,hgr⟩:=k_1 (P:=P) dT sT o.type elem hu hsz g off M t f hrow dp sp dLen dCap sLen sCap m u hm hpos hfit h1;unfold Oper.wp;simp[execOp,ho,resolve,invoke,builtin,hd,hs,hrun,Result.andThen];exact h w' hr hgr
def m_(t:TypeId)(k:IntKind)(w:World)(g m:Nat)(f:Nat->Nat):Prop:=∃cs:Array Value,w.heap[g]?=some (.cells cs t (0,0))/\∀j,j<m->cs[j]?=some (.int k (f j:Nat))
def E_(k:IntKind)(f:Nat->Nat)(m:Nat):List Value:=(List.range m).map fun j=>.int k (f j:Nat)
theorem b_y(k:IntKind)(f:Nat->Nat)(m:Nat):(E_ k f m).length=m:=by simp[E_]
theorem c_S(k:IntKind)(f:Nat->Nat)(m:Nat):∀u∈E_ k f m,u.oneCell'=true:=fun u hu=>by
 obtain⟨j,_,rfl⟩:=List.mem_map.1 hu;simp[Value.oneCell']
theorem c_R{w:World}{k:IntKind}{b off m:Nat}{f:Nat->Nat}(h:∀j,j<m->w.cell? ⟨b,off+j,none⟩=some (.int k (f j:Nat))):∀j u,(E_ k f m)[j]?=some u->w.cell? ((⟨b,off,none⟩:Addr).add j)=some u:=fun j u hu=>by
 have hj:j<m:=by
  have:=(List.getElem?_eq_some_iff.1 hu).1;simpa [E_]using this
 rw[i_,h j hj];simpa [E_,hj]using hu
section
variable {t:TypeId}{k:IntKind}{w w':World}{g m:Nat}{f f':Nat->Nat}
theorem m_.lt(h:m_ t k w g m f):g<w.heap.size:=by obtain⟨cs,h1,_⟩:=h;exact Blk.lt (t:=t) h1
theorem m_.block(h:m_ t k w g m f)(hb:w'.heap[g]?=w.heap[g]?):m_ t k w' g m f:=by obtain⟨cs,h1,h2⟩:=h;exact⟨cs,hb.trans h1,h2⟩
theorem m_.new(h:m_ t k w g m f)(hn:New w w'):m_ t k w' g m f:=h.block (hn.block g h.lt)
theorem m_.grown(h:m_ t k w g m f){row:Option Nat}(hg:w.grownBy w' row)(hr:row≠some g):m_ t k w' g m f:=h.block (hg.block g h.lt (Ne.symm hr))
theorem m_.congr(h:m_ t k w g m f)(he:∀j,j<m->f j=f' j):m_ t k w g m f':=by
 obtain⟨cs,h1,h2⟩:=h;exact⟨cs,h1,fun j hj=>by rw[h2 j hj,he j hj]⟩
theorem m_.cell(h:m_ t k w g m f){j:Nat}(hj:j<m):w.cell? ⟨g,j,none⟩=some (.int k (f j:Nat)):=by
 obtain⟨cs,h1,h2⟩:=h;rw[cell_of_row w g j cs _ _ h1,h2 j hj]
theorem m_.rdI(h:m_ t k w g m f)(hm:m<=maxLen):RdI k w (some ⟨g,0,none⟩) m (fun j=>(f j:Nat)):=
 ⟨hm,fun _=>⟨g,0,rfl,h.lt,fun j hj=>by simpa using h.cell hj⟩⟩
theorem m_.of_own{base c:Nat}(h:w.ownsRow base t 1 (.slice (some ⟨g,0,none⟩) m c) m (E_ k f m)):m_ t k w g m f:=by
 rcases h.2 with⟨h0,_⟩|⟨g',cap,cur,hv,hb,hg,h1,h2,h3,h4⟩
 ·cases h0
 ·cases hv
  refine⟨cur,hg,fun j hj=>?_⟩;have h5:(cur.toList.take (m*1))[j]?=some (.int k (f j:Nat)):=by rw[h4];simp[E_,hj]
  rw[List.getElem?_take,if_pos (by omega)]at h5
  simpa using h5
theorem m_.of_rowIs{F:Nat->Value}{M:Nat}(h:w.rowIs g t M F)(hm:m<=M)(hf:∀j,j<m->F j=.int k (f j:Nat)):m_ t k w g m f:=by
 obtain⟨cs,h1,_,h3⟩:=h;exact⟨cs,h1,fun j hj=>by rw[h3 j (by omega),hf j hj]⟩
theorem m_.ne_own{e:TypeId}(h:m_ t k w g m f){base:Nat}{size:Nat}{v:Value}{n:Nat}{xs:List Value}(ho:w.ownsRow base e size v n xs)(hne:e≠t):v.ownBlock≠some g:=by
 intro he;obtain⟨cs,h1,_⟩:=h;rcases ho.2 with⟨rfl,_⟩|⟨g',cap,cur,rfl,_,hg,_⟩
 ·cases he
 ·have hgb:g'=g:=by simpa [Value.ownBlock]using he
  subst hgb;rw[hg]at h1;injection h1 with h1;injection h1 with _ h1 _;exact hne h1
theorem m_.ne_row{e:TypeId}(h:m_ t k w g m f){b n:Nat}{F:Nat->Value}(ho:w.rowIs b e n F)(hne:e≠t):b≠g:=by
 intro he;subst he;obtain⟨cs,h1,_⟩:=h;obtain⟨c,hc,_⟩:=ho;rw[hc]at h1;injection h1 with h1;injection h1 with _ h1 _;exact hne h1
end
end kit
namespace drive
open Go.ChangeShapes Go.WideShapes Go.ChangeAt kit Go.Deep
theorem a_O{w:World}{base s n bb:Nat}{e t:TypeId}{v:Value}{xs:List Value}{cs:Array Value}(h:w.ownsRow base e s v n xs)(hb:Blk w bb t cs)(hne:e≠t):v.ownBlock≠some bb:=by
 intro he;rcases h.2 with⟨h0,_⟩|⟨g',cap,cur,h0,_,hg0,_⟩
 ·rw[h0]at he;cases he
 ·rw[h0]at he
  have:g'=bb:=by simpa [Value.ownBlock]using he
  subst this;unfold Blk at hb;rw[hb]at hg0;injection hg0 with hg0;injection hg0 with _ hg0 _;exact absurd hg0.symm hne
def Sd(w:World)(v:Value)(F:Nat->Nat):Prop:=∃b c,v=.slice (some ⟨b,0,none⟩) 128 c/\128<=c/\c<=maxLen/\m_ 5 .u8 w b 128 F
def Dat(w:World)(v:Value):Option (Nat->Nat)->Prop
 |none=>v=.slice none 0 0
 |some F=>Sd w v F
section
variable {w w':World}{v:Value}{F:Nat->Nat}{o:Option (Nat->Nat)}
theorem Sd.new(h:Sd w v F)(hn:New w w'):Sd w' v F:=by
 obtain⟨b,c,h1,h2,h3,h4⟩:=h;exact⟨b,c,h1,h2,h3,h4.new hn⟩
theorem Sd.grown{row:Option Nat}(h:Sd w v F)(hg:w.grownBy w' row)(hr:∀b f,m_ 5 .u8 w b 128 f->row≠some b):Sd w' v F:=by
 obtain⟨b,c,h1,h2,h3,h4⟩:=h;exact⟨b,c,h1,h2,h3,h4.grown hg (hr b F h4)⟩
theorem Dat.new(h:Dat w v o)(hn:New w w'):Dat w' v o:=by
 cases o with
 |none=>exact h
 |some F=>exact Sd.new h hn
theorem Dat.grown{row:Option Nat}(h:Dat w v o)(hg:w.grownBy w' row)(hr:∀b f,m_ 5 .u8 w b 128 f->row≠some b):Dat w' v o:=by
 cases o with
 |none=>exact h
 |some F=>exact Sd.grown h hg hr
end
def wsL(ws:List (Nat×(Nat->Nat)))(dv:Nat->Value):List Value:=(List.range ws.length).flatMap fun i=>[.int .i64 (ws.getD i noP).1,dv i]
theorem h_H(f:Nat->Value×Value):∀n,((List.range n).flatMap fun i=>[(f i).1,(f i).2]).length=n*2
 |0=>rfl
 |n+1=>by rw[List.range_succ,List.flatMap_append,List.length_append,h_H f n];simp;omega
theorem g_y(f:Nat->Value×Value):∀n i,i<n->((List.range n).flatMap fun i=>[(f i).1,(f i).2])[i*2]?=some (f i).1/\((List.range n).flatMap fun i=>[(f i).1,(f i).2])[i*2+1]?=some (f i).2
 |0,i,h=>absurd h (Nat.not_lt_zero i)
 |n+1,i,h=>by
  rw[List.range_succ,List.flatMap_append];have hl:=h_H f n
  by_cases e:i<n
  ·rw[List.getElem?_append_left (by omega),List.getElem?_append_left (by omega)]
   exact g_y f n i e
  ·have:i=n:=by omega
   subst this;rw[List.getElem?_append_right (by omega),List.getElem?_append_right (by omega),hl]
   simp
theorem o_t(ws:List (Nat×(Nat->Nat)))(dv:Nat->Value){i:Nat}(h:i<ws.length):(wsL ws dv)[i*2]?=some (.int .i64 (ws.getD i noP).1)/\(wsL ws dv)[i*2+1]?=some (dv i):=
 g_y (fun i=>(.int .i64 (ws.getD i noP).1,dv i)) ws.length i h
theorem o_s(ws:List (Nat×(Nat->Nat)))(dv:Nat->Value)(q:Nat×(Nat->Nat))(v:Value) :
  wsL (ws++[q]) (fun i=>if i=ws.length then v else dv i)=wsL ws dv++[.int .i64 q.1,v]:=by
 unfold wsL;rw[List.length_append,List.length_singleton,List.range_succ,List.flatMap_append];congr 1
 ·rw[List.flatMap_def,List.flatMap_def]
  congr 1;apply List.map_congr_left;intro i hi;have hi:=List.mem_range.1 hi;simp[List.getD,List.getElem?_append_left hi,show i≠ws.length by omega]
 ·simp[List.getD]
def a_p(w:World)(g n:Nat)(pv:Nat->Value)(br:Nat->Bool):Prop:=
 ∃cs:Array Value,w.heap[g]?=some (.cells cs 249 (0,0))/\cs.size=n*2/\∀i,i<n->cs[i*2]?=some (pv i)/\cs[i*2+1]?=some (.bool (br i))
section
variable {w w':World}{g n:Nat}{pv:Nat->Value}{br:Nat->Bool}
theorem a_p.lt(h:a_p w g n pv br):g<w.heap.size:=by obtain⟨cs,h1,_⟩:=h;exact Blk.lt (t:=249) h1
theorem a_p.new(h:a_p w g n pv br)(hn:New w w'):a_p w' g n pv br:=by
 obtain⟨cs,h1,h2⟩:=h;exact⟨cs,Blk.new (t:=249) h1 hn,h2⟩
theorem a_p.grown(h:a_p w g n pv br){row:Option Nat}(hg:w.grownBy w' row)(hr:row≠some g):a_p w' g n pv br:=by
 obtain⟨cs,h1,h2⟩:=h;exact⟨cs,Blk.grown (t:=249) h1 hg hr,h2⟩
theorem a_p.cell(h:a_p w g n pv br){i:Nat}(hi:i<n):w.cell? ⟨g,i*2,none⟩=some (pv i)/\w.cell? ⟨g,i*2+1,none⟩=some (.bool (br i)):=by
 obtain⟨cs,h1,h2,h3⟩:=h;exact⟨(Blk.cell (t:=249) h1 _).trans (h3 i hi).1,(Blk.cell (t:=249) h1 _).trans (h3 i hi).2⟩
theorem a_p.frozen(h:a_p w g n pv br)(i:Nat):w.frozen? ⟨g,i,none⟩=false:=by
 obtain⟨cs,h1,h2⟩:=h;exact Blk.frozen (t:=249) h1 i
theorem a_p.set0(h:a_p w g n pv br){k:Nat}(hk:k<n)(v:Value):a_p (w.setCell ⟨g,k*2,none⟩ v) g n (fun i=>if i=k then v else pv i) br:=by
 obtain⟨cs,h1,h2,h3⟩:=h;refine⟨cs.setIfInBounds (k*2) v,Blk.put (t:=249) h1 (k*2) v,by simpa using h2,fun i hi=>?_⟩
 obtain⟨c0,c1⟩:=h3 i hi;constructor
 ·by_cases e:i=k
  ·subst e
   simp[Array.getElem?_setIfInBounds,h2];omega
  ·simp only[if_neg e]
   rw[Array.getElem?_setIfInBounds,if_neg (by omega)]
   exact c0
 ·rw[Array.getElem?_setIfInBounds,if_neg (by omega)]
  exact c1
theorem a_p.set1(h:a_p w g n pv br){k:Nat}(hk:k<n)(v:Bool):a_p (w.setCell ⟨g,k*2+1,none⟩ (.bool v)) g n pv (fun i=>if i=k then v else br i):=by
 obtain⟨cs,h1,h2,h3⟩:=h;refine⟨cs.setIfInBounds (k*2+1) (.bool v),Blk.put (t:=249) h1 (k*2+1) (.bool v),by simpa using h2,fun i hi=>?_⟩
 obtain⟨c0,c1⟩:=h3 i hi;constructor
 ·rw[Array.getElem?_setIfInBounds,if_neg (by omega)]
  exact c0
 ·by_cases e:i=k
  ·subst e
   simp[Array.getElem?_setIfInBounds,h2];omega
  ·simp only[if_neg e]
   rw[Array.getElem?_setIfInBounds,if_neg (by omega)]
   exact c1
theorem g_W(a b:Value)(n i:Nat)(hi:i<n):(madeCells #[a,b] (n*2))[i*2]?=some a/\(madeCells #[a,b] (n*2))[i*2+1]?=some b:=by
 have h1:i*2<n*2:=by omega
 have h2:i*2+1<n*2:=by omega
 constructor
 ·simp[madeCells,h1]
 ·have:(i*2+1)%2=1:=by omega
  simp[madeCells,h2,this]
theorem a_p.made(w:World)(n:Nat):a_p (w.alloc (.cells (madeCells #[.slice none 0 0,.bool false] (n*2)) 249)) w.heap.size n (fun _=>.slice none 0 0) (fun _=>false):=
 ⟨_,Blk.fresh w _ _,by rw[size_madeCells],fun i hi=>g_W _ _ n i hi⟩
end
structure Ft(P:Nat->Prop)(d g n m:Nat)(pv:Nat->Value)(wv:Value)(dv:Nat->Value):Prop where
 d:P d
 g:P g
 w:∀k,wv.ownBlock=some k->P k
 p:∀i,i<n->∀k,(pv i).ownBlock=some k->P k
 v:∀i,i<m->∀k,(dv i).ownBlock=some k->P k
theorem g_c{P:Nat->Prop}:∀k,(Value.slice none 0 0).ownBlock=some k->P k:=fun k h=>by cases h
structure Dr(P:Nat->Prop)(base d g n:Nat)(pl:Nat->Option (Nat->Nat))(br:Nat->Bool)(ws:List (Nat×(Nat->Nat)))(dead:Bool)(pv:Nat->Value)(wv:Value)(dv:Nat->Value)(w:World):Prop where
 bk:Blk w d 95 #[.slice (some ⟨g,0,none⟩) n n,wv,.bool dead]
 pt:a_p w g n pv br
 pd:∀i,i<n->Dat w (pv i) (pl i)
 wo:w.ownsRow base 245 2 wv ws.length (wsL ws dv)
 wd:∀i,i<ws.length->Sd w (dv i) (ws.getD i noP).2
 wi:∀i,i<ws.length->(ws.getD i noP).1<n
 lo:base<=d/\base<=g
 ft:Ft P d g n ws.length pv wv dv
section
variable {P:Nat->Prop}{base d g n:Nat}{pl:Nat->Option (Nat->Nat)}{br:Nat->Bool}{ws:List (Nat×(Nat->Nat))}{dead:Bool}{pv:Nat->Value}{wv:Value}{dv:Nat->Value}{w w' w'':World}
theorem Dr.new(h:Dr P base d g n pl br ws dead pv wv dv w)(hn:New w w'):Dr P base d g n pl br ws dead pv wv dv w':=
 ⟨h.bk.new hn,h.pt.new hn,fun i hi=>(h.pd i hi).new hn,c_ h.wo hn,fun i hi=>(h.wd i hi).new hn,h.wi,h.lo,h.ft⟩
theorem a_p.blk{g n:Nat}{pv:Nat->Value}{br:Nat->Bool}(h:a_p w g n pv br):∃cs,Blk w g 249 cs:=by
 obtain⟨cs,hc,_⟩:=h;exact⟨cs,hc⟩
theorem e_P{w:World}{a b:Nat}{t u:TypeId}{cs ds:Array Value}(h:Blk w a t cs)(h':Blk w b u ds)(hne:t≠u):a≠b:=fun e=>by
 subst e;unfold Blk at h h';rw[h]at h';injection h' with h';injection h' with _ h' _;exact hne h'
theorem m_.ne_blk{w:World}{b m a:Nat}{t u:TypeId}{k:IntKind}{f:Nat->Nat}{cs:Array Value}(h:m_ t k w b m f)(h':Blk w a u cs)(hne:t≠u):a≠b:=by
 obtain⟨ds,hd,_⟩:=h;exact fun e=>e_P (t:=t) hd h' hne e.symm
theorem Dr.setD(h:Dr P base d g n pl br ws dead pv wv dv w){k:Nat}{u:Value}:(∀b f,m_ 5 .u8 w b 128 f->(some d:Option Nat)≠some b)/\w.grownBy (w.setCell ⟨d,k,none⟩ u) (some d)/\d≠g/\wv.ownBlock≠some d:=by
 refine⟨fun b f hr e=>m_.ne_blk hr h.bk (by decide) (Option.some.inj e),k_ w d k u,?_,a_O h.wo h.bk (by decide)⟩
 obtain⟨cs,hc⟩:=h.pt.blk;exact e_P h.bk hc (by decide)
theorem Dr.dies(h:Dr P base d g n pl br ws dead pv wv dv w):Dr P base d g n pl br ws true pv wv dv (w.setCell ⟨d,2,none⟩ (.bool true)):=by
 obtain⟨h1,h2,h3,h4⟩:=h.setD (k:=2) (u:=.bool true);exact⟨h.bk.put 2 (.bool true),h.pt.grown h2 (fun e=>h3 (Option.some.inj e)),fun i hi=>(h.pd i hi).grown h2 h1,h.wo.kept h2 (.inr h4),fun i hi=>(h.wd i hi).grown h2 h1,h.wi,h.lo,h.ft⟩
theorem Dr.idle(h:Dr P base d g n pl br ws dead pv wv dv w):Dr P base d g n pl br [] dead pv (.slice none 0 0) dv (w.setCell ⟨d,1,none⟩ (.slice none 0 0)):=by
 obtain⟨h1,h2,h3,h4⟩:=h.setD (k:=1) (u:=.slice none 0 0);exact⟨h.bk.put 1 (.slice none 0 0),h.pt.grown h2 (fun e=>h3 (Option.some.inj e)),fun i hi=>(h.pd i hi).grown h2 h1,World.ownsRow_nil _ _ _ _,fun i hi=>absurd hi (Nat.not_lt_zero i),fun i hi=>absurd hi (Nat.not_lt_zero i),h.lo,⟨h.ft.d,h.ft.g,g_c,h.ft.p,fun i hi=>absurd hi (Nat.not_lt_zero i)⟩⟩
theorem Dr.setG(h:Dr P base d g n pl br ws dead pv wv dv w){k:Nat}{u:Value}:(∀b f,m_ 5 .u8 w b 128 f->(some g:Option Nat)≠some b)/\w.grownBy (w.setCell ⟨g,k,none⟩ u) (some g)/\g≠d/\wv.ownBlock≠some g:=by
 obtain⟨cs,hc⟩:=h.pt.blk;exact⟨fun b f hr e=>m_.ne_blk hr hc (by decide) (Option.some.inj e),k_ w g k u,e_P hc h.bk (by decide),a_O h.wo hc (by decide)⟩
theorem Dr.breaks(h:Dr P base d g n pl br ws dead pv wv dv w){k:Nat}(hk:k<n)(b:Bool):Dr P base d g n pl (fun i=>if i=k then b else br i) ws dead pv wv dv (w.setCell ⟨g,k*2+1,none⟩ (.bool b)):=by
 obtain⟨h1,h2,h3,h4⟩:=h.setG (k:=k*2+1) (u:=.bool b);exact⟨h.bk.grown h2 (fun e=>h3 (Option.some.inj e)),h.pt.set1 hk b,fun i hi=>(h.pd i hi).grown h2 h1,h.wo.kept h2 (.inr h4),fun i hi=>(h.wd i hi).grown h2 h1,h.wi,h.lo,h.ft⟩
theorem Dr.lays(h:Dr P base d g n pl br ws dead pv wv dv w){k:Nat}(hk:k<n){v:Value}{F:Nat->Nat}(hv:Sd w v F)(hvp:∀k,v.ownBlock=some k->P k) :
  Dr P base d g n (fun i=>if i=k then some F else pl i) br ws dead (fun i=>if i=k then v else pv i) wv dv (w.setCell ⟨g,k*2,none⟩ v):=by
 obtain⟨h1,h2,h3,h4⟩:=h.setG (k:=k*2) (u:=v);refine⟨h.bk.grown h2 (fun e=>h3 (Option.some.inj e)),h.pt.set0 hk v,fun i hi=>?_,h.wo.kept h2 (.inr h4),fun i hi=>(h.wd i hi).grown h2 h1,h.wi,h.lo,⟨h.ft.d,h.ft.g,h.ft.w,fun i hi k'=>?_,h.ft.v⟩⟩
 ·by_cases e:i=k
  ·subst e
   simp only[if_true];exact Sd.grown hv h2 h1
  ·simp only[if_neg e]
   exact(h.pd i hi).grown h2 h1
 ·by_cases e:i=k
  ·subst e
   simp only[if_true];exact hvp k'
  ·simp only[if_neg e]
   exact h.ft.p i hi k'
theorem Dr.put(h:Dr P base d g n pl br ws dead pv wv dv w){k:Nat}(hk:k<n){v:Value}{F:Nat->Nat}(hv:Sd w v F)(hvp:∀k,v.ownBlock=some k->P k) :
 Dr P base d g n (fun i=>if i=k then some F else pl i) (fun i=>if i=k then false else br i) ws dead (fun i=>if i=k then v else pv i) wv dv ((w.setCell ⟨g,k*2,none⟩ v).setCell ⟨g,k*2+1,none⟩ (.bool false)):=(h.lays hk hv hvp).breaks hk false
end
theorem infoU8:(prog.info? 5).map (fun i=>(i.zero,i.size,i.bytes))=some (some (.int .u8 0),1,1):=by kernel_rfl
set_option maxRecDepth 100000 in
theorem Clone_any(b off n c:Nat)(f:Nat->Nat)(w:World)(h:∀j,j<n->w.cell? ⟨b,off+j,none⟩=some (.int .u8 (f j:Nat)))(hn:0<n)(hn2:n<=8192)(hb:b<w.heap.size) :
  Calls prog 133 #[.slice (some ⟨b,off,none⟩) n c] w fun e w'=>(∃g cap,e=.returned (.slice (some ⟨g,0,none⟩) n cap)/\n<=cap/\cap<=maxLen/\m_ 5 .u8 w' g n f/\w.heap.size<=g)/\New w w':=by
 obtain⟨i0,hi0,hz0,hz1,hz2⟩:=info_parts infoU8;have hsrc:Hid (∀j u,(E_ .u8 f n)[j]?=some u->(w.alloc (.cells #[] 5)).cell? ((⟨b,off,none⟩:Addr).add j)=some u):=fun j u hu=>by
  have:=c_R h j u hu;rw[i_]at this ⊢;exact(((New.refl w).alloc _).cell (p:=⟨b,off+j,none⟩) hb).trans this
 have hone:=Hd (c_S .u8 f n);have hlen:Hid ((E_ .u8 f n).length=n):=b_y .u8 f n;have hlit:=World.ownsRow_lit (e:=5) (size:=1) w #[] 0 (Nat.le_refl _) (by unfold maxLen;omega) rfl
 have hnb:=fun w=>Lib.run_eql_slice_nil (P:=prog) w 35 5 (some ⟨b,off,none⟩) n c 0 0 underlying35;clear h;go_enter func133,ntmps133;go_wp2_with (at_builtin;refine wpList_append_own _ rfl _ _ 35 rfl w.heap.size 5 i0 _ 1 1 underlying35 hi0 hz0 hz1 hz2 rfl (by decide) (Value.slice (some ⟨w.heap.size,0,none⟩) 0 0) 0 [] rfl hlit ⟨b,off,none⟩ n c (E_ .u8 f n) rfl (by rw[hlen.o];omega) hsrc.o hone.o (by unfold maxLen;omega) (by omega) (by simp) ?_;intro v3 w3 hown3 hgrow hnil;obtain⟨g3,c3,rfl,hg3a,hg3b⟩:=hown3.form (by omega))
 have hgA:(w.alloc (.cells #[] 5)).grownBy w3 (some w.heap.size):=hgrow;have hN:New w w3:=(New.refl w).append' hgA (fun g hg=>by cases hg;exact Nat.le_refl _)
 rw[List.nil_append,Nat.zero_add]at hown3;have hr:=m_.of_own hown3;obtain⟨_,_,he,hle,hlm,_⟩:=h_ hown3;cases he;have hfin:=Hd (And.intro hr (And.intro hle (And.intro hlm hN)));clear hgrow hnil hown3 hr;go_ret;exact⟨⟨g3,c3,rfl,hfin.o.2.1,hfin.o.2.2.1,hfin.o.1,hg3a⟩,hfin.o.2.2.2⟩
def SdN(lo:Nat)(w:World)(v:Value)(F:Nat->Nat):Prop:=∃b c,v=.slice (some ⟨b,0,none⟩) 128 c/\128<=c/\c<=maxLen/\m_ 5 .u8 w b 128 F/\lo<=b
theorem SdN.sd{lo:Nat}{w:World}{v:Value}{F:Nat->Nat}(h:SdN lo w v F):Sd w v F:=by
 obtain⟨b,c,h1,h2,h3,h4,_⟩:=h;exact⟨b,c,h1,h2,h3,h4⟩
theorem SdN.grown{lo:Nat}{w w':World}{v:Value}{F:Nat->Nat}{row:Option Nat}(h:SdN lo w v F)(hg:w.grownBy w' row)(hr:∀r,row=some r->r<lo):SdN lo w' v F:=by
 obtain⟨b,c,h1,h2,h3,h4,h5⟩:=h;exact⟨b,c,h1,h2,h3,h4.grown hg fun e=>by have:=hr _ e;omega,h5⟩
theorem k_k(v:Value)(F:Nat->Nat)(w:World)(h:Sd w v F):Calls prog 133 #[v] w fun e w'=>∃v',e=.returned v'/\SdN w.heap.size w' v' F/\New w w':=by
 obtain⟨b,c,rfl,h1,h2,h3⟩:=h;refine(Clone_any b 0 128 c F w (fun j hj=>by rw[Nat.zero_add];exact h3.cell hj) (by omega) (by omega) h3.lt).mono ?_
 rintro e w' ⟨⟨g,cap,rfl,k1,k2,k3,k4⟩,hn⟩;exact⟨_,rfl,⟨g,cap,rfl,k1,k2,k3,k4⟩,hn⟩
end drive
end Go.Proofs.YtojcoaekhiadcaaGreat
