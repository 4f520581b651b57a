import Derived.Test.YtojcoaekhiadcaaGreatA01
import Derived.Test.YtojcoaekhiadcaaGreatA15
import Derived.Test.YtojcoaekhiadcaaGreatA19
import Derived.Test.YtojcoaekhiadcaaGreatA18
import Derived.Test.YtojcoaekhiadcaaGreatA14
import Derived.Test.YtojcoaekhiadcaaGreatA13
import Derived.Test.YtojcoaekhiadcaaGreatA02
import Derived.Laws.IdiomStrings
set_option linter.unusedSectionVars false
set_option linter.unusedVariables false
set_option linter.unusedSimpArgs false
namespace Go.Proofs.YtojcoaekhiadcaaGreat
open Tryz Go.RowKit
namespace vault
set_option maxRecDepth 100000
open Go.ChangeShapes Go.WideShapes Go.ChangeAt kit drive geom stripe flet Go.Deep
section
variable {A:VA}{o:Nat->Nat}{s:VS}
structure DOk(A:VA)(s:VS):Prop where
 w:∀i,i<A.n->(s.ds i).ws.length<300
 b:∀i j F,rdS (s.ds i) j=some F->∀k,F k<256
structure i_R(A:VA)(q:Ptr)(X:Nat->Nat):Prop where
 b1:1<=q.by_
 b2:q.by_<=4096
 ct:q.ct=(q.by_+127)/128
 hi:q.ad+b_X A q.ct<=512*A.n
 x8:∀k,X k<256
 sum:a_f (a_9 X q.by_) (32*q.ct) (0,0,0,0)=q.sum
def mxB(A:VA):Nat:=if wdA A=1 then A.p else 0
structure Held(A:VA)(s:VS)(q:Ptr)(X:Nat->Nat):Prop where
 few:(S_ (a_A A s q) (L_ A q.ct)).length<=A.p
 sp:S_ (a_A A s q) (L_ A q.ct)=[]\/dcN q.ct (wdA A)=1
 right:∀c,c<L_ A q.ct->a_A A s q c=false->∀k,k<128*a_a A q.ct c->pcD A s q c k=c_W X q.by_ A.p q.ct (wdA A) c k
def t_H(n:Nat)(X:Nat->Nat)(w:World)(e:Ending)(w':World):Prop:=
 ∃R,e=.returned (.tuple #[.slice R n n,.int .i64 0])/\RdI .u8 w' R n (fun k=>(X k:Nat))/\New w w'
set_option maxHeartbeats 2000000 in
theorem h_J(hA:VOk A)(w:World)(h:VM A o s w)(hd:DOk A s)(q:Ptr)(X:Nat->Nat)(hq:i_R A q X)(hl:Held A s q X) :
  Calls prog 99 #[ptr A.v,.agg (x_ q)] w (t_H q.by_ X w):=by
 have hc1:1<=q.ct:=by have:=hq.ct;have:=hq.b1;omega
 have hc2:q.ct<=32:=by have:=hq.ct;have:=hq.b2;omega
 obtain⟨hw,hn⟩:=b_P hA;obtain⟨hm1,hm2,hm3⟩:=c_P hA hc1;have hn8:=hA.n8;have hps:=Hd (fun(w':World) (hn:New w w')=>k_N hA w' (h.new hn) q hc1 hc2 hq.hi hd.w hd.b);have hgt:Hid (∀(w':World) P c R C,RdP w' P (L_ A q.ct) (a_A A s q) R (d_C A s q) C (pcD A s q)->Calls prog 148 #[.int .i64 A.n,.int .i64 A.p,.int .i64 q.ad,.int .i64 q.by_,.slice P (L_ A q.ct) c,c_Y q.sum.1 q.sum.2.1 q.sum.2.2.1 q.sum.2.2.2] w' fun e w''=>∃R B d,e=.returned (.tuple #[.slice R q.by_ q.by_,.slice B 0 d,.int .i64 0])/\RdI .u8 w'' R q.by_ (fun k=>(X k:Nat))/\New w' w''):=fun w' P c R C hP=>by
  have hLn:∀c,c<L_ A q.ct->a_A A s q c=false->d_C A s q c=128*G_ A.p q.ct (wdA A) c:=fun c _ h0=>if_neg (by rw[h0];simp)
  have hfst:=n_U (s:=q.sum) (len:=q.by_) (X:=X) hm3 hA.p1 hA.p3 hw hc1 hc2 (by omega) hq.x8 hl.few hl.sp hLn hl.right (by rw[<-hq.sum];congr 1;omega)
  have hdt:=j_L (len:=q.by_) (X:=X) hm3 hA.p1 hA.p3 hw hc1 hc2 (by omega) hq.x8 hl.few hl.sp hLn hl.right
  refine(o_i A.n A.p q.ad (wdA A) q.ct q.by_ (L_ A q.ct) (L_ A q.ct) c _ _ _ _ P (a_A A s q) R (d_C A s q) C (pcD A s q) w' hA.n2 hA.n8 hA.p1 hA.p3 hn hw (by have:=hq.hi;omega) ⟨hq.b1,hq.b2⟩ hq.ct rfl hP hLn hl.few (h_F hl.sp) hfst).mono ?_
  intro e w'' hG;obtain⟨⟨R,B,d,he,h1,h2⟩,h3⟩:=hG;refine⟨R,B,d,he,?_,h3⟩;rw[hdt]at h1;refine⟨h1.1,fun h0=>?_⟩;obtain⟨b,off,k1,k2,k3⟩:=h1.2 h0;refine⟨b,off,k1,k2,fun i hi=>?_⟩;have hct:=hq.ct;rw[k3 i hi];simp[List.getD,a_9,show i<128*q.ct by omega,hi]
 obtain⟨num,hnum⟩:∃num,Hid (num=L_ A q.ct):=⟨_,rfl⟩;rw[<-hnum.o]at hgt;have hps2:Hid (∀(w':World),New w w'->Calls prog 96 #[ptr A.v,.agg (x_ q)] w' fun e w''=>∃P c R C,e=.returned (.slice P num c)/\RdP w'' P num (a_A A s q) R (d_C A s q) C (pcD A s q)/\New w' w''):=fun w' hn=>by
  rw[hnum.o];exact hps.o w' hn
 have v0:=h.v0;have v1:=h.v1;obtain⟨W0,hW0⟩:∃W0,W0=w.alloc (.cells (x_ q) 107):=⟨_,rfl⟩;have hN0:New w W0:=by rw[hW0];exact(New.refl w).alloc _
 have hb0:Blk W0 w.heap.size 107 (x_ q):=by rw[hW0];exact c_k w _
 have hlq:=hq.b1;clear hps h hd hq hl hm3 hm2 hm1 hw hn;obtain⟨ad,ct,by_,birth,s0,s1,s2,s3⟩:=q;have hkeep:Hid (∀w',New W0 w'->w'.cell? ⟨A.v,0,none⟩=some (.int .i64 A.n)/\w'.cell? ⟨A.v,1,none⟩=some (.int .i64 A.p)/\w'.cell? ⟨w.heap.size,0,none⟩=some (.int .i64 ad)/\w'.cell? ⟨w.heap.size,1,none⟩=some (.int .i64 ct)/\w'.cell? ⟨w.heap.size,2,none⟩=some (.int .i64 by_)/\w'.cell? ⟨w.heap.size,3,none⟩=some (.int .i64 birth) /\
   w'.cell? ⟨w.heap.size,4,none⟩=some (.int .i64 s0)/\w'.cell? ⟨w.heap.size,5,none⟩=some (.int .i64 s1)/\w'.cell? ⟨w.heap.size,6,none⟩=some (.int .i64 s2)/\w'.cell? ⟨w.heap.size,7,none⟩=some (.int .i64 s3)):=fun w' hn=>⟨((hN0.next hn).cell (a_ v0)).trans v0,((hN0.next hn).cell (a_ v1)).trans v1,(hb0.new hn).cell 0,(hb0.new hn).cell 1,(hb0.new hn).cell 2,(hb0.new hn).cell 3,(hb0.new hn).cell 4,(hb0.new hn).cell 5,(hb0.new hn).cell 6,(hb0.new hn).cell 7⟩
 have hN0H:=Hd hN0;obtain⟨k0,k1,k2,k3,k4,k5,k6,k7,k8,k9⟩:=hkeep.o W0 (New.refl _);clear hb0 hN0 v0 v1 hnum;dsimp only at hgt hps2 hlq;go_enter func99,ntmps99;go_wp2_with fail;rw[<-hW0];clear hW0;go_region_held3 (fun w'=>w'.cell? ⟨A.v,0,none⟩=some (.int .i64 A.n)/\w'.cell? ⟨A.v,1,none⟩=some (.int .i64 A.p)/\w'.cell? ⟨w.heap.size,0,none⟩=some (.int .i64 ad)/\w'.cell? ⟨w.heap.size,1,none⟩=some (.int .i64 ct)/\w'.cell? ⟨w.heap.size,2,none⟩=some (.int .i64 by_)/\w'.cell? ⟨w.heap.size,3,none⟩=some (.int .i64 birth) /\
   w'.cell? ⟨w.heap.size,4,none⟩=some (.int .i64 s0)/\w'.cell? ⟨w.heap.size,5,none⟩=some (.int .i64 s1)/\w'.cell? ⟨w.heap.size,6,none⟩=some (.int .i64 s2)/\w'.cell? ⟨w.heap.size,7,none⟩=some (.int .i64 s3))
  (first
   |with_reducible exact hkeep.o _ (New.refl _).drew
   |with_reducible exact hkeep.o _ hN6.o
   |with_reducible exact hkeep.o _ hN7.o)
  (first
   |((go_at_call 96;(with_reducible refine(hps2.o _ (hN0H.o.next (New.refl W0).drew)).mono ?_);rintro e W6 ⟨P,c,R,C,rfl,hP,hn6⟩;have hN6:=Hd (New.next (New.refl W0).drew hn6);have hPH:=Hd hP;clear hn6 hP))
   |((go_at_call 148;(with_reducible refine(hgt.o _ P c R C hPH.o).mono ?_);rintro e W7 ⟨R7,B7,d7,rfl,hR7,hn7⟩;have hN7:=Hd (New.next hN6.o hn7);have hR7H:=Hd hR7;clear hn7 hR7)))
 all_goals go_wp2
 all_goals go_ret2
 all_goals exact⟨R7,rfl,hR7H.o,hN0H.o.next hN7.o⟩
end
end vault
namespace vault
open kit drive geom stripe
def a_3(A:VA)(s s':VS)(lo hi:Nat):Prop:=∀d j,d<A.n->lo<=j*A.n+d->j*A.n+d<hi->rdS (s'.ds d) j=rdS (s.ds d) j
structure b_F(A:VA)(s:VS)(bad:List Nat)(q:Ptr)(X:Nat->Nat):Prop where
 lost:∀c,c<L_ A q.ct->a_A A s q c=true->(q.ad+c)%A.n∈bad
 right:∀c,c<L_ A q.ct->a_A A s q c=false->∀k,k<128*a_a A q.ct c->pcD A s q c k=c_W X q.by_ A.p q.ct (wdA A) c k
section
variable {A:VA}(hA:VOk A)
include hA
theorem q_t(q:Ptr)(c k:Nat):((q.ad+c)/A.n+k)*A.n+(q.ad+c)%A.n=q.ad+c+k*A.n:=by
 have:=Nat.div_add_mod (q.ad+c) A.n;rw[Nat.add_mul,Nat.mul_comm ((q.ad+c)/A.n)];omega
theorem h_O{q:Ptr}{c k:Nat}(h1:1<=q.ct)(hc:c<L_ A q.ct)(hk:k<a_a A q.ct c):q.ad<=((q.ad+c)/A.n+k)*A.n+(q.ad+c)%A.n/\((q.ad+c)/A.n+k)*A.n+(q.ad+c)%A.n<q.ad+b_X A q.ct:=by
 rw[q_t hA];have:=q_s hA h1 hc hk;omega
theorem b_F.same{s s':VS}{bad:List Nat}{q:Ptr}{X:Nat->Nat}(h:b_F A s bad q X)(h1:1<=q.ct)(hs:a_3 A s s' q.ad (q.ad+b_X A q.ct))(hf:s'.fresh=s.fresh):b_F A s' bad q X:=by
 have hn:0<A.n:=by have:=hA.n2;omega
 have hrd:∀c k,c<L_ A q.ct->k<a_a A q.ct c->rdS (s'.ds ((q.ad+c)%A.n)) ((q.ad+c)/A.n+k)=rdS (s.ds ((q.ad+c)%A.n)) ((q.ad+c)/A.n+k):=fun c k hc hk=>by
  obtain⟨e1,e2⟩:=h_O hA h1 hc hk;exact hs _ _ (Nat.mod_lt _ hn) e1 e2
 have hls:∀c,c<L_ A q.ct->a_A A s' q c=a_A A s q c:=fun c hc=>by
  unfold a_A pcR e_x;have:(List.range (a_a A q.ct c)).any (fun k=>(rdS (s'.ds ((q.ad+c)%A.n)) ((q.ad+c)/A.n+k)).isNone)=(List.range (a_a A q.ct c)).any fun k=>(rdS (s.ds ((q.ad+c)%A.n)) ((q.ad+c)/A.n+k)).isNone:=by
   rw[Bool.eq_iff_iff,List.any_eq_true,List.any_eq_true];constructor
   ·rintro⟨k,hk,e⟩;exact⟨k,hk,by rw[hrd c k hc (List.mem_range.1 hk)]at e;exact e⟩
   ·rintro⟨k,hk,e⟩;exact⟨k,hk,by rw[hrd c k hc (List.mem_range.1 hk)];exact e⟩
  rw[hf,this];split<;>rfl
 refine⟨fun c hc hl=>h.lost c hc (by rw[<-hls c hc];exact hl),fun c hc hl k hk=>?_⟩
 rw[hls c hc]at hl;rw[<-h.right c hc hl k hk];have hl2:a_A A s' q c=false:=by rw[hls c hc];exact hl
 unfold a_A at hl hl2;unfold pcD;have g:∀t:VS,(pcR A t q c).isNone=false->pcR A t q c=some (c_2 (t.ds ((q.ad+c)%A.n)) ((q.ad+c)/A.n)):=fun t ht=>by
  unfold pcR e_x at ht ⊢;split
  ·rename_i e;rw[if_pos e]at ht;cases ht
  ·rfl
 rw[g s hl,g s' hl2];show c_2 _ _ k=c_2 _ _ k;unfold c_2;rw[hrd c (k/128) hc (by omega)]
theorem b_F.held{s:VS}{bad:List Nat}{q:Ptr}{X:Nat->Nat}(h:b_F A s bad q X)(h1:1<=q.ct)(hb:bad.length<=mxB A):Held A s q X:=by
 obtain⟨_,hn2,_⟩:=c_P hA h1;have key:∀(l:List Nat) (g:List Nat),l.Nodup->(∀i∈l,(q.ad+i)%A.n∈g/\i<A.n)->l.length<=g.length:=by
  intro l
  induction l with
  |nil=>intro g _ _;exact Nat.zero_le _
  |cons a l ih=>
   intro g hn hl;obtain⟨n1,n2⟩:=List.nodup_cons.1 hn;have ha:=hl a (List.mem_cons_self ..);have:=ih (g.erase ((q.ad+a)%A.n)) n2 fun i hi=>by
    have hi2:=hl i (List.mem_cons_of_mem _ hi);refine⟨(List.mem_erase_of_ne fun e=>n1 ?_).2 hi2.1,hi2.2⟩;rcases Nat.lt_trichotomy i a with h4|h4|h4
    ·exact absurd e.symm (c_a h4 ha.2)
    ·rw[<-h4];exact hi
    ·exact absurd e (c_a h4 hi2.2)
   rw[List.length_erase_of_mem ha.1]at this;have:=List.length_pos_of_mem ha.1;rw[List.length_cons];omega
 have hle:=key (S_ (a_A A s q) (L_ A q.ct)) bad g_f fun c hc=>by
  have:=e_4.1 hc;exact⟨h.lost c this.1 this.2,by omega⟩
 unfold mxB at hb
 by_cases hw:wdA A=1
 ·rw[if_pos hw]at hb
  exact⟨Nat.le_trans hle hb,.inr (by have:=e_M (wd:=wdA A) (ct:=q.ct) (by omega) h1;have:=h_M (wd:=wdA A) (ct:=q.ct) (by omega) h1;omega),h.right⟩
 ·rw[if_neg hw]at hb
  have h0:(S_ (a_A A s q) (L_ A q.ct)).length=0:=by omega
  exact⟨by omega,.inl (List.length_eq_zero_iff.1 h0),h.right⟩
end
section
variable {A:VA}
theorem m_v(q:Ptr)(X:Nat->Nat)(s:VS)(c:Nat):∀k,b_B A q X s c k={s with ds:=(b_B A q X s c k).ds}
 |0=>rfl
 |k+1=>by
  show VS.at _ _ _=_;rw[m_v q X s c k];rfl
theorem f_w(q:Ptr)(X:Nat->Nat)(wb:Nat->Bool)(s:VS):∀c,Z_ A q X wb s c={s with ds:=(Z_ A q X wb s c).ds}
 |0=>rfl
 |c+1=>by
  unfold Z_;split
  ·rw[m_v,f_w q X wb s c]
  ·exact f_w q X wb s c
theorem d_e(q:Ptr)(X:Nat->Nat)(s:VS)(c d:Nat):∀k,((b_B A q X s c k).ds d).dead=(s.ds d).dead
 |0=>rfl
 |k+1=>by
  show(if d=(q.ad+c)%A.n then _ else _:DS).dead=_;split
  ·rename_i e;rw[f_Y,<-e,d_e q X s c d k]
  ·exact d_e q X s c d k
theorem c_c(q:Ptr)(X:Nat->Nat)(wb:Nat->Bool)(s:VS)(d:Nat):∀c,((Z_ A q X wb s c).ds d).dead=(s.ds d).dead
 |0=>rfl
 |c+1=>by
  unfold Z_;split
  ·rw[d_e,c_c q X wb s d c]
  ·exact c_c q X wb s d c
theorem i_p(q:Ptr)(X:Nat->Nat)(s:VS)(c d j:Nat):∀k,(∀i,i<k->¬(d=(q.ad+c)%A.n/\j=(q.ad+c)/A.n+i))->rdS ((b_B A q X s c k).ds d) j=rdS (s.ds d) j
 |0,_=>rfl
 |k+1,h=>by
  show rdS (if d=(q.ad+c)%A.n then _ else _:DS) j=_;rw[<-i_p q X s c d j k fun i hi=>h i (by omega)]
  split
  ·rename_i e
   subst e;rw[e_s];split
   ·rename_i hd
    unfold rdS;rw[if_pos hd]
   ·rw[if_neg fun h2=>h k (Nat.lt_succ_self k) ⟨rfl,h2.symm⟩]
  ·rfl
theorem j_w(q:Ptr)(X:Nat->Nat)(s:VS)(c i:Nat)(hd:(s.ds ((q.ad+c)%A.n)).dead=false):∀k,i<k->rdS ((b_B A q X s c k).ds ((q.ad+c)%A.n)) ((q.ad+c)/A.n+i)=some (k_E A q X c i)
 |0,h=>absurd h (Nat.not_lt_zero i)
 |k+1,h=>by
  show rdS (if _=_ then _ else _:DS) _=_;rw[if_pos rfl,e_s,d_e,hd,if_neg (by simp)]
  by_cases e:i=k
  ·subst e;rw[if_pos rfl]
  ·rw[if_neg (by omega)]
   exact j_w q X s c i hd k (by omega)
theorem i_q(q:Ptr)(X:Nat->Nat)(wb:Nat->Bool)(s:VS)(d j:Nat):∀c,(∀i k,i<c->k<a_a A q.ct i->¬(d=(q.ad+i)%A.n/\j=(q.ad+i)/A.n+k))->rdS ((Z_ A q X wb s c).ds d) j=rdS (s.ds d) j
 |0,_=>rfl
 |c+1,h=>by
  unfold Z_;split
  ·rw[i_p q X _ c d j _ fun i hi=>h c i (Nat.lt_succ_self c) hi]
   exact i_q q X wb s d j c fun i k hi hk=>h i k (by omega) hk
  ·exact i_q q X wb s d j c fun i k hi hk=>h i k (by omega) hk
theorem j_x(q:Ptr)(X:Nat->Nat)(wb:Nat->Bool)(s:VS)(i k:Nat)(hd:(s.ds ((q.ad+i)%A.n)).dead=false)(hk:k<a_a A q.ct i)(hw:wb i=true):∀c,i<c->c<=A.n->rdS ((Z_ A q X wb s c).ds ((q.ad+i)%A.n)) ((q.ad+i)/A.n+k)=some (k_E A q X i k)
 |0,h,_=>absurd h (Nat.not_lt_zero i)
 |c+1,h,hc=>by
  unfold Z_
  by_cases e:i=c
  ·subst e
   rw[if_pos hw];exact j_w q X _ i k (by rw[c_c];exact hd) _ hk
  ·have ih:=j_x q X wb s i k hd hk hw c (by omega) (by omega)
   split
   ·rw[i_p q X _ c _ _ _ fun a ha h2=>c_a (show i<c by omega) (by omega) h2.1.symm]
    exact ih
   ·exact ih
theorem j_y(q:Ptr)(X:Nat->Nat)(wb:Nat->Bool)(s:VS)(d:Nat){m:Nat}(hm:∀c,a_a A q.ct c<=m):∀c,c<=A.n->((Z_ A q X wb s c).ds d).ws.length<=(s.ds d).ws.length+m
 |0,_=>Nat.le_add_right _ _
 |c+1,h=>by
  have ih:=j_y q X wb s d hm c (by omega)
  unfold Z_;split
  ·by_cases e:d=(q.ad+c)%A.n
   ·subst e
    have h1:=g_h (A:=A) q X (Z_ A q X wb s c) c (a_a A q.ct c);rw[c_l q X wb s c fun i hi=>c_a hi (by omega)]at h1
    have:=hm c;omega
   ·rw[d_D q X _ c e]
    exact ih
  ·exact ih
theorem h_v(hA:VOk A)(q:Ptr)(X:Nat->Nat)(wb:Nat->Bool)(s:VS)(h1:1<=q.ct){lo hi:Nat}(h:hi<=q.ad\/q.ad+b_X A q.ct<=lo):a_3 A s (Z_ A q X wb s (L_ A q.ct)) lo hi:=fun d j hd hl hh=>
 i_q q X wb s d j _ fun i k hi hk h2=>by
  obtain⟨e1,e2⟩:=h_O hA h1 hi hk;rw[<-h2.1,<-h2.2]at e1 e2;omega
theorem h_w(hA:VOk A)(q:Ptr)(X:Nat->Nat)(s:VS)(bad:List Nat)(h1:1<=q.ct)(hb:∀d,d<A.n->((s.ds d).dead=true\/s.fresh d=true)->d∈bad):b_F A (Z_ A q X (fun _=>true) s (L_ A q.ct)) bad q X:=by
 have hn:0<A.n:=by have:=hA.n2;omega
 obtain⟨_,hn2,_⟩:=c_P hA h1;have hfr:(Z_ A q X (fun _=>true) s (L_ A q.ct)).fresh=s.fresh:=by rw[f_w]
 have hrd:∀c k,c<L_ A q.ct->k<a_a A q.ct c->(s.ds ((q.ad+c)%A.n)).dead=false->rdS ((Z_ A q X (fun _=>true) s (L_ A q.ct)).ds ((q.ad+c)%A.n)) ((q.ad+c)/A.n+k)=some (k_E A q X c k):=fun c k hc hk hd=>j_x q X _ s c k hd hk rfl _ hc hn2;refine⟨fun c hc hl=>?_,fun c hc hl k hk=>?_⟩
 ·have hdn:(q.ad+c)%A.n<A.n:=Nat.mod_lt _ hn
  refine hb _ hdn (Classical.byContradiction fun hno=>?_);have h2:(s.ds ((q.ad+c)%A.n)).dead=false:=by
   cases e:(s.ds ((q.ad+c)%A.n)).dead with
   |false=>rfl
   |true=>exact absurd (.inl e) hno
  have h3:s.fresh ((q.ad+c)%A.n)=false:=by
   cases e:s.fresh ((q.ad+c)%A.n)with
   |false=>rfl
   |true=>exact absurd (.inr e) hno
  unfold a_A pcR e_x at hl;rw[if_neg]at hl
  ·cases hl
  ·rw[hfr,h3,Bool.false_or,List.any_eq_true]
   rintro⟨k,hk,e⟩;rw[hrd c k hc (List.mem_range.1 hk) h2]at e;cases e
 ·unfold a_A at hl
  have g:pcR A (Z_ A q X (fun _=>true) s (L_ A q.ct)) q c=some (c_2 ((Z_ A q X (fun _=>true) s (L_ A q.ct)).ds ((q.ad+c)%A.n)) ((q.ad+c)/A.n))/\∀k,k<a_a A q.ct c->rdS ((Z_ A q X (fun _=>true) s (L_ A q.ct)).ds ((q.ad+c)%A.n)) ((q.ad+c)/A.n+k)≠none:=by
   unfold pcR e_x at hl ⊢;split at hl
   ·cases hl
   ·rename_i e
    rw[if_neg e];refine⟨rfl,fun k hk h0=>e ?_⟩;rw[Bool.or_eq_true,List.any_eq_true];exact .inr ⟨k,List.mem_range.2 hk,by rw[h0];rfl⟩
  have hd:(s.ds ((q.ad+c)%A.n)).dead=false:=by
   cases e:(s.ds ((q.ad+c)%A.n)).dead with
   |false=>rfl
   |true=>
    refine absurd ?_ (g.2 (k/128) (by omega))
    unfold rdS;rw[if_pos (by rw[c_c];exact e)]
  unfold pcD;rw[g.1];show c_2 _ _ k=_;unfold c_2;rw[hrd c (k/128) hc (by omega) hd]
  show c_W _ _ _ _ _ _ _=_;rw[show 128*(k/128)+k%128=k by omega]
end
structure PtU(A:VA)(q:Ptr)(b:Bk):Prop where
 ad:q.ad=4*A.n+b.1*uA A
 cu:b.2=cU A q.ct
 c1:1<=q.ct
 c2:q.ct<=32
 hi:b.1+b.2<=508
 bi : -9223372036854775808<=q.birth/\q.birth<=9223372036854775807
theorem PtU.tot{A:VA}(hA:VOk A){q:Ptr}{b:Bk}(h:PtU A q b):q.ad+b_X A q.ct<=4*A.n+(b.1+b.2)*uA A:=by
 have htot:=i_J hA q.ct;rw[h.ad,h.cu,Nat.add_mul];omega
end vault
namespace vault
set_option maxRecDepth 100000
open Go.ChangeShapes Go.WideShapes Go.ChangeAt kit pool Go.Deep Go.Maps
def f_l(A:VA)(s:VS)(bad:List Nat)(f:Nat->Nat)(at_:Option Ptr):Prop:=(∀k,f k<256)/\match at_ with
 |none=>True
 |some q=>i_R A q f/\q.by_=256/\b_F A s bad q f/\∃u,PtU A q u/\u∈s.pg
def k_h(f:Nat->Nat)(w:World)(e:Ending)(w':World):Prop:=∃g off c,e=.returned (.tuple #[.slice (some ⟨g,off,none⟩) 256 c,.int .i64 0])/\g<w'.heap.size/\(∀i,i<256->w'.cell? ⟨g,off+i,none⟩=some (.int .u8 (f i:Nat)))/\256<=c/\c<=maxLen/\New w w'
theorem g_3{A:VA}{o:Nat->Nat}{s:VS}(hA:VOk A)(w:World)(h:VM A o s w)(hd:DOk A s){bad:List Nat}(hbad:bad.length<=mxB A)(b:Nat)(f:Nat->Nat)(at_:Option Ptr)(hb:BlM o w b f at_)(hk:f_l A s bad f at_) :
  Calls prog 292 #[ptr A.v,ptr b] w (k_h f w):=by
 obtain⟨hb0,hb⟩:=hb;obtain⟨hk8,hk⟩:=hk;cases at_ with
 |none=>
  obtain⟨g,off,cs,c,h1,h2,h3,h4,h5,h6⟩:=hb;have c0:=h1.cell 0;have c1:=h1.cell 1;simp at c0 c1;have hfin:Hid (k_h f w (.returned (.tuple #[.slice (some ⟨g,off,none⟩) 256 c,.int .i64 0])) w):=⟨g,off,c,rfl,h3.lt,fun i hi=>by rw[h3.cell];exact h4 i hi,h5,h6,New.refl w⟩
  clear h hd h1 h3 h4;go_enter func292,ntmps292;go_wp2;go_ret2;exact hfin.o
 |some q=>
  obtain⟨g,h1,h2,h3⟩:=hb;obtain⟨k1,k2,k3,_⟩:=hk;have hcall:=Hd (h_J hA w h hd q f k1 (k3.held hA (by have:=k1.ct;have:=k1.b1;omega) hbad))
  rw[k2]at hcall;obtain⟨ad,ct,by_,birth,s0,s1,s2,s3⟩:=q;have c1:=h1.cell 1;have l0:=h3.cell 0;have l1:=h3.cell 1;have l2:=h3.cell 2;have l3:=h3.cell 3;have l4:=h3.cell 4;have l5:=h3.cell 5;have l6:=h3.cell 6;have l7:=h3.cell 7;simp at c1 l0 l1 l2 l3 l4 l5 l6 l7;clear h hd h1 h3 k1 k2 k3;go_enter func292,ntmps292;go_wp2_with fail;refine hcall.o.mono ?_;rintro e w2 ⟨R,rfl,hR,hn⟩;obtain⟨g2,off,rfl,hg,hcs⟩:=hR.2 (by omega)
  have hfin:Hid (k_h f w (.returned (.tuple #[.slice (some ⟨g2,off,none⟩) 256 256,.int .i64 0])) w2):=⟨g2,off,256,rfl,hg,hcs,Nat.le_refl _,by unfold maxLen;omega,hn⟩
  clear hR hg hcs hn;go_wp2;go_ret2;exact hfin.o
theorem size_any(ob:Nat)(cs:Array Value)(n:Nat)(w:World)(h:Blk w ob 100 cs)(h1:cs[1]?=some (.int .i64 n)):Calls prog 290 #[ptr ob] w fun e w'=>e=.returned (.int .i64 n)/\w'=w:=by
 have c1:=(h.cell 1).trans h1;clear h h1;go_enter func290,ntmps290;go_wp2;go_ret;exact⟨rfl,rfl⟩
def byF(bc:Nat->Nat->Nat)(l:List Nat)(i:Nat):Nat:=bc (l.getD (i/256) 0) (i%256)
def byO(bc:Nat->Nat->Nat)(g:OG):By:=⟨g.sz,byF bc g.bl⟩
theorem p_p(k:IntKind)(f:Nat->Nat)(a b:Nat):E_ k f (a+b)=E_ k f a++E_ k (fun i=>f (a+i)) b:=by
 unfold E_;rw[List.range_add,List.map_append,List.map_map];rfl
theorem r_s(k:IntKind)(f:Nat->Nat)(m i:Nat)(h:i<m):(E_ k f m)[i]?=some (.int k (f i:Nat)):=by
 unfold E_;simp[h]
def f_k(A:VA)(o:Nat->Nat)(s:VS)(bad:List Nat)(bc:Nat->Nat->Nat)(w:World)(l:List Nat):Prop:=∀b,b∈l->∃at_,BlM o w b (bc b) at_/\f_l A s bad (bc b) at_
theorem BlM.new{o:Nat->Nat}{w w':World}{b:Nat}{f:Nat->Nat}{at_:Option Ptr}(h:BlM o w b f at_)(hn:New w w'):BlM o w' b f at_:=h.alt (K:=fun _=>False) (Alt.of_new hn) (fun _ _ f=>f) (s_.refl o w)
set_option maxHeartbeats 4000000 in
theorem k_S{A:VA}{o:Nat->Nat}{s:VS}(hA:VOk A)(w:World)(h:VM A o s w)(hd:DOk A s){bad:List Nat}(hbad:bad.length<=mxB A)(bc:Nat->Nat->Nat)(ob:Nat)(g:OG)(off count:Nat)(hv:ObV A.v o w (ptr ob) g)(hg:g.sz<=100000)(hgl:g.sz<=256*g.bl.length)(hb:f_k A o s bad bc w g.bl)(ho:off<=9223372036854775807)(hc:count<=9223372036854775807) :
  Calls prog 288 #[ptr ob,.int .i64 (off:Nat),.int .i64 (count:Nat)] w fun e w'=>∃u,e=.returned (.tuple #[u,.int .i64 0])/\Bs w' u (h_m (byO bc g) off count)/\b_l w.heap.size u/\New w w':=by
 obtain⟨ob',bv,e,_,hbo,A1,c1,rfl,q1,q2,_,q4⟩:=hv;injection e with e;injection e with e;injection e with e;subst e;have z0:=hbo.cell 0;have z1:=hbo.cell 1;have z2:=hbo.cell 2;simp at z0 z1 z2;obtain⟨n,hn⟩:∃n,Hid (n=g.sz):=⟨_,rfl⟩;rw[<-hn.o]at z1
 by_cases hle:n<=off
 ·have hleI:(n:Int)<=(off:Int):=by omega
  have hr:Hid (Bs w (.slice none 0 0) (h_m (byO bc g) off count)):=(Bs.nil w).congr (by show 0=(if g.sz<=off then 0 else _);rw[if_pos (by rw[<-hn.o];exact hle)]) fun i hi=>absurd hi (Nat.not_lt_zero i)
  clear h hd hbo q4 hb;go_enter func288,ntmps288;go_wp2;go_ret2;exact⟨_,rfl,hr.o,b_l.nil _,New.refl w⟩
 ·have hleI:¬(n:Int)<=(off:Int):=by omega
  obtain⟨M,hM⟩:∃M,Hid (M=min count (n-off)):=⟨_,rfl⟩;obtain⟨fin,hfin⟩:∃fin,Hid (fin=off+M):=⟨_,rfl⟩;have hmi:min (count:Int) ((n:Int)-(off:Int))=(M:Int):=by rw[hM.o];omega
  have hof:(off:Int)+(M:Int)=(fin:Int):=by rw[hfin.o];omega
  have hfn:fin<=n:=by rw[hfin.o,hM.o];omega
  have hnb:n<=100000:=by rw[hn.o];exact hg
  have hof2:off<=fin:=by rw[hfin.o];omega
  have hoffn:off<n:=by omega
  obtain⟨J,hJ⟩:∃J,Hid (J=g.bl.length):=⟨_,rfl⟩;rw[<-hJ.o]at z2 q1 q4;have hnJ:n<=256*J:=by rw[hn.o,hJ.o];exact hgl
  have q4:=Hd q4;have hVH:=Hd h;have hdH:=Hd hd;have hbH:=Hd hb;obtain⟨F,hF⟩:∃F,Hid (F=fun j=>byF bc g.bl (off+j)):=⟨_,rfl⟩;have hcellH:Hid (∀w',New w w'->w'.cell? ⟨ob,0,none⟩=some (ptr A.v)/\w'.cell? ⟨ob,2,none⟩=some (.slice A1 J c1)):=fun w' hn'=>⟨(hn'.cell (a_ z0)).trans z0,(hn'.cell (a_ z2)).trans z2⟩;obtain⟨i1,hi1,hy0,hy1,hy2⟩:=info_parts drive.infoU8;clear h hd hb hbo z0 z2 hle;go_enter func288,ntmps288;go_wp2_with fail;go_loopw [1,9] (fun x v wr=>∃cur:Nat,x=.int .i64 cur/\off<=cur/\cur<=fin/\Hid (wr.ownsRow w.heap.size 5 1 v (cur-off) (E_ .u8 F (cur-off)))/\Hid (New w wr)) (fun x _ _=>fin-(intOf x).toNat);case atStart=>exact⟨off,rfl,Nat.le_refl _,hof2,by rw[Nat.sub_self];exact World.ownsRow_nil _ _ _ _,Hd (New.refl w)⟩
  case round=>
   obtain⟨cur,rfl,hc1,hc2,hO,hN⟩:=hrel
   by_cases hlt:cur<fin
   ·have hiI:(cur:Int)<(fin:Int):=by omega
    obtain⟨t,ht⟩:∃t,Hid (t=cur%256):=⟨_,rfl⟩;obtain⟨r,hr⟩:∃r,Hid (r=256-t):=⟨_,rfl⟩;obtain⟨k,hk⟩:∃k,Hid (k=cur/256):=⟨_,rfl⟩;obtain⟨m,hm⟩:∃m,Hid (m=min r (fin-cur)):=⟨_,rfl⟩;have ht2:t<256:=by rw[ht.o];exact Nat.mod_lt _ (by decide)
    have htr:t+r=256:=by rw[hr.o];omega
    have hkJ:k<J:=by rw[hk.o];omega
    have hm0:0<m:=by rw[hm.o];omega
    have hmr:m<=r:=by rw[hm.o];omega
    have hmf:cur+m<=fin:=by rw[hm.o];omega
    have hck:cur=256*k+t:=by rw[hk.o,ht.o];omega
    have htrH:=Hd htr;have hckH:=Hd hck;have e1:(cur:Int).tdiv 256=(k:Int):=by rw[Int.tdiv_eq_ediv_of_nonneg (by omega),hk.o];omega
    have e1w:IntKind.i64.wrap (k:Int)=(k:Int):=IntWalk.i64_in _ (by omega)
    have e2:(cur:Int).tmod 256=(t:Int):=by rw[Int.tmod_eq_emod_of_nonneg (by omega),ht.o];omega
    have e3:min (r:Int) ((fin:Int)-(cur:Int))=(m:Int):=by rw[hm.o];omega
    obtain⟨g2,off2,cs,rfl,_,hrow,hcs⟩:=q4.o (by omega)
    obtain⟨b,hb'⟩:∃b,g.bl[k]?=some b:=⟨_,List.getElem?_eq_getElem (by rw[<-hJ.o];exact hkJ)⟩
    have hbm:=List.mem_of_getElem? hb';have hcb:=Hd ((hrow.cell (off2+k)).trans (hcs k b hb'));have hpg:Hid (∀w',New w w'->Calls prog 292 #[ptr A.v,ptr b] w' fun e w''=>∃g off c,e=.returned (.tuple #[.slice (some ⟨g,off,none⟩) (t+r) (t+c),.int .i64 0])/\r<=c/\t+c<=maxLen/\g<w''.heap.size/\(∀i,i<256->w''.cell? ⟨g,off+i,none⟩=some (.int .u8 (bc b i:Nat)))/\New w' w''):=fun w' hn'=>by
     obtain⟨at_,a1,a2⟩:=hbH.o b hbm;refine(g_3 hA w' (hVH.o.new hn') hdH.o hbad b (bc b) at_ (a1.new hn') a2).mono ?_;rintro e w'' ⟨g,off,c,rfl,h1,h2,h3,h4,h5⟩;exact⟨g,off,c-t,by rw[htr,show t+(c-t)=c by omega],by omega,by omega,h1,h2,h5⟩
    have hFb:Hid (∀i,i<m->F (cur-off+i)=bc b (t+i)):=fun i hi=>by
     rw[hF.o];show byF bc g.bl (off+(cur-off+i))=_;unfold byF;rw[show off+(cur-off+i)=256*k+(t+i) by omega,show(256*k+(t+i))/256=k by omega,show(256*k+(t+i))%256=t+i by omega,List.getD,hb']
     rfl
    have hkeep:Hid (∀w',New wr w'->w'.cell? ⟨ob,0,none⟩=some (ptr A.v)/\w'.cell? ⟨ob,2,none⟩=some (.slice (some ⟨g2,off2,none⟩) J c1)/\w'.cell? ⟨g2,off2+k,none⟩=some (ptr b)):=fun w' hn'=>⟨(hcellH.o w' (hN.o.next hn')).1,(hcellH.o w' (hN.o.next hn')).2,((hN.o.next hn').cell (a_ hcb.o)).trans hcb.o⟩;have kk:Hid (wr.cell? ⟨ob,0,none⟩=some (ptr A.v)/\wr.cell? ⟨ob,2,none⟩=some (.slice (some ⟨g2,off2,none⟩) J c1)/\wr.cell? ⟨g2,off2+k,none⟩=some (ptr b)):=hkeep.o _ (New.refl _);obtain⟨k0,k1,k2⟩:=kk.o;have hkI:(k:Int)<(J:Int):=by omega
    have hk0:(0:Int)<=(k:Int):=by omega
    clear hrow hcs hbm hck htr;obtain⟨Rv,kv,rfl⟩:=j_ hO.o;go_wp2_with fail;go_region_held3 (fun w'=>w'.cell? ⟨ob,0,none⟩=some (ptr A.v)/\w'.cell? ⟨ob,2,none⟩=some (.slice (some ⟨g2,off2,none⟩) J c1)/\w'.cell? ⟨g2,off2+k,none⟩=some (ptr b))
     (first
      |with_reducible exact hkeep.o _ (New.refl _).drew
      |with_reducible exact hkeep.o _ hn6.o)
     ((go_at_call 292;refine(hpg.o _ hN.o.drew).mono ?_;rintro e W6 ⟨g3,off3,c3,rfl,d3,d4,d1,d2,d5⟩;have hn6:=Hd (New.next (New.refl wr).drew d5);have hd2:=Hd (And.intro d1 d2);clear d1 d2 d5))
    have hN6:=Hd (hN.o.next hn6.o);have hO6:=Hd (c_ hO.o hn6.o);have hc40:¬c3=0:=by omega
    have hmc:m<=c3:=by omega
    have b1:(0:Int)<=(t:Int):=by omega
    have b2:(t:Int)<=((t+r:Nat):Int):=by omega
    have b2':(t:Int)<=((t+c3:Nat):Int):=by omega
    have b3:(0:Int)<=(m:Int):=by omega
    have b4:(m:Int)<=(c3:Int):=by omega
    unfold maxLen at d4;clear kk k0 k1 k2 hpg hkeep hN hO hcb;have hnews:Hid (∀j u,(E_ .u8 (fun i=>F (cur-off+i)) m)[j]?=some u->W6.cell? ((⟨g3,off3+t,none⟩:Addr).add j)=some u):=fun j u hj=>by
     have hjm:j<m:=by
      have:=(List.getElem?_eq_some_iff.1 hj).1
      rwa [b_y]at this
     rw[r_s _ _ _ _ hjm]at hj;injection hj with hj;subst hj;rw[i_,hFb.o j hjm,Nat.add_assoc];exact hd2.o.2 (t+j) (by have:=htrH.o;omega)
    have happ:Hid (E_ .u8 F (cur-off)++E_ .u8 (fun i=>F (cur-off+i)) m=E_ .u8 F (cur+m-off)):=by
     show _=_;rw[<-p_p,show cur-off+m=cur+m-off by omega]
    have hone:Hid (∀u∈E_ .u8 (fun i=>F (cur-off+i)) m,u.oneCell'=true):=fun u hu=>by
     unfold E_ at hu;obtain⟨j,_,rfl⟩:=List.mem_map.1 hu;rfl
    have hln:Hid ((E_ .u8 (fun i=>F (cur-off+i)) m).length=m*1):=by
     show _=_;rw[b_y];omega
    have hsz6:=Hd hN6.o.size;obtain⟨z,hz⟩:∃z,Hid (z=cur-off):=⟨_,rfl⟩;have hz2:Hid (z+m=cur+m-off):=by show _=_;rw[hz.o];omega
    have hzb:z+m<=100000:=by rw[hz.o];omega
    rw[<-hz.o]at hO6 hnews happ hone hln ⊢;clear hFb hd2;have key:Hid (∀(g7 c7:Nat) (w7:World),w7.ownsRow w.heap.size 5 1 (.slice (some ⟨g7,0,none⟩) (z+m) c7) (z+m) (E_ .u8 F z++E_ .u8 (fun i=>F (z+i)) m)->W6.grownBy w7 (Value.slice Rv z kv).ownBlock->Hid (w7.ownsRow w.heap.size 5 1 (.slice (some ⟨g7,0,none⟩) (z+m) c7) (cur+m-off) (E_ .u8 F (cur+m-off)))/\Hid (New w w7)):=fun g7 c7 w7 ho7 hg7=>by
     rw[happ.o]at ho7;refine⟨?_,Below.grown hN6.o hg7 hsz6.o (fun r e=>(hO6.o.lt r e).1)⟩;rw[<-hz2.o];rw[<-hz2.o]at ho7;exact ho7
    go_wp2_with (first
     |(at_builtin;refine wpList_append_lies _ rfl (.tmp 62) (.tmp 63) 35 rfl w.heap.size 5 i1 _ 1 1 underlying35 hi1 hy0 hy1 hy2 rfl (by decide) (.slice Rv z kv) z (E_ .u8 F z) rfl hO6.o ⟨g3,off3+t,none⟩ m c3 (E_ .u8 (fun i=>F (z+i)) m) rfl hln.o hnews.o hone.o hm0 (by unfold maxLen;omega) (by omega) hsz6.o _ rfl ?_
       intro g7 c7 w7 ho7 hg7 ha7 hl7;obtain⟨hO7,hN7⟩:=key.o g7 c7 w7 ho7 hg7;clear ho7 hg7 ha7 hl7))
    go_roundw;case rel=>exact⟨cur+m,by go_num,by omega,hmf,hO7,hN7⟩
    case measure=>simp[intOf];omega
   ·obtain rfl:cur=fin:=by omega
    have hiI:¬(cur:Int)<(cur:Int):=by omega
    have hres:Hid (Bs wr u9 (h_m (byO bc g) off count)/\b_l w.heap.size u9/\New w wr):=by
     refine⟨(Bs.own hO.o).congr ?_ fun i hi=>?_,fun k hk=>(hO.o.lt k hk).1,hN.o⟩
     ·show cur-off=(if g.sz<=off then 0 else min count (g.sz-off))
      rw[if_neg (by rw[<-hn.o];omega),<-hn.o,<-hM.o,hfin.o]
      omega
     ·show F i=byF bc g.bl (off+i)
      rw[hF.o]
    clear hO hN;go_wp2;go_ret2;exact⟨_,rfl,hres.o⟩
end vault
namespace pool
set_option maxRecDepth 100000
open Go.ChangeShapes Go.WideShapes Go.ChangeAt kit Go.Deep Go.Maps
theorem q_r(s:Nm)(w:World):∃c w1,(convert 9 35 (encStr s)).run prog w=.ok (.slice (some ⟨w.heap.size,0,none⟩) s.length c) w1/\New w w1/\∀j,j<s.length->w1.cell? ⟨w.heap.size,j,none⟩=some (.int .u8 ((s.getD j 0).toNat:Nat)):=by
 have h:=run_bytes_of_string (P:=prog) w 9 35 5 ⟨s.toArray⟩ underlying9 underlying35 underlying5;refine⟨_,_,h,((New.refl w).drew).alloc _,fun j hj=>?_⟩;have h2:=bytesRow_at ⟨s.toArray⟩ (grownCap w (ByteArray.size ⟨s.toArray⟩) 0 5) j (by simpa using hj)
 have h3:=cell_of_row (w.drew.alloc (.cells (bytesRow ⟨s.toArray⟩ (grownCap w (ByteArray.size ⟨s.toArray⟩) 0 5)) 5 ((bytesRow ⟨s.toArray⟩ (grownCap w (ByteArray.size ⟨s.toArray⟩) 0 5)).size,(bytesRow ⟨s.toArray⟩ (grownCap w (ByteArray.size ⟨s.toArray⟩) 0 5)).size+1))) w.heap.size j _ _ _ (heap_alloc_new w.drew _);rw[h3,h2];simp[List.getD,hj]
theorem q_G(p:UInt8->Bool)(l:List UInt8)(i:Nat)(h:i<l.length):(l.take (i+1)).all p=((l.take i).all p&&p (l.getD i 0)):=by
 rw[List.take_add_one,List.getElem?_eq_getElem h,Option.toList_some,List.all_append];simp[List.getD,h]
theorem t_2(c:UInt8):okB c=true↔(97<=c.toNat/\c.toNat<=122)\/(48<=c.toNat/\c.toNat<=57):=by
 unfold okB;rw[Bool.or_eq_true,Bool.and_eq_true,Bool.and_eq_true,decide_eq_true_eq,decide_eq_true_eq,decide_eq_true_eq,decide_eq_true_eq]
theorem k_i(s:Nm)(hs:s.length<=maxLen)(w:World):Calls prog 109 #[encStr s] w fun e w'=>e=.returned (.bool (c_X s))/\New w w':=by
 unfold maxLen at hs;obtain⟨c,w1,hcv,hn,hcell⟩:=q_r s w;have hcell:=Hd hcell;have hnH:=Hd hn;obtain⟨n,hnn⟩:∃n,n=s.length:=⟨_,rfl⟩;have hnl:Hid (n=s.length):=hnn;rw[<-hnn]at hcv hs;obtain⟨v,hv⟩:∃v,Hid (v=encStr s):=⟨_,rfl⟩;have hlen:∀ty,(Builtin.len_ #[9] ty #[v]).run prog w1=.ok (.int .i64 (n:Nat)) w1:=fun ty=>by
  rw[hv.o,hnn];simp[Builtin.len_,run_underlying underlying9,goInt,Result.andThen];rfl
 rw[<-hv.o]at hcv ⊢;clear hn hnn;go_enter func109,ntmps109;go_wp2_with fail;go_loopw [8] (fun x wr=>∃i,x=.int .i64 (i:Nat)/\i<=n/\Hid ((s.take i).all okB=true)/\w1=wr) (fun x _=>n-(intOf x).toNat);case atStart=>exact⟨0,rfl,Nat.zero_le _,Hd rfl,rfl⟩
 case round=>
  obtain⟨i,rfl,hi,hok,rfl⟩:=hrel
  by_cases hlt:i<n
  ·have e0:=hcell.o i (by have:=hnl.o;omega)
   have hil:(i:Int)<(n:Int):=by omega
   have hmo:=Hd (q_G okB s i (by have:=hnl.o;omega))
   have hoi:=Hd (t_2 (s.getD i 0));obtain⟨b,hb⟩:∃b,Hid (b=s.getD i 0):=⟨_,rfl⟩;rw[<-hb.o]at e0 hmo hoi;obtain⟨k,hk⟩:∃k,Hid (k=b.toNat):=⟨_,rfl⟩;rw[<-hk.o]at e0 hoi
   by_cases hg:(97<=k/\k<=122)\/(48<=k/\k<=57)
   ·have hyes:Hid ((s.take (i+1)).all okB=true):=by
     show _=true;rw[hmo.o,hok.o,hoi.o.2 hg];rfl
    rcases hg with⟨h1,h2⟩|⟨h1,h2⟩
    ·have h1':¬(k:Int)<97:=by omega
     have h2':¬(122:Int)<(k:Int):=by omega
     go_wp2;go_roundw;case rel=>exact⟨i+1,by go_num,by omega,hyes,trivial⟩
     case measure=>simp[intOf];omega
    ·have h0':(k:Int)<97:=by omega
     have h1':¬(k:Int)<48:=by omega
     have h2':¬(57:Int)<(k:Int):=by omega
     go_wp2;go_roundw;case rel=>exact⟨i+1,by go_num,by omega,hyes,trivial⟩
     case measure=>simp[intOf];omega
   ·have hbad:Hid (c_X s=false):=by
     have hbf:okB b=false:=by
      cases h:okB b with
      |false=>rfl
      |true=>exact absurd (hoi.o.1 h) hg
     show _=false;unfold c_X;have h3:=hmo.o;rw[hbf,Bool.and_false]at h3;have:s.all okB=false:=by
      cases h:s.all okB with
      |false=>rfl
      |true=>
       rw[List.all_eq_true]at h;rw[List.all_eq_false]at h3;obtain⟨x,hx,hx2⟩:=h3;exact absurd (h x (List.mem_of_mem_take hx)) hx2
     rw[this,Bool.false_and]
    by_cases h1:k<97
    ·have h1':(k:Int)<97:=by omega
     by_cases h2:k<48
     ·have h2':(k:Int)<48:=by omega
      go_wp2;exact bodyPost_ret (v:=.bool false) (by simp[results,results109,go_sem]) rfl ⟨by rw[hbad.o],hnH.o⟩
     ·have h2':¬(k:Int)<48:=by omega
      have h3':(57:Int)<(k:Int):=by omega
      go_wp2;exact bodyPost_ret (v:=.bool false) (by simp[results,results109,go_sem]) rfl ⟨by rw[hbad.o],hnH.o⟩
    ·have h1':¬(k:Int)<97:=by omega
     have h2':(122:Int)<(k:Int):=by omega
     have h3':¬(k:Int)<48:=by omega
     have h4':(57:Int)<(k:Int):=by omega
     go_wp2;exact bodyPost_ret (v:=.bool false) (by simp[results,results109,go_sem]) rfl ⟨by rw[hbad.o],hnH.o⟩
  ·have him:n=i:=by omega
   subst him;have hall:Hid (c_X s=(decide (1<=n)&&decide (n<=8))):=by
    show _=_;have h1:=hok.o;rw[hnl.o,List.take_length]at h1;unfold c_X;rw[h1,Bool.true_and,hnl.o]
   clear hok
   by_cases h1:1<=n
   ·have h1':(1:Int)<=(n:Int):=by omega
    go_wp2;exact bodyPost_ret (v:=.bool (decide ((n:Int)<=8))) (by simp[results,results109,go_sem]) rfl ⟨by rw[hall.o];simp[h1];omega,hnH.o⟩
   ·have h1':¬(1:Int)<=(n:Int):=by omega
    go_wp2;exact bodyPost_ret (v:=.bool false) (by simp[results,results109,go_sem]) rfl ⟨by rw[hall.o];simp[h1],hnH.o⟩
end pool
namespace vault
set_option maxRecDepth 100000
open Go.ChangeShapes Go.WideShapes Go.ChangeAt kit pool Go.Deep Go.Maps
theorem X_(cd:Int)(w:World):Calls prog 53 #[.int .i64 cd] w fun e w'=>e=.returned (.agg #[.int .i64 cd,.bool false,.int .i64 0,.slice none 0 0,.slice none 0 0])/\New w w':=by
 obtain⟨W1,hW1⟩:∃W1,W1=w.alloc (.cells #[.int .i64 0,.bool false,.int .i64 0,.slice none 0 0,.slice none 0 0] 38):=⟨_,rfl⟩;have hr:Blk W1 w.heap.size 38 #[.int .i64 0,.bool false,.int .i64 0,.slice none 0 0,.slice none 0 0]:=by rw[hW1];exact Blk.fresh w _ _
 have hn:=Hd (show New w W1 by rw[hW1];exact(New.refl w).alloc _)
 go_enter func53,ntmps53;go_upto_region 1 with fail;rw[<-hW1];clear hW1;have r0:=hr.cell 0;have r1:=hr.cell 1;have r2:=hr.cell 2;have r3:=hr.cell 3;have r4:=hr.cell 4;have z0:=hr.frozen 0;have z1:=hr.frozen 1;have z2:=hr.frozen 2;have z3:=hr.frozen 3;have z4:=hr.frozen 4;simp at r0 r1 r2 r3 r4;have hb:=((((hr.put 0 (.int .i64 cd)).put 1 (.bool false)).put 2 (.int .i64 0)).put 3 (.slice none 0 0)).put 4 (.slice none 0 0);have x0:=hb.cell 0;have x1:=hb.cell 1;have x2:=hb.cell 2;have x3:=hb.cell 3;have x4:=hb.cell 4;simp at x0 x1 x2 x3 x4;have hx:=Hd (And.intro x0 (And.intro x1 (And.intro x2 (And.intro x3 x4))));clear x0 x1 x2 x3 x4 hb;go_wp2;exact bodyPost_ret (v:=.agg #[.int .i64 cd,.bool false,.int .i64 0,.slice none 0 0,.slice none 0 0]) (by simp[results,results53,go_sem,hx.o.1,hx.o.2.1,hx.o.2.2.1,hx.o.2.2.2.1,hx.o.2.2.2.2]) rfl ⟨rfl,((((hn.o.set (Nat.le_refl _) _).set (Nat.le_refl _) _).set (Nat.le_refl _) _).set (Nat.le_refl _) _).set (Nat.le_refl _) _⟩
theorem q_Y(cd:Int)(w:World):Calls prog 44 #[.int .i64 cd] w fun e w'=>e=.returned (.agg #[.int .i64 cd,.bool false,.int .i64 0,.slice none 0 0,.slice none 0 0])/\New w w':=by
 obtain⟨W1,hW1⟩:∃W1,W1=w.alloc (.cells #[.int .i64 0,.bool false,.int .i64 0,.slice none 0 0,.slice none 0 0] 38):=⟨_,rfl⟩;have hr:Blk W1 w.heap.size 38 #[.int .i64 0,.bool false,.int .i64 0,.slice none 0 0,.slice none 0 0]:=by rw[hW1];exact Blk.fresh w _ _
 have hn:=Hd (show New w W1 by rw[hW1];exact(New.refl w).alloc _)
 go_enter func44,ntmps44;go_upto_region 1 with fail;rw[<-hW1];clear hW1;have r0:=hr.cell 0;have r1:=hr.cell 1;have r2:=hr.cell 2;have r3:=hr.cell 3;have r4:=hr.cell 4;have z0:=hr.frozen 0;have z1:=hr.frozen 1;have z2:=hr.frozen 2;have z3:=hr.frozen 3;have z4:=hr.frozen 4;simp at r0 r1 r2 r3 r4;have hb:=((((hr.put 0 (.int .i64 cd)).put 1 (.bool false)).put 2 (.int .i64 0)).put 3 (.slice none 0 0)).put 4 (.slice none 0 0);have x0:=hb.cell 0;have x1:=hb.cell 1;have x2:=hb.cell 2;have x3:=hb.cell 3;have x4:=hb.cell 4;simp at x0 x1 x2 x3 x4;have hx:=Hd (And.intro x0 (And.intro x1 (And.intro x2 (And.intro x3 x4))));clear x0 x1 x2 x3 x4 hb;go_wp2;exact bodyPost_ret (v:=.agg #[.int .i64 cd,.bool false,.int .i64 0,.slice none 0 0,.slice none 0 0]) (by simp[results,results44,go_sem,hx.o.1,hx.o.2.1,hx.o.2.2.1,hx.o.2.2.2.1,hx.o.2.2.2.2]) rfl ⟨rfl,((((hn.o.set (Nat.le_refl _) _).set (Nat.le_refl _) _).set (Nat.le_refl _) _).set (Nat.le_refl _) _).set (Nat.le_refl _) _⟩
theorem l_M(w:World):(zeroValue 97).run prog w=.ok (.pointer none) w:=by kernel_rfl
theorem h_5(w:World):(zeroValue 150).run prog w=.ok (.map none) w:=by kernel_rfl
theorem h_a{rd:Value->OG->Prop}(b c most:Nat)(x:Nm)(l:GT)(w:World)(h:MP rd w b c l)(hx:x.length<=maxLen)(hm:most<=1000)(hl:l.length<=1000) :
  Calls prog 91 #[.map (some b),encStr x,.int .i64 (most:Nat)] w fun e w'=>e=.returned (.int .i64 (W_ l x most))/\New w w':=by
 obtain⟨v,hlk,_,_⟩:=h.look underlying149 (l_M w) hx;have hname:=Hd (k_i x hx);have hH:=Hd h;clear h;obtain⟨hs,hhs⟩:∃hs,Hid (hs=(get l x).isSome):=⟨_,rfl⟩;rw[<-hhs.o]at hlk;obtain⟨gd,hgd⟩:∃gd,Hid (gd=c_X x):=⟨_,rfl⟩;rw[<-hgd.o]at hname;have hr:Hid (W_ l x most=if gd=false then 4 else if hs=true then 7 else if l.length=most then 8 else 0):=by
  show _=_;unfold W_;rw[hgd.o,hhs.o]
 go_enter func91,ntmps91;cases gd with
 |false=>
  go_wp2_with (go_at_call 109;refine(hname.o _).mono ?_;rintro e w2 ⟨rfl,hn2⟩);exact bodyPost_ret (v:=.int .i64 4) (by simp[results,results91,go_sem]) rfl ⟨by rw[hr.o];rfl,hn2⟩
 |true=>
  cases hs with
  |true=>
   go_wp2_with (go_at_call 109;refine(hname.o _).mono ?_;rintro e w2 ⟨rfl,hn2⟩);exact bodyPost_ret (v:=.int .i64 7) (by simp[results,results91,go_sem]) rfl ⟨by rw[hr.o];rfl,hn2⟩
  |false=>
   have hlen:=Hd (fun w' (hn:New w w') (ty:TypeId)=>(hH.o.new (rd':=fun _ _=>True) hn fun _ _ _ _ _=>trivial).len underlying149 ty)
   by_cases he:l.length=most
   ·have he':(l.length:Int)=(most:Int):=by omega
    go_wp2_with (go_at_call 109;refine(hname.o _).mono ?_;rintro e w2 ⟨rfl,hn2⟩;have hl2:=hlen.o w2 hn2);exact bodyPost_ret (v:=.int .i64 8) (by simp[results,results91,go_sem]) rfl ⟨by rw[hr.o];simp[he],hn2⟩
   ·have he':¬(l.length:Int)=(most:Int):=by omega
    go_wp2_with (go_at_call 109;refine(hname.o _).mono ?_;rintro e w2 ⟨rfl,hn2⟩;have hl2:=hlen.o w2 hn2);exact bodyPost_ret (v:=.int .i64 0) (by simp[results,results91,go_sem]) rfl ⟨by rw[hr.o];simp[he],hn2⟩
theorem h_9{rd:Value->GT->Prop}(b c most:Nat)(x:Nm)(l:List (Nm×GT))(w:World)(h:MP rd w b c l)(hx:x.length<=maxLen)(hm:most<=1000)(hl:l.length<=1000) :
  Calls prog 143 #[.map (some b),encStr x,.int .i64 (most:Nat)] w fun e w'=>e=.returned (.int .i64 (W_ l x most))/\New w w':=by
 obtain⟨v,hlk,_,_⟩:=h.look underlying151 (h_5 w) hx;have hname:=Hd (k_i x hx);have hH:=Hd h;clear h;obtain⟨hs,hhs⟩:∃hs,Hid (hs=(get l x).isSome):=⟨_,rfl⟩;rw[<-hhs.o]at hlk;obtain⟨gd,hgd⟩:∃gd,Hid (gd=c_X x):=⟨_,rfl⟩;rw[<-hgd.o]at hname;have hr:Hid (W_ l x most=if gd=false then 4 else if hs=true then 7 else if l.length=most then 8 else 0):=by
  show _=_;unfold W_;rw[hgd.o,hhs.o]
 go_enter func143,ntmps143;cases gd with
 |false=>
  go_wp2_with (go_at_call 109;refine(hname.o _).mono ?_;rintro e w2 ⟨rfl,hn2⟩);exact bodyPost_ret (v:=.int .i64 4) (by simp[results,results143,go_sem]) rfl ⟨by rw[hr.o];rfl,hn2⟩
 |true=>
  cases hs with
  |true=>
   go_wp2_with (go_at_call 109;refine(hname.o _).mono ?_;rintro e w2 ⟨rfl,hn2⟩);exact bodyPost_ret (v:=.int .i64 7) (by simp[results,results143,go_sem]) rfl ⟨by rw[hr.o];rfl,hn2⟩
  |false=>
   have hlen:=Hd (fun w' (hn:New w w') (ty:TypeId)=>(hH.o.new (rd':=fun _ _=>True) hn fun _ _ _ _ _=>trivial).len underlying151 ty)
   by_cases he:l.length=most
   ·have he':(l.length:Int)=(most:Int):=by omega
    go_wp2_with (go_at_call 109;refine(hname.o _).mono ?_;rintro e w2 ⟨rfl,hn2⟩;have hl2:=hlen.o w2 hn2);exact bodyPost_ret (v:=.int .i64 8) (by simp[results,results143,go_sem]) rfl ⟨by rw[hr.o];simp[he],hn2⟩
   ·have he':¬(l.length:Int)=(most:Int):=by omega
    go_wp2_with (go_at_call 109;refine(hname.o _).mono ?_;rintro e w2 ⟨rfl,hn2⟩;have hl2:=hlen.o w2 hn2);exact bodyPost_ret (v:=.int .i64 0) (by simp[results,results143,go_sem]) rfl ⟨by rw[hr.o];simp[he],hn2⟩
end vault
end Go.Proofs.YtojcoaekhiadcaaGreat
