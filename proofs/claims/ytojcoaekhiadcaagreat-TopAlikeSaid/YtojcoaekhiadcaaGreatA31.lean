import Derived.Test.YtojcoaekhiadcaaGreatA01
import Derived.Test.YtojcoaekhiadcaaGreatA14
import Derived.Test.YtojcoaekhiadcaaGreatA15
import Derived.Test.YtojcoaekhiadcaaGreatA28
import Derived.Test.YtojcoaekhiadcaaGreatA26
import Derived.Test.YtojcoaekhiadcaaGreatA30
import Derived.Maps.Range
set_option linter.unusedVariables false
set_option linter.unusedSimpArgs false
namespace Go.Proofs.YtojcoaekhiadcaaGreat
open Tryz Go.RowKit
namespace vault
set_option maxRecDepth 100000
open Go.ChangeShapes Go.WideShapes Go.ChangeAt kit drive label flet Go.Deep
def e_E(A:VA)(tm:Int)(q:Ptr)(i:Nat):Nat->Int
 |0=>1
 |1=>(i:Nat)
 |2=>(A.n:Nat)
 |3=>(A.p:Nat)
 |4=>tm
 |5=>(q.ad:Nat)
 |6=>(q.ct:Nat)
 |7=>(q.by_:Nat)
 |8=>q.birth
 |9=>q.sum.1
 |10=>q.sum.2.1
 |11=>q.sum.2.2.1
 |12=>q.sum.2.2.2
 |_=>0
def b_6(A:VA)(tm:Int)(q:Ptr)(i:Nat):Nat->Nat:=a_h (e_E A tm q i) (a_g (e_E A tm q i))
def c_4(s:DS)(D:Nat->Nat)(sl:Nat->Nat):Nat->DS
 |0=>s
 |j+1=>a_E (c_4 s D sl j) (sl j) D
theorem f_Z(s:DS)(D:Nat->Nat)(sl:Nat->Nat):∀j,(c_4 s D sl j).ws.length<=s.ws.length+j
 |0=>Nat.le_refl _
 |j+1=>by
  have ih:=f_Z s D sl j;show(a_E _ _ _).ws.length<=_;unfold a_E;split
  ·omega
  ·simp;omega
def K_(A:VA)(s:VS)(q:Ptr)(sl:Nat->Nat)(m i:Nat):VS:={s with ds:=fun k=>if k<i/\s.dead k=false/\s.fresh k=false then c_4 (s.ds k) (b_6 A s.time q k) sl m else s.ds k}
theorem k_Y(A:VA)(s:VS)(q:Ptr)(sl:Nat->Nat)(m:Nat):K_ A s q sl m 0=s:=by
 unfold K_;simp
theorem p_J(A:VA)(s:VS)(q:Ptr)(sl:Nat->Nat)(m i:Nat):(K_ A s q sl m i).ds i=s.ds i:=if_neg fun h=>Nat.lt_irrefl i h.1
theorem k_Z(A:VA)(s:VS)(q:Ptr)(sl:Nat->Nat)(m i:Nat)(h:¬(s.dead i=false/\s.fresh i=false)):K_ A s q sl m (i+1)=K_ A s q sl m i:=by
 unfold K_;congr 1;funext k
 by_cases e:k=i
 ·subst e
  rw[if_neg fun hh=>h hh.2,if_neg fun hh=>h hh.2]
 ·by_cases h2:k<i
  ·simp[h2,show k<i+1 by omega]
  ·simp[h2,show ¬k<i+1 by omega]
theorem l_0(A:VA)(s:VS)(q:Ptr)(sl:Nat->Nat)(m i:Nat)(h:s.dead i=false/\s.fresh i=false):(K_ A s q sl m i).at i (c_4 (s.ds i) (b_6 A s.time q i) sl m)=K_ A s q sl m (i+1):=by
 unfold K_ VS.at;congr 1;funext k
 by_cases e:k=i
 ·subst e
  rw[if_pos rfl,if_pos ⟨Nat.lt_succ_self _,h⟩]
 ·rw[if_neg e]
  by_cases h2:k<i
  ·simp[h2,show k<i+1 by omega]
  ·simp[h2,show ¬k<i+1 by omega]
theorem u_0(s:VS)(d:Nat)(x y:DS):(s.at d x).at d y=s.at d y:=by
 unfold VS.at;congr 1;funext k
 by_cases e:k=d
 ·rw[if_pos e,if_pos e]
 ·rw[if_neg e,if_neg e]
  exact if_neg e
theorem h_b(o:Nat->Nat)(w:World){b:Nat}(h:w.heap.size<=b):tag0 o w b=0:=if_neg (by omega)
section
variable {A:VA}{o o':Nat->Nat}{s:VS}{w w':World}
set_option maxHeartbeats 4000000 in
theorem g_j(hA:VOk A)(h:VM A o s w)(q:Ptr)(sl:Nat->Nat)(m:Nat)(R:Option Addr)(c:Nat)(hsl:RdI .i64 w R m (fun j=>(sl j:Nat)))(hR:∀a,R=some a->o a.block<16)(hm4:m<=4)(hc:m<=c/\c<=maxLen)(hs4:∀j,j<m->sl j<512)(hws:∀i,i<A.n->(s.ds i).ws.length+m<300)(hp:s.puts<0)
  (ht:0<=s.time/\s.time<=1048576) (hq:q.ad<=65536/\q.ct<=32/\q.by_<=128*q.ct/\0<=q.birth/\q.birth<=s.time) (hqs:a_0 q.sum.1/\a_0 q.sum.2.1/\a_0 q.sum.2.2.1/\a_0 q.sum.2.2.2) :
  Calls prog 43 #[ptr A.v,.agg (x_ q),.slice R m c] w fun e w'=>e=.returned (.tuple #[])/\P_ A o (K_ A s q sl m A.n) w w':=by
 have hn8:=hA.n8;have hn2:=hA.n2;have hp1:=hA.p1;have hp3:=hA.p3;have hpn:=hA.pn;have henc:Hid (∀i,i<A.n->∀w',Calls prog 89 #[.agg #[.int .i64 1,.int .i64 (i:Nat),.int .i64 (A.n:Nat),.int .i64 (A.p:Nat),.int .i64 s.time,.int .i64 (q.ad:Nat),.int .i64 (q.ct:Nat),.int .i64 (q.by_:Nat),.int .i64 q.birth,.int .i64 q.sum.1,.int .i64 q.sum.2.1,.int .i64 q.sum.2.2.1,.int .i64 q.sum.2.2.2]] w' fun e w''=>∃g,e=.returned (.tuple #[.slice (some ⟨g,0,none⟩) 128 128,.int .i64 0])/\RdB w'' (some ⟨g,0,none⟩) 128 (b_6 A s.time q i)/\w'.heap.size<=g/\New w' w''):=by
  intro i hi w';have hok:okX (e_E A s.time q i):=by
   unfold okX okP;show(1<=(1:Int)/\(1:Int)<=1048576)/\(2<=((A.n:Nat):Int)/\((A.n:Nat):Int)<=8)/\(0<=((i:Nat):Int)/\((i:Nat):Int)<((A.n:Nat):Int))/\(1<=((A.p:Nat):Int)/\((A.p:Nat):Int)<=3/\((A.p:Nat):Int)<((A.n:Nat):Int))/\(0<=s.time/\s.time<=1048576)/\(0<=((q.ad:Nat):Int)/\((q.ad:Nat):Int)<=65536)/\(0<=((q.ct:Nat):Int)/\((q.ct:Nat):Int)<=32)/\(0<=((q.by_:Nat):Int)/\((q.by_:Nat):Int)<=128*((q.ct:Nat):Int))/\0<=q.birth/\q.birth<=s.time;omega
  have hbd:∀k,k<13->a_0 (e_E A s.time q i k):=fun k hk=>by
   match k,hk with
   |0,_=>show a_0 1;unfold a_0;omega
   |1,_=>show a_0 ((i:Nat):Int);unfold a_0;omega
   |2,_=>show a_0 ((A.n:Nat):Int);unfold a_0;omega
   |3,_=>show a_0 ((A.p:Nat):Int);unfold a_0;omega
   |4,_=>show a_0 s.time;unfold a_0;omega
   |5,_=>show a_0 ((q.ad:Nat):Int);unfold a_0;omega
   |6,_=>show a_0 ((q.ct:Nat):Int);unfold a_0;omega
   |7,_=>show a_0 ((q.by_:Nat):Int);unfold a_0;omega
   |8,_=>show a_0 q.birth;unfold a_0;omega
   |9,_=>exact hqs.1
   |10,_=>exact hqs.2.1
   |11,_=>exact hqs.2.2.1
   |12,_=>exact hqs.2.2.2
  refine(h_Z (e_E A s.time q i) w' hok hbd).mono ?_;rintro e w'' ⟨g,h1,h2,h3,h4⟩;exact⟨g,h1,h2,h4,h3⟩
 have hmx:=hsl.1;unfold maxLen at hmx;obtain⟨N,hN⟩:∃N,Hid (N=A.n):=⟨_,rfl⟩;obtain⟨ad,ct,by_,birth,t0,t1,t2,t3⟩:=q;obtain⟨W1,hW1⟩:∃W1,W1=w.alloc (.cells #[.int .i64 ad,.int .i64 ct,.int .i64 by_,.int .i64 birth,.int .i64 t0,.int .i64 t1,.int .i64 t2,.int .i64 t3] 107):=⟨_,rfl⟩;have hbx:Hid (Blk W1 w.heap.size 107 #[.int .i64 ad,.int .i64 ct,.int .i64 by_,.int .i64 birth,.int .i64 t0,.int .i64 t1,.int .i64 t2,.int .i64 t3]):=by rw[hW1];exact Blk.fresh _ _ _
 have hN1:New w W1:=by rw[hW1];exact(New.refl w).alloc _
 have hV1:VM A (tag0 o w) s W1:=h.tag0 hN1;have hst:Hid (P_ A (tag0 o w) (K_ A s ⟨ad,ct,by_,birth,t0,t1,t2,t3⟩ sl m 0) W1 W1):=by rw[k_Y];exact P_.start hV1
 have v2:=hV1.v2;have hslH:=Hd hsl;have hwsH:=Hd hws;have hs4H:=Hd hs4;have hN1H:=Hd hN1;have hRH:=Hd hR;have hpH:=Hd hp;have hsz1:Hid (w.heap.size<W1.heap.size):=by rw[hW1];simp[Hid]
 rw[<-hN.o]at v2 hn8 henc ⊢;clear h hsl hws hs4 hR hN1 hq hqs ht hV1;go_enter func43,ntmps43;go_upto_region 1 with fail;rw[<-hW1];clear hW1;go_wp2_with fail;go_loopw [16] (fun x wr=>∃i:Nat,x=.int .i64 i/\i<=N/\Hid (P_ A (tag0 o w) (K_ A s ⟨ad,ct,by_,birth,t0,t1,t2,t3⟩ sl m i) W1 wr)) (fun x _=>N-(intOf x).toNat);case atStart=>exact⟨0,rfl,by omega,hst⟩
 case round=>
  obtain⟨i,rfl,hi,hD⟩:=hrel;clear hst;obtain⟨w9,hw9⟩:∃w9,w9=wr:=⟨_,rfl⟩;subst hw9
  by_cases hlt:i<N
  ·have hiI:(i:Int)<(N:Int):=by omega
   have hi0:(0:Int)<=(i:Int):=by omega
   obtain⟨o1,s1,hV,a1⟩:=hD.o;have hiA:i<A.n:=by rw[<-hN.o];exact hlt
   have v3:=hV.v3;have v4:=hV.v4;rw[<-hN.o]at v3 v4;have vd:=hV.isDead hiA;have vf:=hV.isFresh hiA;have hdd:(K_ A s ⟨ad,ct,by_,birth,t0,t1,t2,t3⟩ sl m i).dead i=s.dead i:=rfl;have hff:(K_ A s ⟨ad,ct,by_,birth,t0,t1,t2,t3⟩ sl m i).fresh i=s.fresh i:=rfl;rw[hdd]at vd;rw[hff]at vf;obtain⟨dd,hdv⟩:∃dd,Hid (dd=s.dead i):=⟨_,rfl⟩;obtain⟨ff,hfv⟩:∃ff,Hid (ff=s.fresh i):=⟨_,rfl⟩;rw[<-hdv.o]at vd;rw[<-hfv.o]at vf;clear hdd hff;have hskip:Hid (dd=true\/ff=true->P_ A (tag0 o w) (K_ A s ⟨ad,ct,by_,birth,t0,t1,t2,t3⟩ sl m (i+1)) W1 w9):=fun hh=>by
    rw[k_Z _ _ _ _ _ _ (by rw[<-hdv.o,<-hfv.o];rcases hh with hh|hh<;>simp[hh])]
    exact hD.o
   cases dd with
   |true=>
    clear s1 hV a1 v2;go_wp2;go_roundw;case rel=>exact⟨i+1,by go_num,by omega,hskip.o (.inl rfl)⟩
    case measure=>simp[intOf];omega
   |false=>
    cases ff with
    |true=>
     clear s1 hV a1 v2;go_wp2;go_roundw;case rel=>exact⟨i+1,by go_num,by omega,hskip.o (.inr rfl)⟩
     case measure=>simp[intOf];omega
    |false=>
     have v0:=hV.v0;have v1:=hV.v1;have v5:w9.cell? ⟨A.v,5,none⟩=some (.int .i64 s.time):=hV.v5;obtain⟨tm,htm⟩:∃tm,Hid (tm=s.time):=⟨_,rfl⟩;rw[<-htm.o]at v5;have henci:=Hd (henc.o i hlt);rw[<-htm.o]at henci;have hlf:Hid (s.dead i=false/\s.fresh i=false):=⟨hdv.o.symm,hfv.o.symm⟩;have hb4:=a1.blk hbx.o fun hk=>by rw[h_b o w (Nat.le_refl _)]at hk;omega
     have l0:=hb4.cell 0;have l1:=hb4.cell 1;have l2:=hb4.cell 2;have l3:=hb4.cell 3;have l4:=hb4.cell 4;have l5:=hb4.cell 5;have l6:=hb4.cell 6;have l7:=hb4.cell 7;simp at l0 l1 l2 l3 l4 l5 l6 l7;have hVH:=Hd hV;have hs1:=Hd s1;have ha1:=Hd a1;rw[<-hN.o]at v0;clear hb4 hV s1 a1 v2 hskip;have hkeep:Hid (∀w',New w9 w'->w'.cell? ⟨A.v,0,none⟩=some (.int .i64 (N:Nat))/\w'.cell? ⟨A.v,1,none⟩=some (.int .i64 A.p)/\w'.cell? ⟨A.v,5,none⟩=some (.int .i64 tm)/\w'.cell? ⟨w.heap.size,0,none⟩=some (.int .i64 ad)/\w'.cell? ⟨w.heap.size,1,none⟩=some (.int .i64 ct)/\w'.cell? ⟨w.heap.size,2,none⟩=some (.int .i64 by_)/\w'.cell? ⟨w.heap.size,3,none⟩=some (.int .i64 birth)/\w'.cell? ⟨w.heap.size,4,none⟩=some (.int .i64 t0)/\w'.cell? ⟨w.heap.size,5,none⟩=some (.int .i64 t1)/\w'.cell? ⟨w.heap.size,6,none⟩=some (.int .i64 t2)/\w'.cell? ⟨w.heap.size,7,none⟩=some (.int .i64 t3)):=
      fun w' hn=>⟨(hn.cell (a_ v0)).trans v0,(hn.cell (a_ v1)).trans v1,(hn.cell (a_ v5)).trans v5,(hn.cell (a_ l0)).trans l0,(hn.cell (a_ l1)).trans l1,(hn.cell (a_ l2)).trans l2,(hn.cell (a_ l3)).trans l3,(hn.cell (a_ l4)).trans l4,(hn.cell (a_ l5)).trans l5,(hn.cell (a_ l6)).trans l6,(hn.cell (a_ l7)).trans l7⟩
     have b1:(0:Int)<2:=by decide
     go_upto_region 5 with fail;go_region_held3 (fun w'=>w'.cell? ⟨A.v,0,none⟩=some (.int .i64 (N:Nat))/\w'.cell? ⟨A.v,1,none⟩=some (.int .i64 A.p)/\w'.cell? ⟨A.v,5,none⟩=some (.int .i64 tm)/\w'.cell? ⟨w.heap.size,0,none⟩=some (.int .i64 ad)/\w'.cell? ⟨w.heap.size,1,none⟩=some (.int .i64 ct)/\w'.cell? ⟨w.heap.size,2,none⟩=some (.int .i64 by_)/\w'.cell? ⟨w.heap.size,3,none⟩=some (.int .i64 birth)/\w'.cell? ⟨w.heap.size,4,none⟩=some (.int .i64 t0)/\w'.cell? ⟨w.heap.size,5,none⟩=some (.int .i64 t1)/\w'.cell? ⟨w.heap.size,6,none⟩=some (.int .i64 t2)/\w'.cell? ⟨w.heap.size,7,none⟩=some (.int .i64 t3))
      (first
       |with_reducible exact hkeep.o _ (New.refl _).drew
       |with_reducible exact hkeep.o _ hn5.o)
      ((go_at_call 89;(with_reducible refine(henci.o _).mono ?_);rintro e w5 ⟨g,rfl,hr5,hg5,hn5⟩;have hn5:=Hd (show New w9 w5 from New.next (New.refl w9).drew hn5);have hg5:=Hd (show w9.heap.size<=g from hg5);have hr5:=Hd hr5))
     have hV5:VM A (tag0 o1 w9) (K_ A s ⟨ad,ct,by_,birth,t0,t1,t2,t3⟩ sl m i) w5:=hVH.o.tag0 hn5.o;have hst2:Hid (P_ A (tag0 o1 w9) ((K_ A s ⟨ad,ct,by_,birth,t0,t1,t2,t3⟩ sl m i).at i (c_4 (s.ds i) (b_6 A s.time ⟨ad,ct,by_,birth,t0,t1,t2,t3⟩ i) sl 0)) w5 w5):=by
      have e:(K_ A s ⟨ad,ct,by_,birth,t0,t1,t2,t3⟩ sl m i).at i (c_4 (s.ds i) (b_6 A s.time ⟨ad,ct,by_,birth,t0,t1,t2,t3⟩ i) sl 0)=K_ A s ⟨ad,ct,by_,birth,t0,t1,t2,t3⟩ sl m i:=by
       have h1:=VS.at_same (K_ A s ⟨ad,ct,by_,birth,t0,t1,t2,t3⟩ sl m i) i;rw[p_J]at h1;exact h1
      rw[e];exact P_.start hV5
     clear henci hkeep v0 v1 v3 v4 v5 vd vf l0 l1 l2 l3 l4 l5 l6 l7 hV5;go_wp2_with fail;go_loopw [58] (fun x wi=>∃j:Nat,x=.int .i64 j/\j<=m/\Hid (P_ A (tag0 o1 w9) ((K_ A s ⟨ad,ct,by_,birth,t0,t1,t2,t3⟩ sl m i).at i (c_4 (s.ds i) (b_6 A s.time ⟨ad,ct,by_,birth,t0,t1,t2,t3⟩ i) sl j)) w5 wi)) (fun x _=>m-(intOf x).toNat);case atStart=>exact⟨0,rfl,by omega,hst2⟩
     case round=>
      obtain⟨j,rfl,hj,hD2⟩:=hrel;clear hst2
      by_cases hlt2:j<m
      ·have hjI:(j:Int)<(m:Int):=by omega
       have hj0:(0:Int)<=(j:Int):=by omega
       obtain⟨o2,s2,hV2,a2⟩:=hD2.o;obtain⟨rb,rof,rfl,hrb,hrcs⟩:=hslH.o.2 (by omega)
       have hro:o rb<16:=hRH.o ⟨rb,rof,none⟩ rfl;have hrb1:=Nat.lt_of_lt_of_le hrb hN1H.o.size;have hrb2:=Nat.lt_of_lt_of_le hrb1 ha1.o.size;have cj1:=hrcs j hlt2;have cj2:=(hN1H.o.cell (a_ cj1)).trans cj1;have cj3:=ha1.o.cell cj2 (show ¬(16<=tag0 o w rb) by rw[f_ o w rb hrb];omega)
       have cj4:=(hn5.o.cell (a_ cj3)).trans cj3;have cj:=a2.cell cj4 (show ¬(16<=tag0 o1 w9 rb) by rw[f_ o1 w9 rb hrb2,hs1.o rb hrb1,f_ o w rb hrb];omega)
       obtain⟨sj,hsj⟩:∃sj,Hid (sj=sl j):=⟨_,rfl⟩;dsimp only at cj;rw[<-hsj.o]at cj;have hrd:RdI .u8 wr (some ⟨g,0,none⟩) 128 (fun k=>(b_6 A s.time ⟨ad,ct,by_,birth,t0,t1,t2,t3⟩ i k:Nat)):=by
        obtain⟨k1,k2,k3⟩:=hr5.o;rw[htm.o]at k3;refine⟨k1,fun h0=>?_⟩;obtain⟨g',of',e1,e2,e3⟩:=k3 h0;refine⟨g',of',e1,Nat.lt_of_lt_of_le e2 a2.size,fun k hk=>?_⟩;injection e1 with e1;injection e1 with e1 _ _;subst e1;exact a2.cell (e3 k hk) (show ¬(16<=tag0 o1 w9 g) by rw[h_b o1 w9 hg5.o];omega)
       have hpt:=Hd (m_5 hV2 hA i sj (some ⟨g,0,none⟩) 128 (b_6 A s.time ⟨ad,ct,by_,birth,t0,t1,t2,t3⟩ i) hiA (by rw[hsj.o];exact hs4H.o j hlt2) (by
        show(if i=i then c_4 _ _ _ j else _:DS).ws.length<300;rw[if_pos rfl];have h1:=f_Z (s.ds i) (b_6 A s.time ⟨ad,ct,by_,birth,t0,t1,t2,t3⟩ i) sl j;have h2:=hwsH.o i hiA;omega) hrd (Nat.le_refl _) (by unfold maxLen;omega) hpH.o)
       have hs2:=Hd s2;have ha2:=Hd a2;clear s2 a2 hV2 hrd cj1 cj2 cj3 cj4 hD2;go_wp2_with fail;refine hpt.o.mono ?_;rintro e w6 ⟨rfl,hp6⟩;have hfin:=Hd (P_.trans hs2.o ha2.o hp6.drs);rw[u_0]at hfin;have hfin2:Hid (P_ A (tag0 o1 w9) ((K_ A s ⟨ad,ct,by_,birth,t0,t1,t2,t3⟩ sl m i).at i (c_4 (s.ds i) (b_6 A s.time ⟨ad,ct,by_,birth,t0,t1,t2,t3⟩ i) sl (j+1))) w5 w6):=by
        have e:a_E (((K_ A s ⟨ad,ct,by_,birth,t0,t1,t2,t3⟩ sl m i).at i (c_4 (s.ds i) (b_6 A s.time ⟨ad,ct,by_,birth,t0,t1,t2,t3⟩ i) sl j)).ds i) sj (b_6 A s.time ⟨ad,ct,by_,birth,t0,t1,t2,t3⟩ i)=c_4 (s.ds i) (b_6 A s.time ⟨ad,ct,by_,birth,t0,t1,t2,t3⟩ i) sl (j+1):=by
             show a_E (if i=i then _ else _) sj _=a_E _ _ _;rw[if_pos rfl,hsj.o]
        rw[e]at hfin;exact hfin
       clear hp6 hfin cj hpt;go_wp2;go_roundw;case rel=>exact⟨j+1,by go_num,by omega,hfin2⟩
       case measure=>simp[intOf];omega
      ·obtain rfl:j=m:=by omega
       have hjI:¬(j:Int)<(j:Int):=by omega
       have hfin:Hid (P_ A (tag0 o w) (K_ A s ⟨ad,ct,by_,birth,t0,t1,t2,t3⟩ sl j (i+1)) W1 wr):=by
        have h1:=hD2.o;rw[l_0 A s ⟨ad,ct,by_,birth,t0,t1,t2,t3⟩ sl j i hlf.o]at h1;exact P_.trans hs1.o ha1.o (P_.trans (f_ o1 w9) (Alt.of_new hn5.o) h1)
       clear hD2;go_wp2;go_roundw;case rel=>exact⟨i+1,by go_num,by omega,hfin⟩
       case measure=>simp[intOf];omega
  ·obtain rfl:i=N:=by omega
   have hiI:¬(i:Int)<(i:Int):=by omega
   have hfin:Hid (P_ A o (K_ A s ⟨ad,ct,by_,birth,t0,t1,t2,t3⟩ sl m i) w w9):=by
    have h1:=hD.o;obtain⟨o1,s1,hV,a1⟩:=h1;exact⟨o1,(f_ o w).trans s1 hN1H.o.size,hV,(Alt.of_new hN1H.o).trans' a1 fun b hb=>(Nat.lt_or_ge b w.heap.size).imp (fun hl=>by rw[f_ o w b hl]at hb;exact hb) id⟩
   go_wp2;exact Great.bodyPost_end0 rfl rfl ⟨rfl,hfin.o⟩
end
end vault
namespace vault
open kit drive geom stripe label
theorem e_t(s:DS)(D:Nat->Nat)(sl:Nat->Nat):∀j,(c_4 s D sl j).dead=s.dead
 |0=>rfl
 |j+1=>(f_Y _ _ _).trans (e_t s D sl j)
theorem i_g(s:DS)(D:Nat->Nat)(sl:Nat->Nat)(a:Nat):∀m,(∀j,j<m->sl j≠a)->rdS (c_4 s D sl m) a=rdS s a
 |0,_=>rfl
 |m+1,h=>by
  show rdS (a_E _ _ _) a=_;rw[e_s,e_t,if_neg (h m (Nat.lt_succ_self m)),i_g s D sl a m fun j hj=>h j (by omega)]
  split
  ·rename_i hd
   unfold rdS;rw[if_pos hd]
  ·rfl
theorem m_7(s:DS){D:Nat->Nat}(hD:∀k,D k<256)(sl:Nat->Nat)(h:∀j F,rdS s j=some F->∀k,F k<256):∀m j F,rdS (c_4 s D sl m) j=some F->∀k,F k<256
 |0,j,F,hF=>h j F hF
 |m+1,j,F,hF=>by
  have hF:rdS (a_E (c_4 s D sl m) (sl m) D) j=some F:=hF;rw[e_s]at hF;split at hF
  ·cases hF
  ·split at hF
   ·cases hF
    exact hD
   ·exact m_7 s hD sl h m j F hF
theorem i_t(A:VA)(tm:Int)(q:Ptr)(i k:Nat):b_6 A tm q i k<256:=i_s _ _ _
theorem g_l(A:VA)(s:VS)(q:Ptr)(sl:Nat->Nat)(m i lo hi:Nat)(hlo:4*A.n<=lo)(hs4:∀j,j<m->sl j<4):a_3 A s (K_ A s q sl m i) lo hi:=fun d j hd h1 h2=>by
 show rdS (if _ then _ else _:DS) j=_;split
 ·refine i_g _ _ _ _ _ fun k hk e=>?_
  have h3:=hs4 k hk;have h4:j<=3:=by omega
  have h5:=Nat.mul_le_mul_right A.n h4;omega
 ·rfl
theorem l_1(A:VA)(s:VS)(q:Ptr)(sl:Nat->Nat)(m i k:Nat):((K_ A s q sl m i).ds k).dead=(s.ds k).dead:=by
 show(if _ then _ else _:DS).dead=_;split
 ·exact e_t _ _ _ _
 ·rfl
theorem g_k(A:VA)(s:VS)(q:Ptr)(sl:Nat->Nat)(m i k:Nat):((K_ A s q sl m i).ds k).ws.length<=(s.ds k).ws.length+m:=by
 show(if _ then _ else _:DS).ws.length<=_;split
 ·exact f_Z _ _ _ _
 ·omega
theorem j_z(A:VA){s:VS}(h:B8 s)(q:Ptr)(sl:Nat->Nat)(m i:Nat):B8 (K_ A s q sl m i):=fun k j F hF=>by
 have hF:rdS (if k<i/\s.dead k=false/\s.fresh k=false then c_4 (s.ds k) (b_6 A s.time q k) sl m else s.ds k) j=some F:=hF;split at hF
 ·exact m_7 _ (i_t A s.time q k) sl (h k) m j F hF
 ·exact h k j F hF
theorem b_q(s:VS)(m k:Nat):((R_ s m).ds k).dead=(s.ds k).dead:=by
 show(if _ then _ else _:DS).dead=_;split
 ·exact g_u _
 ·rfl
theorem g_v(s:VS)(m k:Nat)(hk:k<m):((R_ s m).ds k).ws.length<=(if(s.ds k).dead=true then(s.ds k).ws.length else 0):=by
 show(if k<m then _ else _:DS).ws.length<=_;rw[if_pos hk];split
 ·rename_i hd
  unfold a_o;rw[if_pos hd];exact Nat.le_refl _
 ·rename_i hd
  rw[j_N _ (by simpa using hd)]
  exact Nat.le_refl _
theorem d_H{s:VS}(h:B8 s)(m:Nat):B8 (R_ s m):=fun k j F hF=>by
 have hF:rdS (if k<m then a_o (s.ds k)else s.ds k) j=some F:=hF;split at hF
 ·rw[g_t]at hF
  exact h k j F hF
 ·exact h k j F hF
theorem b_F.sameU{A:VA}(hA:VOk A){s s':VS}{bad:List Nat}{q:Ptr}{X:Nat->Nat}{u:Bk}(h:b_F A s bad q X)(hu:PtU A q u)(hs:∀lo hi,4*A.n<=lo->a_3 A s s' lo hi)(hf:s'.fresh=s.fresh):b_F A s' bad q X:=
 h.same hA hu.c1 (hs _ _ (by rw[hu.ad];omega)) hf
end vault
namespace vault
set_option maxRecDepth 100000
open Go.ChangeShapes Go.WideShapes Go.ChangeAt kit pool drive spans Go.Deep Go.Maps geom stripe flet label
theorem s_Y{A:VA}(hA:VOk A){q:Ptr}{u:Bk}{X:Nat->Nat}(hu:PtU A q u)(hb:i_R A q X):∀y∈a_J q,BdI y:=fun y hy=>by
 obtain⟨b1,b2,b3,b4⟩:=sums_bd (a_9 X q.by_) (32*q.ct);rw[hb.sum]at b1 b2 b3 b4;have hun:uA A<=A.n:=by have:=hA.pn;unfold uA;omega
 have hn8:=hA.n8;have h1:=hu.hi;have h5:u.1*uA A<=508*A.n:=Nat.mul_le_mul (by omega) hun
 have h6:=hu.ad;have h7:=hu.c2;have h8:=hb.b2;have h9:=hu.bi;unfold a_J at hy;simp only[List.mem_cons,List.not_mem_nil,or_false]at hy;rcases hy with rfl|rfl|rfl|rfl|rfl|rfl|rfl|rfl
 ·unfold BdI;omega
 ·unfold BdI;omega
 ·unfold BdI;omega
 ·exact h9
 ·exact b1
 ·exact b2
 ·exact b3
 ·exact b4
def q_O(g:GS)(ats:Nat->Option Ptr)(MD:List Nat)(qs:List Ptr)(pt:Nat->Ptr):Prop:=∀b,b∈g.all->ats b=some (pt b)\/(ats b=none/\∃i:Nat,MD[i]?=some b/\qs[i]?=some (pt b))
theorem t_R{g:GS}{ats:Nat->Option Ptr}{MD:List Nat}{qs:List Ptr}(hM:∀b,b∈g.all->ats b=none->b∈MD)(hl:MD.length<=qs.length):∃pt,q_O g ats MD qs pt:=by
 have h1:∀b,∃q,b∈g.all->ats b=some q\/(ats b=none/\∃i:Nat,MD[i]?=some b/\qs[i]?=some q):=fun b=>by
  by_cases hb:b∈g.all
  ·cases ha:ats b with
   |some q=>exact⟨q,fun _=>.inl rfl⟩
   |none=>
    obtain⟨i,hi⟩:=List.getElem?_of_mem (hM b hb ha);have hil:=(List.getElem?_eq_some_iff.1 hi).1;exact⟨qs[i]'(by omega),fun _=>.inr ⟨rfl,i,hi,List.getElem?_eq_getElem _⟩⟩
  ·exact⟨⟨0,0,0,0,(0,0,0,0)⟩,fun h=>absurd h hb⟩
 exact⟨fun b=>(h1 b).choose,fun b hb=>(h1 b).choose_spec hb⟩
structure SyR(o:Nat->Nat)(W1:World)(pm:Nat)(MD:List Nat)(qs olds rs:List Ptr)(x vr:Value)(o2:Nat->Nat)(w:World):Prop where
 mp:PM w pm (plQ MD qs)
 pt:o2 pm=0
 pl:W1.heap.size<=pm
 mi:w.ownsRow W1.heap.size 107 8 x (olds++qs).length (q_ (olds++qs))
 mt:∀j,x.ownBlock=some j->o2 j=0
 rr:w.ownsRow W1.heap.size 107 8 vr rs.length (q_ rs)
 rt:∀j,vr.ownBlock=some j->o2 j=0
 nx:∀j,x.ownBlock=some j->vr.ownBlock≠some j
 sm:s_ o o2 W1
 al:Alt (fun b=>16<=o b) W1 w
theorem SyR.alt{o:Nat->Nat}{W1:World}{pm:Nat}{MD:List Nat}{qs olds rs:List Ptr}{x vr:Value}{o2 o3:Nat->Nat}{w w':World}(h:SyR o W1 pm MD qs olds rs x vr o2 w)(ha:Alt (fun b=>16<=o2 b) w w')(hs:s_ o2 o3 w):SyR o W1 pm MD qs olds rs x vr o3 w':=by
 refine⟨h.mp.alt ha fun e=>by have:=h.pt;omega,(hs pm h.mp.lt).trans h.pt,h.pl,ha.own h.mi fun j hj e=>by have:=h.mt j hj;omega,fun j hj=>(hs j (h.mi.lt j hj).2).trans (h.mt j hj),ha.own h.rr fun j hj e=>by have:=h.rt j hj;omega,fun j hj=>(hs j (h.rr.lt j hj).2).trans (h.rt j hj),h.nx,h.sm.trans hs h.al.size,h.al.trans' ha fun b hb=>?_⟩
 rcases Nat.lt_or_ge b W1.heap.size with hl|hl
 ·exact .inl (by rw[h.sm b hl]at hb;exact hb)
 ·exact .inr hl
theorem SyR.new{o:Nat->Nat}{W1:World}{pm:Nat}{MD:List Nat}{qs olds rs:List Ptr}{x vr:Value}{o2:Nat->Nat}{w w':World}(h:SyR o W1 pm MD qs olds rs x vr o2 w)(hn:New w w'):SyR o W1 pm MD qs olds rs x vr o2 w':=h.alt (Alt.of_new hn) (s_.refl o2 w)
structure SyD(A:VA)(bad:List Nat)(s1:VS)(LL:List Bk)(Xs:List (Nat->Nat))(N:List Bk)(qs:List Ptr)(C:List Bk)(rs:List Ptr)(root:Ptr)(acc:List Nat)(s2:VS):Prop where
 ev:Evo A LL 173 s1 s2
 cl:N.length=qs.length
 kt:∀(i:Nat) q,qs[i]?=some q->∃u X,N[i]?=some u/\Xs[i]?=some X/\PtU A q u/\u.2=2/\u.1+u.2<=372/\i_R A q X/\q.by_=256/\b_F A s2 bad q X
 n2:∀u,u∈N->u.2=2/\u.1+u.2<=372
 bk:c_r A s2 bad acc root rs
 rl:rs.length<=6
 bu:∀(i:Nat) q,(rs++[root])[i]?=some q->∃u,C[i]?=some u/\PtU A q u/\q.birth=s1.time
 bl:C.length=(rs++[root]).length
 b0:∀u,u∈C->0<u.2
 un:a_6 C<=45
 rp:∃X,i_R A root X
def SyB(A:VA)(bad:List Nat)(o:Nat->Nat)(s1:VS)(W1:World)(pm:Nat)(LL:List Bk)(Xs:List (Nat->Nat))(MD:List Nat)(olds qs:List Ptr)(N:List Bk)(x:Value)(acc:List Nat)(e:Ending)(w':World):Prop:=
 ∃root rs vr C o2 s2,e=.returned (.tuple #[.agg (x_ root),vr,.int .i64 0])/\VM A o2 s2 w'/\SyR o W1 pm MD qs olds rs x vr o2 w'/\SyD A bad s1 LL Xs N qs C rs root acc s2/\∀b,w'.heap.size<=b->o2 b=0
theorem c_r.root{A:VA}{s:VS}{bad:List Nat}{acc:List Nat}{root:Ptr}{rs:List Ptr}(h:c_r A s bad acc root rs):∃X,i_R A root X:=by
 rcases h with⟨_,h⟩|⟨ps,_,_,_,_,_,_,h⟩
 ·exact⟨_,h.pb⟩
 ·exact⟨_,h.pb⟩
theorem PgS.book{A:VA}{bad:List Nat}{o:Nat->Nat}{s s1:VS}{W1 W6:World}{fb pm:Nat}{LL:List Bk}{bc:Nat->Nat->Nat}{MD:List Nat}{olds:List Ptr}{vM:Value}{N:List Bk}{qs:List Ptr}{o':Nat->Nat}{s':VS}{x:Value}{w:World}(hA:VOk A)(h:PgS A bad o s1 W1 W6 fb pm LL (MD.map bc) MD olds vM N qs o' s' x w){xb yb c:Nat}{g:GS}(hpl:PlM A.v s1.st xb yb c o g W1)(hg:GSm g){ats:Nat->Option Ptr}(hbl:∀b,b∈g.all->BlM o W1 b (bc b) (ats b))(hok:∀b,b∈g.all->f_l A s bad (bc b) (ats b))(hMD:∀b,b∈MD->b∈g.all)(hMn:MD.Nodup)(pt:Nat->Ptr)(hpt:q_O g ats MD qs pt)(hsz:∀G,InG g G->G.sz<=1024)(hln:(bkB (r_ [] g.all) pt g).length<=5100)
  {P B:List Bk} (hLL:LL=P++B) (hbad:∀d,d<A.n->((s1.ds d).dead=true\/s1.fresh d=true)->d∈bad) (hP:∀b,b∈P->b.1+b.2<=372/\0<b.2) (hB0:∀b,b∈B->0<b.2) (hBu:a_6 B<=45) (hBl:B.length<=7) (hPl:P.length<=64) (hk:qs.length<=64) (htm:BdI s1.time) (hws:∀i,i<A.n->(s1.ds i).ws.length<=60) (hp0:s1.puts<0) :
  Calls prog 41 #[ptr A.v,ptr fb,.map (some pm)] w (SyB A bad o s1 W1 pm LL (MD.map bc) MD olds qs N x (bkB (r_ [] g.all) pt g)):=by
 have he:=h.pa.ev.eq;have hst:s'.st=s1.st:=by rw[he]
 have hK2:∀b,o b=2->¬16<=o b:=fun b hb=>by omega
 have hC:BkC A s' bad P B N fb [] [] 0 o' s' w:=by
  obtain⟨R,h1,h2,h3⟩:=h.pa.fm;refine⟨h.pa.vm,⟨R,h1,by rw[List.append_nil,<-hLL];exact h2,h3⟩,Evo.refl A _ s',by rw[List.append_nil,<-hLL];exact h.pa.en,fun i x hx=>(by cases hx),rfl,fun b hb=>(by cases hb),Nat.le_refl _,h.pa.fu⟩
 have hq:∀(i:Nat) q,qs[i]?=some q->q∈qs:=fun i q hi=>List.mem_of_getElem? hi;have h0:=q_y hA w h.pa.vm xb yb c g (by rw[hst];exact hpl.alt h.al hK2 h.sm) hg bc ats (fun b hb=>(hbl b hb).alt h.al hK2 h.sm) fb pm (plQ MD qs) h.mp (fun p hp=>by
   have h5:p.1∈(plQ MD qs).map (·.1):=List.mem_map.2 ⟨p,hp,rfl⟩;obtain⟨cs,h6⟩:=((hbl p.1 (hMD p.1 (List.mem_of_mem_take (g_1 h5)))).alt h.al hK2 h.sm).blk;exact⟨_,cs,h6⟩) pt (fun b hb=>by
   rcases hpt b hb with h1|⟨h1,i,h2,h3⟩
   ·exact .inl h1
   ·exact .inr ⟨h1,r_e hMn h2 h3⟩) (fun b hb=>by
   rcases hpt b hb with h1|⟨h1,i,h2,h3⟩
   ·have h4:=hok b hb
    rw[h1]at h4;obtain⟨_,h5,_,_,u,h6,_⟩:=h4;exact s_Y hA h6 h5
   ·exact h.bd _ (hq i _ h3)) (fun G hG=>by have:=hsz G hG;omega) hln bad P B N hC (fun d hd hh=>hbad d hd (by rw[h.pa.ev.dead,h.pa.ev.fresh]at hh;exact hh)) hP (fun b hb=>by have:=h.pa.n2 b hb;omega) hB0 hBu hBl hPl (by rw[h.pa.cl];exact hk) (by rw[he];exact htm) (fun i hi=>by have h1:=h.pa.ev.ws i hi;have:=hws i hi;omega) (by rw[he];exact hp0)
 refine h0.mono ?_;rintro e w2 ⟨root,rs,vr,C,st,o2,s2,rfl,hrr,hrt,hst2,hC2,hBA,hr6,hsm2,hal2⟩;have hw1:=h.al.size;refine⟨root,rs,vr,C,o2,s2,rfl,hC2.vm,⟨h.mp.alt hal2 fun e=>?_,(hsm2 pm h.mp.lt).trans h.pt,h.fl.2,hal2.own h.mi fun k hk e=>?_,fun j hj=>(hsm2 j (h.mi.lt j hj).2).trans (h.mt j hj),hrr.mono hw1,hrt,fun j hj e=>?_,h.sm.trans hsm2 hw1,h.al.trans' hal2 fun b hb=>?_⟩,⟨?_,h.pa.cl,fun i q hi=>?_,h.pa.n2,hBA,hr6,fun i q hi=>?_,?_,hC2.c0,hC2.un,hBA.root⟩,hC2.fu⟩
 ·obtain⟨R,⟨f1,v,f2,f3,f4⟩,_⟩:=h.pa.fm
  rcases e with e|e
  ·have:=h.pt;omega
  ·exact h.mp.ne_blk f2 e
 ·obtain⟨R,⟨f1,v,f2,f3,f4⟩,_⟩:=h.pa.fm
  rcases e with e|e
  ·have:=h.mt k hk;omega
  ·rw[e]at hk
   exact b_ h.mi f2 (by decide) hk
 ·have h1:=(h.mi.lt j hj).2
  have h2:=(hrr.lt j e).1;omega
 ·rcases hb with hb|hb
  ·rcases Nat.lt_or_ge b W1.heap.size with hl|hl
   ·exact .inl (by rw[h.sm b hl]at hb;exact hb)
   ·exact .inr hl
  ·exact .inr (by rw[hb];exact h.fl.1)
 ·have h1:=h.pa.ev.trans hC2.ev fun b hb=>by rw[hLL]at hb;exact List.mem_append_left _ hb
  exact h1.mono (fun b hb=>hb) (by omega)
 ·obtain⟨u,X,k1,k2,k3,k4,k5,k6,k7,k8⟩:=h.pa.kt i q hi
  exact⟨u,X,k1,k2,k3,k4,k5,k6,k7,hC2.ev.kept hA k3 (List.mem_append_right _ (List.mem_of_getElem? k1)) k8⟩
 ·rw[<-hst2]at hi
  rw[List.getElem?_map]at hi;cases hs3:st[i]? with
  |none=>rw[hs3]at hi;cases hi
  |some y=>
   rw[hs3]at hi;cases hi;have h5:=(hC2.kt i y hs3).2;rw[he]at h5;exact h5
 ·rw[hC2.cl,<-hst2,List.length_map]
end vault
namespace vault
set_option maxRecDepth 100000
open Go.ChangeMaps (setBlock)
open Go.ChangeShapes Go.WideShapes Go.ChangeAt kit pool drive spans Go.Deep Go.Maps
section
variable {vb:Nat}{o o':Nat->Nat}{w w':World}{K:Nat->Prop}
theorem a_v.altV{v:Value}{l:List Nat}(h:a_v o w v l)(ha:Alt K w w')(hK:∀b t cs,t≠115->Blk w b t cs->¬K b)(hs:∀b,b<w.heap.size->o b=2->o' b=2):a_v o' w' v l:=by
 obtain⟨A,c,h1,h2,h3,h4,h5⟩:=h;refine⟨A,c,h1,h2,h3,h4,fun h0=>?_⟩;obtain⟨g,off,cs,e1,e2,e3,e4⟩:=h5 h0;exact⟨g,off,cs,e1,hs g e3.lt e2,ha.blk e3 (hK g _ _ (by decide) e3),e4⟩
theorem ObV.altV{v:Value}{g:OG}(h:ObV vb o w v g)(ha:Alt K w w')(hK:∀b t cs,t≠115->Blk w b t cs->¬K b)(hs:∀b,b<w.heap.size->o b=2->o' b=2):ObV vb o' w' v g:=by
 obtain⟨ob,bv,h1,h2,h3,h4⟩:=h;exact⟨ob,bv,h1,hs ob h3.lt h2,ha.blk h3 (hK ob _ _ (by decide) h3),h4.altV ha hK hs⟩
theorem PlM.altV{sb xb yb c:Nat}{g:GS}(h:PlM vb sb xb yb c o g w)(ha:Alt K w w')(hK:∀b,b<w.heap.size->K b->∃cs,Blk w b 115 cs)(hs:∀b,b<w.heap.size->o b=2->o' b=2):PlM vb sb xb yb c o' g w':=by
 obtain⟨eb,e1,e2,e3⟩:=h.bk;have hK1:∀b t cs,t≠115->Blk w b t cs->¬K b:=fun b t cs ht hb hk=>by
  obtain⟨ds,h1⟩:=hK b hb.lt hk;exact e_ hb h1 ht rfl
 have hK2:∀{α:Type} {rd:Value->α->Prop} {b c:Nat} {l:List (Nm×α)},MP rd w b c l->¬K b:=fun hm hk=>by
  obtain⟨ds,h1⟩:=hK _ hm.lt hk;exact hm.ne_blk h1 rfl
 exact⟨⟨eb,ha.blk e1 (hK1 _ _ _ (by decide) e1),hs eb e3.lt e2,ha.blk e3 (hK1 _ _ _ (by decide) e3)⟩,h.om.alt ha (hK2 h.om) fun k y _ v hv=>hv.altV ha hK1 hs,h.nm.alt ha (hK2 h.nm) fun k y _ v hv=>by
  obtain⟨b,h1,h2,h3,h4,h5⟩:=hv;exact⟨b,h1,hs b h5.lt h2,h3,h4,h5.alt ha (hK2 h5) fun k y _ v hv=>hv.altV ha hK1 hs⟩,hs sb e1.lt h.ts,hs xb h.om.lt h.tx,hs yb h.nm.lt h.ty,h.ne⟩
theorem BlM.altV{b:Nat}{f:Nat->Nat}{at_:Option Ptr}(h:BlM o w b f at_)(ha:Alt K w w')(hb:¬K b)(hK:∀b t cs,t≠115->Blk w b t cs->¬K b)(hs:∀b,b<w.heap.size->o b=2->o' b=2):BlM o' w' b f at_:=by
 obtain⟨h0,h⟩:=h;cases at_ with
 |none=>obtain⟨g,off,cs,c,h1,h2,h3,h4⟩:=h;exact⟨hs b h1.lt h0,g,off,cs,c,ha.blk h1 hb,hs g h3.lt h2,ha.blk h3 (hK g _ _ (by decide) h3),h4⟩
 |some q=>obtain⟨g,h1,h2,h3⟩:=h;exact⟨hs b h1.lt h0,g,ha.blk h1 hb,hs g h3.lt h2,ha.blk h3 (hK g _ _ (by decide) h3)⟩
end
theorem VM.retag{A:VA}{o o':Nat->Nat}{s:VS}{w:World}(h:VM A o s w)(ht:∀b,b<w.heap.size->o b≠0->o' b=o b):VM A o' s w:=by
 obtain⟨cs,hc,hc2⟩:=h.db;exact⟨h.bk,⟨cs,hc,hc2⟩,h.eb,h.fb,fun i hi=>(h.dr i hi).keep (K:=fun _=>False) (Alt.refl w) (fun _ _ _ f=>f) fun b hb hp=>by rw[ht b hb (by omega)];exact hp,
  by rw[ht _ h.bk.lt (by rw[h.ov];decide),h.ov],by rw[ht _ hc.lt (by rw[h.od];decide),h.od],by rw[ht _ h.eb.lt (by rw[h.oe];decide),h.oe],by rw[ht _ h.fb.lt (by rw[h.of];decide),h.of]⟩
theorem m_N:∀{l:PL} {j:Nat} {e:MapEntry},e∈esL j l->∃i p,l[i]?=some p/\e=⟨ptr p.1,p.2,j+i⟩
 |[],_,_,h=>by cases h
 |p::l,j,e,h=>by
  rcases List.mem_cons.1 h with rfl|h
  ·exact⟨0,p,rfl,rfl⟩
  ·obtain⟨i,p',h1,h2⟩:=m_N h
   exact⟨i+1,p',h1,by rw[h2];congr 1;omega⟩
theorem q_4:∀{l:PL} {j i:Nat} {p:Nat×Value},l[i]?=some p->(⟨ptr p.1,p.2,j+i⟩:MapEntry)∈esL j l
 |[],_,_,_,h=>by cases h
 |a::l,j,0,p,h=>by cases h;exact List.mem_cons_self ..
 |a::l,j,i+1,p,h=>by
  have:=q_4 (j:=j+1) (show l[i]?=some p by simpa using h)
  rw[show j+(i+1)=j+1+i by omega]
  exact List.mem_cons_of_mem _ this
theorem g_B:∀(l:PL) (j:Nat),(esL j l).map (·.born)=List.range' j l.length
 |[],_=>rfl
 |p::l,j=>by
  show j::(esL (j+1) l).map (·.born)=List.range' j (l.length+1);rw[g_B l (j+1),List.range'_succ]
theorem t_0{MD:List Nat}{qs:List Ptr}{i:Nat}{p:Nat×Value}(h:(plQ MD qs)[i]?=some p):∃b q,MD[i]?=some b/\qs[i]?=some q/\p=(b,.agg (x_ q)):=by
 unfold plQ at h;rw[List.getElem?_zipWith]at h;cases h1:MD[i]? with
 |none=>rw[h1]at h;cases h
 |some b=>
  cases h2:qs[i]? with
  |none=>rw[h1,h2]at h;cases h
  |some q=>rw[h1,h2]at h;cases h;exact⟨b,q,rfl,rfl,rfl⟩
theorem s_Z{MD:List Nat}{qs:List Ptr}{i b:Nat}{q:Ptr}(h1:MD[i]?=some b)(h2:qs[i]?=some q):(plQ MD qs)[i]?=some (b,.agg (x_ q)):=by
 unfold plQ;rw[List.getElem?_zipWith,h1,h2]
theorem m_e{MD:List Nat}{qs:List Ptr}(h:qs.length=MD.length):(plQ MD qs).length=MD.length:=by
 unfold plQ;rw[List.length_zipWith,h,Nat.min_self]
open Classical in
noncomputable def atE (ats:Nat->Option Ptr) (MD:List Nat) (pt:Nat->Ptr) (seen:Array Nat) (b:Nat):Option Ptr:=if ats b=none/\¬∃i,MD[i]?=some b/\seen.contains i=true then none else some (pt b)
structure SyE(g:GS)(bc:Nat->Nat->Nat)(ats:Nat->Option Ptr)(MD:List Nat)(qs:List Ptr)(pt:Nat->Ptr)(pm r:Nat)(oE:Nat->Nat)(W3:World)(seen:Array Nat)(c0:Nat)(w:World):Prop where
 it:w.heap[r]?=some (.mapIter (some pm) MD.length seen c0)
 sc:MD.length<=c0
 mp:PM w pm (plQ MD qs)
 bl:∀b,b∈g.all->BlM oE w b (bc b) (atE ats MD pt seen b)
 al:Alt (fun b=>oE b=2/\∃cs,Blk W3 b 115 cs) W3 w
 rn:W3.heap.size<=r
section
variable {g:GS}{bc:Nat->Nat->Nat}{ats:Nat->Option Ptr}{MD:List Nat}{qs:List Ptr}{pt:Nat->Ptr}{pm r:Nat}{oE:Nat->Nat}{W3:World}{seen:Array Nat}{c0:Nat}{w:World}{P:Program}
theorem SyE.left(h:SyE g bc ats MD qs pt pm r oE W3 seen c0 w):w.rangeLeft pm r=(leftOf (esL 0 (plQ MD qs)).toArray seen).size:=by
 have h1:w.heap[pm]?=some (.map (esL 0 (plQ MD qs)).toArray (plQ MD qs).length):=h.mp;simp only[World.rangeLeft,h1,h.it]
theorem SyE.next(h:SyE g bc ats MD qs pt pm r oE W3 seen c0 w)(hl:qs.length=MD.length)(hMg:∀b,b∈MD->b∈g.all/\ats b=none)(hMn:MD.Nodup)(hpt:q_O g ats MD qs pt)(ty:TypeId) :
  ((∀b,b∈g.all->BlM oE w b (bc b) (some (pt b)))/\(Instr.next (.pointer (some ⟨r,0,none⟩)) false ty).run P w=.ok (.tuple #[.bool false]) w) \/
  ∃i b q w1,MD[i]?=some b/\qs[i]?=some q/\pt b=q/\(Instr.next (.pointer (some ⟨r,0,none⟩)) false ty).run P w=.ok (.tuple #[.bool true,ptr b,.agg (x_ q)]) w1/\(Instr.entry (.pointer (some ⟨r,0,none⟩))).run P w1=.ok (.tuple #[ptr b,.agg (x_ q)]) w1/\BlM oE w1 b (bc b) none/\(∀b',b'∈g.all->b'≠b->BlM oE w1 b' (bc b') (atE ats MD pt (seen.push i) b')) /\
   w1.heap[r]?=some (.mapIter (some pm) MD.length (seen.push i) MD.length)/\PM w1 pm (plQ MD qs)/\Alt (fun b=>oE b=2/\∃cs,Blk W3 b 115 cs) W3 w1/\(leftOf (esL 0 (plQ MD qs)).toArray (seen.push i)).size<w.rangeLeft pm r:=by
 have hb:w.heap[pm]?=some (.map (esL 0 (plQ MD qs)).toArray (plQ MD qs).length):=h.mp;have hlen:=m_e hl;have hborn:∀x∈esL 0 (plQ MD qs),x.born<MD.length:=fun x hx=>by
  have h1:x.born∈(esL 0 (plQ MD qs)).map (·.born):=List.mem_map.2 ⟨x,hx,rfl⟩;rw[g_B,List.mem_range',hlen]at h1;obtain⟨i,h2,h3⟩:=h1;omega
 have hrlt:=(Array.getElem?_eq_some_iff.1 h.it).1;rcases run_next_at (P:=P) w ty r pm MD.length c0 seen (esL 0 (plQ MD qs)).toArray (plQ MD qs).length h.it hb (by simpa using hborn) h.sc with⟨h0,hrun⟩|⟨e,he,w1,hal,hrun⟩
 ·refine .inl ⟨fun b hb=>?_,hrun⟩
  have h1:=h.bl b hb;unfold atE at h1;rw[if_neg]at h1
  ·exact h1
  ·rintro⟨h2,h3⟩
   rcases hpt b hb with h4|⟨_,i,h5,h6⟩
   ·rw[h2]at h4;cases h4
   ·refine h3 ⟨i,h5,?_⟩
    have:=all_seen _ seen h0 _ (by simpa using q_4 (j:=0) (s_Z h5 h6))
    simpa using this
 ·obtain⟨hem,hes⟩:=mem_left he
  obtain⟨i,p,h1,h2⟩:=m_N (by simpa using hem)
  obtain⟨b,q,h3,h4,rfl⟩:=t_0 h1;rw[Nat.zero_add]at h2;subst h2;have hes:seen.contains i=false:=hes;obtain⟨hbg,hbn⟩:=hMg b (List.mem_of_getElem? h3);have hptb:pt b=q:=by
   rcases hpt b hbg with h5|⟨_,k,h5,h6⟩
   ·rw[hbn]at h5;cases h5
   ·obtain⟨l5,e5⟩:=List.getElem?_eq_some_iff.1 h5
    obtain⟨l3,e3⟩:=List.getElem?_eq_some_iff.1 h3;have:k=i:=c_U hMn l5 l3 (e5.trans e3.symm);subst this;rw[h4]at h6;exact(Option.some.inj h6).symm
  have hset:∀ob,Alt (fun k=>k=r) w (setBlock w1 r ob):=fun ob=>by
   rcases hal with rfl|rfl
   ·exact a_i w1 r ob
   ·exact⟨rfl,rfl,rfl,by simp[setBlock],fun k hk hne=>by simp[setBlock,Ne.symm hne];rfl⟩
  have hr1:w1.heap.size=w.heap.size:=by rcases hal with rfl|rfl<;>rfl
  have hnb:∀t cs,¬Blk w r t cs:=fun t cs hc=>by
   have hc:w.heap[r]?=some (.cells cs t):=hc;rw[h.it]at hc;cases hc
  have hA:=hset (.mapIter (some pm) MD.length (seen.push i) (plQ MD qs).length);have hK1:∀b t cs,t≠115->Blk w b t cs->¬(b=r):=fun b t cs _ hb e=>hnb t cs (by rw[<-e];exact hb)
  have hK2:∀b,b∈g.all->¬(b=r):=fun b hb e=>by
   obtain⟨cs,h5⟩:=(h.bl b hb).blk;exact hnb _ cs (by rw[<-e];exact h5)
  have hpr:pm≠r:=fun e=>by
   rw[e,h.it]at hb;cases hb
  have hP1:PM (setBlock w1 r (.mapIter (some pm) MD.length (seen.push i) (plQ MD qs).length)) pm (plQ MD qs):=h.mp.alt hA hpr;refine .inr ⟨i,b,q,_,h3,h4,hptb,hrun,run_entry_at _ r pm MD.length seen (esL 0 (plQ MD qs)).toArray (plQ MD qs).length _ (by simp[setBlock,hr1,hrlt]) hP1 hem (by simpa [g_B]using List.nodup_range'),?_,fun b' hb' hne=>?_,by rw[<-hlen];simp[setBlock,hr1,hrlt],hP1,h.al.trans' hA fun k e=>.inr (by rw[e];exact h.rn),?_⟩
  ·have h5:=h.bl b hbg
   unfold atE at h5;rw[if_pos]at h5
   ·exact h5.altV hA (hK2 b hbg) hK1 fun _ _ e=>e
   ·refine⟨hbn,?_⟩
    rintro⟨k,h6,h7⟩;obtain⟨l5,e5⟩:=List.getElem?_eq_some_iff.1 h6;obtain⟨l3,e3⟩:=List.getElem?_eq_some_iff.1 h3;have:k=i:=c_U hMn l5 l3 (e5.trans e3.symm);subst this;rw[hes]at h7;cases h7
  ·have h5:=(h.bl b' hb').altV hA (hK2 b' hb') hK1 fun _ _ e=>e
   have e:atE ats MD pt (seen.push i) b'=atE ats MD pt seen b':=by
    have hiff:(∃k,MD[k]?=some b'/\(seen.push i).contains k=true)↔∃k,MD[k]?=some b'/\seen.contains k=true:=by
     constructor
     ·rintro⟨k,h6,h7⟩
      refine⟨k,h6,?_⟩;rw[contains_push]at h7;have:(k==i)=false:=by
       simp only[beq_eq_false_iff_ne,ne_eq];intro e;rw[e,h3]at h6;exact hne (Option.some.inj h6).symm
      rw[this,Bool.or_false]at h7;exact h7
     ·rintro⟨k,h6,h7⟩
      exact⟨k,h6,by rw[contains_push,h7];rfl⟩
    unfold atE
    by_cases hc:ats b'=none/\¬∃k,MD[k]?=some b'/\seen.contains k=true
    ·rw[if_pos hc,if_pos ⟨hc.1,fun h=>hc.2 (hiff.1 h)⟩]
    ·rw[if_neg hc,if_neg fun h=>hc ⟨h.1,fun h2=>h.2 (hiff.2 h2)⟩]
   rw[e];exact h5
  ·rw[h.left]
   exact left_shrinks _ seen _ he
theorem SyE.start{o:Nat->Nat}{W1 w6:World}{olds rs:List Ptr}{x vr:Value}{o6:Nat->Nat}(hR:SyR o W1 pm MD qs olds rs x vr o6 w6)(hB1:∀b,b∈g.all->BlM o W1 b (bc b) (ats b))(hpt:q_O g ats MD qs pt):SyE g bc ats MD qs pt pm w6.heap.size (tag2 o6 w6) w6 #[] MD.length (w6.alloc (.mapIter (some pm) MD.length #[] MD.length))/\(∀b,b∈g.all->tag2 o6 w6 b=2/\∃cs,Blk w6 b 115 cs):=by
 have h6:∀b,b∈g.all->BlM (tag2 o6 w6) w6 b (bc b) (ats b):=fun b hb=>((hB1 b hb).alt hR.al (fun k h2 hk=>by omega) hR.sm).alt (K:=fun _=>False) (Alt.refl w6) (fun _ _ f=>f) (a_w o6 w6)
 refine⟨⟨heap_alloc_new w6 _,Nat.le_refl _,hR.mp.alt (K:=fun _=>False) ((Alt.refl w6).alloc _) fun f=>f,fun b hb=>?_,(Alt.refl w6).alloc _,Nat.le_refl _⟩,fun b hb=>⟨(h6 b hb).1,(h6 b hb).blk⟩⟩;have e:atE ats MD pt #[] b=ats b:=by
  unfold atE;rcases hpt b hb with h1|⟨h1,_⟩
  ·rw[if_neg (fun h=>by rw[h1]at h;cases h.1),h1]
  ·rw[if_pos ⟨h1,by simp⟩,h1]
 rw[e];exact(h6 b hb).alt (K:=fun _=>False) ((Alt.refl w6).alloc _) (fun _ _ f=>f) (s_.refl _ w6)
theorem SyE.put{i b c1:Nat}{q:Ptr}{w1:World}(hMg:∀b,b∈MD->b∈g.all/\ats b=none)(hptb:pt b=q)(hi:MD[i]?=some b)(hbl:BlM oE w1 b (bc b) none)(hbs:∀b',b'∈g.all->b'≠b->BlM oE w1 b' (bc b') (atE ats MD pt (seen.push i) b'))(hit:w1.heap[r]?=some (.mapIter (some pm) MD.length (seen.push i) c1))(hc1:MD.length<=c1)(hmp:PM w1 pm (plQ MD qs))(hal:Alt (fun b=>oE b=2/\∃cs,Blk W3 b 115 cs) W3 w1)(hrn:W3.heap.size<=r)(hb3:∀b,b∈g.all->oE b=2/\∃cs,Blk W3 b 115 cs)(ho3:∀k,W3.heap.size<=k->oE k=2){w2:World}(hw2:w2=((w1.alloc (.cells (x_ q) 107)).setCell ⟨b,1,none⟩ (ptr w1.heap.size)).setCell ⟨b,0,none⟩ (.slice none 0 0)):SyE g bc ats MD qs pt pm r oE W3 (seen.push i) c1 w2:=by
 have hbg:=(hMg b (List.mem_of_getElem? hi)).1;have hA:Alt (fun k=>k=b) w1 w2:=by
  rw[hw2];exact Alt.set (K:=fun k=>k=b) (Alt.set (K:=fun k=>k=b) ((Alt.refl w1).alloc _) (.inl rfl) _) (.inl rfl) _
 obtain⟨cs,hcs⟩:=hbl.blk;have hbr:r≠b:=fun e=>by
  have h1:w1.heap[b]?=some (.cells cs 115):=hcs;rw[<-e,hit]at h1;cases h1
 have hb1:Blk w2 b 115 #[.slice none 0 0,ptr w1.heap.size]:=by
  obtain⟨_,x1,x2,x3,x4,h1,_⟩:=hbl;have h2:=((h1.alloc (.cells (x_ q) 107)).put 1 (ptr w1.heap.size)).put 0 (.slice none 0 0);rw[hw2];simpa using h2
 have hb2:Blk w2 w1.heap.size 107 (x_ q):=by
  have h1:=Blk.fresh w1 107 (x_ q);have hne:w1.heap.size≠b:=fun e=>by have:=hcs.lt;omega
  rw[hw2];exact(h1.far (p:=⟨b,1,none⟩) hne _).far (p:=⟨b,0,none⟩) hne _
 refine⟨(hA.same r (Array.getElem?_eq_some_iff.1 hit).1 hbr).trans hit,hc1,hmp.alt hA (fun e=>hmp.ne_blk hcs e),fun b' hb'=>?_,hal.trans' hA fun k e=>.inl (by rw[e];exact hb3 b hbg),hrn⟩
 by_cases e:b'=b
 ·subst e
  have e2:atE ats MD pt (seen.push i) b'=some q:=by
   unfold atE;rw[if_neg (fun h=>h.2 ⟨i,hi,by rw[contains_push];simp⟩),hptb]
  rw[e2];exact⟨(hb3 b' hb').1,_,hb1,ho3 _ hal.size,hb2⟩
 ·exact(hbs b' hb' e).altV hA e (fun k t ds ht hk ek=>e_ hk hcs ht ek) fun _ _ h=>h
end
end vault
end Go.Proofs.YtojcoaekhiadcaaGreat
