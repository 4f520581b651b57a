import Derived.Test.YtojcoaekhiadcaaGreatA01
import Derived.Test.YtojcoaekhiadcaaGreatA32
import Derived.Test.YtojcoaekhiadcaaGreatA38
import Derived.Test.YtojcoaekhiadcaaGreatRows
import Derived.Test.YtojcoaekhiadcaaGreatA33
set_option linter.unusedVariables false
set_option linter.unusedSimpArgs false
namespace Go.Proofs.YtojcoaekhiadcaaGreat
open _root_.Go.Proofs.Tryz Go.RowKit
namespace top
set_option maxRecDepth 100000
open Go.ChangeShapes Go.WideShapes Go.ChangeAt kit pool vault Go.Deep
def s_D(w:World)(e:Ending)(w':World):Prop:=∃g c b off d,e=.returned (.tuple #[.slice (some ⟨g,0,none⟩) 6 c,.bool true])/\w'.cell? ⟨g,27,none⟩=some (.int .i64 1)/\w'.cell? ⟨g,28,none⟩=some (.slice (some ⟨b,off,none⟩) 1 d)/\1<=d/\w'.cell? ⟨b,off,none⟩=some (.int .u8 5)/\New w w'
theorem i_2(c:Nat)(B:Option Addr)(kp:Nat->Int)(R:Nat->Option Addr)(dc:Nat->Nat)(w:World)(hJ:RdC w B 6 a_z f_L kp R dc) :
  Calls prog 23 #[.int .i64 2,.int .i64 1,.slice B 6 c] w (s_D w):=by
 obtain⟨A,c',w1,hr,hR,hn⟩:=e_N (c:=c) 25 hJ (by omega)
 have hp:=Hd (o_g c' A kp R dc w1 hR);have hn:=Hd hn;clear hR hJ;go_enter func23,ntmps23;go_wp2_with (first
  |(at_builtin;refine a_K rfl _ _ 25 rfl _ _ rfl rfl hr ?_)
  |fail)
 refine hp.o.mono ?_;rintro e w' ⟨⟨v,dv,nv,rfl,ho,hd⟩,hn2⟩;obtain⟨A2,c2,rfl,h1,h2,h3,h4⟩:=h_ ho;obtain⟨g,rfl,_,_⟩:=h3 (by omega)
 obtain⟨_,_,a2,a3,_⟩:=k_t l_U dv nv 6 5 (by omega)
 obtain⟨⟨A3,c3,e3,h5,h6,_,h7⟩,_⟩:=hd 5 (by omega)
 obtain⟨b,off,cs,rfl,hb,hcs⟩:=h7 (by decide)
 have hf:Hid (s_D w (.returned (.tuple #[.slice (some ⟨g,0,none⟩) 6 c2,.bool true])) w'):=by
  refine⟨g,c2,b,off,c3,rfl,h4 g rfl _ _ a2,(h4 g rfl _ _ a3).trans (by rw[e3];rfl),h5,?_,hn.o.next hn2⟩
  rw[hb.cell];exact hcs 0 (by decide)
 clear hp h1 h2 h3 h4 ho hd hn2;go_wp2;exact bodyPost_ret (v:=.tuple #[.slice (some ⟨g,0,none⟩) 6 c2,.bool true]) (by simp[results,results23,go_sem]) rfl hf.o
def f_o(p:Nat):Array Value:=#[.int .i64 1,.string {data:=#[97]},.string {data:=#[]},.int .i64 0,.int .i64 0,.int .i64 0,.int .i64 0,.slice none 0 0,.int .i64 2,.string {data:=#[97]},.string {data:=#[]},.int .i64 0,.int .i64 0,.int .i64 0,.int .i64 0,.slice (some ⟨p,0,none⟩) 1 1,.int .i64 12,.string {data:=#[]},.string {data:=#[]},.int .i64 0,.int .i64 0,.int .i64 0,.int .i64 0,.slice none 0 0,.int .i64 16,.string {data:=#[]},.string {data:=#[]},.int .i64 0,.int .i64 0,.int .i64 1,.int .i64 0,.slice none 0 0,.int .i64 13,.string {data:=#[]},.string {data:=#[]},.int .i64 0,.int .i64 0,.int .i64 0,.int .i64 0,.slice none 0 0,.int .i64 3,.string {data:=#[97]},.string {data:=#[]},.int .i64 0,.int .i64 9,.int .i64 0,.int .i64 0,.slice none 0 0]
theorem r_0(w:World):RdC ((w.alloc (.cells #[.int .u8 5] 5)).alloc (.cells (f_o w.heap.size) 45)) (some ⟨w.heap.size+1,0,none⟩) 6 a_z f_L (fun _=>0) (fun i=>if i=1 then some ⟨w.heap.size,0,none⟩else none) (fun i=>if i=1 then 1 else 0):=by
 have hb:=Blk.fresh (w.alloc (.cells #[.int .u8 5] 5)) 45 (f_o w.heap.size);have hk:=(Blk.fresh w 5 #[.int .u8 5]).alloc (.cells (f_o w.heap.size) 45);rw[World.size_alloc]at hb;have e8:(6:Nat)<=maxLen:=by unfold maxLen;omega
 refine⟨e8,fun _=>⟨_,0,rfl,hb.lt,fun i hi=>?_⟩,fun i hi=>?_⟩
 ·have:i=0\/i=1\/i=2\/i=3\/i=4\/i=5:=by omega
  rcases this with rfl|rfl|rfl|rfl|rfl|rfl<;>exact⟨(hb.cell _).trans rfl,(hb.cell _).trans rfl,(hb.cell _).trans rfl,(hb.cell _).trans rfl,(hb.cell _).trans rfl,(hb.cell _).trans rfl,(hb.cell _).trans rfl,(hb.cell _).trans rfl⟩
 ·have hz:∀f,RdI .u8 ((w.alloc (.cells #[.int .u8 5] 5)).alloc (.cells (f_o w.heap.size) 45)) none 0 f:=fun f=>⟨Nat.zero_le _,fun h=>absurd h (Nat.lt_irrefl 0)⟩
  have e1:(1:Nat)<=maxLen:=by unfold maxLen;omega
  have:i=0\/i=1\/i=2\/i=3\/i=4\/i=5:=by omega
  rcases this with rfl|rfl|rfl|rfl|rfl|rfl
  ·exact⟨e1,Nat.zero_le _,show(0:Int)<=_ by decide,show(0:Int)<=_ by decide,hz _,⟨Nat.le_refl 0,Nat.zero_le _⟩,fun j=>show 0<256 by decide⟩
  ·refine⟨e1,Nat.zero_le _,show(0:Int)<=_ by decide,show(0:Int)<=_ by decide,⟨e1,fun _=>⟨_,0,rfl,hk.lt,fun j hj=>?_⟩⟩,⟨Nat.le_refl 1,e1⟩,fun j=>show 5<256 by decide⟩
   have hj:j<1:=hj;obtain rfl:j=0:=by omega
   exact(hk.cell 0).trans rfl
  ·exact⟨Nat.zero_le _,Nat.zero_le _,show(0:Int)<=_ by decide,show(0:Int)<=_ by decide,hz _,⟨Nat.le_refl 0,Nat.zero_le _⟩,fun j=>show 0<256 by decide⟩
  ·exact⟨Nat.zero_le _,Nat.zero_le _,show(0:Int)<=_ by decide,show(0:Int)<=_ by decide,hz _,⟨Nat.le_refl 0,Nat.zero_le _⟩,fun j=>show 0<256 by decide⟩
  ·exact⟨Nat.zero_le _,Nat.zero_le _,show(0:Int)<=_ by decide,show(0:Int)<=_ by decide,hz _,⟨Nat.le_refl 0,Nat.zero_le _⟩,fun j=>show 0<256 by decide⟩
  ·exact⟨e1,Nat.zero_le _,show(0:Int)<=_ by decide,show(9:Int)<=_ by decide,hz _,⟨Nat.le_refl 0,Nat.zero_le _⟩,fun j=>show 0<256 by decide⟩
theorem h_0(w:World) :
  Calls prog 10 #[] w fun e w'=>e=.returned (.bool true)/\New w w':=by
 have hv:=Hd (i_2 6 _ _ _ _ _ (r_0 w));go_enter func10,ntmps10;go_wp2_with fail;refine hv.o.mono ?_;rintro e w' ⟨g,c,b,off,d,rfl,h1,h2,h3,h4,hn⟩;have hn:Hid (New w w'):=New.next (((New.refl w).alloc _).alloc _) hn;have hd:(1:Int)<=(d:Int):=by omega
 clear hv;go_wp2_with fail;go_ret;exact⟨rfl,hn.o⟩
end top
namespace topAlike
set_option maxRecDepth 100000
open Go.ChangeShapes Go.WideShapes Go.ChangeAt kit pool vault top Go.Deep
def n_3(w:World)(A:Option Addr)(k:Nat)(T:Nat->Td):Prop:=
 ∃dv nv:Nat->Value,(0<k->∃g,A=some ⟨g,0,none⟩/\g<w.heap.size/\∀i,i<k->w.cell? ⟨g,i*5,none⟩=some (.int .i64 (T i).code)/\w.cell? ⟨g,i*5+1,none⟩=some (.bool false)/\w.cell? ⟨g,i*5+2,none⟩=some (.int .i64 ((T i).size:Nat))/\w.cell? ⟨g,i*5+3,none⟩=some (dv i)/\w.cell? ⟨g,i*5+4,none⟩=some (nv i))/\∀i,i<k->Bs w (dv i) (T i).dat/\Ns w (nv i) (T i).names
theorem l_E{w w':World}{v:Value}{l:List pool.Nm}(h:Ns w v l)(hn:New w w'):Ns w' v l:=h.alt (K:=fun _=>False) (Alt.of_new hn) fun _ _ _ f=>f
theorem n_3.new{w w':World}{A:Option Addr}{k:Nat}{T:Nat->Td}(h:n_3 w A k T)(hn:New w w'):n_3 w' A k T:=by
 obtain⟨dv,nv,h1,h2⟩:=h;refine⟨dv,nv,fun h0=>?_,fun i hi=>⟨(h2 i hi).1.new hn,l_E (h2 i hi).2 hn⟩⟩;obtain⟨g,e,hg,hc⟩:=h1 h0;refine⟨g,e,Nat.lt_of_lt_of_le hg hn.size,fun i hi=>?_⟩;obtain⟨c0,c1,c2,c3,c4⟩:=hc i hi;exact⟨(hn.cell hg).trans c0,(hn.cell hg).trans c1,(hn.cell hg).trans c2,(hn.cell hg).trans c3,(hn.cell hg).trans c4⟩
theorem l_Q{T:Nat->Td}{k:Nat}{w w':World}{e:Ending}(h:PlO T k 0 w e w'):∃A c,e=.returned (.tuple #[.slice A k c,.int .i64 0])/\n_3 w' A k T/\New w w':=by
 obtain⟨⟨v,dv,nv,rfl,ho,hd⟩,hn⟩:=h;obtain⟨A,c,rfl,h1,h2,h3,h4⟩:=h_ ho;refine⟨A,c,rfl,⟨dv,nv,fun h0=>?_,hd⟩,hn⟩;obtain⟨g,rfl,_,hg⟩:=h3 h0;refine⟨g,rfl,hg,fun i hi=>?_⟩;obtain⟨a0,a1,a2,a3,a4⟩:=k_t T dv nv k i hi;exact⟨h4 g rfl _ _ a0,h4 g rfl _ _ a1,h4 g rfl _ _ a2,h4 g rfl _ _ a3,h4 g rfl _ _ a4⟩
set_option maxHeartbeats 4000000 in
theorem u_c(a b c d:Int)(ha:I64 a)(hb:I64 b)(hc:I64 c)(hd:I64 d)(B:Option Addr)(m cap:Nat)(Os:Nat->Od)(R:Nat->Option Addr)(dc:Nat->Nat)(w:World)(hO:RdO w B m Os R dc) :
  Calls prog 3 #[.int .i64 a,.int .i64 b,.int .i64 c,.int .i64 d,.slice B m cap] w fun e w'=>e=.returned (.bool true)/\New w w':=by
 have hOH:=Hd hO;clear hO;go_enter func3,ntmps3;go_wp2_with fail;refine(h_X a b _ ha hb).mono ?_;rintro e w1 ⟨rfl,hn1⟩;obtain⟨n1,p1,hs1⟩:∃n p,Hid (n=shN a/\p=shP a b):=⟨_,_,rfl,rfl⟩;rw[<-hs1.o.1,<-hs1.o.2];go_wp2_with fail;refine(h_X c d _ hc hd).mono ?_;rintro e w2 ⟨rfl,hn2⟩;obtain⟨n2,p2,hs2⟩:∃n p,Hid (n=shN c/\p=shP c d):=⟨_,_,rfl,rfl⟩;rw[<-hs2.o.1,<-hs2.o.2];go_wp2_with fail;refine(i_S _).mono ?_;rintro e w3 ⟨g,rfl,hk,hn3⟩;have hN3:Hid (New w w3):=New.next (New.next hn1 hn2) hn3;have hcm:=Hd (i_U Os m 60 cap g B R dc w3 (hOH.o.new hN3.o) hk (by omega))
 clear hn1 hn2 hn3 hk;go_wp2_with fail;refine hcm.o.mono ?_;obtain⟨k,hk⟩:∃k,Hid (k=min m 60):=⟨_,rfl⟩;rw[<-hk.o];have hk60:k<=60:=by rw[hk.o];omega
 rintro e w4 ⟨A,cc,R4,d4,rfl,h1,h2,hR,hn4⟩;have hkd:Hid (∀i,i<k->1<=(cmO (Os i)).kind/\(cmO (Os i)).kind<=12):=fun i hi=>p_L _ (by omega)
 obtain⟨A5,c5,w5,hr5,hR5,hn5⟩:=e_N (c:=cc) 25 hR (by omega)
 have hR4:=Hd hR;have b1:=k_C a;have b2:=k_B a b;rw[<-hs1.o.1]at b1 b2;rw[<-hs1.o.2]at b2;have hp5:=Hd (k_f n1 p1 b1.1 b1.2.1 b2.1 b2.2.1 b2.2.2.1 k c5 A5 _ _ _ _ _ w5 (by omega) hR5 hkd.o)
 clear b1 b2;have hN5:Hid (New w w5):=New.next (New.next hN3.o hn4) hn5;have hn5:=Hd hn5;clear hR hR5 hn4 h1 h2 hcm hN3;show _;dsimp only;go_wp2_with (first
  |(at_builtin;refine a_K rfl _ _ 25 rfl _ _ rfl rfl hr5 ?_)
  |fail)
 refine hp5.o.mono ?_;intro e w6 hP;obtain⟨A6,c6,rfl,hT6,hn6⟩:=l_Q hP;obtain⟨A7,c7,w7,hr7,hR7,hn7⟩:=e_N (c:=cc) 25 ((hR4.o.new hn5.o).new hn6) (by omega)
 have b3:=k_C c;have b4:=k_B c d;rw[<-hs2.o.1]at b3 b4;rw[<-hs2.o.2]at b4;have hp7:=Hd (k_f n2 p2 b3.1 b3.2.1 b4.1 b4.2.1 b4.2.2.1 k c7 A7 _ _ _ _ _ w7 (by omega) hR7 hkd.o)
 clear b3 b4;have hN7:Hid (New w w7):=New.next (New.next hN5.o hn6) hn7;have hT7:=Hd (hT6.new hn7);clear hP hT6 hn6 hn7 hR7 hr5 hp5 hN5 hR4 hn5;go_wp2_with (first
  |(at_builtin;refine a_K rfl _ _ 25 rfl _ _ rfl rfl hr7 ?_)
  |fail)
 refine hp7.o.mono ?_;intro e w8 hP;obtain⟨A8,c8,rfl,hT8,hn8⟩:=l_Q hP;have hTa:=Hd (hT7.o.new hn8);have hTb:=Hd hT8;have hN8:Hid (New w w8):=New.next hN7.o hn8;clear hP hT8 hn8 hr7 hp7 hN7 hT7;go_wp2_with fail;refine(h_0 _).mono ?_;rintro e w9 ⟨rfl,hn9⟩;have hT1:=Hd (hTa.o.new hn9);have hT2:=Hd (hTb.o.new hn9);have hN9:Hid (New w w9):=New.next hN8.o hn9;clear hn9 hTa hTb hN8;go_wp2_with fail;go_loopw [20] (fun x wr=>∃i:Nat,x=.int .i64 i/\i<=k/\Hid (New w9 wr)) (fun x _=>k-(intOf x).toNat);case atStart=>exact⟨0,rfl,Nat.zero_le _,New.refl _⟩
 case round=>
  obtain⟨i,rfl,hi,hnr⟩:=hrel
  by_cases hlt:i<k
  ·obtain⟨dv,nv,hg,hd⟩:=hT1.o.new hnr.o
   obtain⟨dv2,nv2,hg2,hd2⟩:=hT2.o.new hnr.o;obtain⟨g1,rfl,hl1,hc1⟩:=hg (by omega)
   obtain⟨g2,rfl,hl2,hc2⟩:=hg2 (by omega)
   obtain⟨e0,e1,e2,e3,e4⟩:=hc1 i hlt;obtain⟨f0,f1,f2,f3,f4⟩:=hc2 i hlt;have hst:=Hd (fun w' (hn:New wr w')=>k_d _ (dv i) (dv2 i) (nv i) (nv2 i) w' ((hd i hlt).1.new hn) ((hd2 i hlt).1.new hn) (l_E (hd i hlt).2 hn) (l_E (hd2 i hlt).2 hn));replace hst:Hid (∀w',New wr w'->_):=hst;obtain⟨T,hT⟩:∃T,Hid (T=f_J (fun i=>cmO (Os i)) i):=⟨_,rfl⟩;have hilt:(i:Int)<(k:Int):=by omega
   have hi0:(0:Int)<=(i:Int):=by omega
   rw[<-hT.o]at e0 e2 f0 f2 hst;obtain⟨t0,ht0⟩:∃x,Hid (x=T.code):=⟨_,rfl⟩;obtain⟨t2,ht2⟩:∃x,Hid (x=T.size):=⟨_,rfl⟩;rw[<-ht0.o]at e0 f0;rw[<-ht2.o]at e2 f2;obtain⟨x1,hx1⟩:∃x,Hid (x=dv i):=⟨_,rfl⟩;obtain⟨x2,hx2⟩:∃x,Hid (x=dv2 i):=⟨_,rfl⟩;obtain⟨x3,hx3⟩:∃x,Hid (x=nv i):=⟨_,rfl⟩;obtain⟨x4,hx4⟩:∃x,Hid (x=nv2 i):=⟨_,rfl⟩;rw[<-hx1.o]at e3 hst;rw[<-hx2.o]at f3 hst;rw[<-hx3.o]at e4 hst;rw[<-hx4.o]at f4 hst;unfold tdV at hst;rw[<-ht0.o,<-ht2.o]at hst;clear hg hg2 hd hd2 hc1 hc2 hT1 hT2;replace hst:Hid (∀w',New wr w'->_):=hst;have hkeep:Hid (∀w',New wr w'->w'.cell? ⟨g1,i*5,none⟩=some (.int .i64 t0)/\w'.cell? ⟨g1,i*5+1,none⟩=some (.bool false)/\w'.cell? ⟨g1,i*5+2,none⟩=some (.int .i64 t2)/\w'.cell? ⟨g1,i*5+3,none⟩=some x1/\w'.cell? ⟨g1,i*5+4,none⟩=some x3 /\
     w'.cell? ⟨g2,i*5,none⟩=some (.int .i64 t0)/\w'.cell? ⟨g2,i*5+1,none⟩=some (.bool false)/\w'.cell? ⟨g2,i*5+2,none⟩=some (.int .i64 t2)/\w'.cell? ⟨g2,i*5+3,none⟩=some x2/\w'.cell? ⟨g2,i*5+4,none⟩=some x4):=fun w' hn=>
    ⟨(hn.cell (a_ e0)).trans e0,(hn.cell (a_ e1)).trans e1,(hn.cell (a_ e2)).trans e2,(hn.cell (a_ e3)).trans e3,(hn.cell (a_ e4)).trans e4,(hn.cell (a_ f0)).trans f0,(hn.cell (a_ f1)).trans f1,(hn.cell (a_ f2)).trans f2,(hn.cell (a_ f3)).trans f3,(hn.cell (a_ f4)).trans f4⟩
   go_wp2_with fail;go_region_held3 (fun w'=>w'.cell? ⟨g1,i*5,none⟩=some (.int .i64 t0)/\w'.cell? ⟨g1,i*5+1,none⟩=some (.bool false)/\w'.cell? ⟨g1,i*5+2,none⟩=some (.int .i64 t2)/\w'.cell? ⟨g1,i*5+3,none⟩=some x1/\w'.cell? ⟨g1,i*5+4,none⟩=some x3 /\
     w'.cell? ⟨g2,i*5,none⟩=some (.int .i64 t0)/\w'.cell? ⟨g2,i*5+1,none⟩=some (.bool false)/\w'.cell? ⟨g2,i*5+2,none⟩=some (.int .i64 t2)/\w'.cell? ⟨g2,i*5+3,none⟩=some x2/\w'.cell? ⟨g2,i*5+4,none⟩=some x4)
    (first
     |with_reducible exact hkeep.o _ (New.refl _).drew
     |with_reducible exact hkeep.o _ hN2.o)
    ((go_at_call 11;(with_reducible refine(hst.o _ (New.refl _).drew).mono ?_);rintro e W2 ⟨rfl,hn2⟩;have hN2:=Hd (New.next (New.refl wr).drew hn2);clear hn2))
   all_goals go_wp2
   all_goals go_roundw
   case rel=>exact⟨i+1,by go_num,by omega,hnr.o.next hN2.o⟩
   case measure=>simp[intOf];omega
  ·obtain rfl:i=k:=by omega
   have hilt:¬(i:Int)<(i:Int):=by omega
   have hf:=Hd (New.next hN9.o hnr.o);clear hN9 hnr hT1 hT2;go_wp2_with fail;go_ret;exact⟨rfl,hf.o⟩
theorem walk{H:Type}(enc:TypeId×Value->H)(W:World){base:Nat}{v0:Value}{d0:DataW H}{p0:List MemPlace}(ok0:Value.okWide prog W .any base 3 v0)(h0:DataW.Trod enc prog W 0 (fun _=>true) true 3 v0 d0 p0){v1:Value}{d1:DataW H}{p1:List MemPlace}(ok1:Value.okWide prog W .any base 3 v1)(h1:DataW.Trod enc prog W 0 (fun _=>true) true 3 v1 d1 p1){v2:Value}{d2:DataW H}{p2:List MemPlace}(ok2:Value.okWide prog W .any base 3 v2)(h2:DataW.Trod enc prog W 0 (fun _=>true) true 3 v2 d2 p2){v3:Value}{d3:DataW H}{p3:List MemPlace}(ok3:Value.okWide prog W .any base 3 v3)(h3:DataW.Trod enc prog W 0 (fun _=>true) true 3 v3 d3 p3){v4:Value}{d4:DataW H}{p4:List MemPlace}(ok4:Value.okWide prog W .any base 22 v4)(h4:DataW.Trod enc prog W 0 (fun _=>true) true 22 v4 d4 p4)
  (hsz:(DataW.weightsEach prog (Tryz.f3.params.toList++Rows.topAlikeSpec.plain.varTypes prog) ([d0,d1,d2,d3,d4]++[])).all (·<=reachBytes)=true) :
  Calls prog 3 #[v0,v1,v2,v3,v4] W fun e W'=>e=.returned (.bool true)/\Below W.heap.size W W':=by
 obtain⟨a0,rfl,rfl,rfl,w0⟩:=open_int underlying3 ok0 h0;obtain⟨a1,rfl,rfl,rfl,w1⟩:=open_int underlying3 ok1 h1;obtain⟨a2,rfl,rfl,rfl,w2⟩:=open_int underlying3 ok2 h2;obtain⟨a3,rfl,rfl,rfl,w3⟩:=open_int underlying3 ok3 h3;obtain⟨A,n,c,Os,R,dc,rfl,hO⟩:=j_e ok4 h4;exact u_c _ _ _ _ (bounds_i64 w0) (bounds_i64 w1) (bounds_i64 w2) (bounds_i64 w3) A n c Os R dc W hO
end topAlike
end Go.Proofs.YtojcoaekhiadcaaGreat
