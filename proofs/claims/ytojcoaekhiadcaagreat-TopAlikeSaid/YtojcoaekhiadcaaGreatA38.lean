import Derived.Test.YtojcoaekhiadcaaGreatA01
import Derived.Test.YtojcoaekhiadcaaGreatA32
import Derived.Test.YtojcoaekhiadcaaGreatA37
import Derived.Test.YtojcoaekhiadcaaGreatA36
set_option linter.unusedVariables false
set_option linter.unusedSimpArgs false
namespace Go.Proofs.YtojcoaekhiadcaaGreat
open Tryz Go.RowKit
namespace vault
set_option maxRecDepth 100000
open Go.ChangeShapes Go.WideShapes Go.ChangeAt kit pool drive Go.Deep Go.Maps
theorem k_x{n p:Nat}{A:VA}{o:Nat->Nat}{st xb yb:Nat}{w0 w:World}(h:u_3 A n p o st xb yb w0 w) :
  Calls prog 21 #[ptr A.v] w fun e w'=>e=.returned (.int .i64 0)/\∃o',k_b n p A o' w'/\s_ o o' w/\Alt (k_j o w) w w':=by
 have hg:GSm ⟨[],[]⟩:=⟨by simp,by simp,fun p hp=>(by cases hp),fun p hp=>(by cases hp),by simp[GS.all,gBl]⟩
 refine(j_0 h.ok w [] (fun _ _=>0) xb yb 0 ⟨[],[]⟩ h.vs [] [] h.rg h.sy (fun d hd hx=>by rcases hx with hx|hx<;>cases hx) (fun i hi=>Nat.zero_le _) ⟨Int.le_refl _,(by show(0:Int)<=1000000;decide)⟩ (by show(-1:Int)<0;decide) hg (by simp[GS.all,gBl]) (fun pt=>?_)).mono ?_
 ·show(bkB [] pt ⟨[],[]⟩).length<=5100
  unfold bkB objB;simp[l_]
 ·rintro e w' ⟨rfl,s',o',pp,rs,pt,root,hP⟩
  exact⟨rfl,o',⟨h.an,h.ap,h.ok,st,xb,yb,o,s',pp,rs,pt,root,w,h.rg,hP⟩,hP.sm,hP.al⟩
set_option maxHeartbeats 8000000 in
theorem k_g(n p:Nat)(n2:2<=n)(n8:n<=8)(p1:1<=p)(p3:p<=3)(pn:p<n)(m c:Nat)(B:Option Addr)(Cs:Nat->Cm)(dr kp:Nat->Int)(R:Nat->Option Addr)(dc:Nat->Nat)(T:Nat->Td)(w:World)(hm:m<=300)(hJ:RdC w B m Cs dr kp R dc)(J:VA->Nat->(Nat->Nat)->World->Prop)
  (h0:∀A o w',k_b n p A o w'->J A 0 o w') (hn:∀A i o w1 w2,J A i o w1->Alt (fun b=>o b=0) w1 w2->J A i (tag0 o w1) w2) (hs:∀A i o w1,i<m->J A i o w1->a_q w1 (Cs i) (R i) (dc i)->Calls prog 22 #[ptr A.v,cmV (Cs i) (dr i) (kp i) (R i) (dc i)] w1 (h_W (J A (i+1)) (T i) o w1)) :
  Calls prog 9 #[.int .i64 n,.int .i64 p,.slice B m c] w (PlO T m 0 w):=by
 obtain⟨ib,hib,hb0,hb1,hb2⟩:=info_parts j_E;obtain⟨idr,hidr,hd0,hd1,hd2⟩:=info_parts r_I;obtain⟨i0,hi0,hz0,hz1,hz2⟩:=info_parts p_O;have hJH:=Hd hJ;have h0H:=Hd h0;have hnH:=Hd hn;have hsH:=Hd hs;replace h0H:Hid (∀A o w',k_b n p A o w'->J A 0 o w'):=h0H;have g1:¬(n:Int)<2:=by omega
 have g2:¬(8:Int)<(n:Int):=by omega
 have g3:¬(p:Int)<1:=by omega
 have g4:¬(3:Int)<(p:Int):=by omega
 have g5:¬(n:Int)<=(p:Int):=by omega
 have g6:¬(300:Int)<(m:Int):=by omega
 have hmk:=run_make_row' (P:=prog) 41 4 (.bool false) 1 underlying41 j_E rfl .i64 .i64 n (by omega) (by omega)
 clear hJ h0 hn hs;go_enter func9,ntmps9;go_wp2_with fail;go_cut [8] from 34 to 42 (fun x wx=>∃vb eb fb dr o,x=ptr vb/\Hid (MkI n p vb eb fb dr o w 0 (.slice none 0 0) wx));case first=>
  go_region
  all_goals go_wp2
  all_goals go_meet
  all_goals first
   |exact⟨_,_,_,_,_,rfl,(p_z n p w).new (New.refl _).drew⟩
   |exact⟨_,_,_,_,_,rfl,(n_K n p w).new (New.refl _).drew⟩
 case rest=>
  obtain⟨vb,eb,fb,dr0,o0,rfl,hI0⟩:=hcut;clear hmk;go_wp2_with fail;go_loopw [44] (fun x wr=>∃(i:Nat) (dv:Value) (dr:Nat->Nat) (o:Nat->Nat),x=.int .i64 i/\i<=n/\Hid (MkI n p vb eb fb dr o w i dv wr)) (fun x _=>n-(intOf x).toNat);case atStart=>exact⟨0,_,_,_,rfl,by omega,hI0⟩
  case round=>
   obtain⟨i,dv,dr1,o1,rfl,hi,hI⟩:=hrel;clear hI0
   by_cases hlt:i<n
   ·have hiI:(i:Int)<(n:Int):=by omega
    have hnew:Hid (Calls prog 19 #[.int .i64 512] wr.drew fun e w'=>e=.returned (ptr (wr.heap.size+1))/\DrP (fun b=>wr.heap.size<=b) (wr.heap.size+1) DS.fresh w'/\New wr w'):=by
     refine(s_k (fun b=>wr.heap.size<=b) 512 (Nat.le_refl _) wr.drew fun b hb=>hb).mono ?_;rintro e w' ⟨rfl,hD,hn⟩;exact⟨rfl,t_t hD,New.next (New.refl wr).drew hn⟩
    obtain⟨Rd,kd,rfl⟩:=j_ hI.o.rw;have v2:=hI.o.bk.cell 2;have f2:=hI.o.bk.frozen 2;simp at v2;have hI:=Hd hI.o;go_wp2_with fail;go_region_law
     (first
      |(go_simp;go_at_call 19;(with_reducible refine hnew.o.mono ?_);rintro e w1 ⟨rfl,hD,hn1⟩;have hb1:=hI.o.bk.new hn1;have u2:=hb1.cell 2;simp at u2;have k2:=(hb1.alloc (.cells #[ptr (wr.heap.size+1)] 63)).cell 2;simp at k2;have ho1:=c_ hI.o.rw hn1;have hs1:=hn1.size;have hD:=Hd hD;have hn1:=Hd hn1;have hb1:=Hd hb1)
      |(refine step_append_lies _ (by rfl) _ _ 58 (by rfl) w.heap.size 63 idr _ 1 8 underlying58 hidr hd0 hd1 hd2 rfl (by decide) (.slice Rd i kd) i _ (by rfl) (ho1.alloc _) ⟨w1.heap.size,0,none⟩ 1 1 [ptr (wr.heap.size+1)] (by rfl) (by rfl) (World.news_of_block (cs:=#[ptr (wr.heap.size+1)]) (t:=63) (fr:=(0,0)) (heap_alloc_new w1 _)) (by simp[Value.oneCell']) (by omega) (by unfold maxLen;omega) (by omega) (by rw[World.size_alloc];have:=hI.o.nw.size;omega) _ rfl ?_;intro g7 c7 w7 ho7 hg7 h7 hl7;have hA7:Alt (fun b=>(Value.slice Rd i kd).ownBlock=some b) w1 w7:=Alt.grown ((Alt.refl w1).alloc _) hg7 (fun r e=>.inl e);have hb7:=hA7.blk hb1.o (b_ ho1 hb1.o (by decide));have f7:=hb7.frozen 2;have u7:=hb7.cell 2;simp at u7;have hfin:=Hd (hI.o.step hn1.o hD.o hg7 ho7 h7);clear ho7 hg7 h7 hl7 hA7 hb7))
    all_goals
     go_wp2;go_roundw;case rel=>
      obtain⟨dr',o',hf⟩:=hfin.o;exact⟨i+1,_,dr',o',by go_num,by omega,by first|exact hf|exact hf.new (New.refl _).drew⟩
     case measure=>simp[intOf];omega
   ·obtain rfl:i=n:=by omega
    have hiI:¬(i:Int)<(i:Int):=by omega
    have hem:=Hd (h_L vb o1 wr);have hI:=Hd hI.o;go_wp2_with fail;refine hem.o.mono ?_;rintro e w2 ⟨st,xb,yb,rfl,hpl,hn2,_⟩;obtain⟨A,hAv,hMd⟩:=t_8 hI.o hn2 hpl n2 n8 p1 p3 pn;have hb2:=hI.o.bk.new hn2;have u9:=hb2.cell 9;have f9:=hb2.frozen 9;simp at u9;have hss:=Hd (k_x hMd);have hMd:=Hd hMd;rw[hAv]at hss;clear hem hpl hn2 hb2;go_wp2_with fail;refine hss.o.mono ?_;rintro e w3 ⟨rfl,o3,hSt,hsm,hal⟩;have hN3:Hid (New w w3):=hMd.o.nw.trans (hal.below hMd.o.nw.size fun k hk=>by
     rcases Nat.lt_or_ge k w.heap.size with hl|hl
     ·exact absurd (hMd.o.ob k hl) hk.1
     ·exact hl)
    have hO3:Hid (∀b,b<w.heap.size->o3 b=0):=fun b hb=>(hsm b (Nat.lt_of_lt_of_le hb hMd.o.nw.size)).trans (hMd.o.ob b hb);have hJ3:Hid (J A 0 o3 w3):=h0H.o A o3 w3 hSt;clear hSt hsm hal hss;go_wp2_with fail;go_loopw [66,9] (fun x ov wr=>∃(k:Nat) (dv nv:Nat->Value) (o:Nat->Nat),x=.int .i64 k/\k<=m/\Hid (J A k o wr)/\Hid (wr.ownsRow w.heap.size 38 5 ov k (tdL T dv nv k))/\Hid (∀b,ov.ownBlock=some b->o b=0)/\Hid (∀j,j<k->f_8 o wr (T j) (dv j) (nv j))/\Hid (New w wr)/\Hid (∀b,b<w.heap.size->o b=0)) (fun x _ _=>m-(intOf x).toNat);case atStart=>exact⟨0,fun _=>.slice none 0 0,fun _=>.slice none 0 0,o3,rfl,by omega,hJ3,World.ownsRow_nil _ _ _ _,fun b hb=>(by cases hb),fun j hj=>absurd hj (Nat.not_lt_zero j),hN3,hO3⟩
    case round=>
     obtain⟨k,dv,nv,o,rfl,hk,hJk,hO,hOt,hR,hN,hob⟩:=hrel;clear hJ3 hN3 hO3
     by_cases hlt:k<m
     ·obtain⟨b,off,rfl,hb,hc⟩:=hJH.o.2.1 (by omega)
      obtain⟨e0,e1,e2,e3,e4,e5,e6,e7⟩:=hc k hlt;replace e0:=(hN.o.cell hb).trans e0;replace e1:=(hN.o.cell hb).trans e1;replace e2:=(hN.o.cell hb).trans e2;replace e3:=(hN.o.cell hb).trans e3;replace e4:=(hN.o.cell hb).trans e4;replace e5:=(hN.o.cell hb).trans e5;replace e6:=(hN.o.cell hb).trans e6;replace e7:=(hN.o.cell hb).trans e7;have hkl:(k:Int)<(m:Int):=by omega
      have hcmd:=Hd (fun(w':World) (hn:New wr w')=>hsH.o A k (tag0 o wr) w' hlt (hnH.o A k o wr w' hJk.o (Alt.of_new hn)) ((hJH.o.2.2 k hlt).new (hN.o.next hn)));obtain⟨C,hC⟩:∃C,Hid (C=Cs k):=⟨_,rfl⟩;rw[<-hC.o]at e0 e1 e2 e3 e4 e7 hcmd;obtain⟨kd',hkd'⟩:∃k,Hid (k=C.kind):=⟨_,rfl⟩;obtain⟨x1,hx1⟩:∃x,Hid (x=C.name):=⟨_,rfl⟩;obtain⟨x2,hx2⟩:∃x,Hid (x=C.other):=⟨_,rfl⟩;obtain⟨x3,hx3⟩:∃x,Hid (x=C.off):=⟨_,rfl⟩;obtain⟨x4,hx4⟩:∃x,Hid (x=C.count):=⟨_,rfl⟩;obtain⟨x5,hx5⟩:∃x,Hid (x=dr k):=⟨_,rfl⟩;obtain⟨x6,hx6⟩:∃x,Hid (x=kp k):=⟨_,rfl⟩;obtain⟨xr,hxr⟩:∃x,Hid (x=R k):=⟨_,rfl⟩;obtain⟨xn,hxn⟩:∃x,Hid (x=C.dn):=⟨_,rfl⟩;obtain⟨xc,hxc⟩:∃x,Hid (x=dc k):=⟨_,rfl⟩;have hcmv:cmV C (dr k) (kp k) (R k) (dc k)=.agg #[.int .i64 kd',encStr x1,encStr x2,.int .i64 x3,.int .i64 x4,.int .i64 x5,.int .i64 x6,.slice xr xn xc]:=by
       rw[hkd'.o,hx1.o,hx2.o,hx3.o,hx4.o,hx5.o,hx6.o,hxr.o,hxn.o,hxc.o];rfl
      rw[hcmv]at hcmd;rw[<-hkd'.o]at e0;rw[<-hx1.o]at e1;rw[<-hx2.o]at e2;rw[<-hx3.o]at e3;rw[<-hx4.o]at e4;rw[<-hx5.o]at e5;rw[<-hx6.o]at e6;rw[<-hxr.o,<-hxn.o,<-hxc.o]at e7;rw[hAv]at hcmd;clear hc hcmv;go_upto_region 16 with fail;obtain⟨W2,hW2⟩:∃W2,W2=wr.alloc (.cells #[.int .i64 kd',encStr x1,encStr x2,.int .i64 x3,.int .i64 x4,.int .i64 x5,.int .i64 x6,.slice xr xn xc] 45):=⟨_,rfl⟩;have hn2:New wr W2:=by rw[hW2];exact(New.refl wr).alloc _
      have hb2:Blk W2 wr.heap.size 45 #[.int .i64 kd',encStr x1,encStr x2,.int .i64 x3,.int .i64 x4,.int .i64 x5,.int .i64 x6,.slice xr xn xc]:=by rw[hW2];exact Blk.fresh _ _ _
      have q0:=hb2.cell 0;have q1:=hb2.cell 1;have q2:=hb2.cell 2;have q3:=hb2.cell 3;have q4:=hb2.cell 4;have q5:=hb2.cell 5;have q6:=hb2.cell 6;have q7:=hb2.cell 7;simp at q0 q1 q2 q3 q4 q5 q6 q7;have hn2H:=Hd hn2;rw[<-hW2];clear hW2 hn2 hb2;go_wp2_with fail;refine(hcmd.o W2 hn2H.o).mono ?_;rintro e w4 ⟨du,nu,o4,rfl,hT4,hJ4,hsm4,hal4⟩;obtain⟨B1,k1,rfl,_⟩:=id hT4.dt;obtain⟨B2,k2,rfl⟩:=j_ hT4.nm;have hsz2:=hn2H.o.size;have hO5:w4.ownsRow w.heap.size 38 5 u9 k (tdL T dv nv k):=hal4.own (c_ hO.o hn2H.o) fun g hg hk=>hk.1 ((f_ o wr g (hO.o.lt g hg).2).trans (hOt.o g hg));have hOt5:∀b,u9.ownBlock=some b->o4 b=0:=fun b hb=>by
       have hl:=(hO.o.lt b hb).2;rw[hsm4 b (by omega),f_ o wr b hl]
       exact hOt.o b hb
      have hR5:∀j,j<k->f_8 o4 w4 (T j) (dv j) (nv j):=fun j hj=>((hR.o j hj).alt (K:=fun _=>False) (Alt.of_new hn2H.o) (fun _ _ f=>f.elim) (f_ o wr)).alt hal4 (fun b cs hk hb=>hk.told hb) hsm4;have hwl:w.heap.size<=wr.heap.size:=hN.o.size;have hN4:Hid (New w w4):=(hN.o.next hn2H.o).trans (hal4.below (by omega) fun b hk=>by
       rcases Nat.lt_or_ge b w.heap.size with hl|hl
       ·exact absurd ((f_ o wr b (by omega)).trans (hob.o b hl)) hk.1
       ·exact hl)
      have hob4:Hid (∀b,b<w.heap.size->tag0 o4 w4 b=0):=fun b hb=>by
       have:=hal4.size;rw[f_ o4 w4 b (by omega),hsm4 b (by omega),f_ o wr b (by omega)]
       exact hob.o b hb
      have hR5H:=Hd hR5;have hOt5H:=Hd hOt5;have hJ4H:=Hd hJ4;have hT4H:=Hd hT4;have hz4:=hN4.o.size;obtain⟨t0,ht0⟩:∃t,Hid (t=(T k).code):=⟨_,rfl⟩;obtain⟨t2,ht2⟩:∃t,Hid (t=(T k).size):=⟨_,rfl⟩;obtain⟨n1,hn1⟩:∃t,Hid (t=(T k).dat.n):=⟨_,rfl⟩;obtain⟨n2',hn2'⟩:∃t,Hid (t=(T k).names.length):=⟨_,rfl⟩;have hnx:=Hd (o_F T dv nv k (.slice B1 (T k).dat.n k1) (.slice B2 (T k).names.length k2));rw[<-ht0.o,<-ht2.o,<-hn1.o,<-hn2'.o]at hnx;rw[<-ht0.o,<-ht2.o,<-hn1.o,<-hn2'.o];rw[<-hn1.o,<-hn2'.o]at hT4H;clear hal4 hR5 hJ4 hT4 hOt5 hsm4 q0 q1 q2 q3 q4 q5 q6 q7 hO hOt hR hN hob hJk;show _;dsimp only;go_wp2_with (first
       |(at_builtin;refine wpList_append_lies _ rfl _ _ 29 rfl w.heap.size 38 i0 _ 5 72 underlying29 hi0 hz0 hz1 hz2 rfl (by decide) u9 k (tdL T dv nv k) rfl (hO5.alloc _) ⟨w4.heap.size,0,none⟩ 1 1 [.int .i64 t0,.bool false,.int .i64 (t2:Nat),.slice B1 n1 k1,.slice B2 n2' k2] rfl rfl (World.news_of_block (cs:=#[.int .i64 _,.bool _,.int .i64 _,.slice _ _ _,.slice _ _ _]) (t:=38) (fr:=(0,0)) (heap_alloc_new w4 _)) (by simp[Value.oneCell']) (by omega) (by unfold maxLen;omega) (by omega) (by rw[World.size_alloc];omega) _ rfl ?_
         intro g6 c6 w6 hown6 hgr6 hgx6 hl6;have hal6:Alt (fun b=>u9.ownBlock=some b) w4 w6:=Alt.grown ((Alt.refl w4).alloc _) hgr6 fun r e=>.inl e;have hfin:Hid (J A (k+1) (tag0 o4 w4) w6/\w6.ownsRow w.heap.size 38 5 (.slice (some ⟨g6,0,none⟩) (k+1) c6) (k+1) (tdL T (fun j=>if j=k then .slice B1 n1 k1 else dv j) (fun j=>if j=k then .slice B2 n2' k2 else nv j) (k+1))/\(∀b,(Value.slice (some ⟨g6,0,none⟩) (k+1) c6).ownBlock=some b->tag0 o4 w4 b=0)/\(∀j,j<k+1->f_8 (tag0 o4 w4) w6 (T j) (if j=k then .slice B1 n1 k1 else dv j) (if j=k then .slice B2 n2' k2 else nv j))/\New w w6):=by
          have hTK:∀b cs,u9.ownBlock=some b->(Blk w4 b 5 cs\/Blk w4 b 9 cs)->o4 b≠0/\o4 b≠2:=fun b cs hk hb=>hb.elim (fun hb=>(b_ hO5 hb (by decide) hk).elim) fun hb=>(b_ hO5 hb (by decide) hk).elim
          refine⟨hnH.o A (k+1) o4 w4 w6 hJ4H.o (hal6.weak fun b hb=>hOt5H.o b hb),by rw[hnx.o];exact hown6,fun b hb=>?_,fun j hj=>?_,?_⟩
          ·have hb:g6=b:=by simpa [Value.ownBlock]using hb
           subst hb;rcases hgx6 with hx|hx
           ·rw[f_ o4 w4 _ (hO5.lt _ hx).2]
            exact hOt5H.o _ hx
           ·rw[World.size_alloc]at hx
            exact z_ o4 w4 (by omega)
          ·by_cases e:j=k
           ·subst e
            rw[if_pos rfl,if_pos rfl];exact hT4H.o.alt hal6 hTK (f_ o4 w4)
           ·rw[if_neg e,if_neg e]
            exact(hR5H.o j (by omega)).alt hal6 hTK (f_ o4 w4)
          ·exact(hN4.o.alloc _).grown hgr6 fun r e=>(hO5.lt r e).1
         clear hown6 hgr6 hgx6 hal6 hl6)
       |fail)
      go_roundw;case rel=>exact⟨k+1,_,_,_,by go_num,by omega,hfin.o.1,hfin.o.2.1,hfin.o.2.2.1,hfin.o.2.2.2.1,hfin.o.2.2.2.2,hob4⟩
      case measure=>simp[intOf];omega
     ·have him:m=k:=by omega
      subst him;have hf:=Hd (And.intro hO.o (And.intro hR.o hN.o));clear hO hR hN;go_wp2;exact bodyPost_ret (v:=.tuple #[u9,.int .i64 0]) (by simp[results,results9,go_sem]) rfl ⟨⟨u9,dv,nv,rfl,hf.o.1,fun j hj=>⟨(hf.o.2.1 j hj).dt,(hf.o.2.1 j hj).nm⟩⟩,hf.o.2.2⟩
def c_J(Cs:Nat->Cm):Nat->PS
 |0=>PS.start
 |i+1=>l_X (c_J Cs i) (Cs i)
def f_J(Cs:Nat->Cm)(i:Nat):Td:=(doT (c_J Cs i) (Cs i)).1
theorem d_8(Cs:Nat->Cm):∀i,OkP (c_J Cs i)
 |0=>OkP.start
 |i+1=>o_L (d_8 Cs i) _
theorem i_b(Cs:Nat->Cm):∀i,NmP (c_J Cs i)
 |0=>NmP.start
 |i+1=>o_M (i_b Cs i) _
structure i_T(A:VA)(s:VS)(i:Nat):Prop where
 al:∀d,d<A.n->(s.ds d).dead=false/\s.dead d=false/\s.fresh d=false
 ws:∀d,d<A.n->(s.ds d).ws.length<=60
 b8:B8 s
 t0:0<=s.time
 t1:s.time<=i+1
 pt:s.puts<0
 lo:s.lost=false
theorem i_T.fit{A:VA}{s:VS}{i:Nat}(h:i_T A s i)(hA:VOk A):e_R A s []:=⟨hA,⟨fun d hd=>Nat.lt_of_le_of_lt (h.ws d hd) (by omega),fun d j F hF=>h.b8 d j F hF⟩,Nat.zero_le _⟩
theorem l_D.alt{o o':Nat->Nat}{s:VS}{w w':World}{l:List Ptr}{K:Nat->Prop}(h:l_D o s w l)(ha:Alt K w w')(hK:∀b,b<w.heap.size->o b=1->¬K b)(hs:s_ o o' w):l_D o' s w' l:=
 ⟨ha.own h.rw fun k hk=>hK k (h.rw.lt k hk).2 (h.tg k hk),fun k hk=>(hs k (h.rw.lt k hk).2).trans (h.tg k hk)⟩
structure d_n(A:VA)(P:PS)(i:Nat)(s:VS)(bc:Nat->Nat->Nat)(xb yb c:Nat)(g:GS)(pp pb:List Ptr)(o:Nat->Nat)(w:World):Prop where
 ok:VOk A
 vs:VSt A s [] o bc xb yb c g w
 rg:Reg A s pp pb
 sy:l_D o s w (pp++pb)
 iv:i_T A s i
 ab:absG bc g=P
 ci:c<=i
def u_2(P:Nat->PS)(A:VA)(i:Nat)(o:Nat->Nat)(w:World):Prop:=∃s bc xb yb c g pp pb,d_n A (P i) i s bc xb yb c g pp pb o w
theorem d_n.alt{A:VA}{P:PS}{i:Nat}{s:VS}{bc:Nat->Nat->Nat}{xb yb c:Nat}{g:GS}{pp pb:List Ptr}{o o':Nat->Nat}{w w':World}(h:d_n A P i s bc xb yb c g pp pb o w)(ha:Alt (fun b=>o b=0) w w')(hs:s_ o o' w):d_n A P i s bc xb yb c g pp pb o' w':=
 ⟨h.ok,h.vs.alt ha (fun b _ e=>e) hs,h.rg,h.sy.alt ha (fun b _ e k=>by omega) hs,h.iv,h.ab,h.ci⟩
theorem c_w.inv{A:VA}{o o':Nat->Nat}{s s':VS}{bc:Nat->Nat->Nat}{xb yb c:Nat}{g:GS}{w w':World}{pp rs:List Ptr}{pt:Nat->Ptr}{root:Ptr}{i:Nat}(h:c_w A o s [] bc xb yb c g w s' o' pp rs pt root w')(hi:i_T A s i):i_T A s' (i+1):=by
 have e:=h.eq;refine⟨fun d hd=>⟨(h.dd d).trans (hi.al d hd).1,by rw[e];exact(hi.al d hd).2.1,by rw[e];exact(hi.al d hd).2.2⟩,h.ws,h.b8 hi.b8,by rw[h.tm];have:=hi.t0;omega,by rw[h.tm];have:=hi.t1;push_cast;omega,by rw[e];exact hi.pt,by rw[e];exact hi.lo⟩
theorem l_O(A:VA)(st:Nat):i_T A (vs0 st) 0:=⟨fun d hd=>⟨rfl,rfl,rfl⟩,fun d hd=>Nat.zero_le _,fun d j F hF k=>by
 have:F=fun _=>0:=by
  have h1:rdS DS.fresh j=some fun _=>0:=rfl;have h2:rdS DS.fresh j=some F:=hF;rw[h1]at h2;exact(Option.some.inj h2).symm
 rw[this];show 0<256;omega,Int.le_refl _,by show(0:Int)<=_;omega,by show(-1:Int)<0;decide,rfl⟩
section
variable {A:VA}{P:PS}{i:Nat}{s:VS}{bc:Nat->Nat->Nat}{xb yb c:Nat}{g:GS}{pp pb:List Ptr}{o:Nat->Nat}{w:World}
theorem d_n.pk(h:d_n A P i s bc xb yb c g pp pb o w):∀b,PK s.st xb yb b->s_m o w b/\o b=2:=fun b hb=>by
 obtain⟨eb,e1,_⟩:=h.vs.pl.bk;rcases hb with rfl|rfl|rfl
 ·have ht:=h.vs.pl.ts
  exact⟨⟨by rw[ht];decide,fun _ cs=>⟨fun hk=>e_ hk e1 (by decide) rfl,fun hk=>e_ hk e1 (by decide) rfl⟩⟩,ht⟩
 ·have ht:=h.vs.pl.tx
  exact⟨⟨by rw[ht];decide,fun _ cs=>⟨fun hk=>w_ hk h.vs.pl.om.obj rfl,fun hk=>w_ hk h.vs.pl.om.obj rfl⟩⟩,ht⟩
 ·have ht:=h.vs.pl.ty
  exact⟨⟨by rw[ht];decide,fun _ cs=>⟨fun hk=>w_ hk h.vs.pl.nm.obj rfl,fun hk=>w_ hk h.vs.pl.nm.obj rfl⟩⟩,ht⟩
theorem i_4(c:Int)(o:Nat->Nat)(w:World):f_8 o w (Td.no c) (.slice none 0 0) (.slice none 0 0):=⟨Bs.nil w,Ns.nil w,fun _ k hk=>(by cases hk),fun k hk=>(by cases hk)⟩
theorem k_P{C:Cm}{drive keep:Int}{R:Option Addr}{dc:Nat}(h:d_n A P i s bc xb yb c g pp pb o w)(hP:OkP P)(hC:a_q w C R dc)(hk:1<=C.kind/\C.kind<=11)(hi:i<=400) :
  Calls prog 22 #[ptr A.v,cmV C drive keep R dc] w (h_W (fun o' w'=>∃bc' xb' g',d_n A (l_X P C) (i+1) s bc' xb' yb (c+1) g' pp pb o' w') (doT P C).1 o w):=by
 have hP':=hP;rw[<-h.ab]at hP';refine(m_X (h.iv.fit h.ok) h.vs hP' hC (by have:=h.ci;unfold maxLen;omega) hk h.iv.lo (drive:=drive) (keep:=keep)).mono ?_
 rintro e w' ⟨v,xb',o',bc',g',rfl,⟨dv,nv,rfl,h1,h2,h3,h4⟩,hV,hab,ha,hT⟩;rw[h.ab]at h1 h2 hab;refine⟨dv,nv,o',by rw[h.ab],⟨h1,h2,fun _ k hk=>?_,fun k hk=>?_⟩,⟨bc',xb',g',h.ok,hV,h.rg,h.sy.alt ha (fun b _ e k=>by have:=(h.pk b k).2;omega) hT.same,⟨h.iv.al,h.iv.ws,h.iv.b8,h.iv.t0,by have:=h.iv.t1;push_cast;omega,h.iv.pt,h.iv.lo⟩,hab,by have:=h.ci;omega⟩,hT.same,ha.weak fun b hb=>(h.pk b hb).1⟩
 ·exact hT.ge (h3 k hk)
 ·exact hT.ge (h4 k hk)
theorem d_n.lim(h:d_n A P i s bc xb yb c g pp pb o w)(hP:OkP P)(hN:NmP P):Lim g:=t_9 (by rw[h.ab];exact hP) (by rw[h.ab];exact hN) h.vs.ok
def SyQ(A:VA)(s:VS)(bc:Nat->Nat->Nat)(xb yb c:Nat)(g:GS)(o:Nat->Nat)(w w':World):Prop:=∃s' o' pp rs pt root,c_w A o s [] bc xb yb c g w s' o' pp rs pt root w'
theorem j_c{C:Cm}{drive keep:Int}{R:Option Addr}{dc:Nat}(h:d_n A P i s bc xb yb c g pp pb o w)(hP:OkP P)(hN:NmP P)(hk:C.kind=12)(hi:i<=400) :
  Calls prog 22 #[ptr A.v,cmV C drive keep R dc] w (h_W (fun o' w'=>∃s' pp' rs pt root o2 w1 w2,New w w1/\c_w A (tag0 o w) s [] bc xb yb c g w1 s' o2 pp' rs pt root w2/\o'=o2/\Alt (fun b=>o2 b=0) w2 w'/\d_n A P (i+1) s' bc xb yb c g pp' (rs++[root]) o' w') (Td.no 0) o w):=by
 have hL:=h.lim hP hN;have hcv:cmV C drive keep R dc=.agg (cmL 12 C.name C.other C.off C.count drive keep R C.dn dc):=by unfold cmV;rw[hk]
 rw[hcv];have hs:∀w1,New w w1->Calls prog 21 #[ptr A.v] w1 fun e w'=>e=.returned (.int .i64 0)/\SyQ A s bc xb yb c g (tag0 o w) w1 w':=fun w1 hn=>by
  have h1:=h.alt (Alt.of_new hn) (f_ o w);exact j_0 h.ok w1 [] bc xb yb c g h1.vs pp pb h.rg h1.sy (fun d hd hx=>by rcases hx with hx|hx;rw[(h.iv.al d hd).1]at hx;cases hx;rw[(h.iv.al d hd).2.2]at hx;cases hx) h.iv.ws ⟨h.iv.t0,by have:=h.iv.t1;omega⟩ h.iv.pt hL.sm hL.all hL.bk
 have hz:∀b,w.heap.size<=b->tag0 o w b=0:=fun b hb=>z_ o w hb;refine(q_u h.vs.vm h.iv.lo C.name C.other C.off C.count drive keep R C.dn dc hs fun w1 w2 hn ⟨s',o',pp',rs,pt,root,hQ⟩ g' cs hg hb=>hQ.al.blk hb fun hk=>hk.1 (hz g' hg)).mono ?_;rintro e w' ⟨rfl,w1,w2,hn,⟨s',o',pp',rs,pt,root,hQ⟩,ha,hsz⟩;have hp0:o' (w.heap.size+1+1)=0:=(hQ.sm _ hsz).trans (hz _ (by omega))
 have ha0:Alt (fun b=>o' b=0) w2 w':=ha.weak fun b e=>by rw[e];exact hp0
 have hO2:d_n A P (i+1) s' bc xb yb c g pp' (rs++[root]) o' w2:=⟨h.ok,hQ.st,hQ.rg,hQ.sy,hQ.inv h.iv,h.ab,by have:=h.ci;omega⟩
 refine⟨_,_,o',rfl,i_4 0 o' w',⟨s',pp',rs,pt,root,o',w1,w2,hn,hQ,rfl,ha0,hO2.alt ha0 (s_.refl _ _)⟩,fun b hb=>?_,?_⟩
 ·rw[hQ.sm b (Nat.lt_of_lt_of_le hb hn.size),f_ o w b hb]
 ·refine(Alt.of_new hn).trans' ((hQ.al.weak (K':=fun b=>k_j (tag0 o w) w1 b\/b=w.heap.size+1+1) fun b hb=>.inl hb).trans (ha.weak fun b hb=>.inr hb)) fun b hb=>?_
  rcases hb with⟨h1,h2⟩|rfl
  ·rcases Nat.lt_or_ge b w.heap.size with hl|hl
   ·have ht:=f_ o w b hl
    rw[ht]at h1 h2;refine .inl ⟨h1,fun e cs=>?_⟩;obtain⟨cs',hc⟩:=h2 e;have hc:Blk w b 115 cs':=(hn.block b hl).symm.trans hc;exact⟨fun hk=>e_ hk hc (by decide) rfl,fun hk=>e_ hk hc (by decide) rfl⟩
   ·exact .inr hl
  ·exact .inr (by omega)
end
theorem h_f{n p:Nat}{A:VA}{o:Nat->Nat}{w:World}(h:k_b n p A o w)(Cs:Nat->Cm):u_2 (c_J Cs) A 0 o w:=by
 obtain⟨h1,h2,h3,st,xb,yb,o0,s',pp,rs,pt,root,w0,hR,hP⟩:=h;have hi:=l_O A st;refine⟨s',_,xb,yb,0,_,pp,rs++[root],h3,hP.st,hP.rg,hP.sy,⟨(hP.inv hi).al,hP.ws,(hP.inv hi).b8,(hP.inv hi).t0,?_,(hP.inv hi).pt,(hP.inv hi).lo⟩,rfl,Nat.le_refl _⟩;rw[hP.tm];show(0:Int)+1<=_;omega
theorem k_f(n p:Nat)(n2:2<=n)(n8:n<=8)(p1:1<=p)(p3:p<=3)(pn:p<n)(m c:Nat)(B:Option Addr)(Cs:Nat->Cm)(dr kp:Nat->Int)(R:Nat->Option Addr)(dc:Nat->Nat)(w:World)(hm:m<=300)(hJ:RdC w B m Cs dr kp R dc)(hk:∀i,i<m->1<=(Cs i).kind/\(Cs i).kind<=12) :
  Calls prog 9 #[.int .i64 n,.int .i64 p,.slice B m c] w (PlO (f_J Cs) m 0 w):=by
 refine k_g n p n2 n8 p1 p3 pn m c B Cs dr kp R dc (f_J Cs) w hm hJ (fun A i o w=>u_2 (c_J Cs) A i o w) (fun A o w' h=>h_f h Cs) (fun A i o w1 w2 ⟨s,bc,xb,yb,c,g,pp,pb,h⟩ ha=>⟨s,bc,xb,yb,c,g,pp,pb,h.alt ha (f_ o w1)⟩) fun A i o w1 hi ⟨s,bc,xb,yb,c,g,pp,pb,h⟩ hC=>?_;have h1:=hk i hi
 by_cases h12:(Cs i).kind=12
 ·refine(j_c h (d_8 Cs i) (i_b Cs i) h12 (by omega) (drive:=dr i) (keep:=kp i)).mono ?_
  rintro e w' ⟨dv,nv,o',rfl,hT,⟨s',pp',rs,pt,root,o2,w2,w3,_,_,_,_,hO⟩,hsm,ha⟩;have hd:doT (c_J Cs i) (Cs i)=(Td.no 0,c_J Cs i):=by
   unfold doT;rw[if_neg (by omega),if_neg (by omega),if_neg (by omega),if_neg (by omega),if_neg (by omega),if_pos h12]
  have ht:f_J Cs i=Td.no 0:=by unfold f_J;exact congrArg Prod.fst hd
  have hr:c_J Cs (i+1)=c_J Cs i:=by
   show c_T (doT (c_J Cs i) (Cs i)).2=_;rw[hd];show c_T (c_J Cs i)=_;rw[<-h.ab,b_a]
  refine⟨dv,nv,o',by rw[ht],by rw[ht];exact hT,⟨s',bc,xb,yb,c,g,pp',rs++[root],?_⟩,hsm,ha⟩
  rw[hr];exact hO
 ·refine(k_P h (d_8 Cs i) hC (by omega) (by omega) (drive:=dr i) (keep:=kp i)).mono ?_
  rintro e w' ⟨dv,nv,o',rfl,hT,⟨bc',xb',g',hO⟩,hsm,ha⟩;exact⟨dv,nv,o',rfl,hT,⟨s,bc',xb',yb,c+1,g',pp,pb,hO⟩,hsm,ha⟩
end vault
namespace vault
set_option maxRecDepth 100000
open kit pool drive label flet stripe Go.Deep
theorem p_l{X se:Nat->Int}(h1:0<=X 4)(h2:X 4<4294967296):b_w (a_h X se) 4=X 4:=by
 unfold b_w;rw[if_pos (by omega),b_x 4 (C:=N_ (X 4)) fun q hq=>d_F X se 4 q (by omega) hq]
 exact j_j _ h1 h2
def g_K(A:VA)(s:VS):Prop:=s.time=1/\∃root,∀d,d<A.n->rdS (s.ds d) 1=some (b_6 A 1 root d)/\∀j,j<4->j≠1->rdS (s.ds d) j=some fun _=>0
theorem o_U{A:VA}{s:VS}{root0 root:Ptr}{d:Nat}(hA:VOk A)(hd:d<A.n)(hr:i_Q root 2)(h2:rdS (s.ds d) 2=some (b_6 A 2 root d))(h1:rdS (s.ds d) 1=some (b_6 A 1 root0 d))(h0:∀j,j<4->j≠1->j≠2->rdS (s.ds d) j=some fun _=>0) :
  ∃F,(∀j,j<4->rdS (s.ds d) j=some (F j))/\k_c A 2 root d F:=by
 obtain⟨F,hF⟩:∃F:Nat->Nat->Nat,F=fun j=>if j=2 then b_6 A 2 root d else if j=1 then b_6 A 1 root0 d else fun _=>0:=⟨_,rfl⟩;have f2:F 2=b_6 A 2 root d:=by rw[hF];rfl
 have f1:F 1=b_6 A 1 root0 d:=by rw[hF];rfl
 have f0:∀j,j≠1->j≠2->F j=fun _=>0:=fun j n1 n2=>by rw[hF];show(if j=2 then _ else if j=1 then _ else _:Nat->Nat)=_;rw[if_neg n2,if_neg n1]
 have hn8:=hA.n8;have hn2:=hA.n2;have hp1:=hA.p1;have hp3:=hA.p3;have hpn:=hA.pn;have hok:okX (e_E A 2 root d):=by
  have e1:=hr.ad;have e2:=hr.c2;have e3:=hr.by2;have e4:=hr.bi;show okP 1 ((d:Nat):Int) ((A.n:Nat):Int) ((A.p:Nat):Int) 2 ((root.ad:Nat):Int) ((root.ct:Nat):Int) ((root.by_:Nat):Int) root.birth;unfold okP;refine⟨by decide,⟨by omega,by omega⟩,⟨by omega,by omega⟩,⟨by omega,by omega,by omega⟩,by decide,⟨by omega,by omega⟩,⟨by omega,by omega⟩,⟨by omega,by omega⟩,by omega,by omega⟩
 have h9:∀i,9<=i->i<13->a_0 (e_E A 2 root d i):=fun i hi hi2=>by
  have:i=9\/i=10\/i=11\/i=12:=by omega
  rcases this with rfl|rfl|rfl|rfl
  ·exact hr.s0
  ·exact hr.s1
  ·exact hr.s2
  ·exact hr.s3
 refine⟨F,fun j hj=>?_,fun j k=>?_,2,by omega,?_,fun k hk=>?_,fun j hj hne hc=>?_⟩
 ·by_cases e2:j=2
  ·rw[e2,f2];exact h2
  by_cases e1:j=1
  ·rw[e1,f1];exact h1
  ·rw[f0 j e1 e2];exact h0 j hj e1 e2
 ·by_cases e2:j=2
  ·rw[e2,f2];exact i_t _ _ _ _ _
  by_cases e1:j=1
  ·rw[e1,f1];exact i_t _ _ _ _ _
  ·rw[f0 j e1 e2];show 0<256;omega
 ·rw[f2];exact m_T hok h9
 ·rw[f2];exact q_m hok h9 k hk
 ·by_cases e1:j=1
  ·subst e1
   rw[f1]at hc ⊢;rw[e_L hc];have h4:b_w (b_6 A 1 root0 d) 4=1:=p_l (X:=e_E A 1 root0 d) (by show(0:Int)<=1;decide) (by show(1:Int)<_;decide)
   rw[h4];decide
  ·rw[f0 j e1 hne]at hc
   exact absurd hc q_i
structure q_W(A:VA)(s:VS)(root q:Ptr)(X:Nat->Nat):Prop where
 ok:VOk A
 iv:i_T A s 3
 w0:∀d,d<A.n->(s.ds d).ws=[]
 sl:∀d,d<A.n->∃F,(∀j,j<4->rdS (s.ds d) j=some (F j))/\k_c A 2 root d F
 bk:d_O A s [] root 0 (bk1 [97] 1 q)
 rt:i_Q root 2
 bo:f_l A s [] X (some q)
 x0:X 0=5
 xz:∀i,1<=i->i<256->X i=0
def h_u(s:VS)(n:Nat):VS:={d_m (b_8 s 1) n with lost:=false,time:=2}
theorem h_t{A:VA}{s:VS}{q:Ptr}{Y:Nat->Nat}(hA:VOk A)(h:b_F A s [] q Y)(h1:1<=q.ct)(hi:i_T A s 3):b_F A (h_u s A.n) [1] q Y:=by
 refine h.worse hA h1 (fun d hd=>(by cases hd)) (fun d hd hn=>?_) fun d hd hm=>?_
 ·have hd1:d≠1:=fun e=>hn (List.mem_singleton.2 e)
  have e:(h_u s A.n).ds d=s.ds d:=if_neg hd1;refine⟨fun j=>by rw[e],?_⟩
  show(if d<A.n then((b_8 s 1).ds d).dead else(b_8 s 1).fresh d)=s.fresh d;rw[if_pos hd,show(b_8 s 1).ds d=s.ds d from if_neg hd1,(hi.al d hd).1,(hi.al d hd).2.2]
 ·obtain rfl:=List.mem_singleton.1 hm
  exact .inl rfl
open Go.ChangeShapes Go.WideShapes Go.ChangeAt Go.Maps
def a_z:Nat->Cm
 |0=>⟨1,[97],[],0,0,0,fun _=>0⟩
 |1=>⟨2,[97],[],0,0,1,fun _=>5⟩
 |2=>⟨12,[],[],0,0,0,fun _=>0⟩
 |3=>⟨16,[],[],0,0,0,fun _=>0⟩
 |4=>⟨13,[],[],0,0,0,fun _=>0⟩
 |_=>⟨3,[97],[],0,9,0,fun _=>0⟩
def f_L(i:Nat):Int:=if i=3 then 1 else 0
def l_U:Nat->Td
 |0=>f_J a_z 0
 |1=>f_J a_z 1
 |2=>Td.no 0
 |3=>Td.no 0
 |4=>Td.no 0
 |_=>⟨0,1,⟨1,fun _=>5⟩,[]⟩
theorem t_Q:∃B,c_J a_z 2=⟨[([97],B)],[]⟩/\B.n=1/\B.f 0=5:=⟨_,rfl,rfl,rfl⟩
theorem t_W{bc:Nat->Nat->Nat}{g:GS}{x:Nm}{B:By}(h:absG bc g=⟨[(x,B)],[]⟩)(hok:∀G,InG g G->d_o bc G)(hn:B.n=1):∃b,g=⟨[(x,⟨1,[b]⟩)],[]⟩/\bc b 0=B.f 0/\∀i,1<=i->i<256->bc b i=0:=by
 obtain⟨ths,shs⟩:=g;have h1:a_c bc ths=[(x,B)]:=congrArg PS.ths h;have h2:F_ (a_c bc) shs=[]:=congrArg PS.shs h;have hs:shs=[]:=by simpa [F_]using h2
 subst hs;obtain⟨p,rfl,hp⟩:∃p,ths=[p]/\(p.1,byT bc p.2)=(x,B):=by
  unfold a_c F_ at h1;cases ths with
  |nil=>cases h1
  |cons p l=>
   rw[List.map_cons]at h1;injection h1 with h3 h4;have:l=[]:=by simpa using h4
   subst this;exact⟨p,rfl,h3⟩
 obtain⟨px,sz,bl⟩:=p;injection hp with e1 e2;have e1:px=x:=e1;subst e1;have hG:=hok ⟨sz,bl⟩ (.inl ⟨px,List.mem_singleton.2 rfl⟩);have hsz:sz=1:=by rw[<-hn,<-e2];rfl
 subst hsz;have hl:bl.length=(1+255)/256:=hG.len;have hl:bl.length=1:=by omega
 obtain⟨b,rfl⟩:=List.length_eq_one_iff.1 hl;refine⟨b,rfl,?_,fun i h1 h2=>?_⟩
 ·rw[<-e2]
  rfl
 ·have:=hG.tail i h1 (by show i<256*1;omega)
  unfold byF at this;rw[show i/256=0 by omega,show i%256=i by omega]at this
  exact this
theorem t_C(b:Nat)(pt:Nat->Ptr)(x:Nm):bkB (r_ [] (GS.all ⟨[(x,⟨1,[b]⟩)],[]⟩)) pt ⟨[(x,⟨1,[b]⟩)],[]⟩=bk1 x 1 (pt b):=by
 have e:r_ [] (GS.all ⟨[(x,⟨1,[b]⟩)],[]⟩)=[b]:=rfl;rw[e];unfold bkB bk1 objB obB a_V;simp
theorem s_c(q:Ptr):(bk1 [97] 1 q).length=113:=by
 unfold bk1;simp[l_,b_f,a_L]
theorem s_K(x:Nm):∀y∈c_i x,y<256:=fun y hy=>by
 unfold c_i at hy;rcases List.mem_append.1 hy with hy|hy
 ·exact Y_ _ y hy
 ·obtain⟨c,_,rfl⟩:=List.mem_map.1 hy
  exact c.toNat_lt
theorem p_b(q:Ptr):∀y∈b_1 q,y<256:=fun y hy=>by
 obtain⟨z,_,hz⟩:=List.mem_flatMap.1 hy;exact Y_ _ y hz
theorem t_E(q:Ptr):∀y,y∈bk1 [97] 1 q->y<256:=fun y hy=>by
 unfold bk1 at hy;simp only[List.mem_append,List.not_mem_nil,or_false]at hy;rcases hy with hy|hy|hy|hy|hy|hy|hy
 ·exact Y_ _ y hy
 ·exact p_b _ y hy
 ·exact Y_ _ y hy
 ·exact s_K _ y hy
 ·exact Y_ _ y hy
 ·exact Y_ _ y hy
 ·exact Y_ _ y hy
theorem n_e{A:VA}{o o2:Nat->Nat}{s s':VS}{bc:Nat->Nat->Nat}{xb yb c:Nat}{g:GS}{w w2:World}{pp rs:List Ptr}{pt:Nat->Ptr}{root:Ptr}(hA:VOk A)(h1:g_K A s)(hab:absG bc g=c_J a_z 2)(hi:i_T A s 2)(hQ:c_w A o s [] bc xb yb c g w s' o2 pp rs pt root w2):∃q X,q_W A s' root q X:=by
 obtain⟨B,e1,e2,e3⟩:=t_Q;rw[e1]at hab;obtain⟨b,rfl,hb0,hbz⟩:=t_W hab hQ.st.ok e2;have hall:b∈GS.all ⟨[([97],⟨1,[b]⟩)],[]⟩:=List.mem_singleton.2 rfl;obtain⟨ht,root0,hsl⟩:=h1;have hrt:=hQ.rt;rw[ht]at hrt;have hrt:i_Q root 2:=hrt;have hbk:=hQ.bk;rw[t_C]at hbk;have hiv:=hQ.inv hi;refine⟨pt b,bc b,hA,hiv,fun d hd=>hQ.w0 d hd (hi.al d hd).1,fun d hd=>?_,?_,hrt,(hQ.bl b hall).2,by rw[hb0,e3],hbz⟩
 ·have hlb:=hQ.lb d hd (hi.al d hd).2.1 (hi.al d hd).2.2 (hi.al d hd).1
  have hot:=fun j hj hne=>hQ.ot d j hd hj hne;rw[ht]at hlb hot;have hs2:k_A (1+1)=2:=by decide
  rw[hs2]at hlb hot;exact o_U hA hd hrt hlb ((hot 1 (by omega) (by omega)).trans (hsl d hd).1) fun j hj n1 n2=>(hot j hj n2).trans ((hsl d hd).2 j hj n1)
 ·rcases hbk with⟨_,h⟩|⟨ps,_,_,_,_,hln,_⟩
  ·exact h
  ·rw[s_c]at hln
   omega
def SJ(A:VA):Nat->(Nat->Nat)->World->Prop
 |0,o,w=>A.n=2/\A.p=1/\∃s bc xb yb c g pp pb,d_n A (c_J a_z 0) 0 s bc xb yb c g pp pb o w/\g_K A s
 |1,o,w=>A.n=2/\A.p=1/\∃s bc xb yb c g pp pb,d_n A (c_J a_z 1) 1 s bc xb yb c g pp pb o w/\g_K A s
 |2,o,w=>A.n=2/\A.p=1/\∃s bc xb yb c g pp pb,d_n A (c_J a_z 2) 2 s bc xb yb c g pp pb o w/\g_K A s
 |3,o,w=>A.n=2/\A.p=1/\∃s root q X,VM A o s w/\q_W A s root q X
 |4,o,w=>A.n=2/\A.p=1/\∃s root q X,VM A o (b_8 s 1) w/\q_W A s root q X
 |5,o,w=>A.n=2/\A.p=1/\∃s X xb yb nb,VSt A s [1] o (fun _=>X) xb yb 1 ⟨[([97],⟨1,[nb]⟩)],[]⟩ w/\e_R A s [1]/\s.lost=false/\X 0=5
 |_,_,_=>True
theorem SJ.alt{A:VA}{i:Nat}{o:Nat->Nat}{w w':World}(h:SJ A i o w)(ha:Alt (fun b=>o b=0) w w'):SJ A i (tag0 o w) w':=by
 have hs:=f_ o w
 match i,h with
 |0,⟨h1,h2,s,bc,xb,yb,c,g,pp,pb,h,h3⟩=>exact⟨h1,h2,s,bc,xb,yb,c,g,pp,pb,h.alt ha hs,h3⟩
 |1,⟨h1,h2,s,bc,xb,yb,c,g,pp,pb,h,h3⟩=>exact⟨h1,h2,s,bc,xb,yb,c,g,pp,pb,h.alt ha hs,h3⟩
 |2,⟨h1,h2,s,bc,xb,yb,c,g,pp,pb,h,h3⟩=>exact⟨h1,h2,s,bc,xb,yb,c,g,pp,pb,h.alt ha hs,h3⟩
 |3,⟨h1,h2,s,root,q,X,h,h3⟩=>exact⟨h1,h2,s,root,q,X,h.keep ha (fun b hb e=>by omega) hs,h3⟩
 |4,⟨h1,h2,s,root,q,X,h,h3⟩=>exact⟨h1,h2,s,root,q,X,h.keep ha (fun b hb e=>by omega) hs,h3⟩
 |5,⟨h1,h2,s,X,xb,yb,nb,h,h3⟩=>exact⟨h1,h2,s,X,xb,yb,nb,h.alt ha (fun b hb e=>e) hs,h3⟩
 |_+6,_=>trivial
section
variable {A:VA}{o:Nat->Nat}{w:World}{drive keep:Int}{R:Option Addr}{dc:Nat}
theorem n_f(h:SJ A 3 o w):Calls prog 22 #[ptr A.v,cmV (a_z 3) 1 keep R dc] w (h_W (SJ A 4) (Td.no 0) o w):=by
 obtain⟨hn,hp,s,root,q,X,hV,hB⟩:=h;have h1:1<A.n:=by omega
 refine(q_v hB.ok hV hB.iv.lo 1 h1 (by have:=hB.iv.ws 1 h1;omega) (hB.iv.al 1 h1).1 [] [] 0 0 keep R 0 dc).mono ?_
 rintro e w' ⟨rfl,w1,w2,hn1,⟨o',c1,c2,c3⟩,ha,hsz⟩;have hz:tag0 o w (w.heap.size+1+1)=0:=z_ o w (by omega)
 have hp0:o' (w.heap.size+1+1)=0:=(c1 _ hsz).trans hz;refine⟨_,_,o',rfl,i_4 0 o' w',⟨hn,hp,s,root,q,X,c2.keep ha (fun b hb e=>by subst e;omega) (s_.refl _ _),hB⟩,fun b hb=>?_,(Alt.of_new hn1).trans' ((c3.weak (K':=fun b=>(tag0 o w b=16+1\/b=A.eb)\/b=w.heap.size+1+1) fun b hb=>.inl hb).trans (ha.weak fun b hb=>.inr hb)) fun b hb=>?_⟩
 ·rw[c1 b (Nat.lt_of_lt_of_le hb hn1.size),f_ o w b hb]
 ·rcases hb with(hb|rfl)|rfl
  ·rcases Nat.lt_or_ge b w.heap.size with hl|hl
   ·rw[f_ o w b hl]at hb
    exact .inl ⟨by omega,fun e=>by omega⟩
   ·exact .inr hl
  ·have:=hV.oe
   exact .inl ⟨by omega,fun e=>by omega⟩
  ·exact .inr (by omega)
def PwQ(A:VA)(o:Nat->Nat)(s:VS)(root q:Ptr)(w w':World):Prop:=∃o1 w1,s_ o o1 w/\Alt (fun b=>16<=o b) w w1/\OpP A o1 (b_8 s 1) 2 root [97] 1 q w1 w'
theorem PwQ.alt{A:VA}{o:Nat->Nat}{s:VS}{root q:Ptr}{w w':World}(h:PwQ A o s root q w w'):Alt (fun b=>16<=o b\/o b=1) w w':=by
 obtain⟨o1,w1,h1,h2,o',st,xb,yb,nb,y,_,_,_,h3,_⟩:=h;refine(h2.weak fun b hb=>.inl hb).trans' h3 fun b hb=>?_;rcases Nat.lt_or_ge b w.heap.size with hl|hl
 ·rw[h1 b hl]at hb
  exact .inl hb
 ·exact .inr hl
theorem e_c(s:VS){d:Nat}(h:d≠1):(b_8 s 1).ds d=s.ds d:=if_neg h
theorem f_z(s:VS)(d:Nat):((b_8 s 1).ds d).ws=(s.ds d).ws:=by
 by_cases e:d=1
 ·subst e;rfl
 ·rw[e_c s e]
theorem m_K{s:VS}(h:B8 s):B8 (b_8 s 1):=fun d j F hF=>by
 by_cases e:d=1
 ·subst e
  cases hF
 ·rw[e_c s e]at hF
  exact h d j F hF
theorem r_b{A:VA}{s:VS}{bad:List Nat}{q:Ptr}{X:Nat->Nat}(hA:VOk A)(h:f_l A s bad X (some q)):∀y∈a_J q,BdI y:=fun y hy=>by
 obtain⟨_,h1,h2,_,u,h3,_⟩:=h;obtain⟨b1,b2,b3,b4⟩:=sums_bd (a_9 X q.by_) (32*q.ct);rw[h1.sum]at b1 b2 b3 b4;have h4:=h1.hi;have h5:=hA.n8;have h6:=h3.c2;have h7:=h3.bi;unfold a_J at hy;simp only[List.mem_cons,List.not_mem_nil,or_false]at hy;rcases hy with rfl|rfl|rfl|rfl|rfl|rfl|rfl|rfl
 ·exact⟨by omega,by omega⟩
 ·exact⟨by omega,by omega⟩
 ·exact⟨by omega,by omega⟩
 ·exact h7
 ·exact b1
 ·exact b2
 ·exact b3
 ·exact b4
set_option maxHeartbeats 1000000 in
theorem k_u(h:SJ A 4 o w):Calls prog 22 #[ptr A.v,cmV (a_z 4) drive keep R dc] w (h_W (SJ A 5) (Td.no 0) o w):=by
 obtain⟨hn,hp,s,root,q,X,hV,hB⟩:=h;have hA:=hB.ok;have hlo:(b_8 s 1).lost=false:=hB.iv.lo;have hs:∀w1,New w w1->Calls prog 51 #[ptr A.v,.int .i64 keep] w1 fun e w'=>e=.returned (.tuple #[])/\PwQ A (tag0 o w) s root q w1 w':=fun w1 hn1=>by
  have hV1:VM A (tag0 o w) (b_8 s 1) w1:=hV.tag0 hn1;refine power_any hA hV1 (fun i hi=>by rw[f_z];have:=hB.iv.ws i hi;omega) (fun i hi=>?_) keep fun w2 hD=>?_
  ·by_cases e:i=1
   ·subst e;exact .inl rfl
   ·rw[e_c s e];exact .inr (hB.w0 i hi)
  ·obtain⟨o1,d1,d2,d3⟩:=hD
   refine(p_j hA w2 d2 ⟨fun i hi=>by rw[f_z];have:=hB.iv.ws i hi;omega,fun i j F hF=>m_K hB.iv.b8 i j F hF⟩ 2 root q [97] 1 (bad:=[1]) ⟨by decide,by decide⟩ (fun i hi=>?_) ⟨0,by omega,by rw[e_c s (by omega)];exact(hB.iv.al 0 (by omega)).1⟩ ⟨hB.bk.pb,hB.bk.by_,h_t hA hB.bk.kp hB.rt.c1 hB.iv⟩ hB.rt.c1 (by unfold mxB wdA;rw[hn,hp];decide) ⟨Nat.le_refl 1,by decide⟩ ⟨Nat.le_refl 1,by decide⟩ (r_b hA hB.bo) (t_E q) ⟨hB.rt.ad,hB.rt.c2,hB.rt.by2,by rw[hB.rt.bi];decide,by rw[hB.rt.bi];exact Int.le_refl _⟩ ⟨hB.rt.s0,hB.rt.s1,hB.rt.s2,hB.rt.s3⟩ hB.iv.pt (fun i hi=>by rw[f_z];exact hB.iv.ws i hi)).mono ?_
   ·by_cases e:i=1
    ·subst e;exact .inl rfl
    ·rw[e_c s e];exact .inr ⟨(hB.iv.al i hi).1,hB.sl i hi⟩
   ·rintro e w' ⟨rfl,hO⟩
    exact⟨rfl,o1,w2,d1,d3,hO⟩
 have hz:∀b,w.heap.size<=b->tag0 o w b=0:=fun b hb=>z_ o w hb;refine(o_8 hV hlo [] [] 0 0 drive keep R 0 dc hs fun w1 w2 hn1 hQ g cs hg hb=>hQ.alt.blk hb fun hk=>by have:=hz g hg;omega).mono ?_
 rintro e w' ⟨rfl,w1,w2,hn1,hQ,ha,hsz⟩;have hQa:=hQ.alt;obtain⟨o1,wx,hx1,hx2,o',st,xb,yb,nb,y,hVM,hPl,hBm,hAl,hSm⟩:=hQ;have hso:∀b,b<w1.heap.size->o' b=tag0 o w b:=fun b hb=>by rw[hSm b (Nat.lt_of_lt_of_le hb hx2.size),hx1 b hb]
 have hp0:o' (w.heap.size+1+1)=0:=(hso _ hsz).trans (hz _ (by omega))
 obtain⟨s2,hs2⟩:∃s2:VS,s2={h_u s A.n with syn:=y,st:=st}:=⟨_,rfl⟩;obtain⟨s5,hs5⟩:∃s5:VS,s5=R_ (K_ A s2 root (fun _=>((2:Int)%4).toNat) 1 A.n) A.n:=⟨_,rfl⟩;have hVM:VM A o' s5 w2:=by rw[hs5,hs2];exact hVM
 have hst5:s5.st=st:=by rw[hs5,hs2];rfl
 have hpg5:s5.pg=s.pg:=by rw[hs5,hs2];rfl
 have hfr5:s5.fresh=(h_u s A.n).fresh:=by rw[hs5,hs2];rfl
 have hlo5:s5.lost=false:=by rw[hs5,hs2];rfl
 have hrd:∀lo hi,4*A.n<=lo->a_3 A (h_u s A.n) s5 lo hi:=fun lo hi hlo=>by
  have h1:a_3 A (h_u s A.n) s2 lo hi:=fun d j _ _ _=>by rw[hs2]
  have h2:=g_l A s2 root (fun _=>((2:Int)%4).toNat) 1 A.n lo hi hlo (fun _ _=>by decide)
  have h3:=a_S A (K_ A s2 root (fun _=>((2:Int)%4).toNat) 1 A.n) A.n lo hi;rw[<-hs5]at h3;exact(h1.trans h2).trans h3
 have hbo5:f_l A s5 [1] X (some q):=by
  obtain⟨k1,k2,k3,k4,u,k5,k6⟩:=hB.bo;exact⟨k1,k2,k3,(h_t hA k4 k5.c1 hB.iv).sameU hA k5 hrd hfr5,u,k5,by rw[hpg5];exact k6⟩
 have hVS:VSt A s5 [1] o' (fun _=>X) xb yb 1 ⟨[([97],⟨1,[nb]⟩)],[]⟩ w2:=by
  refine⟨hVM,by rw[hst5];exact hPl,fun b hb=>?_,fun G hG=>?_⟩
  ·have hb:b=nb:=by simpa [GS.all,gBl]using hb
   subst hb;exact⟨some q,hBm X,hbo5⟩
  ·have hG:G=⟨1,[nb]⟩:=by
    rcases hG with⟨x,hG⟩|⟨p,hp,_⟩
    ·have:=List.mem_singleton.1 hG
     exact congrArg Prod.snd this
    ·cases hp
   subst hG;refine⟨show 1<=1024 by decide,show 1=(1+255)/256 by decide,fun i h1 h2=>?_⟩
   have h1:1<=i:=h1;have h2:i<256*1:=h2;show X (i%256)=0;exact hB.xz _ (by omega) (by omega)
 have hb82:B8 s2:=fun d j F hF=>m_K hB.iv.b8 d j F (by rw[hs2]at hF;exact hF)
 have hF5:e_R A s5 [1]:=by
  refine⟨hA,⟨fun i hi=>?_,fun i j F hF=>?_⟩,by unfold mxB wdA;rw[hn,hp];decide⟩
  ·have h1:=g_v (K_ A s2 root (fun _=>((2:Int)%4).toNat) 1 A.n) A.n i hi
   have h2:=g_k A s2 root (fun _=>((2:Int)%4).toNat) 1 A.n i;have h3:(s2.ds i).ws.length<=60:=by
    rw[hs2];show((b_8 s 1).ds i).ws.length<=60;rw[f_z];exact hB.iv.ws i hi
   rw[<-hs5]at h1;split at h1<;>omega
  ·rw[hs5]at hF
   exact d_H (j_z A hb82 root _ 1 A.n) A.n i j F hF
 refine⟨_,_,o',rfl,i_4 0 o' w',⟨hn,hp,s5,X,xb,yb,nb,hVS.alt ha (fun b _ e=>by rw[e];exact hp0) (s_.refl _ _),hF5,hlo5,hB.x0⟩,fun b hb=>?_,(Alt.of_new hn1).trans' ((hQa.weak (K':=fun b=>(16<=tag0 o w b\/tag0 o w b=1)\/b=w.heap.size+1+1) fun b hb=>.inl hb).trans (ha.weak fun b hb=>.inr hb)) fun b hb=>?_⟩
 ·rw[hso b (Nat.lt_of_lt_of_le hb hn1.size),f_ o w b hb]
 ·rcases hb with hb|rfl
  ·rcases Nat.lt_or_ge b w.heap.size with hl|hl
   ·rw[f_ o w b hl]at hb
    exact .inl ⟨by omega,fun e=>by omega⟩
   ·exact .inr hl
  ·exact .inr (by omega)
theorem k_v(h:SJ A 5 o w)(hC:a_q w (a_z 5) R dc):Calls prog 22 #[ptr A.v,cmV (a_z 5) drive keep R dc] w (h_W (SJ A 6) (l_U 5) o w):=by
 obtain⟨hn,hp,s,X,xb,yb,nb,hV,hF,hl,hx⟩:=h;have hP:OkP (absG (fun _=>X) ⟨[([97],⟨1,[nb]⟩)],[]⟩):=⟨⟨List.pairwise_singleton _ _,show 1<=4 by decide,fun p hp=>by
   obtain rfl:=List.mem_singleton.1 hp;show 1<=1024;omega⟩,List.Pairwise.nil,show 0<=3 by decide,fun p hp=>by cases hp⟩
 have ht:(doT (absG (fun _=>X) ⟨[([97],⟨1,[nb]⟩)],[]⟩) (a_z 5)).1=⟨0,1,h_m (byT (fun _=>X) ⟨1,[nb]⟩) 0 9,[]⟩:=rfl;refine(m_X hF hV hP hC (by unfold maxLen;omega) ⟨by decide,by decide⟩ hl (drive:=drive) (keep:=keep)).mono ?_
 rintro e w' ⟨v,xb',o',bc',g',rfl,⟨dv,nv,rfl,h1,h2,h3,h4⟩,hV',hab,ha,hT⟩;rw[ht]at h1 h2;obtain⟨eb,e1,_⟩:=hV.pl.bk;refine⟨dv,nv,o',by rw[ht];rfl,⟨h1.congr rfl fun i hi=>?_,h2,fun _ k hk=>hT.ge (h3 k hk),fun k hk=>hT.ge (h4 k hk)⟩,trivial,hT.same,ha.weak fun b hb=>?_⟩
 ·have hi:i<1:=hi
  obtain rfl:i=0:=by omega
  exact hx
 ·rcases hb with rfl|rfl|rfl
  ·have ht:=hV.pl.ts
   exact⟨by rw[ht];decide,fun _ cs=>⟨fun hk=>e_ hk e1 (by decide) rfl,fun hk=>e_ hk e1 (by decide) rfl⟩⟩
  ·have ht:=hV.pl.tx
   exact⟨by rw[ht];decide,fun _ cs=>⟨fun hk=>w_ hk hV.pl.om.obj rfl,fun hk=>w_ hk hV.pl.om.obj rfl⟩⟩
  ·have ht:=hV.pl.ty
   exact⟨by rw[ht];decide,fun _ cs=>⟨fun hk=>w_ hk hV.pl.nm.obj rfl,fun hk=>w_ hk hV.pl.nm.obj rfl⟩⟩
end
theorem j_3{A:VA}{o:Nat->Nat}{w:World}(h:k_b 2 1 A o w):SJ A 0 o w:=by
 have h0:=h_f h a_z;obtain⟨h1,h2,h3,st,xb,yb,o0,s',pp,rs,pt,root,w0,hR,hP⟩:=h;have hi:=l_O A st;have hs1:k_A (0+1)=1:=by decide
 have hsl:g_K A s':=by
  refine⟨hP.tm,root,fun d hd=>⟨?_,fun j hj hne=>?_⟩⟩
  ·have:=hP.lb d hd rfl rfl rfl
   exact this
  ·exact(hP.ot d j hd hj (by show j≠k_A (0+1);rw[hs1];exact hne)).trans rfl
 refine⟨h1,h2,s',_,xb,yb,0,_,pp,rs++[root],⟨h3,hP.st,hP.rg,hP.sy,⟨(hP.inv hi).al,hP.ws,(hP.inv hi).b8,(hP.inv hi).t0,?_,(hP.inv hi).pt,(hP.inv hi).lo⟩,rfl,Nat.le_refl _⟩,hsl⟩;rw[hP.tm];show(0:Int)+1<=_;omega
theorem o_g(c:Nat)(B:Option Addr)(kp:Nat->Int)(R:Nat->Option Addr)(dc:Nat->Nat)(w:World)(hJ:RdC w B 6 a_z f_L kp R dc) :
  Calls prog 9 #[.int .i64 2,.int .i64 1,.slice B 6 c] w (PlO l_U 6 0 w):=by
 refine k_g 2 1 (by omega) (by omega) (by omega) (by omega) (by omega) 6 c B a_z f_L kp R dc l_U w (by omega) hJ SJ (fun A o w' h=>j_3 h) (fun A i o w1 w2 h ha=>h.alt ha) fun A i o w1 hi h hC=>?_
 match i,hi with
 |0,_=>
  obtain⟨h1,h2,s,bc,xb,yb,c,g,pp,pb,h,h3⟩:=h;refine(k_P h (d_8 a_z 0) hC ⟨by decide,by decide⟩ (by omega) (drive:=f_L 0) (keep:=kp 0)).mono ?_
  rintro e w' ⟨dv,nv,o',rfl,hT,⟨bc',xb',g',hO⟩,hsm,ha⟩;exact⟨dv,nv,o',rfl,hT,⟨h1,h2,s,bc',xb',yb,c+1,g',pp,pb,hO,h3⟩,hsm,ha⟩
 |1,_=>
  obtain⟨h1,h2,s,bc,xb,yb,c,g,pp,pb,h,h3⟩:=h;refine(k_P h (d_8 a_z 1) hC ⟨by decide,by decide⟩ (by omega) (drive:=f_L 1) (keep:=kp 1)).mono ?_
  rintro e w' ⟨dv,nv,o',rfl,hT,⟨bc',xb',g',hO⟩,hsm,ha⟩;exact⟨dv,nv,o',rfl,hT,⟨h1,h2,s,bc',xb',yb,c+1,g',pp,pb,hO,h3⟩,hsm,ha⟩
 |2,_=>
  obtain⟨h1,h2,s,bc,xb,yb,c,g,pp,pb,h,h3⟩:=h;refine(j_c h (d_8 a_z 2) (i_b a_z 2) rfl (by omega) (drive:=f_L 2) (keep:=kp 2)).mono ?_
  rintro e w' ⟨dv,nv,o',rfl,hT,⟨s',pp',rs,pt,root,o2,w2,w3,_,hQ,_,_,hO⟩,hsm,ha⟩;obtain⟨q,X,hB⟩:=n_e h.ok h3 h.ab h.iv hQ;exact⟨dv,nv,o',rfl,hT,⟨h1,h2,s',root,q,X,hO.vs.vm,hB⟩,hsm,ha⟩
 |3,_=>exact n_f h
 |4,_=>exact k_u h
 |5,_=>exact k_v h hC
end vault
end Go.Proofs.YtojcoaekhiadcaaGreat
