import Derived.Test.YtojcoaekhiadcaaGreatA01
import Derived.Test.YtojcoaekhiadcaaGreatA15
import Derived.Test.YtojcoaekhiadcaaGreatA16
import Derived.Test.YtojcoaekhiadcaaGreatA17
set_option linter.unusedVariables false
set_option linter.unusedSimpArgs false
namespace Go.Proofs.YtojcoaekhiadcaaGreat
open Tryz Go.RowKit
namespace vault
set_option maxRecDepth 100000
open Go.ChangeShapes Go.WideShapes Go.ChangeAt kit drive geom stripe spans flet Go.Deep
def g_O(o:Nat->Nat)(w:World)(fb:Nat)(R:Rs):Prop:=o fb=0/\∃v,Blk w fb 103 #[v]/\w.ownsRow 0 102 2 v R.length (V_ R)/\∀k,v.ownBlock=some k->o k<16
def a_r(A:VA)(s:VS)(X:Nat->Nat)(len x:Nat):Ptr:=⟨4*A.n+x*uA A,(len+127)/128,len,s.time,a_f (a_9 X len) (32*((len+127)/128)) (0,0,0,0)⟩
def e_S(A:VA)(o:Nat->Nat)(s:VS)(fb:Nat)(L:List Bk)(X:Nat->Nat)(len y:Nat)(w:World)(e:Ending)(w':World):Prop:=
 ∃x R' o',e=.returned (.tuple #[.agg (x_ (a_r A s X len x)),.int .i64 0])/\x<=y/\c_z L (cU A ((len+127)/128)) x/\(x=0\/b_k L (x-1))/\a_b A.n (uA A) (L++[(x,cU A ((len+127)/128))]) R'/\R'.length<=200 /\
  s_ o o' w/\VM A o' (Z_ A (a_r A s X len x) X (fun _=>true) s (L_ A ((len+127)/128))) w'/\g_O o' w' fb R'/\Alt (fun b=>16<=o b\/b=fb) w w'
section
variable {A:VA}{o o':Nat->Nat}{s:VS}{w w':World}
theorem o_w(A:VA)(q:Ptr)(c:Nat)(w:World):Calls prog 81 (#[t_z A q c] ++ #[]) w fun e w'=>e=.returned (.bool true)/\New w w':=by
 show Calls prog 81 #[t_z A q c] w _;go_enter func81,ntmps81;go_wp2;go_ret;exact⟨rfl,(New.refl w).alloc _⟩
set_option maxHeartbeats 4000000 in
theorem h_e(hA:VOk A)(h:VM A o s w)(fb:Nat)(L:List Bk)(R:Rs)(X:Nat->Nat)(b off len cd y:Nat)(hfm:g_O o w fb R)(hF:a_b A.n (uA A) L R)(hRl:R.length<=200)(hLl:L.length<=190)(hL:∀b,b∈L->0<b.2)
  (b1:1<=len) (b2:len<=4096) (hX:∀k,k<len->w.cell? ⟨b,off+k,none⟩=some (.int .u8 (X k:Nat))) (hX8:∀k,X k<256) (hb:b<w.heap.size) (hbf:b≠fb) (hcd:len<=cd/\cd<=maxLen)
  (hm:∀i,i<A.n->(s.ds i).ws.length+(len+127)/128<300) (hp:s.puts<0) (hy:y+cU A ((len+127)/128)<=508) (hr:c_z L (cU A ((len+127)/128)) y) :
  Calls prog 40 #[ptr A.v,ptr fb,.slice (some ⟨b,off,none⟩) len cd] w (e_S A o s fb L X len y w):=by
 obtain⟨ct,hct⟩:∃ct,Hid (ct=(len+127)/128):=⟨_,rfl⟩;have hcte:=hct.o;rw[<-hct.o]at hm hy hr;have hc1:1<=ct:=by omega
 have hc2:ct<=32:=by omega
 have hn8:=hA.n8;have hu1:1<=uA A:=by unfold uA;omega
 have hun:uA A<=A.n:=by have:=hA.pn;unfold uA;omega
 obtain⟨hfo,fv,hfb,hfr,hft⟩:=hfm;have hcl:=k_7 hA hc1;have hcp:=i_K hA hc1;have hfitH:∀x,x+cU A ct<=508->4*A.n+x*uA A+b_X A ct<=512*A.n:=fun x hx=>by
  have h1:=i_J hA ct;have h2:(x+cU A ct)*uA A<=508*A.n:=Nat.mul_le_mul hx hun;rw[Nat.add_mul]at h2;omega
 have hct2:=i_J hA ct;have hcost:=Hd (fun w=>k_0 A.n A.p ct w);obtain⟨cu,hcu⟩:∃cu,Hid (cu=cU A ct):=⟨_,rfl⟩;rw[(f_B hA hc1 hc2).1,(f_B hA hc1 hc2).2,<-hcu.o]at hcost;rw[<-hcu.o]at hcl hcp hct2 hy hr hfitH;replace hfitH:=Hd hfitH;have hfirst:=Hd (fun(w':World) (hn:New w w')=>q_0 hF hn8 hu1 hun hRl hL hcp hy hr w' (c_ hfr hn));have v0:=h.v0;have v1:=h.v1;have v5:=h.v5;have hq:((len:Int)+128-1)/128=(ct:Int):=by omega
 have hfc:=hfb.cell 0;have hff:=hfb.frozen 0;simp at hfc;obtain⟨W0,hW0⟩:∃W0,W0=(w.alloc (.cells #[.int .i64 0,.int .i64 0,.int .i64 0,.int .i64 0,.int .i64 0,.int .i64 0,.int .i64 0,.int .i64 0] 107)).alloc (.cells #[.int .i64 0,.int .i64 ct,.int .i64 len,.int .i64 s.time,.int .i64 0,.int .i64 0,.int .i64 0,.int .i64 0] 107):=⟨_,rfl⟩;have hN0:New w W0:=by rw[hW0];exact((New.refl w).alloc _).alloc _
 have hb0:Blk W0 w.heap.size 107 #[.int .i64 0,.int .i64 0,.int .i64 0,.int .i64 0,.int .i64 0,.int .i64 0,.int .i64 0,.int .i64 0]:=by rw[hW0];exact(Blk.fresh w _ _).alloc _
 have hb1:Blk W0 (w.heap.size+1) 107 #[.int .i64 0,.int .i64 ct,.int .i64 len,.int .i64 s.time,.int .i64 0,.int .i64 0,.int .i64 0,.int .i64 0]:=by
  rw[hW0];have:=Blk.fresh (w.alloc (.cells #[.int .i64 0,.int .i64 0,.int .i64 0,.int .i64 0,.int .i64 0,.int .i64 0,.int .i64 0,.int .i64 0] 107)) 107 #[.int .i64 0,.int .i64 ct,.int .i64 len,.int .i64 s.time,.int .i64 0,.int .i64 0,.int .i64 0,.int .i64 0];simpa using this
 have hkeep:Hid (∀w',New W0 w'->w'.cell? ⟨A.v,0,none⟩=some (.int .i64 A.n)/\w'.cell? ⟨A.v,1,none⟩=some (.int .i64 A.p)/\w'.cell? ⟨w.heap.size+1,1,none⟩=some (.int .i64 ct)):=fun w' hn=>⟨((hN0.next hn).cell (a_ v0)).trans v0,((hN0.next hn).cell (a_ v1)).trans v1,(hb1.new hn).cell 1⟩;have hN0H:=Hd hN0;have hb0H:=Hd hb0;have hb1H:=Hd hb1;have hVH:=Hd h;have hFH:=Hd hF;have hfbH:=Hd hfb;have hfrH:=Hd hfr;have hftH:=Hd hft;have hXH:=Hd hX;have hX8H:=Hd hX8;have hLH:=Hd hL;have hmH:=Hd hm;have hrH:=Hd hr;have hctH:=Hd hct2;have hfl:=hfb.lt;have hunH:=Hd hun;obtain⟨k0,k1,k2⟩:=hkeep.o W0 (New.refl _);obtain⟨tm,htm⟩:∃tm,Hid (tm=s.time):=⟨_,rfl⟩;rw[<-htm.o]at v5 hW0 hb1H;have v5':=(((New.refl w).alloc (.cells #[.int .i64 0,.int .i64 0,.int .i64 0,.int .i64 0,.int .i64 0,.int .i64 0,.int .i64 0,.int .i64 0] 107)).cell (a_ v5)).trans v5;clear hb0 hN0 hb1 v0 v1 h hF hfb hfr hft hX hX8 hL hm hr hct2 hun hcte;go_enter func40,ntmps40;go_wp2_with fail;rw[<-hW0];clear hW0 v5 v5' hq;go_region_held3 (fun w'=>w'.cell? ⟨A.v,0,none⟩=some (.int .i64 A.n)/\w'.cell? ⟨A.v,1,none⟩=some (.int .i64 A.p)/\w'.cell? ⟨w.heap.size+1,1,none⟩=some (.int .i64 ct))
  (first
   |with_reducible exact hkeep.o _ (New.refl _).drew
   |with_reducible exact hkeep.o _ hN6.o)
  ((go_at_call 73;(with_reducible refine(hcost.o _).mono ?_);rintro e W6 ⟨rfl,hn6⟩;have hN6:=Hd (New.next (New.refl W0).drew hn6);clear hn6))
 have hN06:=Hd (hN0H.o.next hN6.o);have f6:=(hN06.o.cell (a_ hfc)).trans hfc;go_wp2_with fail;refine(hfirst.o _ hN06.o).mono ?_;rintro e w7 ⟨x,rfl,hx1,hx2,hx3,hn7⟩;have hN7:=Hd (hN06.o.next hn7);have hN67:=Hd (hN6.o.next hn7);have hx2H:=Hd hx2;have hx3H:=Hd hx3;obtain⟨ad,had⟩:∃ad,Hid (ad=4*A.n+x*uA A):=⟨_,rfl⟩;have hxu:x*uA A<=508*A.n:=Nat.mul_le_mul (by omega) hunH.o
 have had2:ad<=4096:=by have:=had.o;omega
 have hfit:Hid (ad+b_X A ct<=512*A.n):=by show _<=_;rw[had.o];exact hfitH.o x (by omega)
 rw[<-had.o];have p7:=hb1H.o.new hN67.o;have k0:=p7.cell 0;have k1:=p7.frozen 0;simp at k0;clear hn7 hx2 hx3 hxu f6 k2;go_wp2_with fail;have p8:Blk (w7.setCell ⟨w.heap.size+1,0,none⟩ (.int .i64 ad)) (w.heap.size+1) 107 #[.int .i64 ad,.int .i64 ct,.int .i64 len,.int .i64 tm,.int .i64 0,.int .i64 0,.int .i64 0,.int .i64 0]:=p7.put 0 (.int .i64 ad);have hN8:=hN7.o.set (p:=⟨w.heap.size+1,0,none⟩) (Nat.le_succ _) (.int .i64 ad);have r8:=(hb0H.o.new hN67.o).far (p:=⟨w.heap.size+1,0,none⟩) (by show w.heap.size≠w.heap.size+1;omega) (.int .i64 ad)
 obtain⟨W8,hW8⟩:∃W8,W8=w7.setCell ⟨w.heap.size+1,0,none⟩ (.int .i64 ad):=⟨_,rfl⟩;rw[<-hW8]at p8 hN8 r8 ⊢;clear hW8 p7 k0 k1;obtain⟨t2,ht2⟩:∃t2:Int,Hid (t2=((ad+cu*uA A:Nat):Int)):=⟨_,rfl⟩;have hpl:=Hd (fun(w':World) (hn:New W8 w')=>e_u hA w' (hVH.o.new (hN8.next hn)) ⟨ad,ct,len,tm,0,0,0,0⟩ hc1 hc2 (by show ad<=_;omega))
 rw[<-hcu.o,<-ht2.o]at hpl;have hcx:=Hd (fun(w':World) (hn:New W8 w')=>l_k hFH.o hn8 hu1 hunH.o hRl hLl (b:=(x,cu)) hcp (by show x+cu<=508;omega) w' (c_ hfrH.o (hN8.next hn)))
 have e1:adr A.n (uA A) x=(ad:Int):=by unfold adr;rw[had.o]
 have e2:adr A.n (uA A) (x+cu)=t2:=by rw[c_o,e1,ht2.o];push_cast;rfl
 dsimp only at hcx hpl;rw[e1,e2]at hcx;have f8:=(hN8.cell (a_ hfc)).trans hfc;have g8:=(hN8.frozen (p:=⟨fb,0,none⟩) hfl).trans hff;have l0:=p8.cell 0;have l1:=p8.cell 1;have l2:=p8.cell 2;have l3:=p8.cell 3;have l4:=p8.cell 4;have l5:=p8.cell 5;have l6:=p8.cell 6;have l7:=p8.cell 7;simp at l0 l1 l2 l3 l4 l5 l6 l7;have p8H:=Hd p8;have r8H:=Hd r8;have hN8H:=Hd hN8;have hne1:fb≠w.heap.size+1:=by omega
 have hne0:fb≠w.heap.size:=by omega
 clear p8 r8 hN8 e1 e2;go_cut [] from 56 to 66 (fun wx=>∃v' R',Hid (a_b A.n (uA A) (L++[(x,cu)]) R')/\R'.length<=200/\Hid (Blk wx fb 103 #[v'])/\Hid (wx.ownsRow w.heap.size 102 2 v' R'.length (V_ R'))/\Hid (Alt (fun b=>b=fb) w wx)/\Hid (Blk wx (w.heap.size+1) 107 #[.int .i64 ad,.int .i64 ct,.int .i64 len,.int .i64 tm,.int .i64 0,.int .i64 0,.int .i64 0,.int .i64 0])/\Hid (Blk wx w.heap.size 107 #[.int .i64 0,.int .i64 0,.int .i64 0,.int .i64 0,.int .i64 0,.int .i64 0,.int .i64 0,.int .i64 0]));case first=>
  go_region_law
   (first
    |(go_simp;go_at_call 38;(with_reducible refine(hpl.o _ (New.refl W8).drew).mono ?_);rintro e w9 ⟨rfl,hn9⟩;have hN9:=Hd (New.next (New.refl W8).drew hn9);have f9:=(hN9.o.cell (a_ f8)).trans f8;clear hn9)
    |(go_simp;go_at_call 37;(with_reducible refine(hcx.o _ hN9.o).mono ?_);rintro e wA ⟨v',R',rfl,hF',hl',ho',hnA⟩;obtain⟨R7,k7,rfl⟩:=j_ ho';have hNA:=Hd (hN9.o.next hnA);have fA:=(hNA.o.cell (a_ f8)).trans f8;have gA:=(hNA.o.frozen (p:=⟨fb,0,none⟩) (a_ f8)).trans g8;have hxA:=Hd (And.intro hF' (And.intro hl' ho'));have hnAH:=Hd hnA;clear hF' hl' ho' hnA))
  all_goals go_wp2
  all_goals go_meet
  all_goals
   have hNw:=hN8H.o.next hNA.o;have ho:=a_8 hxA.o.2.2 (Nat.le_trans hN8H.o.size hN9.o.size);have hoc:(Value.slice R7 R'.length k7).ownBlock≠some fb:=fun e=>by have:=(hxA.o.2.2.lt fb e).1;have:=hN9.o.size;have:=hN8H.o.size;omega
   refine⟨_,R',hxA.o.1,hxA.o.2.1,(hfbH.o.new hNw).put 0 _,?_,Alt.set (K:=fun b=>b=fb) (Alt.of_new hNw) (.inl rfl) _,(p8H.o.new hNA.o).far (p:=⟨fb,0,none⟩) (by show _≠fb;omega) _,(r8H.o.new hNA.o).far (p:=⟨fb,0,none⟩) (by show _≠fb;omega) _⟩
   exact ownsRow_setCell_other ho (a:=⟨fb,0,none⟩) hoc _
 case rest=>
  obtain⟨v',R',hF',hl',hfb',hown',hA8,hp',hr'⟩:=hcut;obtain⟨CB,hCB⟩:∃CB,Hid (CB=128*ct):=⟨_,rfl⟩;have hCB1:(ct:Int)*128=(CB:Int):=by rw[hCB.o];push_cast;omega
  have hCB2:CB<=4096:=by rw[hCB.o];omega
  have hCB3:len<=CB:=by rw[hCB.o,hct.o];omega
  have hmk:=run_make_row' (P:=prog) 35 5 (.int .u8 0) 1 underlying35 drive.infoU8 rfl .i64 .i64 CB (by omega) (by omega)
  have m1:=hp'.o.cell 1;simp at m1;have hmade:Hid ((wc.alloc (.cells (madeCells #[.int .u8 0] CB) 5)).rowIs wc.heap.size 5 CB (fun _=>.int .u8 0)):=World.rowIs_made wc (.int .u8 0) CB 5;have hsz1:Hid ((prog.info? 5).map (·.size)=some 1):=by show _=_;kernel_rfl
  have hXc:Hid (∀j,j<len->(wc.alloc (.cells (madeCells #[.int .u8 0] CB) 5)).cell? ⟨b,off+j,none⟩=some (.int .u8 (X j:Nat))):=fun j hj=>by
   have h1:=hA8.o.cell (hXH.o j hj) hbf;exact(((New.refl wc).alloc _).cell (a_ h1)).trans h1
  have hmin:Hid (len=Nat.min len CB):=(Nat.min_eq_left hCB3).symm;have hszc:=hA8.o.size;go_wp2_with (with_reducible refine T_ rfl (.tmp 71) (.tmp 72) 35 35 rfl 5 underlying35 hsz1.o wc.heap.size 0 CB 5 _ hmade.o (some ⟨wc.heap.size,0,none⟩) (some ⟨b,off,none⟩) CB CB len cd len (fun j=>.int .u8 (X j:Nat)) rfl rfl hmin.o (fun h0=>⟨rfl,b,off,rfl,hXc.o⟩) (by omega) (fun j _=>rfl) ?_;intro w2 hr3 hg2)
  have hN2:Hid (New wc w2):=((New.refl wc).alloc _).grown1 hg2 (Nat.le_refl _);have hrdb:Hid (RdB w2 (some ⟨wc.heap.size,0,none⟩) CB (a_9 X len)):=by
   refine⟨by unfold maxLen;omega,fun i hi=>?_,fun h0=>⟨wc.heap.size,0,rfl,hr3.o.lt,fun i hi=>?_⟩⟩
   ·unfold a_9
    split
    ·exact hX8H.o i
    ·omega
   ·rw[Nat.zero_add,hr3.o.cell hi]
    unfold cpF a_9
    by_cases e:i<len
    ·rw[if_pos ⟨Nat.zero_le _,by omega⟩,if_pos e];rfl
    ·rw[if_neg (by omega),if_neg e];rfl
  clear hmk hmade hXc hr3 hg2 m1 hmin;refine(n_6 (some ⟨wc.heap.size,0,none⟩) CB CB (a_9 X len) w2 hrdb.o (Nat.le_refl _) (by have:=hCB.o;omega)).mono ?_
  obtain⟨S,hS⟩:∃S,Hid (S=a_f (a_9 X len) (CB/4) (0,0,0,0)):=⟨_,rfl⟩;rw[<-hS.o];obtain⟨s0,s1,s2,s3⟩:=S;rintro e w3 ⟨rfl,hn3⟩;have hN3:=Hd (hN2.o.next hn3);have p3:=hp'.o.new hN3.o;have c0:=p3.cell 0;have c1:=p3.cell 1;have c2:=p3.cell 2;have c3:=p3.cell 3;have c4:=p3.cell 4;have c5:=p3.cell 5;have c6:=p3.cell 6;have c7:=p3.cell 7;have d4:=p3.frozen 4;have d5:=p3.frozen 5;have d6:=p3.frozen 6;have d7:=p3.frozen 7;simp at c0 c1 c2 c3 c4 c5 c6 c7;have p4:Blk ((((w3.setCell ⟨w.heap.size+1,4,none⟩ (.int .i64 s0)).setCell ⟨w.heap.size+1,5,none⟩ (.int .i64 s1)).setCell ⟨w.heap.size+1,6,none⟩ (.int .i64 s2)).setCell ⟨w.heap.size+1,7,none⟩ (.int .i64 s3)) (w.heap.size+1) 107 #[.int .i64 ad,.int .i64 ct,.int .i64 len,.int .i64 tm,.int .i64 s0,.int .i64 s1,.int .i64 s2,.int .i64 s3]:=(((p3.put 4 (.int .i64 s0)).put 5 (.int .i64 s1)).put 6 (.int .i64 s2)).put 7 (.int .i64 s3);have x0:=p4.cell 0;have x1:=p4.cell 1;have x2:=p4.cell 2;have x3:=p4.cell 3;have x4:=p4.cell 4;have x5:=p4.cell 5;have x6:=p4.cell 6;have x7:=p4.cell 7;simp at x0 x1 x2 x3 x4 x5 x6 x7;have hA4:=Hd ((((hA8.o.next hN3.o).set (b:=w.heap.size+1) (k:=4) (.inr (Nat.le_succ _)) (.int .i64 s0)).set (b:=w.heap.size+1) (k:=5) (.inr (Nat.le_succ _)) (.int .i64 s1)).set (b:=w.heap.size+1) (k:=6) (.inr (Nat.le_succ _)) (.int .i64 s2) |>.set (b:=w.heap.size+1) (k:=7) (.inr (Nat.le_succ _)) (.int .i64 s3))
  have k4:∀k (t:TypeId) (cs:Array Value),k≠w.heap.size+1->Blk w3 k t cs->Blk ((((w3.setCell ⟨w.heap.size+1,4,none⟩ (.int .i64 s0)).setCell ⟨w.heap.size+1,5,none⟩ (.int .i64 s1)).setCell ⟨w.heap.size+1,6,none⟩ (.int .i64 s2)).setCell ⟨w.heap.size+1,7,none⟩ (.int .i64 s3)) k t cs:=fun k t cs hk hb=>(((hb.far (p:=⟨w.heap.size+1,4,none⟩) hk _).far (p:=⟨w.heap.size+1,5,none⟩) hk _).far (p:=⟨w.heap.size+1,6,none⟩) hk _).far (p:=⟨w.heap.size+1,7,none⟩) hk _;have r4:=k4 _ _ _ (by omega) (hr'.o.new hN3.o)
  have f4:=k4 _ _ _ hne1 (hfb'.o.new hN3.o);have hof:(v':Value).ownBlock≠some (w.heap.size+1):=fun e=>by
   obtain⟨q1,q2⟩:=hown'.o.lt _ e;exact(b_ hown'.o hp'.o (by decide)) e
  have ho3:=c_ hown'.o hN3.o;have ho4:((((w3.setCell ⟨w.heap.size+1,4,none⟩ (.int .i64 s0)).setCell ⟨w.heap.size+1,5,none⟩ (.int .i64 s1)).setCell ⟨w.heap.size+1,6,none⟩ (.int .i64 s2)).setCell ⟨w.heap.size+1,7,none⟩ (.int .i64 s3)).ownsRow w.heap.size 102 2 v' R'.length (V_ R'):=ownsRow_setCell_other (ownsRow_setCell_other (ownsRow_setCell_other (ownsRow_setCell_other ho3 (a:=⟨w.heap.size+1,4,none⟩) hof _) (a:=⟨w.heap.size+1,5,none⟩) hof _) (a:=⟨w.heap.size+1,6,none⟩) hof _) (a:=⟨w.heap.size+1,7,none⟩) hof _;obtain⟨W4,hW4⟩:∃W4,W4=(((w3.setCell ⟨w.heap.size+1,4,none⟩ (.int .i64 s0)).setCell ⟨w.heap.size+1,5,none⟩ (.int .i64 s1)).setCell ⟨w.heap.size+1,6,none⟩ (.int .i64 s2)).setCell ⟨w.heap.size+1,7,none⟩ (.int .i64 s3):=⟨_,rfl⟩;have hW4H:=Hd hW4;rw[<-hW4]at hA4 p4 r4 f4 ho4 x0 x1 x2 x3 x4 x5 x6 x7;have hV4:=Hd (hVH.o.keep (o':=tag0 o w) hA4.o (fun k hk hkk=>by subst hkk;rw[hfo];omega) (f_ o w))
  have hlay:=Hd (r_B (o:=tag0 o w) hA W4 hV4.o ⟨ad,ct,len,tm,s0,s1,s2,s3⟩ X (fun _=>true) b off cd 81 (enters_of func81 (by kernel_rfl) rfl) #[] b1 b2 hct.o hfit.o (fun k hk=>hA4.o.cell (hXH.o k hk) hbf) hX8H.o (Nat.lt_of_lt_of_le hb hA4.o.size) hmH.o hp (fun c w1 _ _=>o_w A _ c w1))
  have p4H:=Hd p4;have r4H:=Hd r4;have f4H:=Hd f4;have ho4H:=Hd ho4;dsimp only at hlay;clear hn3 p3 p4 k4 r4 f4 hof ho3 ho4 hW4;show _;dsimp only;go_wp2_with fail;rw[<-hW4H.o];refine hlay.o.mono ?_;rintro e w5 ⟨rfl,o5,hs5,hV5,hA5⟩;have t0:¬16<=tag0 o w w.heap.size:=b_b o w (Nat.le_refl _);have t1:¬16<=tag0 o w (w.heap.size+1):=b_b o w (Nat.le_succ _);have p5:=hA5.blk p4H.o t1;have r5:=hA5.blk r4H.o t0;have tf:tag0 o w fb=0:=(f_ o w fb hfl).trans hfo;have f5:=hA5.blk f4H.o (by show ¬16<=tag0 o w fb;rw[tf];decide)
  have ho5:=hA5.own ho4H.o fun k hk=>b_b o w (ho4H.o.lt k hk).1;have hr5:=Hd r5;have l0:=p5.cell 0;have l1:=p5.cell 1;have l2:=p5.cell 2;have l3:=p5.cell 3;have l4:=p5.cell 4;have l5:=p5.cell 5;have l6:=p5.cell 6;have l7:=p5.cell 7;simp at l0 l1 l2 l3 l4 l5 l6 l7;obtain⟨Q,hQ⟩:∃Q:Array Value,Q=#[.int .i64 ad,.int .i64 ct,.int .i64 len,.int .i64 tm,.int .i64 s0,.int .i64 s1,.int .i64 s2,.int .i64 s3]:=⟨_,rfl⟩;have hq0:(x_ ⟨ad,ct,len,tm,s0,s1,s2,s3⟩:Array Value)=x_ (a_r A s X len x)/\(⟨ad,ct,len,tm,s0,s1,s2,s3⟩:Ptr)=a_r A s X len x:=by
   have e:(⟨ad,ct,len,tm,s0,s1,s2,s3⟩:Ptr)=a_r A s X len x:=by
    unfold a_r;rw[had.o,hct.o,htm.o,hS.o,show CB/4=32*((len+127)/128) by rw[<-hct.o];have:=hCB.o;omega]
   exact⟨by rw[e],e⟩
  have hfin:Hid (e_S A o s fb L X len y w (.returned (.tuple #[.agg Q,.int .i64 0])) (w5.setRow w.heap.size Q)):=by
   have hal:Alt (fun b=>b=w.heap.size) w5 (w5.setRow w.heap.size Q):=Alt.row (K:=fun b=>b=w.heap.size) (Alt.refl w5) (.inl rfl) Q;have hsz4:=hA4.o.size;have hl5:=hr5.o.lt;have hsame:s_ o o5 w:=(f_ o w).trans hs5 hsz4;refine⟨x,R',o5,?_,hx1,by rw[<-hct.o,<-hcu.o];exact hx2H.o,hx3H.o,by rw[<-hct.o,<-hcu.o];exact hF'.o,hl',hsame,?_,⟨(hsame fb hfl).trans hfo,v',hal.blk f5 hne0,hal.own (a_8 ho5 (Nat.zero_le _)) fun k hk e=>?_,fun k hk=>?_⟩,?_⟩
   ·rw[hQ]
    exact congrArg (fun z=>Ending.returned (.tuple #[.agg z,.int .i64 0])) hq0.1
   ·rw[<-hct.o,<-hq0.2]
    refine hV5.keep hal (fun b hb hk=>?_) (s_.refl o5 w5);subst hk;have e5:o5 w.heap.size=tag0 o w w.heap.size:=hs5 _ r4H.o.lt;have e6:tag0 o w w.heap.size=0:=if_neg (Nat.lt_irrefl _);rw[e5,e6];decide
   ·subst e
    have:=b_ ho5 hr5.o (by decide)
    exact this hk
   ·have h1:=ho4H.o.lt k hk
    rw[hs5 k h1.2];have:=b_b o w h1.1;omega
   ·have h1:Alt (fun b=>16<=o b\/b=fb) w w5:=Alt.trans' (hA4.o.weak fun b hb=>.inr hb) hA5 fun b hb=>(Nat.lt_or_ge b w.heap.size).imp (fun hl=>.inl (by rw[f_ o w b hl]at hb;exact hb)) id
    exact h1.trans' hal fun b hb=>.inr (by rw[hb];exact Nat.le_refl _)
  clear hV5 hA5 hs5 p5 r5 f5 ho5 hq0;subst hQ;go_wp2_with (refine wpList_store_row rfl 107 _ _ rfl w.heap.size #[.int .i64 ad,.int .i64 ct,.int .i64 len,.int .i64 tm,.int .i64 s0,.int .i64 s1,.int .i64 s2,.int .i64 s3] rfl rfl 107 _ hr5.o (by kernel_rfl) rfl (by simp[Value.oneCell']) ?_)
  exact bodyPost_ret (v:=.tuple #[.agg #[.int .i64 ad,.int .i64 ct,.int .i64 len,.int .i64 tm,.int .i64 s0,.int .i64 s1,.int .i64 s2,.int .i64 s3],.int .i64 0]) (U_ results40 _ _ w.heap.size 107 #[.int .i64 ad,.int .i64 ct,.int .i64 len,.int .i64 tm,.int .i64 s0,.int .i64 s1,.int .i64 s2,.int .i64 s3] _ rfl (hr5.o.row _) underlying107 rfl (by kernel_rfl)) rfl hfin.o
end
end vault
end Go.Proofs.YtojcoaekhiadcaaGreat
