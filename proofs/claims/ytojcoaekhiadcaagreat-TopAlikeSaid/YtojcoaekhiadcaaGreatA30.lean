import Derived.Test.YtojcoaekhiadcaaGreatA01
import Derived.Test.YtojcoaekhiadcaaGreatA26
import Derived.Test.YtojcoaekhiadcaaGreatA27
import Derived.Test.YtojcoaekhiadcaaGreatA20
import Derived.Test.YtojcoaekhiadcaaGreatA29
set_option linter.unusedVariables false
set_option linter.unusedSimpArgs false
namespace Go.Proofs.YtojcoaekhiadcaaGreat
open Tryz Go.RowKit
namespace vault
set_option maxRecDepth 100000
open Go.ChangeShapes Go.WideShapes Go.ChangeAt kit pool Go.Deep Go.Maps
theorem s_G(w:World):(zeroValue 107).run prog w=.ok (.agg #[.int .i64 0,.int .i64 0,.int .i64 0,.int .i64 0,.int .i64 0,.int .i64 0,.int .i64 0,.int .i64 0]) w:=by kernel_rfl
theorem r_w{w:World}{m:Nat}{L:PL}(h:PM w m L){b:Nat}{cb:Array Value}(hb:Blk w b 115 cb)(hk:b_O w L){q:Ptr}(hq:a_n L b=some (.agg (x_ q))):(Instr.lookup 116 (.map (some m)) (ptr b) false).run prog w=.ok (.agg (x_ q)) w:=by
 obtain⟨i1,hi1,hz0,hz1,hz2⟩:=info_parts f_y;have h1:=h.look underlying116 underlying112 hi1 (by rw[hz1];decide) hb hk (s_G w)
 rw[hq]at h1;exact h1
set_option maxHeartbeats 8000000 in
theorem q_y{A:VA}{o:Nat->Nat}{s:VS}(hA:VOk A)(w:World)(h:VM A o s w)(xb yb c:Nat)(g:GS)(hpl:PlM A.v s.st xb yb c o g w)(hg:GSm g)(bc:Nat->Nat->Nat)(ats:Nat->Option Ptr)(hbl:∀b,b∈g.all->BlM o w b (bc b) (ats b))(fb pm:Nat)(PLs:PL)(hpm:PM w pm PLs)(hkp:b_O w PLs)(pt:Nat->Ptr)
  (hpt:∀b,b∈g.all->ats b=some (pt b)\/(ats b=none/\a_n PLs b=some (.agg (x_ (pt b))))) (hbd:∀b,b∈g.all->∀x∈a_J (pt b),BdI x) (hsz:∀G,(∃x,(x,G)∈g.ths)\/(∃q,q∈g.shs/\∃x,(x,G)∈q.2)->G.sz<=100000) (hln:(bkB (r_ [] g.all) pt g).length<=5100)
  (bad:List Nat) (P B0 Q:List Bk) (hC:BkC A s bad P B0 Q fb [] [] 0 o s w) (hbad:∀d,d<A.n->((s.ds d).dead=true\/s.fresh d=true)->d∈bad) (hP:∀b,b∈P->b.1+b.2<=372/\0<b.2) (hQ:∀b,b∈Q->b.1+b.2<=372/\0<b.2) (hB0:∀b,b∈B0->0<b.2) (hBu:a_6 B0<=45) (hBl:B0.length<=7) (hPl:P.length<=64) (hQl:Q.length<=64) (htm:BdI s.time) (hws:∀i,i<A.n->(s.ds i).ws.length<=250) (hpt0:s.puts<0) :
  Calls prog 41 #[ptr A.v,ptr fb,.map (some pm)] w (s_F A s bad P B0 Q fb (bkB (r_ [] g.all) pt g) o w):=by
 obtain⟨U,hU⟩:∃U,Hid (U=r_ [] g.all):=⟨_,rfl⟩;have hUn:Hid (U.Nodup):=by rw[hU.o];exact c_p List.nodup_nil
 have hUm:Hid (∀b,b∈U↔b∈g.all):=fun b=>by rw[hU.o,d_M];simp
 obtain⟨B,hB⟩:∃B,Hid (B=w.heap.size):=⟨_,rfl⟩;obtain⟨W1,hW1⟩:∃W1,W1=((w.alloc (.cells #[.int .i64 0,.int .i64 0,.int .i64 0,.int .i64 0,.int .i64 0,.int .i64 0,.int .i64 0,.int .i64 0] 107)).alloc (.map #[] 0)).alloc (.cells #[.slice none 0 0] 177):=⟨_,rfl⟩;have hNW1:New w W1:=by rw[hW1];exact(((New.refl w).alloc _).alloc _).alloc _
 have hpn1:Pen w.heap.size (B+1+1) (.slice none 0 0) [] W1:=by
  rw[hW1,hB.o];refine⟨?_,World.ownsRow_nil _ _ _ _⟩;have:=Blk.fresh ((w.alloc (.cells #[.int .i64 0,.int .i64 0,.int .i64 0,.int .i64 0,.int .i64 0,.int .i64 0,.int .i64 0,.int .i64 0] 107)).alloc (.map #[] 0)) 177 #[.slice none 0 0];simpa using this
 have hpm1:PM W1 (B+1) []:=by
  rw[hW1,hB.o];have m2:=PM.made (w.alloc (.cells #[.int .i64 0,.int .i64 0,.int .i64 0,.int .i64 0,.int .i64 0,.int .i64 0,.int .i64 0,.int .i64 0] 107));rw[World.size_alloc]at m2;exact m2.alt (K:=fun _=>False) ((Alt.refl _).alloc _) fun f=>f
 have hrz1:Blk W1 B 107 #[.int .i64 0,.int .i64 0,.int .i64 0,.int .i64 0,.int .i64 0,.int .i64 0,.int .i64 0,.int .i64 0]:=by rw[hW1,hB.o];exact((Blk.fresh w _ _).alloc _).alloc _
 have hmk:(Instr.makeMap 163 none).run prog (w.alloc (.cells #[.int .i64 0,.int .i64 0,.int .i64 0,.int .i64 0,.int .i64 0,.int .i64 0,.int .i64 0,.int .i64 0] 107))=.ok (.map (some (w.heap.size+1))) ((w.alloc (.cells #[.int .i64 0,.int .i64 0,.int .i64 0,.int .i64 0,.int .i64 0,.int .i64 0,.int .i64 0,.int .i64 0] 107)).alloc (.map #[] 0)):=by
  have:=run_makeMap (P:=prog) 163 (w.alloc (.cells #[.int .i64 0,.int .i64 0,.int .i64 0,.int .i64 0,.int .i64 0,.int .i64 0,.int .i64 0,.int .i64 0] 107));rw[World.size_alloc]at this;exact this
 obtain⟨eb,hbk,_,_⟩:=hpl.bk;have hVH:=Hd h;have hplH:=Hd hpl;have hgH:=Hd hg;have hblH:=Hd hbl;have hbkB:Hid (∀b,b∈g.all->∃cs,Blk w b 115 cs):=fun b hb=>(hblH.o b hb).blk;have hptH:=Hd hpt;have hbdH:=Hd hbd;have hszH:=Hd hsz;have hpmH:=Hd hpm;have hkpH:=Hd hkp;have hv9:=h.v9;have hkeep:Hid (∀w',New w w'->w'.cell? ⟨A.v,9,none⟩=some (ptr s.st)/\w'.cell? ⟨s.st,0,none⟩=some (.map (some xb))/\w'.cell? ⟨s.st,1,none⟩=some (.map (some yb))):=fun w' hn=>⟨(hn.cell (a_ hv9)).trans hv9,(hbk.new hn).cell 0,(hbk.new hn).cell 1⟩;have hll:Hid ((bkB U pt g).length<=5100):=by rw[hU.o];exact hln
 have hCH:=Hd hC;have hfbH:Hid (fb<w.heap.size):=by obtain⟨R,⟨_,v,h2,_⟩,_⟩:=hC.fm;exact h2.lt
 obtain⟨i8i,hy8,hy80,hy81,hy82⟩:=info_parts label.infoU8;obtain⟨ipi,hpi,hpi0,hpi1,hpi2⟩:=info_parts l_6;have hbadH:=Hd hbad;have hPH:=Hd hP;have hQH:=Hd hQ;have hB0H:=Hd hB0;have hBH:=Hd (And.intro hBu (And.intro hBl (And.intro hPl hQl)));have htmH:=Hd htm;have hwsH:=Hd hws;have hptsH:=Hd hpt0;obtain⟨acc0,hacc0⟩:∃acc0,Hid (acc0=bkB U pt g):=⟨_,rfl⟩;rw[<-hU.o,<-hacc0.o];obtain⟨T,hT⟩:∃T,Hid (T=U.length):=⟨_,rfl⟩;have hlen5:Hid (8+64*T+(objB (a_V U) g.ths).length+(8+(g.shs.flatMap (d_x (a_V U))).length)<=5100):=by
  have h1:=hll.o;have h2:(U.flatMap fun b=>b_1 (pt b)).length=64*U.length:=by
   rw[List.length_flatMap];simp only[b_f,List.map_const',List.sum_replicate_nat];rw[Nat.mul_comm]
  unfold bkB at h1;simp only[List.length_append,l_,h2]at h1;show _<=_;rw[hT.o];omega
 have hall:=Hd (all_any A.v s.st xb yb c o g W1 ((hkeep.o W1 hNW1).1) (hpl.alt (K:=fun _=>False) (Alt.of_new hNW1) (fun _ _ f=>f) (s_.refl o w)) hg (fun b hb=>by obtain⟨cs,h1⟩:=hbkB.o b hb;exact⟨cs,h1.new hNW1⟩))
 have hNW1H:=Hd hNW1;have hpn1H:=Hd hpn1;have hpm1H:=Hd hpm1;have hrz1H:=Hd hrz1;clear h hpl hg hbl hpt hbd hsz hln hpm hkp hNW1 hpn1 hpm1 hrz1 hbk hv9 hC hbad hP hQ hB0 hBu hBl hPl hQl htm hws hpt0;go_enter func41,ntmps41;go_upto_region 3 with fail;rw[<-hW1]
 try simp only[<-hB.o]
 clear hW1 hmk;go_wp2_with fail;refine hall.o.mono ?_;rintro e w2 ⟨u,rfl,hur,hn2⟩;rw[<-hU.o]at hur;have hS2:BkS w (B+1+1) (B+1) B [] u U [] w2:=⟨⟨_,hpn1H.o.alt (K:=fun _=>False) (Alt.of_new hn2) (fun f=>f) fun _ _ f=>f⟩,hNW1H.o.next hn2,hpm1H.o.alt (K:=fun _=>False) (Alt.of_new hn2) fun f=>f,hur.mono hNW1H.o.size,hrz1H.o.new hn2⟩;obtain⟨Ru,cu,rfl,hu1,hu2,hu3,hu4⟩:=h_ hur;rw[<-hT.o]at hu1 hu3 hS2 ⊢;have hTb:T<=80:=by have:=hlen5.o;omega
 have hgB:Hid (w.heap.size<=B+1+1):=by rw[Hid,hB.o];omega
 have hcN:=Hd (hS2.pen hgB.o (f:=82) (args:=#[ptr (B+1+1),.int .i64 (T:Nat)]) (n_ (T:Nat)) fun v1 h1 hb1=>number_any w.heap.size (B+1+1) v1 [] (T:Nat) w2 h1 (by simp) hb1 (by omega) (by omega))
 clear hall hur hn2 hu4 hS2;go_wp2_with fail;refine hcN.o.mono ?_;rintro e w3 ⟨rfl,hS3,_⟩;have hst:Hid (BkS w (B+1+1) (B+1) B (plU U 0) (.slice Ru T cu) U (n_ (T:Nat)++((U.take 0).flatMap fun b=>b_1 (pt b))) w3):=by
  show BkS _ _ _ _ _ _ _ _ _;simpa [plU]using hS3
 clear hcN hS3;go_wp2_with fail;go_loopw [33] (fun x wr=>∃i:Nat,x=.int .i64 i/\i<=T/\Hid (BkS w (B+1+1) (B+1) B (plU U i) (.slice Ru T cu) U (n_ (T:Nat)++((U.take i).flatMap fun b=>b_1 (pt b))) wr)) (fun x _=>T-(intOf x).toNat);case atStart=>exact⟨0,rfl,by omega,hst⟩
 case round=>
  obtain⟨i,rfl,hi,hS⟩:=hrel;clear hst
  by_cases hlt:i<T
  ·have hiI:(i:Int)<(T:Int):=by omega
   have hi0:(0:Int)<=(i:Int):=by omega
   obtain⟨gu,rfl,_⟩:=hu3 (by omega)
   obtain⟨b,hbi⟩:∃b,U[i]?=some b:=⟨_,List.getElem?_eq_getElem (by rw[<-hT.o];exact hlt)⟩
   have hrow:wr.ownsRow w.heap.size 112 1 (.slice (some ⟨gu,0,none⟩) T cu) U.length (a_2 U):=hS.o.rw;have ci:=World.ownsRow.cells hrow rfl i (ptr b) (by rw[a_2,List.getElem?_map,hbi];rfl)
   rw[i_,Nat.zero_add]at ci;have hbU:=List.mem_of_getElem? hbi;have hbg:=(hUm.o b).1 hbU;obtain⟨cb,hcb⟩:=hbkB.o b hbg;have hbw:=hcb.new hS.o.nw;have hkb:b_O wr (plU U i):=fun p hp=>by
    have:p.1∈(plU U i).map (·.1):=List.mem_map.2 ⟨p,hp,rfl⟩;rw[g_0 (by rw[<-hT.o];omega)]at this
    obtain⟨cs,h1⟩:=hbkB.o p.1 ((hUm.o _).1 (List.mem_of_mem_take this));exact⟨_,cs,h1.new hS.o.nw⟩
   obtain⟨w5,hup,hP5,hA5⟩:=p_4 hS.o.pm hbw hkb (.int .i64 ((i:Nat):Int));rw[m_c hUn.o hbi]at hP5;have hS5:=hS.o.map (by rw[hB.o];omega) hA5 hP5
   obtain⟨A0,hA0⟩:∃A0,A0=n_ (T:Nat)++((U.take i).flatMap fun b=>b_1 (pt b)):=⟨_,rfl⟩;have hA0l:A0.length<=8+64*i:=by
    rw[hA0,List.length_append,l_,List.length_flatMap];simp only[b_f,List.map_const',List.sum_replicate_nat,List.length_take];have:=hT.o;omega
   have hA1:A0++b_1 (pt b)=n_ (T:Nat)++((U.take (i+1)).flatMap fun b=>b_1 (pt b)):=by
    rw[d_h (fun b=>b_1 (pt b)) hbi,hA0,List.append_assoc]
   rw[<-hA0]at hS5;have hA1H:=Hd hA1;have hcP:=Hd (hS5.pen hgB.o (f:=83) (args:=#[ptr (B+1+1),.agg (x_ (pt b))]) (b_1 (pt b)) fun v1 h1 hb1=>f_2 w.heap.size (B+1+1) v1 A0 (pt b) w5 h1 (by have:=hlen5.o;omega) hb1 (hbdH.o b hbg))
   have hbm:=hblH.o b hbg;have hS5n:=Hd hS5.nw;have hk5:b_O w5 PLs:=fun p hp=>by obtain⟨t,cs,h1⟩:=hkpH.o p hp;exact⟨t,cs,h1.new hS5.nw⟩
   have hpm5:PM w5 pm PLs:=hpmH.o.alt (K:=fun _=>False) (Alt.of_new hS5.nw) fun f=>f;have hb5:=hcb.new hS5.nw;clear hS hrow hbw hkb hP5 hA5 hS5 hA1 hA0;rcases hptH.o b hbg with ha|⟨ha,hpl⟩
   ·rw[ha]at hbm
    obtain⟨_,ag,hb1,_,hb3⟩:=hbm;have y1:=(hb1.new hS5n.o).cell 1;have y3:=hb3.new hS5n.o;obtain⟨q,hq⟩:∃q,q=pt b:=⟨_,rfl⟩;rw[<-hq]at hcP y3 hA1H;clear hq ha;obtain⟨ad,ct,by_,birth,s0,s1,s2,s3⟩:=q;have l0:=y3.cell 0;have l1:=y3.cell 1;have l2:=y3.cell 2;have l3:=y3.cell 3;have l4:=y3.cell 4;have l5:=y3.cell 5;have l6:=y3.cell 6;have l7:=y3.cell 7;simp at y1 l0 l1 l2 l3 l4 l5 l6 l7;clear hb1 hb3 y3 hpm5 hk5 hb5;go_wp2_with fail;refine hcP.o.mono ?_;rintro e w6 ⟨rfl,hS6,_⟩;rw[hA1H.o]at hS6;have hS6:=Hd hS6;clear hcP l0 l1 l2 l3 l4 l5 l6 l7 y1;go_wp2;go_roundw;case rel=>exact⟨i+1,by go_num,by omega,hS6⟩
    case measure=>simp[intOf];omega
   ·rw[ha]at hbm
    obtain⟨_,d1,d2,d3,d4,hb1,_⟩:=hbm;have y1:=(hb1.new hS5n.o).cell 1;simp at y1;have hlk:=r_w hpm5 hb5 hk5 hpl;clear hb1 hpm5 hk5 hb5 ha hpl;go_wp2_with fail;refine hcP.o.mono ?_;rintro e w6 ⟨rfl,hS6,_⟩;rw[hA1H.o]at hS6;have hS6:=Hd hS6;clear hcP hlk y1;go_wp2;go_roundw;case rel=>exact⟨i+1,by go_num,by omega,hS6⟩
    case measure=>simp[intOf];omega
  ·obtain rfl:i=T:=by omega
   have hiI:¬(i:Int)<(i:Int):=by omega
   obtain⟨A1,hA1⟩:∃A1,Hid (A1=n_ (i:Nat)++U.flatMap fun b=>b_1 (pt b)):=⟨_,rfl⟩;have hA1l:A1.length=8+64*i:=by
    rw[hA1.o,List.length_append,l_,List.length_flatMap];simp only[b_f,List.map_const',List.sum_replicate_nat];have:=hT.o;omega
   have hS1:BkS w (B+1+1) (B+1) B (plU U U.length) (.slice Ru i cu) U A1 wr:=by
    have h:=hS.o;rw[List.take_of_length_le (by rw[hT.o];exact Nat.le_refl _),<-hA1.o]at h
    rw[<-hT.o];exact h
   have hLk:Hid (∀p,p∈plU U U.length->∃cs,Blk w p.1 115 cs):=fun p hp=>by
    have:p.1∈(plU U U.length).map (·.1):=List.mem_map.2 ⟨p,hp,rfl⟩;rw[g_0 (Nat.le_refl _)]at this;exact hbkB.o p.1 ((hUm.o _).1 (List.mem_of_mem_take this))
   have hobj:Hid (∀(l:GT) (mb:Nat) (acc:List Nat) (w':World),MP (ObV A.v o w) w mb c l->l.length<=100->(∀p,p∈l->p.1.length<=100)->(∀p,p∈l->p.2.sz<=100000)->(∀b,b∈gBl l->b∈g.all)->BkS w (B+1+1) (B+1) B (plU U U.length) (.slice Ru i cu) U acc w'->acc.length+(objB (a_V U) l).length<=80000 ->
     Calls prog 84 #[ptr (B+1+1),.map (some mb),.map (some (B+1))] w' fun e w''=>e=.returned (.tuple #[])/\BkS w (B+1+1) (B+1) B (plU U U.length) (.slice Ru i cu) U (acc++objB (a_V U) l) w''/\∀u ls,Ns w' u ls->Ns w'' u ls):=fun l mb acc w' hm h1 h2 h3 h4 hS h5=>by
    obtain⟨v1,hv1⟩:=hS.pn;refine(j_h A.v o c mb l w w' w.heap.size (B+1+1) (B+1) (plU U U.length) v1 acc (a_V U) hm h1 h2 h3 (fun b hb=>hbkB.o b (h4 b hb)) hLk.o (fun b hb=>?_) hv1 hS.pm hS.nw (Nat.le_refl _) hgB.o hS.nw.size h5).mono ?_
    ·obtain⟨k1,k2,_⟩:=p_m hUn.o ((hUm.o b).2 (h4 b hb))
     exact⟨k1,by have:=hT.o;omega⟩
    ·rintro e w'' ⟨rfl,hob⟩
     exact⟨rfl,hS.objs hv1 hob,hob.st⟩
   obtain⟨k0,k1,k2⟩:=hkeep.o wr hS1.nw;have hc3:=Hd (hobj.o g.ths xb A1 wr hplH.o.om hgH.o.th hgH.o.tn (fun p hp=>hszH.o p.2 (.inl ⟨p.1,hp⟩)) (fun b hb=>List.mem_append_left _ hb) hS1 (by have:=hlen5.o;omega))
   clear hS hiI hS1;go_wp2_with fail;refine hc3.o.mono ?_;rintro e w3 ⟨rfl,hS3,_⟩;obtain⟨q0,q1,q2⟩:=hkeep.o w3 hS3.nw;obtain⟨T2,hT2⟩:∃T2,Hid (T2=g.shs.length):=⟨_,rfl⟩;have hT2b:T2<=100:=by rw[hT2.o];exact hgH.o.sh
   have hln:=(hplH.o.nm.new (rd':=fun _ _=>True) hS3.nw fun _ _ _ _ _=>trivial).len underlying151;rw[<-hT2.o]at hln;have hc4:=Hd (hS3.pen hgB.o (f:=82) (args:=#[ptr (B+1+1),.int .i64 (T2:Nat)]) (n_ (T2:Nat)) fun v1 h1 hb1=>number_any w.heap.size (B+1+1) v1 _ (T2:Nat) w3 h1 (by rw[List.length_append];have:=hlen5.o;omega) hb1 (by omega) (by omega))
   clear hc3 hS3 k0 k1 k2;go_wp2_with fail;refine hc4.o.mono ?_;rintro e w4 ⟨rfl,hS4,_⟩;obtain⟨A3,hA3⟩:∃A3,Hid (A3=A1++objB (a_V U) g.ths++n_ (T2:Nat)):=⟨_,rfl⟩;rw[<-hA3.o]at hS4;have hA3l:A3.length+(g.shs.flatMap (d_x (a_V U))).length<=5100:=by
    rw[hA3.o,List.length_append,List.length_append,l_];have:=hlen5.o;omega
   obtain⟨k0,k1,k2⟩:=hkeep.o w4 hS4.nw;have hk:=Hd (l_4 (some yb) w4);have hs:=Hd (j_4 yb c g.shs w4 (hplH.o.nm.new (rd':=fun _ _=>True) hS4.nw fun _ _ _ _ _=>trivial) (by have:=hgH.o.sh;omega))
   have hS4H:=Hd hS4;clear hc4 hS4 q0 q1 q2 hln;go_wp2_with fail;refine hk.o.mono ?_;rintro e w5 ⟨rfl,rfl⟩;go_wp2_with fail;refine hs.o.mono ?_;rintro e w6 ⟨vn,rfl,hN,hn6⟩;have hS6:=hS4H.o.new (New.of_alloc hn6);obtain⟨N,cN,rfl,hc1,hc2,hc3,hc4⟩:=h_ hN;have hlm:(g.shs.map (·.1)).length=T2:=by rw[List.length_map,hT2.o]
   have hNs:=Hd hN;rw[hlm]at hc1 hc3 hNs ⊢;have hst2:Hid (BkS w (B+1+1) (B+1) B (plU U U.length) (.slice Ru i cu) U (A3++(g.shs.take 0).flatMap (d_x (a_V U))) w6):=by
    show BkS _ _ _ _ _ _ _ _ _;simpa using hS6
   clear hk hs hn6 hN hc4 hlm hS4H hS6 k0 k1 k2;go_wp2_with fail;go_loopw [86] (fun x wr=>∃j:Nat,x=.int .i64 j/\j<=T2/\Hid (BkS w (B+1+1) (B+1) B (plU U U.length) (.slice Ru i cu) U (A3++(g.shs.take j).flatMap (d_x (a_V U))) wr)/\Hid (∀u ls,Ns w6 u ls->Ns wr u ls)) (fun x _=>T2-(intOf x).toNat);case atStart=>exact⟨0,rfl,by omega,hst2,Hd fun _ _ h=>h⟩
   case round=>
    obtain⟨j,rfl,hj,hS,hNr⟩:=hrel;clear hst2
    by_cases hlt2:j<T2
    ·have hjI:(j:Int)<(T2:Int):=by omega
     have hj0:(0:Int)<=(j:Int):=by omega
     obtain⟨gn,rfl,_⟩:=hc3 (by omega)
     obtain⟨nm,ls,hlj⟩:∃nm ls,g.shs[j]?=some (nm,ls):=⟨_,_,List.getElem?_eq_getElem (by rw[<-hT2.o];exact hlt2)⟩
     have cj:=World.ownsRow.cells (hNr.o _ _ hNs.o) rfl j (encStr nm) (by simp[hlj])
     rw[i_,Nat.zero_add]at cj;have hmem:=List.mem_of_getElem? hlj;obtain⟨hnl,hll2,hnm2⟩:=hgH.o.sn (nm,ls) hmem;dsimp only at hnl hll2 hnm2;obtain⟨A4,hA4⟩:∃A4,Hid (A4=A3++(g.shs.take j).flatMap (d_x (a_V U))):=⟨_,rfl⟩;have htk:=Hd (d_h (d_x (a_V U)) hlj);have hle:=i_B (d_x (a_V U)) g.shs (j+1);rw[htk.o,List.length_append]at hle;have hsn:(d_x (a_V U) (nm,ls)).length=8+nm.length+(objB (a_V U) ls).length:=by
      unfold d_x;rw[List.length_append,a_L]
     have hA4l:A4.length+(8+nm.length+(objB (a_V U) ls).length)<=5100:=by
      rw[hA4.o,List.length_append];omega
     rw[<-hA4.o]at hS;have hcT:=Hd (hS.o.pen hgB.o (f:=85) (args:=#[ptr (B+1+1),encStr nm]) (c_i nm) fun v1 h1 hb1=>i_Y w.heap.size (B+1+1) v1 A4 nm wr h1 (by omega) hb1)
     clear hS hle hsn;go_wp2_with fail;refine hcT.o.mono ?_;rintro e w7 ⟨rfl,hS7,hNs7⟩;obtain⟨v7,hlk7,hsv7⟩:=m_s (hplH.o.nm.new (rd':=SnV A.v xb yb c o w) hS7.nw fun _ _ _ _ h=>h) underlying151 (h_5 w7) (x:=nm) (by unfold maxLen;omega) (get_mem hplH.o.nm.1 hmem)
     obtain⟨mb,rfl,_,_,_,hmb⟩:=hsv7;obtain⟨k0,k1,k2⟩:=hkeep.o w7 hS7.nw;have hcO:=Hd (hobj.o ls mb (A4++c_i nm) w7 hmb hll2 hnm2 (fun p hp=>hszH.o p.2 (.inr ⟨(nm,ls),hmem,p.1,hp⟩)) (fun b hb=>List.mem_append_right _ (List.mem_flatMap.2 ⟨(nm,ls),hmem,hb⟩)) hS7 (by rw[List.length_append,a_L];omega))
     have hNs7:=Hd hNs7;clear hcT hS7 hmb;go_wp2_with fail;refine hcO.o.mono ?_;rintro e w8 ⟨rfl,hS8,hNs8⟩;have hS8':Hid (BkS w (B+1+1) (B+1) B (plU U U.length) (.slice Ru i cu) U (A3++(g.shs.take (j+1)).flatMap (d_x (a_V U))) w8):=by
      rw[htk.o,<-List.append_assoc,<-hA4.o];unfold d_x;rw[<-List.append_assoc];exact hS8
     have hNr8:Hid (∀u ls,Ns w6 u ls->Ns w8 u ls):=fun u l h=>hNs8 u l (hNs7.o u l (hNr.o u l h));clear hcO hS8 hNs8 hNs7 hNr k0 k1 k2 hlk7;go_wp2;go_roundw;case rel=>exact⟨j+1,by go_num,by omega,hS8',hNr8⟩
     case measure=>simp[intOf];omega
    ·obtain rfl:j=T2:=by omega
     have hjI:¬(j:Int)<(j:Int):=by omega
     have hSf:Hid (BkS w (B+1+1) (B+1) B (plU U U.length) (.slice Ru i cu) U (bkB U pt g) wr):=by
      have h:=hS.o;rw[List.take_of_length_le (by rw[hT2.o];exact Nat.le_refl _)]at h
      have e:bkB U pt g=A3++g.shs.flatMap (d_x (a_V U)):=by
       unfold bkB;rw[hA3.o,hA1.o,hT.o,hT2.o]
      rw[e];exact h
     have hB1:Hid (B=w.heap.size):=hB;have hfu:=Hd hCH.o.fu;have hacc16:Hid (8<=acc0.length/\acc0.length<=5100):=by
      refine⟨?_,?_⟩
      ·rw[hacc0.o]
       unfold bkB;simp only[List.length_append,l_];omega
      ·rw[hacc0.o];exact hll.o
     have hO0:Hid (BkO A s bad P B0 Q fb (B+1+1) B acc0 o w 0 (.slice none 0 0) acc0 [] [] [] 0 o s wr):=by
      rw[<-hacc0.o]at hSf;obtain⟨v,hv⟩:=hSf.o.pn;refine⟨hCH.o.new hSf.o.nw,Alt.of_new hSf.o.nw,s_.refl o w,⟨v,hv,fun k hk=>hfu.o k (hv.own.lt k hk).1⟩,hfu.o _ (by rw[hB1.o];omega),hSf.o.rz,hfu.o _ (by rw[hB1.o];omega),World.ownsRow_nil _ _ _ _,(fun k hk=>by cases hk),by rw[hacc0.o];exact t_D _ _ _,.inl ⟨rfl,rfl,rfl,rfl,rfl,rfl⟩⟩
     have hLall:Hid (∀b,b∈(P++B0)++Q->0<b.2):=fun b hb=>by
      rcases List.mem_append.1 hb with hb|hb
      ·rcases List.mem_append.1 hb with hb|hb
       ·exact(hPH.o b hb).2
       ·exact hB0H.o b hb
      ·exact(hQH.o b hb).2
     clear hS hNr hSf;go_wp2_with fail;go_loopw [16,17] (fun x y wr=>∃(lv:Nat) (acc:List Nat) (rs:List Ptr) (C:List Bk) (st:List (Ptr×Nat×List Nat)) (m:Nat) (o':Nat->Nat) (s':VS),y=.int .i64 ((lv:Nat):Int)/\lv<=1/\Hid (BkO A s bad P B0 Q fb (B+1+1) B acc0 o w lv x acc rs C st m o' s' wr)) (fun _ y _=>2-(intOf y).toNat);case atStart=>exact⟨0,acc0,[],[],[],0,o,s,rfl,by omega,hO0⟩
     case round=>
      obtain⟨lv,acc,rs,C,st,m,o',s',rfl,hlv,hO⟩:=hrel;clear hO0;obtain⟨w9,hw9⟩:∃w9,w9=wr:=⟨_,rfl⟩;subst hw9;obtain⟨n,hn⟩:∃n,Hid (n=acc.length):=⟨_,rfl⟩;obtain⟨cnt,hcnt⟩:∃cnt,Hid (cnt=chN n 1008):=⟨_,rfl⟩;have hcn:Hid (∀k,k<cnt↔1008*k<n):=fun k=>by rw[hcnt.o];exact i_G (by decide)
      have hnb:Hid (8<=n/\n<=5100/\(lv=1->cnt=1)/\1<=cnt/\cnt<=6/\n<=1008*cnt):=by
       have h0:=(hcn.o 0).2;have h6:=(hcn.o 6).1;have h1:=(hcn.o 1).1;have hc:=(hcn.o cnt).2;have h9:=hacc16.o;rcases hO.o.lo with⟨_,e,_⟩|⟨_,e,e2,e3,_⟩
       ·rw[e]at hn
        have:=hn.o;exact⟨by omega,by omega,by omega,by omega,by omega,by omega⟩
       ·have h7:acc.length=8+64*rs.length:=by
         rw[e,List.length_append,l_,List.length_flatMap];simp only[b_f,List.map_const',List.sum_replicate_nat];omega
        have:=hn.o;exact⟨by omega,by omega,by omega,by omega,by omega,by omega⟩
      have hnr:n<=5100:=hnb.o.2.1;have hcr:cnt<=6:=hnb.o.2.2.2.2.1;obtain⟨v,hpv,hvt⟩:=hO.o.pn;obtain⟨gp,cp,rfl,hgp1,hgp2,hgp3⟩:∃gp cp,v=.slice (some ⟨gp,0,none⟩) n cp/\n<=cp/\cp<=maxLen/\w.heap.size<=gp:=by
       rcases hpv.own.2 with⟨_,h0⟩|⟨g',cap,cur,h0,hb,hg,k1,k2,_⟩
       ·have:=hnb.o.1;have:=hn.o;omega
       ·exact⟨g',cap,by rw[hn.o];exact h0,by rw[hn.o];exact k1,k2,hb⟩
      have cz:=hpv.bk.cell 0;simp at cz;have hpc:Hid (∀k b,acc[k]?=some b->w9.cell? ⟨gp,k,none⟩=some (.int .u8 (b:Nat))):=fun k b hk=>by
       have:=World.ownsRow.cells hpv.own rfl k (.int .u8 (b:Nat)) (by rw[bL,List.getElem?_map,hk];rfl)
       rw[i_,Nat.zero_add]at this;exact this
      have hgt:Hid (o' gp=0):=hvt gp rfl;have hgl:Hid (gp<w9.heap.size):=(hpv.own.lt gp rfl).2;have hpvH:=Hd hpv;obtain⟨W3,hW3⟩:∃W3,W3=((w9.alloc (.cells #[.slice none 0 0] 177)).alloc (.cells #[.slice (some ⟨gp,0,none⟩) n cp] 35)).alloc (.cells #[.int .i64 1008] 3):=⟨_,rfl⟩;obtain⟨gn,hgn⟩:∃gn,Hid (gn=w9.heap.size):=⟨_,rfl⟩;have hN3:Hid (New w9 W3):=by rw[hW3];exact(((New.refl w9).alloc _).alloc _).alloc _
      have hch:Hid (Calls prog 87 #[.slice (some ⟨gp,0,none⟩) n cp,.int .i64 1008] (w9.alloc (.cells #[.slice none 0 0] 177)) fun e w'=>e=.returned (.func (.func 131) #[] (i_H (gn+1) (gn+1+1)))/\w'=W3):=by
       refine(o_n (some ⟨gp,0,none⟩) n cp 1008 (w9.alloc (.cells #[.slice none 0 0] 177)) (by decide) (by decide)).mono ?_
       rintro e w' ⟨rfl,rfl⟩;exact⟨by rw[World.size_alloc,hgn.o],hW3.symm⟩
      have hco:Hid (Calls prog 86 #[.func (.func 131) #[] (i_H (gn+1) (gn+1+1))] W3 fun e w'=>∃v,e=.returned v/\w'.ownsRow W3.heap.size 35 1 v (chS n 1008).length (chL gp 0 n 1008 (chS n 1008))/\New W3 w'):=by
       refine h_4 gp 0 n cp 1008 (gn+1) (gn+1+1) W3 (by decide) (by decide) (by omega) hgp1 hgp2 ?_ ?_
       ·rw[hW3,hgn.o]
        have:=Boxed.new (w9.alloc (.cells #[.slice none 0 0] 177)) 35 (.slice (some ⟨gp,0,none⟩) n cp);rw[World.size_alloc]at this;exact this.alloc _
       ·rw[hW3,hgn.o]
        have:=Boxed.new ((w9.alloc (.cells #[.slice none 0 0] 177)).alloc (.cells #[.slice (some ⟨gp,0,none⟩) n cp] 35)) 3 (.int .i64 ((1008:Nat):Int));rw[World.size_alloc,World.size_alloc]at this;exact this
      have hbn3:Hid (Blk W3 gn 177 #[.slice none 0 0]):=by
       rw[hW3,hgn.o];exact((Blk.fresh w9 _ _).alloc _).alloc _
      have hs3:Hid (W3.heap.size=gn+3):=by rw[hW3,hgn.o];simp[Hid]
      have cz1:=(((New.refl w9).alloc (.cells #[.slice none 0 0] 177)).cell (a_ cz)).trans cz;clear hW3 hpv hvt;go_wp2_with fail;refine hch.o.mono ?_;rintro e w3 ⟨rfl,rfl⟩
      try simp only[<-hgn.o]
      clear cz1;go_wp2_with fail;refine hco.o.mono ?_;rintro e w4 ⟨vp,rfl,hpr,hn4⟩;rw[show(chS n 1008).length=cnt by rw[hcnt.o,List.length_range],show chS n 1008=List.range cnt by rw[hcnt.o]]at hpr
      obtain⟨Rp,cpp,rfl⟩:=j_ hpr;have hprH:=Hd hpr;have hN4:=Hd (hN3.o.next hn4);have hP4:Pen w9.heap.size gn (.slice none 0 0) [] w4:=⟨hbn3.o.new hn4,World.ownsRow_nil _ _ _ _⟩;have hP4H:=Hd hP4;have hc5:=Hd (number_any w9.heap.size gn (.slice none 0 0) [] (cnt:Nat) w4 hP4 (by simp) hN4.o.size (by omega) (by omega))
      clear hch hco hpr hn4 hP4;go_wp2_with fail;refine hc5.o.mono ?_;rintro e w5 ⟨rfl,hp5⟩;have hk5:=hp5.keep hP4H.o;have hN5:=Hd (hk5.1 w9 hN4.o (Nat.le_refl _) (by rw[hgn.o];exact Nat.le_refl _))
      have hI0:Hid (BkI A s bad P B0 Q fb gn gp n cnt (if lv=0 then w9.heap.size else w.heap.size+1) (.slice Rp cnt cpp) acc rs st m o' w9 lv 0 u16 [] C m o' s' w5):=by
       have hfu':=hO.o.c.fu;obtain⟨vn,hp1,hp2,hp3⟩:=hp5;refine⟨by simpa using hO.o.c.new hN5.o,Alt.of_new hN5.o,s_.refl o' w9,⟨vn,by simpa using hp1,fun k hk=>hfu' k (hp1.own.lt k hk).1⟩,hfu' gn (by rw[hgn.o];exact Nat.le_refl _),?_,fun k hk=>hfu' k (by have:=(hprH.o.lt k hk).1;have:=hN3.o.size;omega),?_,hO.o.ot,rfl,⟨by omega,fun hl=>?_⟩,fun h=>absurd h (Nat.lt_irrefl 0)⟩
       ·refine(hp3.own hprH.o fun k hk e=>?_).mono hN3.o.size
        rcases e with e|e
        ·rw[e]at hk
         exact b_ hprH.o hP4H.o.bk (by decide) hk
        ·cases e
       ·rw[List.append_nil]
        by_cases hl:lv=0
        ·rcases hO.o.lo with⟨_,_,e,_,_,e2⟩|⟨h1,_⟩
         ·rw[e,e2]
          exact World.ownsRow_nil _ _ _ _
         ·omega
        ·rw[if_neg hl]
         exact c_ hO.o.rr hN5.o
       ·rcases hO.o.lo with⟨_,_,_,_,e,_⟩|⟨h1,_⟩
        ·omega
        ·omega
      clear hc5 hp5 hk5 cz;have hOH:=hO;clear hO;go_wp2_with fail;go_loopw [16,114] (fun x y wi=>∃(i:Nat) (qs:List Ptr) (C':List Bk) (m':Nat) (o3:Nat->Nat) (s3:VS),y=.int .i64 ((i:Nat):Int)/\i<=cnt/\Hid (BkI A s bad P B0 Q fb gn gp n cnt (if lv=0 then w9.heap.size else w.heap.size+1) (.slice Rp cnt cpp) acc rs st m o' w9 lv i x qs C' m' o3 s3 wi)) (fun _ y _=>cnt-(intOf y).toNat);case atStart=>exact⟨0,[],C,m,o',s',rfl,by omega,hI0⟩
      case round=>
       obtain⟨i,qs,C',m',o3,s3,rfl,hi,hI⟩:=hrel;clear hI0
       by_cases hlt3:i<cnt
       ·have hiI3:(i:Int)<(cnt:Int):=by omega
        have hi03:(0:Int)<=(i:Int):=by omega
        obtain⟨gpp,rfl,hgpp⟩:∃gpp,Rp=some ⟨gpp,0,none⟩/\w9.heap.size<=gpp:=by
         rcases hprH.o.2 with⟨_,h0⟩|⟨g',cap,cur,h0,hb,_⟩
         ·omega
         ·injection h0 with h0 _ _
          exact⟨g',h0,by have:=hN3.o.size;omega⟩
        have hrow:wr.ownsRow w9.heap.size 35 1 (.slice (some ⟨gpp,0,none⟩) cnt cpp) cnt (chL gp 0 n 1008 (List.range cnt)):=hI.o.pr;obtain⟨pt8,hpt8⟩:∃pt8,Hid (pt8=a_N acc 1008 i):=⟨_,rfl⟩;obtain⟨e8,he8⟩:∃e8,Hid (e8=min 1008 (n-1008*i)):=⟨_,rfl⟩;have hel:Hid (pt8.length=e8):=by show _=_;rw[hpt8.o,n_z,he8.o,hn.o]
        have hin:1008*i<n:=(hcn.o i).1 hlt3;have he0:0<e8:=by rw[he8.o];omega
        have heb:e8<=1008:=by rw[he8.o];omega
        have ci:=World.ownsRow.cells hrow rfl i (.slice (some ⟨gp,0+1008*i,none⟩) e8 e8) (by rw[chL,List.getElem?_map,List.getElem?_range hlt3,he8.o];rfl)
        rw[i_,Nat.zero_add]at ci;obtain⟨of8,hof8⟩:∃of8,Hid (of8=0+1008*i):=⟨_,rfl⟩;rw[<-hof8.o]at ci;have hpc3:Hid (∀j u,(bL pt8)[j]?=some u->wr.cell? ((⟨gp,of8,none⟩:Addr).add j)=some u):=fun j u hj=>by
         have hj8:j<e8:=by
          have:=(List.getElem?_eq_some_iff.1 hj).1
          rwa [q_C,hel.o]at this
         rw[bL,List.getElem?_map,hpt8.o,n_A (by omega)]at hj
         obtain⟨b,hb,rfl⟩:=Option.map_eq_some_iff.1 hj;have h1:=hpc.o _ b hb;rw[i_,hof8.o,Nat.zero_add];refine hI.o.al.cell h1 fun hk=>?_;rcases hk with hk|hk
         ·rw[hgt.o]at hk;omega
         ·have:=hfbH.o;have:gp=fb:=hk;omega
        obtain⟨pg,hpg⟩:∃pg,Hid (pg=wr.heap.size):=⟨_,rfl⟩;obtain⟨W6,hW6⟩:∃W6,W6=wr.alloc (.cells #[.slice none 0 0] 177):=⟨_,rfl⟩;have hN6:Hid (New wr W6):=by rw[hW6];exact(New.refl wr).alloc _
        have hP6:Pen wr.heap.size pg (.slice none 0 0) [] W6:=by rw[hW6,hpg.o];exact⟨Blk.fresh wr _ _,World.ownsRow_nil _ _ _ _⟩
        have hP6H:=Hd hP6;have hc6:=Hd (number_any wr.heap.size pg (.slice none 0 0) [] ((lv:Nat):Int) W6 hP6 (by simp) hN6.o.size (by omega) (by omega))
        clear hP6 hrow;go_wp2_with fail;rw[<-hW6]
        try simp only[<-hpg.o]
        clear hW6;refine hc6.o.mono ?_;rintro e w7 ⟨rfl,hp7⟩;have hN7:=Hd ((hp7.keep hP6H.o).1 wr hN6.o (Nat.le_refl _) (by rw[hpg.o];exact Nat.le_refl _))
        obtain⟨v7,hP7,_,_⟩:=hp7;have hP7H:=Hd hP7;have hc7:=Hd (number_any wr.heap.size pg v7 _ ((e8:Nat):Int) w7 hP7 (by simp[l_]) hN7.o.size (by omega) (by omega))
        clear hc6 hP7;go_wp2_with fail;refine hc7.o.mono ?_;rintro e w8 ⟨rfl,hp8⟩;have hN8:=Hd ((hp8.keep hP7H.o).1 wr hN7.o (Nat.le_refl _) (by rw[hpg.o];exact Nat.le_refl _))
        obtain⟨v8,hP8,_,_⟩:=hp8;rw[List.nil_append]at hP8;obtain⟨hb8,ho8⟩:=hP8;have c8:=hb8.cell 0;simp at c8;obtain⟨R8,k8,rfl⟩:=j_ ho8;have hl16:(n_ ((lv:Nat):Int)++n_ ((e8:Nat):Int)).length=16:=by rw[List.length_append,l_,l_]
        rw[hl16]at ho8 c8;have ho8H:=Hd ho8;have hnews:Hid (∀j u,(bL pt8)[j]?=some u->w8.cell? ((⟨gp,of8,none⟩:Addr).add j)=some u):=fun j u hj=>(hN8.o.cell (a_ (hpc3.o j u hj))).trans (hpc3.o j u hj);have hone:Hid (∀u∈bL pt8,u.oneCell'=true):=fun u hu=>by
         obtain⟨j,_,rfl⟩:=List.mem_map.1 hu;rfl
        have hln:Hid ((bL pt8).length=e8*1):=by show _=_;rw[q_C,hel.o];omega
        have hsz8:=Hd hN8.o.size;clear hc7 hb8 ho8 ci hpc3;go_wp2_with (first
         |(at_builtin;refine d_Q rfl (.tmp 126) (.tmp 127) 177 35 5 rfl wr.heap.size 5 i8i _ 1 1 underlying177 underlying35 hy8 hy80 hy81 hy82 rfl (by decide) (.slice R8 16 k8) 16 _ rfl ho8H.o ⟨gp,of8,none⟩ e8 e8 (bL pt8) rfl hln.o hnews.o hone.o he0 (by unfold maxLen;omega) (by omega) hsz8.o _ rfl ?_
           intro g9 c9 w10 ho9 hg9 ha9 hl9;have hN9:=Hd (show New wr w10 from Below.grown hN8.o hg9 hsz8.o (fun r e=>(ho8H.o.lt r e).1))
           have ho9:=Hd ho9;clear hg9 ha9 hl9))
        have hC10:=hI.o.c.new hN9.o;obtain⟨ct8,hct8⟩:∃ct8,Hid (ct8=(16+pt8.length+127)/128):=⟨_,rfl⟩;have hct1:1<=ct8:=by rw[hct8.o];omega
        have hcle:=k_7 hA hct1;have hcps:=i_K hA hct1;have hms:Hid (m'+8*(cU A ct8-1)<=90/\m'<=41/\ct8<=8/\m'+ct8<=45/\(lv=0->m'+ct8<=8*(i+1)/\m'+ct8<=41)):=by
         have h1:=hI.o.mi;have h2:=hct8.o;rw[hel.o]at h2;have h3:=he8.o;have h4:=hnb.o;rcases hOH.o.lo with⟨k0,_,_,_,k1,_⟩|⟨k0,k1,k2,k3,k4,_⟩
         ·have h5:=h1.2 k0
          have h6:=h1.1;refine⟨?_,?_,?_,?_,fun _=>⟨?_,?_⟩⟩<;>(rcases Nat.lt_or_ge i 5 with h7|h7<;>omega)
         ·have h7:n=8+64*rs.length:=by
            rw[hn.o,k1,List.length_append,l_,List.length_flatMap];simp only[b_f,List.map_const',List.sum_replicate_nat];omega
          have h8:i=0:=by have:=h4.2.2.1 k0;omega
          have h6:=h1.1;refine⟨?_,?_,?_,?_,fun _=>?_⟩<;>omega
        have hstl:st.length+i<=12:=by
         rcases hOH.o.lo with⟨_,_,_,k1,_⟩|⟨k0,_,_,k3,_,_,ps,_,k5,k6⟩
         ·rw[k1];show 0+i<=12;omega
         ·rw[k6,List.length_zipWith,k5,Nat.min_self]
          have:=hnb.o.2.2.1 k0;omega
        have hCl:C'.length<=12:=by
         have h1:=hC10.cl;rw[List.length_append,List.length_zipWith,hI.o.ql,List.length_map,List.length_range,Nat.min_self]at h1;omega
        obtain⟨yy,hyy,hry⟩:=hC10.room hPH.o (fun b hb=>(hQH.o b hb).1) hBH.o.1 hBH.o.2.1 (c:=cU A ct8) hcps (by have:=hms.o.1;omega)
        obtain⟨Rf,hfm,hfr,hRl⟩:=hC10.fm;have hacc8:∀b∈pt8,b<256:=fun b hb=>hOH.o.a8 b (by rw[hpt8.o]at hb;exact List.mem_of_mem_drop (List.mem_of_mem_take hb))
        obtain⟨hg9b,hg9l⟩:=ho9.o.lt g9 rfl;have hg9c:16+e8<=c9/\c9<=maxLen:=by
         obtain⟨_,_,h1,h2,h3,_⟩:=h_ ho9.o;injection h1 with _ _ h1;subst h1;exact⟨h2,h3⟩
        have hsto:=Hd (h_e hA hC10.vm fb ((P++B0)++(Q++C')) Rf (pgX lv pt8) g9 0 (16+e8) c9 yy hfm hfr hRl (by simp only[List.length_append];have:=hBH.o;omega) (fun b hb=>by
          rw[<-List.append_assoc]at hb;rcases List.mem_append.1 hb with hb|hb
          ·exact hLall.o b hb
          ·exact hC10.c0 b hb) (by omega) (by omega) (fun k hk=>by
          have hk1:k<(pgB lv pt8).length:=by rw[r_f,hel.o];exact hk
          have h1:=World.ownsRow.cells ho9.o rfl k (.int .u8 ((pgX lv pt8 k:Nat):Int)) (by
            rw[<-l_x,show n_ ((lv:Nat):Int)++n_ ((e8:Nat):Int)++pt8=pgB lv pt8 by unfold pgB;rw[hel.o],bL,List.getElem?_map]
            unfold pgX;rw[List.getD,List.getElem?_eq_getElem hk1];rfl)
          rw[i_]at h1;exact h1) (p_f hacc8) hg9l (by have:=hfbH.o;have:=hOH.o.al.size;have:=hI.o.al.size;omega) hg9c (fun d hd=>by
            have h1:=hC10.ev.ws d hd;have h2:=hwsH.o d hd;have h3:=hms.o;rw[<-hel.o,<-hct8.o];omega) (by rw[hC10.ev.eq];exact hptsH.o) (by rw[<-hel.o,<-hct8.o];exact hyy) (by rw[<-hel.o,<-hct8.o];exact hry))
        have hC10H:=Hd hC10;have hyyH:=Hd hyy;have hacc8H:=Hd hacc8;have hb16:Hid (16+pt8.length<=4096):=by show _<=_;rw[hel.o];omega
        clear hC10 hfm hfr hRl hry hyy hacc8 hCl hstl hcle hcps hct1;refine hsto.o.mono ?_;rintro e w11 hsp;rw[<-hel.o]at hsp;obtain⟨q,u,o4,s4,rfl,hC11,hsm11,hal11,hbd11⟩:=hC10H.o.store hA hbadH.o hLall.o htmH.o hacc8H.o hct8.o hb16.o hyyH.o hsp;rw[hpt8.o]at hC11;have hC11:=Hd hC11;have hsm11:=Hd hsm11;have hal11:=Hd hal11;have hbd11:=Hd hbd11;obtain⟨ad,ct,by_,birth,t0,t1,t2,t3⟩:=q;clear hsto hsp
        by_cases hc1:cnt=1
        ·have hcI:(cnt:Int)=1:=by omega
         have hlt0:Hid (B<w9.heap.size):=hOH.o.rz.lt;have ho3B:Hid (o3 B=0):=(hI.o.sm B hlt0.o).trans hOH.o.oz;have hfbn:Hid (B≠fb):=by have:=hfbH.o;show _≠_;have:=hB1.o;omega
         have hrz11:Hid (Blk w11 B 107 #[.int .i64 0,.int .i64 0,.int .i64 0,.int .i64 0,.int .i64 0,.int .i64 0,.int .i64 0,.int .i64 0]):=
          hal11.o.blk ((hI.o.al.blk hOH.o.rz fun hk=>by have:=hOH.o.oz;have:=hfbn.o;omega).new hN9.o) fun hk=>by have:=ho3B.o;have:=hfbn.o;omega
         have hrz12:=Hd (hrz11.o.alloc (.cells #[.int .i64 ad,.int .i64 ct,.int .i64 by_,.int .i64 birth,.int .i64 t0,.int .i64 t1,.int .i64 t2,.int .i64 t3] 107));have hi0:i=0:=by omega
         have hqs:qs=[]:=List.eq_nil_of_length_eq_zero (by rw[hI.o.ql,hi0])
         have hal12:Hid (Alt (fun b=>16<=o b\/b=fb) w w11):=by
          refine(hOH.o.al.trans' hI.o.al fun b hb=>?_).trans' ((Alt.of_new (K:=fun b=>16<=o3 b\/b=fb) hN9.o).trans hal11.o) fun b hb=>?_
          · rcases hb with hb|hb
            · rcases Nat.lt_or_ge b w.heap.size with h|h
              ·exact .inl (.inl (by rw[hOH.o.sm b h]at hb;exact hb))
              ·exact .inr h
            ·exact .inl (.inr hb)
          · rcases hb with hb|hb
            · rcases Nat.lt_or_ge b w.heap.size with h|h
              ·exact .inl (.inl (by rw[hI.o.sm b (Nat.lt_of_lt_of_le h hOH.o.al.size),hOH.o.sm b h]at hb;exact hb))
              ·exact .inr h
            ·exact .inl (.inr hb)
         have hsm12:Hid (s_ o o4 w):=fun b hb=>by
          have h1:=Nat.lt_of_lt_of_le hb hOH.o.al.size;have h2:=Nat.lt_of_lt_of_le h1 hI.o.al.size;have h3:=Nat.lt_of_lt_of_le h2 hN9.o.size;rw[hsm11.o b h3,hI.o.sm b h1,hOH.o.sm b hb]
         have hn1:acc.length<=1008:=by have:=hnb.o;rw[<-hn.o];omega
         have hrr:Hid (w11.ownsRow (w.heap.size+1) 107 8 u16 rs.length (q_ rs)/\∀k,u16.ownBlock=some k->o4 k=0):=by
          have h1:=hI.o.rr;rw[hqs,List.append_nil]at h1;have h2:wr.ownsRow (w.heap.size+1) 107 8 u16 rs.length (q_ rs):=h1.mono (by have:=hlt0.o;have:=hB1.o;split<;>omega)
          refine⟨hal11.o.own (c_ h2 hN9.o) fun k hk e=>?_,fun k hk=>?_⟩
          · have h3:=hI.o.ot k hk
            have h4:=(h2.lt k hk).1;have:=hfbH.o;omega
          · have h3:=(c_ h2 hN9.o).lt k hk
            rw[hsm11.o k h3.2];exact hI.o.ot k hk
         have hdone:=Hd (hC11.o);rw[hqs,hi0]at hdone;have hfin:Hid (s_F A s bad P B0 Q fb acc0 o w (.returned (.tuple #[.agg #[.int .i64 ad,.int .i64 ct,.int .i64 by_,.int .i64 birth,.int .i64 t0,.int .i64 t1,.int .i64 t2,.int .i64 t3],u16,.int .i64 0])) ((w11.alloc (.cells #[.int .i64 ad,.int .i64 ct,.int .i64 by_,.int .i64 birth,.int .i64 t0,.int .i64 t1,.int .i64 t2,.int .i64 t3] 107)).setRow B #[.int .i64 ad,.int .i64 ct,.int .i64 by_,.int .i64 birth,.int .i64 t0,.int .i64 t1,.int .i64 t2,.int .i64 t3])):=by
          obtain⟨b1,b2,b3⟩:=o_9 (q:=⟨ad,ct,by_,birth,t0,t1,t2,t3⟩) (s':=s4) (A:=A) (bad:=bad) hn1 hOH.o.lo fun j x hx=>by
            have h1:=hdone.o.kt j x (by simpa using hx)
            exact h1.1
          have hno:(∀k,u16.ownBlock=some k->k≠B):=fun k hk e=>by
            have:=(hrr.o.1.lt k hk).1;have:=hB1.o;omega
          have hal13:Alt (fun b=>b=B) w11 ((w11.alloc (.cells #[.int .i64 ad,.int .i64 ct,.int .i64 by_,.int .i64 birth,.int .i64 t0,.int .i64 t1,.int .i64 t2,.int .i64 t3] 107)).setRow B #[.int .i64 ad,.int .i64 ct,.int .i64 by_,.int .i64 birth,.int .i64 t0,.int .i64 t1,.int .i64 t2,.int .i64 t3]):=Alt.row (K:=fun b=>b=B) ((Alt.refl w11).alloc _) (.inl rfl) _;refine⟨⟨ad,ct,by_,birth,t0,t1,t2,t3⟩,rs,u16,C'++[u],st++[(⟨ad,ct,by_,birth,t0,t1,t2,t3⟩,lv,a_N acc 1008 0)],o4,s4,rfl,(hal13.own hrr.o.1 fun k hk e=>hno k hk e).mono (Nat.le_succ _),hrr.o.2,b2,?_,b1,b3,hsm12.o,hal12.o.trans' hal13 fun b hb=>.inr (by have:=hB1.o;omega)⟩
          have h1:=hdone.o.loc hal13 fun b hb e=>by
            have h2:o4 B=0:=by rw[hsm11.o B (Nat.lt_of_lt_of_le hlt0.o (Nat.le_trans hI.o.al.size hN9.o.size))];exact ho3B.o
            refine⟨by rw[e];exact h2,by rw[e];exact hfbn.o,fun cs hcs=>?_⟩
            rw[e]at hcs;exact e_ hcs hrz11.o (by decide) rfl
          have h3:=hms.o.2.2.2.1;refine⟨h1.vm,h1.fm,h1.ev.mono (fun b hb=>hb) h3,h1.en,by simpa using h1.kt,by simpa using h1.cl,h1.c0,Nat.le_trans h1.un h3,h1.fu⟩
         obtain⟨x23,hx23⟩:∃x23,Hid (x23=w11.heap.size):=⟨_,rfl⟩;obtain⟨W12,hW12⟩:∃W12,W12=w11.alloc (.cells #[.int .i64 ad,.int .i64 ct,.int .i64 by_,.int .i64 birth,.int .i64 t0,.int .i64 t1,.int .i64 t2,.int .i64 t3] 107):=⟨_,rfl⟩;rw[<-hW12]at hfin hrz12;have l12:Blk W12 x23 107 #[.int .i64 ad,.int .i64 ct,.int .i64 by_,.int .i64 birth,.int .i64 t0,.int .i64 t1,.int .i64 t2,.int .i64 t3]:=by rw[hW12,hx23.o];exact Blk.fresh _ _ _
         have l0:=l12.cell 0;have l1:=l12.cell 1;have l2:=l12.cell 2;have l3:=l12.cell 3;have l4:=l12.cell 4;have l5:=l12.cell 5;have l6:=l12.cell 6;have l7:=l12.cell 7;simp at l0 l1 l2 l3 l4 l5 l6 l7;have hrz13:Hid (Blk (W12.setRow B #[.int .i64 ad,.int .i64 ct,.int .i64 by_,.int .i64 birth,.int .i64 t0,.int .i64 t1,.int .i64 t2,.int .i64 t3]) B 107 #[.int .i64 ad,.int .i64 ct,.int .i64 by_,.int .i64 birth,.int .i64 t0,.int .i64 t1,.int .i64 t2,.int .i64 t3]):=hrz12.o.row _;obtain⟨W13,hW13⟩:∃W13,W13=W12.setRow B #[.int .i64 ad,.int .i64 ct,.int .i64 by_,.int .i64 birth,.int .i64 t0,.int .i64 t1,.int .i64 t2,.int .i64 t3]:=⟨_,rfl⟩;rw[<-hW13]at hfin hrz13;clear l12 hi0 hqs hdone hrz11 hal12 hsm12;go_upto_region 37 with fail;rw[<-hW12]
         try simp only[<-hx23.o]
         clear hW12;go_wp2_with (refine wpList_store_row rfl 107 _ _ rfl B #[.int .i64 ad,.int .i64 ct,.int .i64 by_,.int .i64 birth,.int .i64 t0,.int .i64 t1,.int .i64 t2,.int .i64 t3] rfl rfl 107 _ hrz12.o (by kernel_rfl) rfl (by simp[Value.oneCell']) ?_;rw[<-hW13];clear hW13 l0 l1 l2 l3 l4 l5 l6 l7)
         exact bodyPost_ret (v:=.tuple #[.agg #[.int .i64 ad,.int .i64 ct,.int .i64 by_,.int .i64 birth,.int .i64 t0,.int .i64 t1,.int .i64 t2,.int .i64 t3],u16,.int .i64 0]) (label.b_0 results41 _ _ B 107 #[.int .i64 ad,.int .i64 ct,.int .i64 by_,.int .i64 birth,.int .i64 t0,.int .i64 t1,.int .i64 t2,.int .i64 t3] _ rfl hrz13.o underlying107 rfl (by kernel_rfl)) rfl hfin.o
        ·have hcI:¬(cnt:Int)=1:=by omega
         have hl0:Hid (lv=0/\rs=[]):=by
          rcases hOH.o.lo with⟨h,_,h2,_⟩|⟨h,_⟩
          ·exact⟨h,h2⟩
          ·exact absurd (hnb.o.2.2.1 h) hc1
         have hrr0:wr.ownsRow w9.heap.size 107 8 u16 i (q_ qs):=by
          have h1:=hI.o.rr;rw[hl0.o.2,List.nil_append,hI.o.ql,if_pos hl0.o.1]at h1;exact h1
         obtain⟨Rr,kr,hu16⟩:=j_ hrr0;subst hu16;have hot3:∀k,(Value.slice Rr i kr).ownBlock=some k->o3 k=0:=hI.o.ot;have hrr11:Hid (w11.ownsRow w9.heap.size 107 8 (.slice Rr i kr) i (q_ qs)):=hal11.o.own (c_ hrr0 hN9.o) fun k hk e=>by
          have h3:=hot3 k hk;have h4:=(hrr0.lt k hk).1;have:=hfbH.o;have:=hOH.o.al.size;omega
         have hot4:Hid (∀k,(Value.slice Rr i kr).ownBlock=some k->o4 k=0):=fun k hk=>by
          rw[hsm11.o k ((c_ hrr0 hN9.o).lt k hk).2];exact hot3 k hk
         obtain⟨vn,hPn,hvt⟩:=hI.o.nx;have hsz10:=hN9.o.size;have hgnl:=hPn.bk.lt;have hfbs:=hfbH.o;have hsz9:=hOH.o.al.size;have hPn11:Hid (Pen w9.heap.size gn vn (n_ (cnt:Nat)++qs.flatMap b_1) w11):=(hPn.alt (K:=fun _=>False) (Alt.of_new hN9.o) (fun f=>f) fun _ _ f=>f).alt hal11.o (fun e=>by have:=hI.o.on;have:=hgn.o;omega) fun k hk e=>by
          have h3:=hvt k hk;have h4:=(hPn.own.lt k hk).1;omega
         have hvt4:Hid (∀k,vn.ownBlock=some k->o4 k=0):=fun k hk=>by
          rw[hsm11.o k (by have:=(hPn.own.lt k hk).2;omega)]
          exact hvt k hk
         have hon4:Hid (o4 gn=0):=by show _=_;rw[hsm11.o gn (by omega)];exact hI.o.on
         have hpr11:Hid (w11.ownsRow w9.heap.size 35 1 (.slice (some ⟨gpp,0,none⟩) cnt cpp) cnt (chL gp 0 n 1008 (List.range cnt))):=hal11.o.own (c_ hI.o.pr hN9.o) fun k hk e=>by
          have h3:=hI.o.op k hk;have h4:=(hI.o.pr.lt k hk).1;omega
         have hop4:Hid (∀k,(Value.slice (some ⟨gpp,0,none⟩) cnt cpp).ownBlock=some k->o4 k=0):=fun k hk=>by
          rw[hsm11.o k (by have:=(hI.o.pr.lt k hk).2;omega)]
          exact hI.o.op k hk
         have hal12:Hid (Alt (fun b=>16<=o' b\/b=fb) w9 w11):=by
          refine hI.o.al.trans' ((Alt.of_new (K:=fun b=>16<=o3 b\/b=fb) hN9.o).trans hal11.o) fun b hb=>?_;rcases hb with hb|hb
          · rcases Nat.lt_or_ge b w9.heap.size with h|h
            ·exact .inl (.inl (by rw[hI.o.sm b h]at hb;exact hb))
            ·exact .inr h
          ·exact .inl (.inr hb)
         have hsm12:Hid (s_ o' o4 w9):=fun b hb=>by
          have h2:=Nat.lt_of_lt_of_le hb hI.o.al.size;rw[hsm11.o b (Nat.lt_of_lt_of_le h2 hN9.o.size),hI.o.sm b hb]
         obtain⟨x23,hx23⟩:∃x23,Hid (x23=w11.heap.size):=⟨_,rfl⟩;obtain⟨W12,hW12⟩:∃W12,W12=w11.alloc (.cells #[.int .i64 ad,.int .i64 ct,.int .i64 by_,.int .i64 birth,.int .i64 t0,.int .i64 t1,.int .i64 t2,.int .i64 t3] 107):=⟨_,rfl⟩;have hs12:Hid (W12.heap.size=x23+1):=by rw[hW12,hx23.o];simp[Hid]
         have hb12:Blk W12 x23 107 #[.int .i64 ad,.int .i64 ct,.int .i64 by_,.int .i64 birth,.int .i64 t0,.int .i64 t1,.int .i64 t2,.int .i64 t3]:=by rw[hW12,hx23.o];exact Blk.fresh _ _ _
         have hN12:Hid (New w11 W12):=by rw[hW12];exact(New.refl w11).alloc _
         have hrr12:=Hd (c_ hrr11.o hN12.o);have l0:=hb12.cell 0;have l1:=hb12.cell 1;have l2:=hb12.cell 2;have l3:=hb12.cell 3;have l4:=hb12.cell 4;have l5:=hb12.cell 5;have l6:=hb12.cell 6;have l7:=hb12.cell 7;simp at l0 l1 l2 l3 l4 l5 l6 l7;have hb12H:=Hd hb12;have hi6:i<=6:=by omega
         have hbaseS:w9.heap.size<=x23:=by rw[hx23.o];exact hal12.o.size
         clear hb12 hrr0 hPn hvt hsz10 hgnl;go_upto_region 38 with fail;rw[<-hW12]
         try simp only[<-hx23.o]
         clear hW12;go_wp2_with (first
          |( at_builtin;refine wpList_append_lies _ rfl (.tmp 141) (.tmp 143) 59 rfl w9.heap.size 107 ipi _ 8 64 underlying59 hpi hpi0 hpi1 hpi2 rfl (by decide) (.slice Rr i kr) i (q_ qs) rfl (hrr12.o.alloc _) ⟨W12.heap.size,0,none⟩ 1 1 [.int .i64 ad,.int .i64 ct,.int .i64 by_,.int .i64 birth,.int .i64 t0,.int .i64 t1,.int .i64 t2,.int .i64 t3] rfl rfl (World.news_of_block (cs:=#[.int .i64 ad,.int .i64 ct,.int .i64 by_,.int .i64 birth,.int .i64 t0,.int .i64 t1,.int .i64 t2,.int .i64 t3]) (t:=107) (fr:=(0,0)) (heap_alloc_new W12 _)) (by simp[Value.oneCell']) (by omega) (by unfold maxLen;omega) (by omega) (by simp;have:=hs12.o;omega) _ rfl ?_
             intro g13 c13 w13 ho13 hg13 ha13 hl13;have hb13:Blk w13 x23 107 #[.int .i64 ad,.int .i64 ct,.int .i64 by_,.int .i64 birth,.int .i64 t0,.int .i64 t1,.int .i64 t2,.int .i64 t3]:=(hb12H.o.alloc _).grown hg13 fun e=>by have:=(hrr11.o.lt x23 e).2;have:=hx23.o;omega
             have hA13:Hid (Alt (fun k=>(Value.slice Rr i kr).ownBlock=some k) w11 w13):=((Alt.of_new hN12.o).alloc _).grown hg13 fun r e=>.inl e;have hg13t:Hid (o4 g13=0):=by
               rcases ha13 with h|h
               ·exact hot4.o g13 h
               ·exact hC11.o.fu g13 (by rw[h,World.size_alloc,hs12.o,hx23.o];omega)
             have ho13:=Hd ho13;have hP13:=hPn11.o.alt hA13.o (fun e=>b_ hrr11.o hPn11.o.bk (by decide) e) fun k hk e=>comb.b_Q hrr11.o hPn11.o.own (by decide) (fun h0=>by rw[h0]at e;cases e) (by rw[hk,e])
             have hP13H:=Hd hP13;have hc13:=Hd (f_2 w9.heap.size gn vn (n_ (cnt:Nat)++qs.flatMap b_1) ⟨ad,ct,by_,birth,t0,t1,t2,t3⟩ w13 hP13 (by
               rw[List.length_append,l_,List.length_flatMap];simp only[b_f,List.map_const',List.sum_replicate_nat];have:=hI.o.ql;omega) (Nat.le_trans hal12.o.size hA13.o.size) hbd11.o)
             have l0:=hb13.cell 0;have l1:=hb13.cell 1;have l2:=hb13.cell 2;have l3:=hb13.cell 3;have l4:=hb13.cell 4;have l5:=hb13.cell 5;have l6:=hb13.cell 6;have l7:=hb13.cell 7;simp at l0 l1 l2 l3 l4 l5 l6 l7;clear hg13 ha13 hl13 hb13 hP13)
          |fail)
         refine hc13.o.mono ?_;rintro e w14 ⟨rfl,hp14⟩;obtain⟨vn',hP14,hvl,hA14⟩:=hp14;have hI1:Hid (BkI A s bad P B0 Q fb gn gp n cnt (if lv=0 then w9.heap.size else w.heap.size+1) (.slice (some ⟨gpp,0,none⟩) cnt cpp) acc rs st m o' w9 lv (i+1) (.slice (some ⟨g13,0,none⟩) (i+1) c13) (qs++[⟨ad,ct,by_,birth,t0,t1,t2,t3⟩]) (C'++[u]) (m'+ct8) o4 s4 w14):=by
          have h13:=hC11.o.loc hA13.o fun b hb hk=>⟨hot4.o b hk,fun e=>by have:=(hrr11.o.lt b hk).1;omega,fun cs hcs=>b_ hrr11.o hcs (by decide) hk⟩
          have h14:=h13.loc hA14 fun b hb hk=>by
            rcases hk with e|e
            · rw[e]
              exact⟨hon4.o,(fun e=>by have:=hgn.o;omega),fun cs hcs=>e_ hcs hP13H.o.bk (by decide) rfl⟩
            ·exact⟨hvt4.o b e,(fun e2=>by have:=(hP13H.o.own.lt b e).1;omega),fun cs hcs=>b_ hP13H.o.own hcs (by decide) e⟩
          have hz:=o_p hI.o.ql ⟨ad,ct,by_,birth,t0,t1,t2,t3⟩ acc;have hm9:=hms.o.2.2.2.2 hl0.o.1;have ho14:w14.ownsRow w9.heap.size 107 8 (.slice (some ⟨g13,0,none⟩) (i+1) c13) (i+1) (q_ qs++[.int .i64 ad,.int .i64 ct,.int .i64 by_,.int .i64 birth,.int .i64 t0,.int .i64 t1,.int .i64 t2,.int .i64 t3]):=hA14.own ho13.o fun k hk e=>by
            rcases e with e|e
            · rw[e]at hk
              exact b_ ho13.o hP13H.o.bk (by decide) hk
            ·exact comb.b_Q ho13.o hP13H.o.own (by decide) (fun h0=>by rw[h0]at hk;cases hk) (by rw[hk,e])
          have hpr13:w13.ownsRow w9.heap.size 35 1 (.slice (some ⟨gpp,0,none⟩) cnt cpp) cnt (chL gp 0 n 1008 (List.range cnt)):=hA13.o.own hpr11.o fun k hk e=>comb.b_Q hpr11.o hrr11.o (by decide) (fun h0=>by rw[h0]at hk;cases hk) (by rw[hk,e])
          refine⟨?_,(hal12.o.trans' hA13.o fun b hb=>.inr (by have:=(hrr11.o.lt b hb).1;omega)).trans' hA14 fun b hb=>.inr ?_,hsm12.o,⟨vn',?_,fun k hk=>?_⟩,hon4.o,hA14.own hpr13 fun k hk e=>?_,hop4.o,?_,fun k hk=>?_,by rw[List.length_append,hI.o.ql];rfl,⟨by omega,fun _=>hm9.2⟩,fun _=>⟨hl0.o.1,by have:=hnb.o;omega⟩⟩
          · rw[hz,<-List.append_assoc]
            have h15:=h14;rw[hl0.o.1]at h15;exact h15
          · rcases hb with e|e
            ·have:=hgn.o;omega
            ·exact(hP13H.o.own.lt b e).1
          · rw[List.flatMap_append,<-List.append_assoc]
            simpa using hP14
          · rcases hvl k hk with h|h
            ·exact hvt4.o k h
            ·exact hC11.o.fu k (Nat.le_trans hA13.o.size h)
          · rcases e with e|e
            · rw[e]at hk
              exact b_ hpr13 hP13H.o.bk (by decide) hk
            ·exact comb.b_Q hpr13 hP13H.o.own (by decide) (fun h0=>by rw[h0]at hk;cases hk) (by rw[hk,e])
          · rw[hl0.o.2,if_pos hl0.o.1,List.nil_append,List.length_append,hI.o.ql,c_5]
            exact ho14
          · have e:g13=k:=by simpa [Value.ownBlock]using hk
            rw[<-e];exact hg13t.o
         clear hP14 hvl hA14 hc13 l0 l1 l2 l3 l4 l5 l6 l7;go_wp2;go_roundw;case rel=>exact⟨i+1,_,_,_,_,_,by go_num,by omega,hI1⟩
         case measure=>simp[intOf];omega
       ·obtain rfl:i=cnt:=by omega
        have hiI3:¬(i:Int)<(i:Int):=by omega
        obtain⟨hl0,hc2⟩:=hI.o.lv0 (by have:=hnb.o;omega)
        have hlo:Hid (rs=[]/\acc=acc0/\st=[]/\m=0):=by
         rcases hOH.o.lo with⟨_,h1,h2,h3,h4,_⟩|⟨h,_⟩
         ·exact⟨h2,h1,h3,h4⟩
         ·omega
        obtain⟨vn,hPn,hvt⟩:=hI.o.nx;obtain⟨Rn,Ln,kn,hvn⟩:∃R L k,vn=.slice R L k:=by
         obtain⟨R,k,h⟩:=j_ hPn.own;exact⟨_,_,_,h⟩
        subst hvn;have hfbs:=hfbH.o;have hsz9:=hOH.o.al.size;have hgl9:=hpvH.o.bk.lt;have hgB2:=hgB.o;have hcg:Blk wr (B+1+1) 177 #[.slice (some ⟨gp,0,none⟩) n cp]:=hI.o.al.blk hpvH.o.bk fun hk=>by have:=hOH.o.og;omega
        have hcr9:Blk wr B 107 #[.int .i64 0,.int .i64 0,.int .i64 0,.int .i64 0,.int .i64 0,.int .i64 0,.int .i64 0,.int .i64 0]:=hI.o.al.blk hOH.o.rz fun hk=>by have:=hOH.o.oz;have:=hB1.o;omega
        have cn:=hPn.bk.cell 0;have fg:=hcg.frozen 0;have cg:=hcg.cell 0;simp at cn cg;have hal9:Alt (fun b=>16<=o b\/b=fb) w wr:=hOH.o.al.trans' hI.o.al fun b hb=>by
         rcases hb with hb|hb
         ·rcases Nat.lt_or_ge b w.heap.size with h|h
          ·exact .inl (.inl (by rw[hOH.o.sm b h]at hb;exact hb))
          ·exact .inr h
         ·exact .inl (.inr hb)
        have hset:Alt (fun b=>b=B+1+1) wr (wr.setCell ⟨B+1+1,0,none⟩ (.slice Rn Ln kn)):=Alt.set (K:=fun b=>b=B+1+1) (Alt.refl wr) (.inl rfl) _;have hog3:o3 (B+1+1)=0:=(hI.o.sm _ hgl9).trans hOH.o.og;have hO1:Hid (BkO A s bad P B0 Q fb (B+1+1) B acc0 o w 1 u16 (n_ ((qs.length:Nat):Int)++qs.flatMap b_1) qs C' (st++List.zipWith (fun q p=>(q,0,p)) qs ((List.range i).map (a_N acc 1008))) m' o3 s3 (wr.setCell ⟨B+1+1,0,none⟩ (.slice Rn Ln kn))):=by
         have hrr:wr.ownsRow (w.heap.size+1) 107 8 u16 qs.length (q_ qs):=by
          have h1:=hI.o.rr;rw[hlo.o.1,List.nil_append,if_pos hl0]at h1;exact h1.mono (by have:=hB1.o;omega)
         refine⟨hI.o.c.loc hset fun b hb e=>?_,hal9.trans' hset fun b hb=>.inr (by omega),fun b hb=>?_,⟨.slice Rn Ln kn,⟨?_,?_⟩,hvt⟩,hog3,hset.blk hcr9 (by omega),(hI.o.sm _ hOH.o.rz.lt).trans hOH.o.oz,hset.own hrr fun k hk e=>?_,hI.o.ot,b_U (Y_ _) (d_i _ m_8 _),.inr ⟨rfl,rfl,by rw[hI.o.ql];exact hc2,by rw[hI.o.ql];exact hcr,hI.o.mi.2 hl0,?_,(List.range i).map (a_N acc 1008),?_,by rw[List.length_map,List.length_range,hI.o.ql],by rw[hlo.o.2.2.1,List.nil_append]⟩⟩
         ·rw[e]
          exact⟨hog3,by omega,fun cs hcs=>e_ hcs hcg (by decide) rfl⟩
         ·rw[hI.o.sm b (Nat.lt_of_lt_of_le hb hsz9),hOH.o.sm b hb]
         ·have h1:=hcg.put 0 (.slice Rn Ln kn)
          simpa using h1
         ·have h1:wr.ownsRow w.heap.size 5 1 (.slice Rn Ln kn) (n_ ((qs.length:Nat):Int)++qs.flatMap b_1).length (bL (n_ ((qs.length:Nat):Int)++qs.flatMap b_1)):=by
            rw[hI.o.ql];exact hPn.own.mono hsz9
          exact hset.own h1 fun k hk e=>by
            rw[e]at hk;exact b_ h1 hcg (by decide) hk
         ·rw[e]at hk
          exact b_ hrr hcg (by decide) hk
         ·have h1:=(hcn.o 1).1 (by omega)
          have h2:=hn.o;rw[hlo.o.2.1]at h2;omega
         ·rw[g_2,hlo.o.2.1,List.take_of_length_le]
          have h1:=hnb.o;have h2:=hn.o;rw[hlo.o.2.1]at h2;omega
        obtain rfl:lv=0:=hl0;clear hal9 hset hcr9 hPn hvt hcg hlo;go_wp2;go_roundw;case rel=>exact⟨1,_,_,_,_,_,_,_,rfl,Nat.le_refl _,hO1⟩
        case measure=>simp[intOf]
end vault
end Go.Proofs.YtojcoaekhiadcaaGreat
