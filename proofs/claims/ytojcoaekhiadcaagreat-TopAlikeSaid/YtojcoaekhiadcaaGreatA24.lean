import Derived.Test.YtojcoaekhiadcaaGreatA01
import Derived.Test.YtojcoaekhiadcaaGreatA22
import Derived.Test.YtojcoaekhiadcaaGreatA23
import Derived.Deep.MidRow
set_option linter.unusedVariables false
set_option linter.unusedSimpArgs false
namespace Go.Proofs.YtojcoaekhiadcaaGreat
open Tryz Go.RowKit
namespace vault
set_option maxRecDepth 100000
open Go.ChangeShapes Go.WideShapes Go.ChangeAt kit pool Go.Deep Go.Maps
theorem c_s{P:Program}{ops:Array Oper}{o:Oper}{a:Act}{K:Act->World->Prop}{Q:Exit->Act->World->Prop}{E:Prop}{w w':World}(hgd:o.guard=none)(m x:Operand)(t k:TypeId)
  (ho:o.op=.call {callee:=.builtin .delete,args:=#[m,x],argTypes:=#[t,k]}) (mv xv:Value) (hm:a.eval m=mv) (hx:a.eval x=xv) (hr:(Builtin.delete_ #[t,k] o.type #[mv,xv]).run P w=.ok (.tuple #[]) w')
  (h:K (a.put o.dst (.tuple #[])) w'):if Region.wanted o (yielded ops a.tmps)=true then Oper.wp P o a w K Q else E:=by
 have hw:Region.wanted o (yielded ops a.tmps)=true:=by simp[Region.wanted,hgd]
 rw[if_pos hw];unfold Oper.wp execOp;simp only[ho,resolve,invoke,builtin,Sem.run_bind,Sem.run_pure,Result.andThen_ok,List.map_toArray,List.map_cons,List.map_nil,hm,hx,hr];exact h
section
variable (A:VA)(s:VS)(bad:List Nat)(oo:Nat->Nat)(bc:Nat->Nat->Nat)(xb yb c:Nat)(g:GS)(C:Cm)(drive keep:Int)(R:Option Addr)(dc:Nat)(ob:Nat)(G:OG)(w:World)
theorem n_F(hF:e_R A s bad)(hS:VSt A s bad oo bc xb yb c g w)(hC:a_q w C R dc)(hv:ObV A.v oo w (ptr ob) G)(hG:InG g G)(hk:C.kind=3) :
  Calls prog 95 #[ptr s.st,ptr ob,cmV C drive keep R dc] w (VDo A s bad oo xb yb c (y_ (absG bc g) (byT bc G) C).1 (y_ (absG bc g) (byT bc G) C).2 w):=by
 have e1:y_ (absG bc g) (byT bc G) C=(a_T (byT bc G) C.off C.count,absG bc g):=by unfold y_;rw[if_pos hk]
 rw[e1];clear e1;obtain⟨W1,hW1,hN1,hr,hcm,hz⟩:=H_ (w:=w) (cs:=cmL C.kind C.name C.other C.off C.count drive keep R C.dn dc);obtain⟨c0,c1,c2,c3,c4,c5,c6,c7⟩:=p_ hcm.o;have hS1:=hS.new' hN1 (C_ oo w);have hok:=hS.ok G hG;have hf:=Hd (f_H hF.va bad bc ob G 3 C.name C.other C.off C.count drive keep R C.dn dc W1 hS1.vm hF.dok hF.pb (hv.altB (K:=fun _=>False) (Alt.of_new hN1) (fun _ _ _ _ f=>f) (C_ oo w).same) (by have:=hok.sz;omega) (by have:=hok.len;omega) (fun b hb=>hS1.bl b (hG.bl hb)) hC.o1 hC.c1)
 rw[hk]at c0;have hNH:=Hd hN1;have hSH:=Hd (hS.new' hN1 (C_ oo w));clear hN1 hS hv hC hk hS1 hok;go_enter func95,ntmps95;go_upto_region 1 with fail;rw[<-hW1];clear hW1;go_wp2_with fail;refine hf.o.mono ?_;rintro e w2 ⟨u,rfl,hu,hn2⟩;have hu2:=h_I hu;obtain⟨A9,n,k,B,m,j,rfl⟩:=hu2.form;obtain⟨⟨r0,r1,r2,r3,r4⟩,⟨y0,y1,y2,y3,y4⟩,hx⟩:=g_ (hr.o.new hn2);have hfin:=Hd (VDo.same (t:=a_T (byT bc G) C.off C.count) hSH.o hNH.o hr.o (Nat.le_succ _) hn2 (hu2.mono hNH.o.size));clear hu hu2 hn2;show _;dsimp only;go_wp2;exact bodyPost_ret (by simp[results,results95,go_sem,hx.o]) rfl hfin.o
theorem g_a(hS:VSt A s bad oo bc xb yb c g w)(hC:a_q w C R dc)(hk:C.kind=2)(hd:C.dn=0\/400<C.dn) :
  Calls prog 95 #[ptr s.st,ptr ob,cmV C drive keep R dc] w (VDo A s bad oo xb yb c (y_ (absG bc g) (byT bc G) C).1 (y_ (absG bc g) (byT bc G) C).2 w):=by
 have e1:y_ (absG bc g) (byT bc G) C=(Td.no 1,absG bc g):=by unfold y_;rw[if_neg (by omega),if_neg (by omega),if_pos hk,if_pos hd]
 rw[e1];clear e1;obtain⟨W1,hW1,hN1,hr,hcm,hz⟩:=H_ (w:=w) (cs:=cmL C.kind C.name C.other C.off C.count drive keep R C.dn dc);obtain⟨c0,c1,c2,c3,c4,c5,c6,c7⟩:=p_ hcm.o;rw[hk]at c0;have hNH:=Hd hN1;have hS1:=hS.new' hN1 (C_ oo w);have hSH:=Hd hS1;have hC1:=Hd (hC.new hN1);have hdm:=Nat.le_trans hC1.o.dcm.1 hC1.o.dcm.2;unfold maxLen at hdm;obtain⟨dn,hdn⟩:∃dn,Hid (dn=C.dn):=⟨_,rfl⟩;rw[<-hdn.o]at c7 hd hdm;clear hN1 hS hC hk hS1;go_enter func95,ntmps95;go_upto_region 1 with fail;rw[<-hW1];clear hW1
 by_cases h0:dn=0
 ·subst h0
  go_wp2_with (go_at_call 53;refine(X_ 1 _).mono ?_;rintro e w2 ⟨rfl,hn2⟩;have hn2H:=Hd hn2;obtain⟨⟨r0,r1,r2,r3,r4⟩,⟨y0,y1,y2,y3,y4⟩,hx⟩:=g_ (hr.o.new hn2));exact bodyPost_ret (by simp[results,results95,go_sem,hx.o]) rfl (VDo.same (t:=Td.no 1) hSH.o hNH.o hr.o (Nat.le_succ _) hn2H.o (TdN.no _ _ _))
 ·have h0':¬(dn:Int)=0:=by omega
  have h1':(400:Int)<(dn:Int):=by omega
  go_wp2_with (go_at_call 53;refine(X_ 1 _).mono ?_;rintro e w2 ⟨rfl,hn2⟩;have hn2H:=Hd hn2;obtain⟨⟨r0,r1,r2,r3,r4⟩,⟨y0,y1,y2,y3,y4⟩,hx⟩:=g_ (hr.o.new hn2));exact bodyPost_ret (by simp[results,results95,go_sem,hx.o]) rfl (VDo.same (t:=Td.no 1) hSH.o hNH.o hr.o (Nat.le_succ _) hn2H.o (TdN.no _ _ _))
theorem f_e(hS:VSt A s bad oo bc xb yb c g w)(hC:a_q w C R dc)(hk:C.kind=2)(hd:¬(C.dn=0\/400<C.dn))(ho:C.off<0\/1024-(C.dn:Int)<C.off) :
  Calls prog 95 #[ptr s.st,ptr ob,cmV C drive keep R dc] w (VDo A s bad oo xb yb c (y_ (absG bc g) (byT bc G) C).1 (y_ (absG bc g) (byT bc G) C).2 w):=by
 have e1:y_ (absG bc g) (byT bc G) C=(Td.no 2,absG bc g):=by unfold y_;rw[if_neg (by omega),if_neg (by omega),if_pos hk,if_neg hd,if_pos ho]
 rw[e1];clear e1;obtain⟨W1,hW1,hN1,hr,hcm,hz⟩:=H_ (w:=w) (cs:=cmL C.kind C.name C.other C.off C.count drive keep R C.dn dc);obtain⟨c0,c1,c2,c3,c4,c5,c6,c7⟩:=p_ hcm.o;rw[hk]at c0;have hNH:=Hd hN1;have hS1:=hS.new' hN1 (C_ oo w);have hSH:=Hd hS1;have hC1:=Hd (hC.new hN1);have ho1:=hC.o1;obtain⟨dn,hdn⟩:∃dn,Hid (dn=C.dn):=⟨_,rfl⟩;obtain⟨off,hof⟩:∃off,Hid (off=C.off):=⟨_,rfl⟩;rw[<-hdn.o]at c7 hd ho;rw[<-hof.o]at c3 ho ho1;have h0':¬(dn:Int)=0:=by omega
 have h00:¬dn=0:=by omega
 have h1':¬(400:Int)<(dn:Int):=by omega
 clear hN1 hS hC hk hS1 hd;go_enter func95,ntmps95;go_upto_region 1 with fail;rw[<-hW1];clear hW1
 by_cases h0:off<0
 ·skip
  go_wp2_with (go_at_call 53;refine(X_ 2 _).mono ?_;rintro e w2 ⟨rfl,hn2⟩;have hn2H:=Hd hn2;obtain⟨⟨r0,r1,r2,r3,r4⟩,⟨y0,y1,y2,y3,y4⟩,hx⟩:=g_ (hr.o.new hn2));exact bodyPost_ret (by simp[results,results95,go_sem,hx.o]) rfl (VDo.same (t:=Td.no 2) hSH.o hNH.o hr.o (Nat.le_succ _) hn2H.o (TdN.no _ _ _))
 ·have h2':1024-(dn:Int)<off:=by omega
  go_wp2_with (go_at_call 53;refine(X_ 2 _).mono ?_;rintro e w2 ⟨rfl,hn2⟩;have hn2H:=Hd hn2;obtain⟨⟨r0,r1,r2,r3,r4⟩,⟨y0,y1,y2,y3,y4⟩,hx⟩:=g_ (hr.o.new hn2));exact bodyPost_ret (by simp[results,results95,go_sem,hx.o]) rfl (VDo.same (t:=Td.no 2) hSH.o hNH.o hr.o (Nat.le_succ _) hn2H.o (TdN.no _ _ _))
theorem g_U(hS:VSt A s bad oo bc xb yb c g w)(hC:a_q w C R dc)(hk:C.kind=4)(ho:C.count<0\/1024<C.count) :
  Calls prog 95 #[ptr s.st,ptr ob,cmV C drive keep R dc] w (VDo A s bad oo xb yb c (y_ (absG bc g) (byT bc G) C).1 (y_ (absG bc g) (byT bc G) C).2 w):=by
 have e1:y_ (absG bc g) (byT bc G) C=(Td.no 2,absG bc g):=by unfold y_;rw[if_neg (by omega),if_neg (by omega),if_neg (by omega),if_pos ho]
 rw[e1];clear e1;obtain⟨W1,hW1,hN1,hr,hcm,hz⟩:=H_ (w:=w) (cs:=cmL C.kind C.name C.other C.off C.count drive keep R C.dn dc);obtain⟨c0,c1,c2,c3,c4,c5,c6,c7⟩:=p_ hcm.o;rw[hk]at c0;have hNH:=Hd hN1;have hS1:=hS.new' hN1 (C_ oo w);have hSH:=Hd hS1;have hC1:=Hd (hC.new hN1);have ho1:=hC.c1;obtain⟨count,hof⟩:∃count,Hid (count=C.count):=⟨_,rfl⟩;rw[<-hof.o]at c4 ho ho1;clear hN1 hS hC hk hS1;go_enter func95,ntmps95;go_upto_region 1 with fail;rw[<-hW1];clear hW1
 by_cases h0:count<0
 ·skip
  go_wp2_with (go_at_call 53;refine(X_ 2 _).mono ?_;rintro e w2 ⟨rfl,hn2⟩;have hn2H:=Hd hn2;obtain⟨⟨r0,r1,r2,r3,r4⟩,⟨y0,y1,y2,y3,y4⟩,hx⟩:=g_ (hr.o.new hn2));exact bodyPost_ret (by simp[results,results95,go_sem,hx.o]) rfl (VDo.same (t:=Td.no 2) hSH.o hNH.o hr.o (Nat.le_succ _) hn2H.o (TdN.no _ _ _))
 ·have h2':1024<count:=by omega
  go_wp2_with (go_at_call 53;refine(X_ 2 _).mono ?_;rintro e w2 ⟨rfl,hn2⟩;have hn2H:=Hd hn2;obtain⟨⟨r0,r1,r2,r3,r4⟩,⟨y0,y1,y2,y3,y4⟩,hx⟩:=g_ (hr.o.new hn2));exact bodyPost_ret (by simp[results,results95,go_sem,hx.o]) rfl (VDo.same (t:=Td.no 2) hSH.o hNH.o hr.o (Nat.le_succ _) hn2H.o (TdN.no _ _ _))
theorem k_R(hS:VSt A s bad oo bc xb yb c g w)(hC:a_q w C R dc)(hk:C.kind=5)(hg:pool.get g.ths C.name=some G) :
  Calls prog 95 #[ptr s.st,ptr ob,cmV C drive keep R dc] w (VDo A s bad oo xb yb c (y_ (absG bc g) (byT bc G) C).1 (y_ (absG bc g) (byT bc G) C).2 w):=by
 have e1:y_ (absG bc g) (byT bc G) C=(Td.no 0,absG bc ⟨del g.ths C.name,g.shs⟩):=by
  unfold y_;rw[if_neg (by omega),if_pos hk]
  show(_,PS.mk (del (a_c bc g.ths) C.name) _)=(_,PS.mk (a_c bc (del g.ths C.name)) _);rw[a_c,j_Y];rfl
 rw[e1];clear e1;obtain⟨W1,hW1,hN1,hr,hcm,hz⟩:=H_ (w:=w) (cs:=cmL C.kind C.name C.other C.off C.count drive keep R C.dn dc);obtain⟨c0,c1,c2,c3,c4,c5,c6,c7⟩:=p_ hcm.o;rw[hk]at c0;have hNH:=Hd hN1;have hS1:=hS.new' hN1 (C_ oo w);have hSH:=Hd hS1;have s0:=hS1.c0;have hSd:=hS1.new (New.refl W1).drew;obtain⟨w7,hdl,hg7,hm7⟩:=hSd.pl.om.del underlying150 hC.nl (by rw[hg];rfl) 0
 obtain⟨_,_,_,_,hov⟩:=hSd.map_alt hSd.pl.om.obj hSd.pl.tx hg7;have hS7:=Hd (hSd.objs hg7 (Nat.le_succ c) ((hm7 (ObV A.v (tag0 oo w) w7) fun k y _ u hu=>hov _ _ hu).mono (Nat.le_succ c)) (fun b hb=>by
  obtain⟨p,hp,hb⟩:=List.mem_flatMap.1 hb;exact hSd.bl b (e_i (List.mem_filter.1 hp).1 hb)) fun p hp=>hSd.ok _ (.inl ⟨p.1,(List.mem_filter.1 hp).1⟩))
 have ha7:=Hd ((Alt.refl W1).drew.grown (K:=PK s.st xb yb) hg7 fun r e=>.inl (.inr (.inl (Option.some.inj e).symm)));have hr7:=Hd (ha7.o.blk hr.o (hS1.apart hr.o (by decide)))
 obtain⟨nm,hnm⟩:∃nm,Hid (nm=C.name):=⟨_,rfl⟩;rw[<-hnm.o]at c1 hdl hS7 ⊢;clear hN1 hS hC hk hS1 hg hSd hg7 hm7 hov;go_enter func95,ntmps95;go_upto_region 1 with fail;rw[<-hW1];clear hW1;go_upto_region 6 with fail;go_region_law (refine c_s (by rfl) _ _ 150 9 (by rfl) _ _ (by rfl) (by rfl) hdl ?_)
 all_goals
  obtain⟨⟨r0,r1,r2,r3,r4⟩,⟨y0,y1,y2,y3,y4⟩,hx⟩:=g_ hr7.o;go_wp2;exact bodyPost_ret (by simp[results,results95,go_sem,hx.o]) rfl (VDo.told (t:=Td.no 0) hSH.o hNH.o hr.o (Nat.le_succ _) hS7.o (c_0 _ hNH.o.size) (TdN.no _ _ _) (b_a _ _).symm ha7.o)
theorem r_p(hF:e_R A s bad)(hS:VSt A s bad oo bc xb yb c g w)(hC:a_q w C R dc)(hcl:c<maxLen)(hv:ObV A.v oo w (ptr ob) G)(hG:InG g G)(hk:C.kind=4)(ho:¬(C.count<0\/1024<C.count)) :
  Calls prog 95 #[ptr s.st,ptr ob,cmV C drive keep R dc] w (VDo A s bad oo xb yb c (y_ (absG bc g) (byT bc G) C).1 (y_ (absG bc g) (byT bc G) C).2 w):=by
 have e1:y_ (absG bc g) (byT bc G) C=(⟨0,C.count.toNat,By.none,[]⟩,⟨put (absG bc g).ths C.name (m_0 (byT bc G) C.count.toNat),(absG bc g).shs⟩):=by unfold y_;rw[if_neg (by omega),if_neg (by omega),if_neg (by omega),if_neg ho]
 rw[e1];clear e1;obtain⟨W1,hW1,hN1,hr,hcm,hz⟩:=H_ (w:=w) (cs:=cmL C.kind C.name C.other C.off C.count drive keep R C.dn dc);obtain⟨c0,c1,c2,c3,c4,c5,c6,c7⟩:=p_ hcm.o;rw[hk]at c0;obtain⟨m,hm⟩:∃m:Nat,C.count=m:=⟨C.count.toNat,by omega⟩
 have hm2:m<=1024:=by omega
 rw[hm]at c4;rw[show C.count.toNat=m by omega]
 have a1:¬(m:Int)<0:=by omega
 have a2:¬(1024:Int)<(m:Int):=by omega
 have hNH:=Hd hN1;have hS1:=hS.new' hN1 (C_ oo w);have hSH:=Hd hS1;have hcmw:=Hd hcm.o;have hok:=hS.ok G hG;have hokH:=Hd hok;have hv1:=hv.altB (K:=fun _=>False) (Alt.of_new hN1) (fun _ _ _ _ f=>f) (C_ oo w).same;have hb1:f_k A (tag0 oo w) s bad bc W1 G.bl:=fun b hb=>hS1.bl b (hG.bl hb);have hrs:=Hd (i_j hF.va W1 hS1.vm hF.dok hF.pb bc ob G m hv1 (by have:=hok.sz;omega) hok.len hb1 (by omega))
 obtain⟨nm,hnm⟩:∃nm,Hid (nm=C.name):=⟨_,rfl⟩;have hnl:=Hd hC.nl;rw[<-hnm.o]at c1 hnl ⊢;clear hN1 hS hC hk hS1 ho hm hv hok hv1 hb1;go_enter func95,ntmps95;go_upto_region 1 with fail;rw[<-hW1];clear hW1;go_wp2_with fail;refine hrs.o.mono ?_;rintro e w2 ⟨q,bc',l',rfl,hw2,hl',hF'⟩;have hn2:=hw2.nw;have s0:=(hSH.o.new hn2).c0;have d1:=(hn2.cell (a_ c1)).trans c1;obtain⟨hok',hnb⟩:=t_x hokH.o hm2 hl' hF';obtain⟨w7,hup,hS7,ha7,hq7,hab⟩:=j_b hSH.o hw2 hcl hnl.o hok';have hab7:=Hd (i_P (x:=nm) hab.o hnb);obtain⟨cs7,hq7b,hq7s⟩:=hq7.o;have hsz:=Hd (size_any q cs7 m w7 hq7b hq7s);have hr7:=Hd (ha7.o.blk hr.o (hSH.o.apart hr.o (by decide)))
 clear hw2 hl' hF' hok' hnb hq7b hq7s hq7 hab hn2 hrs;show _;dsimp only;go_upto_region 21 with fail;go_region_law (refine step_mapUpdate_run (by rfl) _ _ _ 150 (by rfl) _ _ _ (by rfl) (by rfl) (by rfl) hup ?_)
 all_goals
  obtain⟨⟨r0,r1,r2,r3,r4⟩,⟨y0,y1,y2,y3,y4⟩,hx⟩:=g_ hr7.o;go_wp2_with (go_at_call 290;refine hsz.o.mono ?_;rintro e w8 ⟨rfl,rfl⟩);exact bodyPost_ret (by simp[results,results95,go_sem,hx.o]) rfl (VDo.told (t:=⟨0,m,By.none,[]⟩) hSH.o hNH.o hr.o (Nat.le_succ _) hS7.o (c_j _ _) ⟨_,_,rfl,Bs.nil _,Ns.nil _,b_l.nil _,b_l.nil _⟩ hab7.o ha7.o)
set_option maxHeartbeats 2000000 in
theorem n_E(hF:e_R A s bad)(hS:VSt A s bad oo bc xb yb c g w)(hC:a_q w C R dc)(hcl:c<maxLen)(hv:ObV A.v oo w (ptr ob) G)(hG:InG g G)(hk:C.kind=2)(hd:¬(C.dn=0\/400<C.dn))(ho:¬(C.off<0\/1024-(C.dn:Int)<C.off)) :
  Calls prog 95 #[ptr s.st,ptr ob,cmV C drive keep R dc] w (VDo A s bad oo xb yb c (y_ (absG bc g) (byT bc G) C).1 (y_ (absG bc g) (byT bc G) C).2 w):=by
 have e1:y_ (absG bc g) (byT bc G) C=(⟨0,(d_t (byT bc G) C.off.toNat C.dn C.df).n,By.none,[]⟩,⟨put (absG bc g).ths C.name (d_t (byT bc G) C.off.toNat C.dn C.df),(absG bc g).shs⟩):=by unfold y_;rw[if_neg (by omega),if_neg (by omega),if_pos hk,if_neg hd,if_neg ho]
 rw[e1];clear e1;obtain⟨W1,hW1,hN1,hr,hcm,hz⟩:=H_ (w:=w) (cs:=cmL C.kind C.name C.other C.off C.count drive keep R C.dn dc);obtain⟨c0,c1,c2,c3,c4,c5,c6,c7⟩:=p_ hcm.o;rw[hk]at c0;obtain⟨off,hof⟩:∃off:Nat,C.off=off:=⟨C.off.toNat,by omega⟩
 rw[hof]at c3;rw[show C.off.toNat=off by omega]
 have hoff:off+C.dn<=1024:=by omega
 have hd1:1<=C.dn:=by omega
 have hNH:=Hd hN1;have hS1:=hS.new' hN1 (C_ oo w);have hSH:=Hd hS1;have hok:=hS.ok G hG;have hokH:=Hd hok;have hv1:=hv.altB (K:=fun _=>False) (Alt.of_new hN1) (fun _ _ _ _ f=>f) (C_ oo w).same;have hb1:f_k A (tag0 oo w) s bad bc W1 G.bl:=fun b hb=>hS1.bl b (hG.bl hb);have hwr:=Hd (j_i hF.va W1 hS1.vm hF.dok hF.pb bc ob G off C.dn dc R C.df hv1 (by have:=hok.sz;omega) hok.len hb1 (by omega) (hC.new hN1).dat hC.dcm.1 hC.dcm.2 hC.d8 (by omega))
 obtain⟨nm,hnm⟩:∃nm,Hid (nm=C.name):=⟨_,rfl⟩;have hnl:=Hd hC.nl;obtain⟨dn,hdn⟩:∃dn,Hid (dn=C.dn):=⟨_,rfl⟩;have hyn0:(d_t (byT bc G) off C.dn C.df).n=max G.sz (off+C.dn):=rfl;rw[hyn0];clear hyn0;have hcdn:=Hd hdn.o;obtain⟨yn,hyn⟩:∃yn,Hid (yn=max G.sz (off+C.dn)):=⟨_,rfl⟩;rw[<-hyn.o]at hwr ⊢;rw[<-hnm.o]at c1 hnl ⊢;rw[<-hdn.o]at c7 hoff hd1 hwr hd;have a0:¬dn=0:=by omega
 have a0':¬(dn:Int)=0:=by omega
 have a1':¬(400:Int)<(dn:Int):=by omega
 have a2:¬(off:Int)<0:=by omega
 have a3:¬1024-(dn:Int)<(off:Int):=by omega
 clear hN1 hS hC hk hS1 ho hof hv hd hok hv1 hb1;go_enter func95,ntmps95;go_upto_region 1 with fail;rw[<-hW1];clear hW1;go_wp2_with fail;refine hwr.o.mono ?_;rintro e w2 ⟨q,bc',l',rfl,hw2,hl',hF'⟩;have hn2:=hw2.nw;have s0:=(hSH.o.new hn2).c0;have d1:=(hn2.cell (a_ c1)).trans c1;rw[hyn.o,<-hdn.o]at hw2;rw[hyn.o,<-hdn.o]at hl';obtain⟨hok',hnb⟩:=o_u hokH.o hoff hl' hF';obtain⟨w7,hup,hS7,ha7,hq7,hab⟩:=j_b hSH.o hw2 hcl hnl.o hok';have hab7:=Hd (i_P (x:=nm) hab.o hnb);obtain⟨cs7,hq7b,hq7s⟩:=hq7.o;have hsz:=Hd (size_any q cs7 _ w7 hq7b hq7s);rw[hdn.o,<-hyn.o]at hsz hS7 hab7;have hr7:=Hd (ha7.o.blk hr.o (hSH.o.apart hr.o (by decide)))
 clear hw2 hl' hF' hok' hnb hq7b hq7s hq7 hab hn2 hwr;show _;dsimp only;go_upto_region 21 with fail;go_region_law (refine step_mapUpdate_run (by rfl) _ _ _ 150 (by rfl) _ _ _ (by rfl) (by rfl) (by rfl) hup ?_)
 all_goals
  obtain⟨⟨r0,r1,r2,r3,r4⟩,⟨y0,y1,y2,y3,y4⟩,hx⟩:=g_ hr7.o;go_wp2_with (go_at_call 290;refine hsz.o.mono ?_;rintro e w8 ⟨rfl,rfl⟩);exact bodyPost_ret (by simp[results,results95,go_sem,hx.o]) rfl (VDo.told (t:=⟨0,yn,By.none,[]⟩) hSH.o hNH.o hr.o (Nat.le_succ _) hS7.o (c_j _ _) ⟨_,_,rfl,Bs.nil _,Ns.nil _,b_l.nil _,b_l.nil _⟩ hab7.o ha7.o)
theorem k_Q(hF:e_R A s bad)(hS:VSt A s bad oo bc xb yb c g w)(hC:a_q w C R dc)(hcl:c<maxLen)(hv:ObV A.v oo w (ptr ob) G)(hk:C.kind=2\/C.kind=3\/C.kind=4\/C.kind=5)(hg:pool.get g.ths C.name=some G) :
  Calls prog 95 #[ptr s.st,ptr ob,cmV C drive keep R dc] w (VDo A s bad oo xb yb c (y_ (absG bc g) (byT bc G) C).1 (y_ (absG bc g) (byT bc G) C).2 w):=by
 have hG:InG g G:=InG.ths hg;rcases hk with hk|hk|hk|hk
 ·by_cases hd:C.dn=0\/400<C.dn
  ·exact g_a A s bad oo bc xb yb c g C drive keep R dc ob G w hS hC hk hd
  ·by_cases ho:C.off<0\/1024-(C.dn:Int)<C.off
   ·exact f_e A s bad oo bc xb yb c g C drive keep R dc ob G w hS hC hk hd ho
   ·exact n_E A s bad oo bc xb yb c g C drive keep R dc ob G w hF hS hC hcl hv hG hk hd ho
 ·exact n_F A s bad oo bc xb yb c g C drive keep R dc ob G w hF hS hC hv hG hk
 ·by_cases ho:C.count<0\/1024<C.count
  ·exact g_U A s bad oo bc xb yb c g C drive keep R dc ob G w hS hC hk ho
  ·exact r_p A s bad oo bc xb yb c g C drive keep R dc ob G w hF hS hC hcl hv hG hk ho
 ·exact k_R A s bad oo bc xb yb c g C drive keep R dc ob G w hS hC hk hg
end
theorem d_a{α β:Type}(f:α->β)(l:List (Nm×α))(x:Nm)(most:Nat):W_ (F_ f l) x most=W_ l x most:=by
 unfold W_;rw[b_h,F_,List.length_map,Option.isSome_map]
theorem t_c{bc:Nat->Nat->Nat}{g:GS}(h:OkP (absG bc g)):g.ths.length<=4:=by
 have:=h.th.len
 rwa [show(absG bc g).ths=F_ (byT bc) g.ths from rfl,F_,List.length_map]at this
theorem t_d{bc:Nat->Nat->Nat}{g:GS}(h:OkP (absG bc g)):g.shs.length<=3:=by
 have:=h.len
 rwa [show(absG bc g).shs=F_ (a_c bc) g.shs from rfl,F_,List.length_map]at this
theorem f_a{α:Type}{rd:Value->α->Prop}{w:World}{b c:Nat}{l:List (Nm×α)}(h:MP rd w b c l):∃es k,(∀d:World,d.heap=w.heap->Calls prog 144 #[.map (some b)] d fun e w'=>e=.returned (.map (some w.heap.size))/\w'=d.alloc (.map es k))/\∀d:World,d.heap=w.heap->MP rd (d.alloc (.map es k)) w.heap.size c l:=by
 obtain⟨hs,D,⟨es,k,hb,F,hsz,hD⟩,h2,h3,h4⟩:=h;refine⟨es,k,fun d hd=>?_,fun d hd=>⟨hs,D,⟨es,k,?_,F,hsz,hD⟩,h2,h3,h4⟩⟩
 ·have:=AnyW.maps_Clone t_A b es k d (by rw[hd];exact hb)
  rw[show w.heap.size=d.heap.size by rw[hd]]
  exact this
 ·rw[<-hd]
  exact heap_alloc_new d _
section
variable (A:VA)(s:VS)(bad:List Nat)(oo:Nat->Nat)(bc:Nat->Nat->Nat)(xb yb c:Nat)(g:GS)(C:Cm)(drive keep:Int)(R:Option Addr)(dc:Nat)(w:World)
theorem o_Q(hS:VSt A s bad oo bc xb yb c g w)(hP:OkP (absG bc g))(hC:a_q w C R dc)(hk:C.kind=7)(hr0:W_ g.shs C.other 3≠0) :
  Calls prog 94 #[ptr s.st,cmV C drive keep R dc] w (VDo A s bad oo xb yb c (a_1 (absG bc g) C).1 (a_1 (absG bc g) C).2 w):=by
 have e1:a_1 (absG bc g) C=(Td.no (W_ g.shs C.other 3),absG bc g):=by
  have h1:=d_a (a_c bc) g.shs C.other 3;unfold a_1;rw[if_pos hk,if_neg (by show W_ (F_ (a_c bc) g.shs) C.other 3≠0;rw[h1];exact hr0)]
  show(Td.no (W_ (F_ (a_c bc) g.shs) C.other 3),_)=_;rw[h1]
 rw[e1];clear e1;obtain⟨W1,hW1,hN1,hr,hcm,hz⟩:=H_ (w:=w) (cs:=cmL C.kind C.name C.other C.off C.count drive keep R C.dn dc);obtain⟨c0,c1,c2,c3,c4,c5,c6,c7⟩:=p_ hcm.o;rw[hk]at c0;have hNH:=Hd hN1;have hS1:=hS.new' hN1 (C_ oo w);have hSH:=Hd hS1;have s1:=hS1.c1;have hrm:Hid (∀w',New W1 w'->Calls prog 143 #[.map (some yb),encStr C.other,.int .i64 3] w' fun e w''=>e=.returned (.int .i64 (W_ g.shs C.other 3))/\New w' w''):=fun w' hn=>h_9 yb c 3 C.other g.shs w' (hS1.new hn).pl.nm hC.ol (by omega) (by have:=t_d hP;omega)
 obtain⟨cd,hcd⟩:∃cd,Hid (cd=W_ g.shs C.other 3):=⟨_,rfl⟩;rw[<-hcd.o]at hrm hr0 ⊢;obtain⟨nm,hnm⟩:∃nm,Hid (nm=C.other):=⟨_,rfl⟩;rw[<-hnm.o]at c2 hrm;have k0:=t_.keep c2;have k1:=t_.keep s1;clear hN1 hS hC hk hS1;go_enter func94,ntmps94;go_upto_region 1 with fail;rw[<-hW1];clear hW1;go_upto_region 2 with fail
 (refine d_ (by kernel_rfl) (by kernel_rfl) ?_;(repeat (first|go_big_quiet_step (first|(go_at_call 143;exact t_.call _ (hrm.o _ (t_.is _))))|quiet_step (first|(go_at_call 143;exact t_.call _ (hrm.o _ (t_.is _))))));refine wpQuiet_nil ?_;rintro W2 ⟨⟨_,hn_W2⟩,rfl⟩)
 have hn2:=Hd hn_W2;clear k0 k1;go_wp2_with (go_at_call 53;refine(X_ cd _).mono ?_;rintro e w2 ⟨rfl,hn3⟩;have hn3H:=Hd (hn2.o.next hn3);obtain⟨⟨r0,r1,r2,r3,r4⟩,⟨y0,y1,y2,y3,y4⟩,hx⟩:=g_ (hr.o.new (hn2.o.next hn3)));exact bodyPost_ret (by simp[results,results94,go_sem,hx.o]) rfl (VDo.same (t:=Td.no cd) hSH.o hNH.o hr.o (Nat.le_succ _) hn3H.o (TdN.no _ _ _))
theorem n_j{o:Nat->Nat}{W2:World}{x:Nm}(hS2:VSt A s bad o bc xb yb c g W2)(hc:c<maxLen)(hx:x.length<=maxLen) :
  ∃es k w7,(∀d:World,d.heap=W2.heap->Calls prog 144 #[.map (some xb)] d fun e w'=>e=.returned (.map (some W2.heap.size))/\w'=d.alloc (.map es k))/\New W2 (W2.alloc (.map es k)).drew /\
   (Instr.mapUpdate 151 (.map (some yb)) (encStr x) (.map (some W2.heap.size))).run prog (W2.alloc (.map es k)).drew=.ok () w7/\Hid (VSt A s bad (tag2 o W2) bc xb yb (c+1) ⟨g.ths,put g.shs x g.ths⟩ w7)/\Hid (Alt (PK s.st xb yb) W2 w7):=by
 obtain⟨es,k,hcall,hmp⟩:=f_a hS2.pl.om;have hn3:New W2 (W2.alloc (.map es k)).drew:=((New.refl W2).alloc _).drew;have hS3:=hS2.new' hn3 (c_j o W2);have hm3:MP (ObV A.v (tag2 o W2) (W2.alloc (.map es k)).drew) (W2.alloc (.map es k)).drew W2.heap.size c g.ths:=MP.weak (hmp W2.drew rfl) fun _ _ _ _ hu=>hu.altB (K:=fun _=>False) (Alt.of_new hn3) (fun _ _ _ _ f=>f) (a_w o W2);obtain⟨w7,hup,hg7,hm7⟩:=hS3.pl.nm.put underlying151 hc hx (.map (some W2.heap.size)) g.ths;obtain⟨ha,hK,_,_,hov⟩:=hS3.map_alt hS3.pl.nm.obj hS3.pl.ty hg7;have hnb:=hS2.pl.nm.lt;have hob:=hS2.pl.om.lt;refine⟨es,k,w7,hcall,hn3,hup,?_,(Alt.of_new hn3).grown hg7 fun r e=>.inl (.inr (.inr (Option.some.inj e).symm))⟩;refine hS3.snps hg7 (Nat.le_succ c) (hm7 (SnV A.v xb yb (c+1) (tag2 o W2) w7) ⟨W2.heap.size,rfl,a_7 o W2 (Nat.le_refl _),by omega,by omega,(hm3.alt ha (by omega) fun _ _ _ _ hu=>hov _ _ hu).mono (Nat.le_succ c)⟩ fun _ y _ u hu=>?_) (fun q hq b hb=>?_) fun q hq p hp=>?_
 ·obtain⟨b,h1,h2,h3,h4,h5⟩:=hu
  exact⟨b,h1,h2,h3,h4,(h5.alt ha h4 fun _ _ _ _ hu=>hov _ _ hu).mono (Nat.le_succ c)⟩
 ·rcases a_C hq with rfl|hq
  ·exact hS3.bl b (List.mem_append_left _ hb)
  ·exact hS3.bl b (List.mem_append_right _ (List.mem_flatMap.2 ⟨q,hq,hb⟩))
 ·rcases a_C hq with rfl|hq
  ·exact hS3.ok _ (.inl ⟨p.1,hp⟩)
  ·exact hS3.ok _ (.inr ⟨q,hq,p.1,hp⟩)
set_option maxHeartbeats 1000000 in
theorem r_2(hS:VSt A s bad oo bc xb yb c g w)(hP:OkP (absG bc g))(hC:a_q w C R dc)(hcl:c<maxLen)(hk:C.kind=7)(hr0:W_ g.shs C.other 3=0) :
  Calls prog 94 #[ptr s.st,cmV C drive keep R dc] w (VDo A s bad oo xb yb c (a_1 (absG bc g) C).1 (a_1 (absG bc g) C).2 w):=by
 have e1:a_1 (absG bc g) C=(Td.no 0,absG bc ⟨g.ths,put g.shs C.other g.ths⟩):=by
  have h1:=d_a (a_c bc) g.shs C.other 3;unfold a_1;rw[if_pos hk,if_pos (by show W_ (F_ (a_c bc) g.shs) C.other 3=0;rw[h1];exact hr0)]
  show(_,PS.mk _ (put (F_ (a_c bc) g.shs) C.other (a_c bc g.ths)))=(_,PS.mk _ (F_ (a_c bc) (put g.shs C.other g.ths)));rw[f_X];rfl
 rw[e1];clear e1;obtain⟨W1,hW1,hN1,hr,hcm,hz⟩:=H_ (w:=w) (cs:=cmL C.kind C.name C.other C.off C.count drive keep R C.dn dc);obtain⟨c0,c1,c2,c3,c4,c5,c6,c7⟩:=p_ hcm.o;rw[hk]at c0;have hNH:=Hd hN1;have hS1:=hS.new' hN1 (C_ oo w);have hSH:=Hd hS1;have s0:=hS1.c0;have s1:=hS1.c1;have hrm:Hid (∀w',New W1 w'->Calls prog 143 #[.map (some yb),encStr C.other,.int .i64 3] w' fun e w''=>e=.returned (.int .i64 0)/\New w' w''):=fun w' hn=>by
  have:=h_9 yb c 3 C.other g.shs w' (hS1.new hn).pl.nm hC.ol (by omega) (by have:=t_d hP;omega)
  rw[hr0]at this;exact this
 have hol:=Hd hC.ol;obtain⟨nm,hnm⟩:∃nm,Hid (nm=C.other):=⟨_,rfl⟩;rw[<-hnm.o]at c2 hrm hol ⊢;have k0:=t_.keep c2;have k1:=t_.keep s1;clear hN1 hS hC hk hS1;go_enter func94,ntmps94;go_upto_region 1 with fail;rw[<-hW1];clear hW1;go_upto_region 2 with fail
 (refine d_ (by kernel_rfl) (by kernel_rfl) ?_;(repeat (first|go_big_quiet_step (first|(go_at_call 143;exact t_.call _ (hrm.o _ (t_.is _))))|quiet_step (first|(go_at_call 143;exact t_.call _ (hrm.o _ (t_.is _))))));refine wpQuiet_nil ?_;rintro W2 ⟨⟨_,hn_W2⟩,rfl⟩)
 have hn2:=hn_W2;have hn2H:=Hd hn2;obtain⟨es,kk,w7,hcl,hn3,hup,hS7,ha7⟩:=n_j A s bad bc xb yb c g (hSH.o.new hn2) hcl hol.o;have hcl2:=Hd (hcl W2.drew rfl);have s0:=(hSH.o.new hn2).c0;have s1:=(hSH.o.new hn2).c1;have t0:=((hSH.o.new hn2).new hn3).c0;have t1:=((hSH.o.new hn2).new hn3).c1;have c2:=(hn2.cell (a_ c2)).trans c2;have d2:=(hn3.cell (a_ c2)).trans c2;have hTg:Hid (Tg (tag0 oo w) W1 (tag2 (tag0 oo w) W2)):=(c_0 oo hNH.o.size).tag2 hn2.size;have haF:=Hd ((Alt.of_new (K:=PK s.st xb yb) hn2).trans ha7.o);have hr7:=Hd (haF.o.blk hr.o (hSH.o.apart hr.o (by decide)))
 clear k0 k1 hn2 hn3 hcl hn_W2;go_upto_region 4 with fail;go_region_law (first
  |(refine step_mapUpdate_run (by rfl) _ _ _ 151 (by rfl) _ _ _ (by rfl) (by rfl) (by rfl) hup ?_)
  |(go_simp;go_at_call 144;refine hcl2.o.mono ?_;rintro e w ⟨rfl,rfl⟩;show _;dsimp only))
 all_goals
  go_wp2_with (go_at_call 53;refine(X_ 0 _).mono ?_;rintro e w8 ⟨rfl,hn8⟩;have hn8H:=Hd hn8;obtain⟨⟨r0,r1,r2,r3,r4⟩,⟨y0,y1,y2,y3,y4⟩,hx⟩:=g_ (hr7.o.new hn8));exact bodyPost_ret (by simp[results,results94,go_sem,hx.o]) rfl (VDo.told (t:=Td.no 0) hSH.o hNH.o hr.o (Nat.le_succ _) (hS7.o.new hn8H.o) hTg.o (TdN.no _ _ _) (b_a _ _).symm (haF.o.next hn8H.o))
theorem t_Z{o:Nat->Nat}{W2:World}(h:VSt A s bad o bc xb yb c g W2){ob:Obj}{l:GT}{q:Nm}(hq:(q,l)∈g.shs)(hm:MP (ObV A.v o W2) (W2.alloc ob) W2.heap.size c l):VSt A s bad (tag2 o W2) bc W2.heap.size yb c ⟨l,g.shs⟩ ((W2.alloc ob).setCell ⟨s.st,0,none⟩ (.map (some W2.heap.size))):=by
 obtain⟨eb,e1,e2,e3⟩:=h.pl.bk;have ha:Alt (fun k=>k=s.st) W2 ((W2.alloc ob).setCell ⟨s.st,0,none⟩ (.map (some W2.heap.size))):=Alt.set (K:=fun k=>k=s.st) ((Alt.refl W2).alloc ob) (.inl rfl) _;have ha2:Alt (fun k=>k=s.st) (W2.alloc ob) ((W2.alloc ob).setCell ⟨s.st,0,none⟩ (.map (some W2.heap.size))):=Alt.set (K:=fun k=>k=s.st) (Alt.refl _) (.inl rfl) _;have hT:=a_w o W2;have hK:∀b,o b≠2->¬b=s.st:=fun b hb e=>hb (by rw[e];exact h.pl.ts)
 have hbk:∀b t cs,t≠153->Blk W2 b t cs->¬b=s.st:=fun b t cs ht hb e=>e_ hb e1 ht e;have hmp:∀b,(∃es k,W2.heap[b]?=some (.map es k))->¬b=s.st:=fun b hm' e=>w_ e1 hm' e;have hsb:=e1.lt;have hnb:=h.pl.nm.lt;have hrow:∀v l,a_v o W2 v l->a_v (tag2 o W2) ((W2.alloc ob).setCell ⟨s.st,0,none⟩ (.map (some W2.heap.size))) v l:=fun v l hv=>by
  obtain⟨A,c,h1,h2,h3,h4,h5⟩:=hv;refine⟨A,c,h1,h2,h3,h4,fun h0=>?_⟩;obtain⟨g,off,cs,x1,x2,x3,x4⟩:=h5 h0;exact⟨g,off,cs,x1,(hT g x3.lt).trans x2,ha.blk x3 (hbk _ _ _ (by decide) x3),x4⟩
 have hov:∀v G,ObV A.v o W2 v G->ObV A.v (tag2 o W2) ((W2.alloc ob).setCell ⟨s.st,0,none⟩ (.map (some W2.heap.size))) v G:=fun v G hv=>by
  obtain⟨ob,bv,h1,h2,h3,h4⟩:=hv;exact⟨ob,bv,h1,(hT ob h3.lt).trans h2,ha.blk h3 (hbk _ _ _ (by decide) h3),hrow _ _ h4⟩
 have hbl:∀b f at_,BlM o W2 b f at_->BlM (tag2 o W2) ((W2.alloc ob).setCell ⟨s.st,0,none⟩ (.map (some W2.heap.size))) b f at_:=fun b f at_ hb=>by
  obtain⟨h0,hb⟩:=hb;cases at_ with
  |none=>obtain⟨g,off,cs,c,h1,h2,h3,h4⟩:=hb;exact⟨(hT b h1.lt).trans h0,g,off,cs,c,ha.blk h1 (hbk _ _ _ (by decide) h1),(hT g h3.lt).trans h2,ha.blk h3 (hbk _ _ _ (by decide) h3),h4⟩
  |some q=>obtain⟨g,h1,h2,h3⟩:=hb;exact⟨(hT b h1.lt).trans h0,g,ha.blk h1 (hbk _ _ _ (by decide) h1),(hT g h3.lt).trans h2,ha.blk h3 (hbk _ _ _ (by decide) h3)⟩
 refine⟨h.vm.keep ha (fun b hb e=>by rw[e,h.pl.ts];omega) hT,⟨⟨eb,(e1.alloc ob).put 0 _,(hT eb e3.lt).trans e2,ha.blk e3 (hbk _ _ _ (by decide) e3)⟩,hm.alt ha2 (by omega) fun _ _ _ _ hv=>hov _ _ hv,h.pl.nm.alt ha (hmp _ h.pl.nm.obj) fun k y hy v hv=>?_,(hT _ hsb).trans h.pl.ts,a_7 o W2 (Nat.le_refl _),(hT _ hnb).trans h.pl.ty,by omega⟩,fun b hb=>?_,fun G hG=>?_⟩
 ·obtain⟨b',h1,h2,h3,h4,h5⟩:=hv
  have hlt:=h5.lt;exact⟨b',h1,(hT b' hlt).trans h2,by omega,h4,h5.alt ha (hmp _ h5.obj) fun _ _ _ _ hv=>hov _ _ hv⟩
 ·have hb2:b∈g.all:=by
   rcases List.mem_append.1 hb with hb|hb
   ·exact List.mem_append_right _ (List.mem_flatMap.2 ⟨(q,l),hq,hb⟩)
   ·exact List.mem_append_right _ hb
  obtain⟨at_,h1,h2⟩:=h.bl b hb2;exact⟨at_,hbl _ _ _ h1,h2⟩
 ·rcases hG with⟨x,hG⟩|hG
  ·exact h.ok G (.inr ⟨(q,l),hq,x,hG⟩)
  ·exact h.ok G (.inr hG)
theorem o_O(hS:VSt A s bad oo bc xb yb c g w)(hC:a_q w C R dc)(hk:C.kind≠7)(hg:pool.get g.shs C.other=none) :
  Calls prog 94 #[ptr s.st,cmV C drive keep R dc] w (VDo A s bad oo xb yb c (a_1 (absG bc g) C).1 (a_1 (absG bc g) C).2 w):=by
 have e1:a_1 (absG bc g) C=(Td.no 6,absG bc g):=by
  unfold a_1;rw[if_neg hk,show pool.get (absG bc g).shs C.other=none from by show pool.get (F_ (a_c bc) g.shs) C.other=none;rw[b_h,hg];rfl]
 rw[e1];clear e1;obtain⟨W1,hW1,hN1,hr,hcm,hz⟩:=H_ (w:=w) (cs:=cmL C.kind C.name C.other C.off C.count drive keep R C.dn dc);obtain⟨c0,c1,c2,c3,c4,c5,c6,c7⟩:=p_ hcm.o;have hNH:=Hd hN1;have hS1:=hS.new' hN1 (C_ oo w);have hSH:=Hd hS1;have s1:=hS1.c1;obtain⟨x,hlk,_,_⟩:=(hS1.new (New.refl W1).drew).pl.nm.look underlying151 (h_5 _) hC.ol;rw[hg,show(none:Option GT).isSome=false from rfl]at hlk
 obtain⟨nm,hnm⟩:∃nm,Hid (nm=C.other):=⟨_,rfl⟩;rw[<-hnm.o]at c2 hlk;obtain⟨k,hkk⟩:∃k,Hid (k=C.kind):=⟨_,rfl⟩;rw[<-hkk.o]at c0 hk;clear hN1 hS hC hS1 hg;go_enter func94,ntmps94;go_upto_region 1 with fail;rw[<-hW1];clear hW1;go_upto_region 6 with fail;go_region;go_wp2_with (go_at_call 53;refine(X_ 6 _).mono ?_;rintro e w2 ⟨rfl,hn2⟩;have hn2H:=Hd (New.next (New.refl W1).drew hn2);obtain⟨⟨r0,r1,r2,r3,r4⟩,⟨y0,y1,y2,y3,y4⟩,hx⟩:=g_ (hr.o.new (New.next (New.refl W1).drew hn2)));exact bodyPost_ret (by simp[results,results94,go_sem,hx.o]) rfl (VDo.same (t:=Td.no 6) hSH.o hNH.o hr.o (Nat.le_succ _) hn2H.o (TdN.no _ _ _))
theorem o_R(hS:VSt A s bad oo bc xb yb c g w)(hC:a_q w C R dc){l:GT}(hk:C.kind=9)(hg:pool.get g.shs C.other=some l) :
  Calls prog 94 #[ptr s.st,cmV C drive keep R dc] w (VDo A s bad oo xb yb c (a_1 (absG bc g) C).1 (a_1 (absG bc g) C).2 w):=by
 have e1:a_1 (absG bc g) C=(Td.no 0,absG bc ⟨l,g.shs⟩):=by
  unfold a_1;rw[if_neg (by omega),show pool.get (absG bc g).shs C.other=some (a_c bc l) from by show pool.get (F_ (a_c bc) g.shs) C.other=_;rw[b_h,hg];rfl]
  show(if C.kind=9 then _ else _)=_;rw[if_pos hk];rfl
 rw[e1];clear e1;obtain⟨W1,hW1,hN1,hr,hcm,hz⟩:=H_ (w:=w) (cs:=cmL C.kind C.name C.other C.off C.count drive keep R C.dn dc);obtain⟨c0,c1,c2,c3,c4,c5,c6,c7⟩:=p_ hcm.o;rw[hk]at c0;have hNH:=Hd hN1;have hS1:=hS.new' hN1 (C_ oo w);have hSH:=Hd hS1;have s1:=hS1.c1;have hSd:=hS1.new (New.refl W1).drew;obtain⟨x,hlk,hsome,_⟩:=hSd.pl.nm.look underlying151 (h_5 _) hC.ol;obtain⟨bb,rfl,_,_,_,hmb⟩:=hsome l hg;rw[hg,show(some l:Option GT).isSome=true from rfl]at hlk
 obtain⟨es,kk,hcl,hmp⟩:=f_a hmb;have hcl2:=Hd (hcl W1.drew rfl);have hmp2:=hmp W1.drew rfl;have hS3:=t_Z A s bad bc xb yb c g hSd (a_R hg) hmp2;have hN3:New W1 (W1.drew.alloc (.map es kk)):=((New.refl W1).drew).alloc _;obtain⟨p,hp⟩:∃p,p=W1.drew.heap.size:=⟨_,rfl⟩;rw[<-hp]at hcl2 hS3;obtain⟨W3,hW3⟩:∃W3,W3=W1.drew.alloc (.map es kk):=⟨_,rfl⟩;rw[<-hW3]at hcl2 hS3 hN3;have t0:=(hS1.new hN3).c0;have t1:W3.frozen? ⟨s.st,0,none⟩=false:=by obtain⟨eb,hh⟩:=(hS1.new hN3).bk;exact hh.frozen 0
 have d0:=(hN3.cell (a_ c0)).trans c0;have hTg:Hid (Tg (tag0 oo w) W1 (tag2 (tag0 oo w) W1.drew)):=(c_0 oo hNH.o.size).tag2 (Nat.le_refl _);have ha3:Hid (Alt (PK s.st xb yb) W1 (W3.setCell ⟨s.st,0,none⟩ (.map (some p)))):=(Alt.of_new hN3).set (.inl (.inl rfl)) _;have hr3:=Hd (ha3.o.blk hr.o (hS1.apart hr.o (by decide)))
 have hS3H:=Hd (hS3.mono (Nat.le_succ c));obtain⟨nm,hnm⟩:∃nm,Hid (nm=C.other):=⟨_,rfl⟩;rw[<-hnm.o]at c2 hlk;clear hN1 hS hC hS1 hg hk hsome hmb hcl hmp hmp2 hS3 hSd hN3 hW3 hp;go_enter func94,ntmps94;go_upto_region 1 with fail;rw[<-hW1];clear hW1;go_upto_region 6 with fail;go_region;go_wp2_with fail;refine hcl2.o.mono ?_;rintro e w2 ⟨rfl,rfl⟩;show _;dsimp only;obtain⟨W4,hW4⟩:∃W4,Hid (W4=w2.setCell ⟨s.st,0,none⟩ (.map (some p))):=⟨_,rfl⟩;rw[<-hW4.o]at ha3 hr3 hS3H;obtain⟨⟨r0,r1,r2,r3,r4⟩,⟨y0,y1,y2,y3,y4⟩,hx⟩:=g_ hr3.o;go_upto_region 19 with fail;rw[<-hW4.o];clear hW4 t0 t1 d0;go_wp2;exact bodyPost_ret (by simp[results,results94,go_sem,hx.o]) rfl (VDo.told (t:=Td.no 0) hSH.o hNH.o hr.o (Nat.le_succ _) hS3H.o hTg.o (TdN.no _ _ _) (b_a _ _).symm ha3.o)
theorem k_z(hS:VSt A s bad oo bc xb yb c g w)(hC:a_q w C R dc){l:GT}(hk:C.kind=10)(hg:pool.get g.shs C.other=some l) :
  Calls prog 94 #[ptr s.st,cmV C drive keep R dc] w (VDo A s bad oo xb yb c (a_1 (absG bc g) C).1 (a_1 (absG bc g) C).2 w):=by
 have e1:a_1 (absG bc g) C=(Td.no 0,absG bc ⟨g.ths,del g.shs C.other⟩):=by
  unfold a_1;rw[if_neg (by omega),show pool.get (absG bc g).shs C.other=some (a_c bc l) from by show pool.get (F_ (a_c bc) g.shs) C.other=_;rw[b_h,hg];rfl]
  show(if C.kind=9 then _ else _)=_;rw[if_neg (by omega),if_pos hk]
  show(_,PS.mk _ (del (F_ (a_c bc) g.shs) C.other))=(_,PS.mk _ (F_ (a_c bc) (del g.shs C.other)));rw[j_Y];rfl
 rw[e1];clear e1;obtain⟨W1,hW1,hN1,hr,hcm,hz⟩:=H_ (w:=w) (cs:=cmL C.kind C.name C.other C.off C.count drive keep R C.dn dc);obtain⟨c0,c1,c2,c3,c4,c5,c6,c7⟩:=p_ hcm.o;rw[hk]at c0;have hNH:=Hd hN1;have hS1:=hS.new' hN1 (C_ oo w);have hSH:=Hd hS1;have s1:=hS1.c1;have hSd:=hS1.new (New.refl W1).drew;obtain⟨x,hlk,hsome,_⟩:=hSd.pl.nm.look underlying151 (h_5 _) hC.ol;obtain⟨bb,rfl,_,_,_,hmb⟩:=hsome l hg;rw[hg,show(some l:Option GT).isSome=true from rfl]at hlk
 have hSe:=hSd.new (New.refl W1.drew).drew;obtain⟨w7,hdl,hg7,hm7⟩:=hSe.pl.nm.del underlying151 hC.ol (by rw[hg];rfl) 0
 obtain⟨haE,_,_,_,hov⟩:=hSe.map_alt hSe.pl.nm.obj hSe.pl.ty hg7;have hS7:=Hd (hSe.snps hg7 (Nat.le_succ c) ((hm7 (SnV A.v xb yb (c+1) (tag0 oo w) w7) fun k y _ u hu=>by
  obtain⟨b,h1,h2,h3,h4,h5⟩:=hu;exact⟨b,h1,h2,h3,h4,(h5.alt haE h4 fun _ _ _ _ hu=>hov _ _ hu).mono (Nat.le_succ c)⟩).mono (Nat.le_succ c)) (fun q hq b hb=>hSe.bl b (List.mem_append_right _ (List.mem_flatMap.2 ⟨q,(List.mem_filter.1 hq).1,hb⟩))) fun q hq p hp=>hSe.ok _ (.inr ⟨q,(List.mem_filter.1 hq).1,p.1,hp⟩))
 have ha7:=Hd (((Alt.refl W1).drew.drew).grown (K:=PK s.st xb yb) hg7 fun r e=>.inl (.inr (.inr (Option.some.inj e).symm)));have hr7:=Hd (ha7.o.blk hr.o (hS1.apart hr.o (by decide)))
 obtain⟨nm,hnm⟩:∃nm,Hid (nm=C.other):=⟨_,rfl⟩;rw[<-hnm.o]at c2 hlk hdl hS7 ⊢;clear hN1 hS hC hS1 hg hk hsome hmb hSd hSe hg7 hm7 hov haE;go_enter func94,ntmps94;go_upto_region 1 with fail;rw[<-hW1];clear hW1;go_upto_region 6 with fail;go_region;go_upto_region 13 with fail;go_region_law (refine c_s (by rfl) _ _ 151 9 (by rfl) _ _ (by rfl) (by rfl) hdl ?_)
 all_goals
  obtain⟨⟨r0,r1,r2,r3,r4⟩,⟨y0,y1,y2,y3,y4⟩,hx⟩:=g_ hr7.o;go_wp2;exact bodyPost_ret (by simp[results,results94,go_sem,hx.o]) rfl (VDo.told (t:=Td.no 0) hSH.o hNH.o hr.o (Nat.le_succ _) hS7.o (c_0 _ hNH.o.size) (TdN.no _ _ _) (b_a _ _).symm ha7.o)
theorem o_P(hF:e_R A s bad)(hS:VSt A s bad oo bc xb yb c g w)(hP:OkP (absG bc g))(hC:a_q w C R dc){l:GT}(hk:C.kind=8)(hg:pool.get g.shs C.other=some l) :
  Calls prog 94 #[ptr s.st,cmV C drive keep R dc] w (VDo A s bad oo xb yb c (a_1 (absG bc g) C).1 (a_1 (absG bc g) C).2 w):=by
 have e1:a_1 (absG bc g) C=(match pool.get l C.name with|none=>(Td.no 6,absG bc g)|some G=>(a_T (byT bc G) C.off C.count,absG bc g)):=by
  unfold a_1;rw[if_neg (by omega),show pool.get (absG bc g).shs C.other=some (a_c bc l) from by show pool.get (F_ (a_c bc) g.shs) C.other=_;rw[b_h,hg];rfl]
  show(if C.kind=9 then _ else _)=_;rw[if_neg (by omega),if_neg (by omega)]
  show(match pool.get (F_ (byT bc) l) C.name with|none=>_|some b=>_)=_
  rw[b_h];cases pool.get l C.name<;>rfl
 rw[e1];clear e1;obtain⟨W1,hW1,hN1,hr,hcm,hz⟩:=H_ (w:=w) (cs:=cmL C.kind C.name C.other C.off C.count drive keep R C.dn dc);obtain⟨c0,c1,c2,c3,c4,c5,c6,c7⟩:=p_ hcm.o;rw[hk]at c0;have hNH:=Hd hN1;have hS1:=hS.new' hN1 (C_ oo w);have hSH:=Hd hS1;have s1:=hS1.c1;have hSd:=hS1.new (New.refl W1).drew;obtain⟨x,hlk,hsome,_⟩:=hSd.pl.nm.look underlying151 (h_5 _) hC.ol;obtain⟨bb,rfl,_,_,_,hmb⟩:=hsome l hg;rw[hg,show(some l:Option GT).isSome=true from rfl]at hlk
 obtain⟨x2,hlk2,hsome2,_⟩:=hmb.look underlying150 (l_M _) hC.nl;obtain⟨nm,hnm⟩:∃nm,Hid (nm=C.other):=⟨_,rfl⟩;obtain⟨on,hon⟩:∃on,Hid (on=C.name):=⟨_,rfl⟩;rw[<-hnm.o]at c2 hlk;rw[<-hon.o]at c1 hlk2;cases hb:pool.get l C.name with
 |none=>
  rw[hon.o,hb,show(none:Option OG).isSome=false from rfl,<-hon.o]at hlk2
  dsimp only;clear hN1 hS hC hS1 hg hk hsome hmb hSd hsome2 hb;go_enter func94,ntmps94;go_upto_region 1 with fail;rw[<-hW1];clear hW1;go_upto_region 6 with fail;go_region;go_wp2_with (go_at_call 53;refine(X_ 6 _).mono ?_;rintro e w2 ⟨rfl,hn2⟩;have hn2H:=Hd (New.next (New.refl W1).drew hn2);obtain⟨⟨r0,r1,r2,r3,r4⟩,⟨y0,y1,y2,y3,y4⟩,hx⟩:=g_ (hr.o.new (New.next (New.refl W1).drew hn2)));exact bodyPost_ret (by simp[results,results94,go_sem,hx.o]) rfl (VDo.same (t:=Td.no 6) hSH.o hNH.o hr.o (Nat.le_succ _) hn2H.o (TdN.no _ _ _))
 |some G=>
  rw[hon.o,hb,show(some G:Option OG).isSome=true from rfl,<-hon.o]at hlk2
  dsimp only;have hG:InG g G:=InG.shs hg hb;have hok:=hS.ok G hG;have hvx:=hsome2 G hb;obtain⟨ob,rfl⟩:∃ob,x2=ptr ob:=by obtain⟨ob,bv,h,_⟩:=hvx;exact⟨ob,h⟩
  have hf:=Hd (f_H hF.va bad bc ob G 8 C.name C.other C.off C.count drive keep R C.dn dc W1.drew hSd.vm hF.dok hF.pb hvx (by have:=hok.sz;omega) (by have:=hok.len;omega) (fun b hb=>hSd.bl b (hG.bl hb)) hC.o1 hC.c1)
  rw[<-hnm.o,<-hon.o]at hf;clear hN1 hS hC hS1 hg hk hsome hmb hSd hsome2 hb hG hok hvx;go_enter func94,ntmps94;go_upto_region 1 with fail;rw[<-hW1];clear hW1;go_upto_region 6 with fail;go_region;go_wp2_with fail;refine hf.o.mono ?_;rintro e w2 ⟨u,rfl,hu,hn2'⟩;have hn2:New W1 w2:=New.next (New.refl W1).drew hn2';have hu2:=h_I hu;obtain⟨A9,n,k,B,m,j,rfl⟩:=hu2.form;obtain⟨⟨r0,r1,r2,r3,r4⟩,⟨y0,y1,y2,y3,y4⟩,hx⟩:=g_ (hr.o.new hn2);have hfin:=Hd (VDo.same (t:=a_T (byT bc G) C.off C.count) hSH.o hNH.o hr.o (Nat.le_succ _) hn2 (hu2.mono hNH.o.size));clear hu hu2 hn2 hn2';show _;dsimp only;go_wp2;exact bodyPost_ret (by simp[results,results94,go_sem,hx.o]) rfl hfin.o
theorem o_S(hF:e_R A s bad)(hS:VSt A s bad oo bc xb yb c g w)(hP:OkP (absG bc g))(hC:a_q w C R dc)(hcl:c<maxLen)(hk:C.kind=7\/C.kind=8\/C.kind=9\/C.kind=10) :
  Calls prog 94 #[ptr s.st,cmV C drive keep R dc] w (VDo A s bad oo xb yb c (a_1 (absG bc g) C).1 (a_1 (absG bc g) C).2 w):=by
 by_cases h7:C.kind=7
 ·by_cases hr:W_ g.shs C.other 3=0
  ·exact r_2 A s bad oo bc xb yb c g C drive keep R dc w hS hP hC hcl h7 hr
  ·exact o_Q A s bad oo bc xb yb c g C drive keep R dc w hS hP hC h7 hr
 ·cases hg:pool.get g.shs C.other with
  |none=>exact o_O A s bad oo bc xb yb c g C drive keep R dc w hS hC h7 hg
  |some l=>
   rcases hk with hk|hk|hk|hk
   ·exact absurd hk h7
   ·exact o_P A s bad oo bc xb yb c g C drive keep R dc w hF hS hP hC hk hg
   ·exact o_R A s bad oo bc xb yb c g C drive keep R dc w hS hC hk hg
   ·exact k_z A s bad oo bc xb yb c g C drive keep R dc w hS hC hk hg
end
end vault
end Go.Proofs.YtojcoaekhiadcaaGreat
