import Derived.Test.YtojcoaekhiadcaaGreatA01
import Derived.Test.YtojcoaekhiadcaaGreatA24
import Derived.Test.YtojcoaekhiadcaaGreatA14
import Derived.Test.YtojcoaekhiadcaaGreatA21
import Derived.Test.YtojcoaekhiadcaaGreatA22
import Derived.Deep.RegionHeld3
set_option linter.unusedVariables false
set_option linter.unusedSimpArgs false
namespace Go.Proofs.YtojcoaekhiadcaaGreat
open Tryz Go.RowKit
namespace vault
set_option maxRecDepth 100000
open Go.ChangeShapes Go.WideShapes Go.ChangeAt kit pool Go.Deep Go.Maps
section
variable (A:VA)(s:VS)(bad:List Nat)(oo:Nat->Nat)(bc:Nat->Nat->Nat)(xb yb c:Nat)(g:GS)(C:Cm)(drive keep:Int)(R:Option Addr)(dc:Nat)(w:World)
theorem n_q{o:Nat->Nat}{W1 w2:World}{x:Nm}{eb:Nat}(hS1:VSt A s bad o bc xb yb c g W1)(hn:New W1 w2)(hc:c<maxLen)(hx:x.length<=maxLen)(he:w2.cell? ⟨s.st,2,none⟩=some (ptr eb)) :
  ∃w7,(Instr.mapUpdate 150 (.map (some xb)) (encStr x) (ptr eb)).run prog w2.drew=.ok () w7/\Hid (VSt A s bad o bc xb yb (c+1) ⟨put g.ths x ⟨0,[]⟩,g.shs⟩ w7)/\Hid (Alt (PK s.st xb yb) W1 w7):=by
 have hSd:=hS1.new (hn.drew);obtain⟨eb',e1,e2,e3⟩:=hSd.pl.bk;have h2:w2.drew.cell? ⟨s.st,2,none⟩=some (ptr eb'):=e1.cell 2;have h3:w2.drew.cell? ⟨s.st,2,none⟩=some (ptr eb):=he;rw[h3]at h2;injection h2 with h2;injection h2 with h2;injection h2 with h2;injection h2 with h2;subst h2;have hq:ObV A.v o w2.drew (ptr eb) ⟨0,[]⟩:=⟨eb,_,rfl,e2,e3,a_v.nil _ _⟩;obtain⟨w7,hup,hg7,hm7⟩:=hSd.pl.om.put underlying150 hc hx (ptr eb) (⟨0,[]⟩:OG);obtain⟨ha,hK,_,_,hov⟩:=hSd.map_alt hSd.pl.om.obj hSd.pl.tx hg7;refine⟨w7,hup,?_,((Alt.of_new hn).drew.grown hg7 fun r e=>.inl (.inr (.inl (Option.some.inj e).symm)))⟩;refine hSd.objs hg7 (Nat.le_succ c) (hm7 (ObV A.v o w7) (hov _ _ hq) fun k y _ v hv=>hov _ _ hv) (fun b hb=>?_) fun p hp=>?_
 ·obtain⟨p,hp,hb⟩:=List.mem_flatMap.1 hb
  rcases a_C hp with rfl|hp
  ·cases hb
  ·exact hSd.bl b (e_i hp hb)
 ·rcases a_C hp with rfl|hp
  ·exact⟨Nat.zero_le _,(by show 0=(0+255)/256;decide),fun i _ h=>absurd h (Nat.not_lt_zero i)⟩
  ·exact hSd.ok _ (.inl ⟨p.1,hp⟩)
theorem g_D(hS:VSt A s bad oo bc xb yb c g w)(hP:OkP (absG bc g))(hC:a_q w C R dc)(hk:C.kind=1)(hr0:W_ g.ths C.name 4≠0) :
  Calls prog 45 #[ptr s.st,cmV C drive keep R dc] w (VDo A s bad oo xb yb c (doT (absG bc g) C).1 (doT (absG bc g) C).2 w):=by
 have e1:doT (absG bc g) C=(Td.no (W_ g.ths C.name 4),absG bc g):=by
  have h1:=d_a (byT bc) g.ths C.name 4;unfold doT;rw[if_pos hk,if_neg (by show W_ (F_ (byT bc) g.ths) C.name 4≠0;rw[h1];exact hr0)]
  show(Td.no (W_ (F_ (byT bc) g.ths) C.name 4),_)=_;rw[h1]
 rw[e1];clear e1;obtain⟨W1,hW1,hN1,hr,hcm,hz⟩:=H_ (w:=w) (cs:=cmL C.kind C.name C.other C.off C.count drive keep R C.dn dc);obtain⟨c0,c1,c2,c3,c4,c5,c6,c7⟩:=p_ hcm.o;rw[hk]at c0;have hNH:=Hd hN1;have hS1:=hS.new' hN1 (C_ oo w);have hSH:=Hd hS1;have s0:=hS1.c0;have hrm:Hid (∀w',New W1 w'->Calls prog 91 #[.map (some xb),encStr C.name,.int .i64 4] w' fun e w''=>e=.returned (.int .i64 (W_ g.ths C.name 4))/\New w' w''):=fun w' hn=>h_a xb c 4 C.name g.ths w' (hS1.new hn).pl.om hC.nl (by omega) (by have:=t_c hP;omega)
 obtain⟨cd,hcd⟩:∃cd,Hid (cd=W_ g.ths C.name 4):=⟨_,rfl⟩;rw[<-hcd.o]at hrm hr0 ⊢;obtain⟨nm,hnm⟩:∃nm,Hid (nm=C.name):=⟨_,rfl⟩;rw[<-hnm.o]at c1 hrm;have k0:=t_.keep c1;have k1:=t_.keep s0;clear hN1 hS hC hk hS1;go_enter func45,ntmps45;go_upto_region 1 with fail;rw[<-hW1];clear hW1;go_upto_region 4 with fail
 (refine d_ (by kernel_rfl) (by kernel_rfl) ?_;(repeat (first|go_big_quiet_step (first|(go_at_call 91;exact t_.call _ (hrm.o _ (t_.is _))))|quiet_step (first|(go_at_call 91;exact t_.call _ (hrm.o _ (t_.is _))))));refine wpQuiet_nil ?_;rintro W2 ⟨⟨_,hn_W2⟩,rfl⟩)
 have hn2:=Hd hn_W2;clear k0 k1;go_wp2_with (go_at_call 53;refine(X_ cd _).mono ?_;rintro e w2 ⟨rfl,hn3⟩;have hn3H:=Hd (hn2.o.next hn3);obtain⟨⟨r0,r1,r2,r3,r4⟩,⟨y0,y1,y2,y3,y4⟩,hx⟩:=g_ (hr.o.new (hn2.o.next hn3)));exact bodyPost_ret (by simp[results,results45,go_sem,hx.o]) rfl (VDo.same (t:=Td.no cd) hSH.o hNH.o hr.o (Nat.le_succ _) hn3H.o (TdN.no _ _ _))
theorem o_7(hS:VSt A s bad oo bc xb yb c g w)(hP:OkP (absG bc g))(hC:a_q w C R dc)(hcl:c<maxLen)(hk:C.kind=1)(hr0:W_ g.ths C.name 4=0) :
  Calls prog 45 #[ptr s.st,cmV C drive keep R dc] w (VDo A s bad oo xb yb c (doT (absG bc g) C).1 (doT (absG bc g) C).2 w):=by
 have e1:doT (absG bc g) C=(Td.no 0,⟨put (absG bc g).ths C.name By.none,(absG bc g).shs⟩):=by
  have h1:=d_a (byT bc) g.ths C.name 4;unfold doT;rw[if_pos hk,if_pos (by show W_ (F_ (byT bc) g.ths) C.name 4=0;rw[h1];exact hr0)]
 rw[e1];clear e1;obtain⟨W1,hW1,hN1,hr,hcm,hz⟩:=H_ (w:=w) (cs:=cmL C.kind C.name C.other C.off C.count drive keep R C.dn dc);obtain⟨c0,c1,c2,c3,c4,c5,c6,c7⟩:=p_ hcm.o;rw[hk]at c0;have hNH:=Hd hN1;have hS1:=hS.new' hN1 (C_ oo w);have hSH:=Hd hS1;have s0:=hS1.c0;obtain⟨eb,hSb⟩:=hS1.bk;have s2:=hSb.cell 2;simp at s2;have hrm:Hid (∀w',New W1 w'->Calls prog 91 #[.map (some xb),encStr C.name,.int .i64 4] w' fun e w''=>e=.returned (.int .i64 0)/\New w' w''):=fun w' hn=>by
  have:=h_a xb c 4 C.name g.ths w' (hS1.new hn).pl.om hC.nl (by omega) (by have:=t_c hP;omega)
  rw[hr0]at this;exact this
 have hnl:=Hd hC.nl;obtain⟨nm,hnm⟩:∃nm,Hid (nm=C.name):=⟨_,rfl⟩;rw[<-hnm.o]at c1 hrm hnl ⊢;have k0:=t_.keep c1;have k1:=t_.keep s0;clear hN1 hS hC hk hS1 hr0 hSb;go_enter func45,ntmps45;go_upto_region 1 with fail;rw[<-hW1];clear hW1;go_upto_region 4 with fail
 (refine d_ (by kernel_rfl) (by kernel_rfl) ?_;(repeat (first|go_big_quiet_step (first|(go_at_call 91;exact t_.call _ (hrm.o _ (t_.is _))))|quiet_step (first|(go_at_call 91;exact t_.call _ (hrm.o _ (t_.is _))))));refine wpQuiet_nil ?_;rintro W2 ⟨⟨_,hn_W2⟩,rfl⟩)
 have hn2:=hn_W2;have s0:=(hSH.o.new hn2).c0;have s2:=(hn2.cell (a_ s2)).trans s2;have c1:=(hn2.cell (a_ c1)).trans c1;obtain⟨w7,hup,hS7,ha7⟩:=n_q A s bad bc xb yb c g hSH.o hn2 hcl hnl.o s2;have hr7:=Hd (ha7.o.blk hr.o (hSH.o.apart hr.o (by decide)))
 clear k0 k1 hn2 hn_W2;go_upto_region 7 with fail;go_region_law (refine step_mapUpdate_run (by rfl) _ _ _ 150 (by rfl) _ _ _ (by rfl) (by rfl) (by rfl) hup ?_)
 all_goals
  obtain⟨⟨r0,r1,r2,r3,r4⟩,⟨y0,y1,y2,y3,y4⟩,hx⟩:=g_ hr7.o;go_wp2;exact bodyPost_ret (by simp[results,results45,go_sem,hx.o]) rfl (VDo.told (t:=Td.no 0) hSH.o hNH.o hr.o (Nat.le_succ _) hS7.o (c_0 _ hNH.o.size) (TdN.no _ _ _) (i_P rfl rfl) ha7.o)
theorem s_0(hS:VSt A s bad oo bc xb yb c g w)(hP:OkP (absG bc g))(hC:a_q w C R dc)(hk:C.kind=6) :
  Calls prog 45 #[ptr s.st,cmV C drive keep R dc] w (VDo A s bad oo xb yb c (doT (absG bc g) C).1 (doT (absG bc g) C).2 w):=by
 have e1:doT (absG bc g) C=(⟨0,0,By.none,g.ths.map (·.1)⟩,absG bc g):=by
  unfold doT;rw[if_neg (by omega),if_pos hk]
  show((⟨0,0,By.none,(F_ (byT bc) g.ths).map (·.1)⟩:Td),_)=_;rw[g_d]
 rw[e1];clear e1;obtain⟨W1,hW1,hN1,hr,hcm,hz⟩:=H_ (w:=w) (cs:=cmL C.kind C.name C.other C.off C.count drive keep R C.dn dc);obtain⟨c0,c1,c2,c3,c4,c5,c6,c7⟩:=p_ hcm.o;rw[hk]at c0;have hNH:=Hd hN1;have hS1:=hS.new' hN1 (C_ oo w);have hSH:=Hd hS1;have s0:=hS1.c0;have hnm:=Hd (r_u xb c g.ths W1 hS1.pl.om (by have:=t_c hP;omega))
 clear hN1 hS hC hk hS1;go_enter func45,ntmps45;go_upto_region 1 with fail;rw[<-hW1];clear hW1;go_wp2_with fail;refine hnm.o.mono ?_;rintro e w2 ⟨v,rfl,hN,hNo,hn2⟩;obtain⟨B,j,rfl,_⟩:=h_ hN;obtain⟨q,hq⟩:∃q,q=(g.ths.map (·.1)).length:=⟨_,rfl⟩;rw[<-hq];have hNo':b_l w.heap.size (.slice B q j):=fun k hk=>Nat.le_trans hNH.o.size (hNo k (by rw[<-hk,hq]))
 have hN':Ns w2 (.slice B q j) (g.ths.map (·.1)):=by rw[hq];exact hN
 obtain⟨⟨r0,r1,r2,r3,r4⟩,⟨y0,y1,y2,y3,y4⟩,hx⟩:=g_ (hr.o.new hn2);have hfin:=Hd (VDo.same (a0:=.int .i64 0) (a1:=.bool false) (a2:=.int .i64 0) (a3:=.slice none 0 0) (a4:=.slice B q j) (t:=⟨0,0,By.none,g.ths.map (·.1)⟩) hSH.o hNH.o hr.o (Nat.le_succ _) hn2 ⟨_,_,rfl,Bs.nil _,hN',b_l.nil _,hNo'⟩);clear hN hN' hNo hNo' hn2 hq;show _;dsimp only;go_wp2;exact bodyPost_ret (by simp[results,results45,go_sem,hx.o]) rfl hfin.o
theorem q_c(hS:VSt A s bad oo bc xb yb c g w)(hP:OkP (absG bc g))(hC:a_q w C R dc)(hk:C.kind=11) :
  Calls prog 45 #[ptr s.st,cmV C drive keep R dc] w (VDo A s bad oo xb yb c (doT (absG bc g) C).1 (doT (absG bc g) C).2 w):=by
 have e1:doT (absG bc g) C=(⟨0,0,By.none,g.shs.map (·.1)⟩,absG bc g):=by
  unfold doT;rw[if_neg (by omega),if_neg (by omega),if_pos hk]
  show((⟨0,0,By.none,(F_ (a_c bc) g.shs).map (·.1)⟩:Td),_)=_;rw[g_d]
 rw[e1];clear e1;obtain⟨W1,hW1,hN1,hr,hcm,hz⟩:=H_ (w:=w) (cs:=cmL C.kind C.name C.other C.off C.count drive keep R C.dn dc);obtain⟨c0,c1,c2,c3,c4,c5,c6,c7⟩:=p_ hcm.o;rw[hk]at c0;have hNH:=Hd hN1;have hS1:=hS.new' hN1 (C_ oo w);have hSH:=Hd hS1;have s1:=hS1.c1;have hnm:=Hd (r_t yb c g.shs W1 hS1.pl.nm (by have:=t_d hP;omega))
 clear hN1 hS hC hk hS1;go_enter func45,ntmps45;go_upto_region 1 with fail;rw[<-hW1];clear hW1;go_wp2_with fail;refine hnm.o.mono ?_;rintro e w2 ⟨v,rfl,hN,hNo,hn2⟩;obtain⟨B,j,rfl,_⟩:=h_ hN;obtain⟨q,hq⟩:∃q,q=(g.shs.map (·.1)).length:=⟨_,rfl⟩;rw[<-hq];have hNo':b_l w.heap.size (.slice B q j):=fun k hk=>Nat.le_trans hNH.o.size (hNo k (by rw[<-hk,hq]))
 have hN':Ns w2 (.slice B q j) (g.shs.map (·.1)):=by rw[hq];exact hN
 obtain⟨⟨r0,r1,r2,r3,r4⟩,⟨y0,y1,y2,y3,y4⟩,hx⟩:=g_ (hr.o.new hn2);have hfin:=Hd (VDo.same (a0:=.int .i64 0) (a1:=.bool false) (a2:=.int .i64 0) (a3:=.slice none 0 0) (a4:=.slice B q j) (t:=⟨0,0,By.none,g.shs.map (·.1)⟩) hSH.o hNH.o hr.o (Nat.le_succ _) hn2 ⟨_,_,rfl,Bs.nil _,hN',b_l.nil _,hNo'⟩);clear hN hN' hNo hNo' hn2 hq;show _;dsimp only;go_wp2;exact bodyPost_ret (by simp[results,results45,go_sem,hx.o]) rfl hfin.o
theorem r_Y(hF:e_R A s bad)(hS:VSt A s bad oo bc xb yb c g w)(hP:OkP (absG bc g))(hC:a_q w C R dc)(hcl:c<maxLen)(hk:C.kind=7\/C.kind=8\/C.kind=9\/C.kind=10) :
  Calls prog 45 #[ptr s.st,cmV C drive keep R dc] w (VDo A s bad oo xb yb c (doT (absG bc g) C).1 (doT (absG bc g) C).2 w):=by
 have e1:doT (absG bc g) C=a_1 (absG bc g) C:=by unfold doT;rw[if_neg (by omega),if_neg (by omega),if_neg (by omega),if_pos hk]
 rw[e1];clear e1;obtain⟨W1,hW1,hN1,hr,hcm,hz⟩:=H_ (w:=w) (cs:=cmL C.kind C.name C.other C.off C.count drive keep R C.dn dc);obtain⟨c0,c1,c2,c3,c4,c5,c6,c7⟩:=p_ hcm.o;have hNH:=Hd hN1;have hS1:=hS.new' hN1 (C_ oo w);have hSH:=Hd hS1;have hsn:=Hd (o_S A s bad (tag0 oo w) bc xb yb c g C drive keep R dc W1 hF hS1 hP (hC.new hN1) hcl hk);obtain⟨t,ht⟩:∃t,Hid (t=(a_1 (absG bc g) C).1):=⟨_,rfl⟩;obtain⟨s',hs'⟩:∃s',Hid (s'=(a_1 (absG bc g) C).2):=⟨_,rfl⟩;rw[<-ht.o,<-hs'.o]at hsn ⊢;clear hN1 hS hC hS1;have key:∀k,C.kind=k->(k=7\/k=8\/k=9\/k=10)->Calls prog 94 #[ptr s.st,.agg (cmL k C.name C.other C.off C.count drive keep R C.dn dc)] W1 (VDo A s bad (tag0 oo w) xb yb c t s' W1):=fun k hk _=>by
  rw[<-hk];exact hsn.o
 rcases hk with hk|hk|hk|hk
 ·have hsn:=Hd (key 7 hk (by omega))
  rw[hk]at c0;clear key hk;go_enter func45,ntmps45;go_upto_region 1 with fail;rw[<-hW1];clear hW1;go_wp2_with fail;refine hsn.o.mono ?_;rintro e w2 hD;obtain⟨A,n,k,B,m,j,rfl⟩:=hD.form;obtain⟨⟨r0,r1,r2,r3,r4⟩,⟨y0,y1,y2,y3,y4⟩,hx⟩:=g_ (hD.blk hSH.o hr.o);have hfin:=Hd (hD.lift hSH.o hNH.o hr.o (Nat.le_succ _));clear hD;show _;dsimp only;go_wp2;exact bodyPost_ret (by simp[results,results45,go_sem,hx.o]) rfl hfin.o
 ·have hsn:=Hd (key 8 hk (by omega))
  rw[hk]at c0;clear key hk;go_enter func45,ntmps45;go_upto_region 1 with fail;rw[<-hW1];clear hW1;go_wp2_with fail;refine hsn.o.mono ?_;rintro e w2 hD;obtain⟨A,n,k,B,m,j,rfl⟩:=hD.form;obtain⟨⟨r0,r1,r2,r3,r4⟩,⟨y0,y1,y2,y3,y4⟩,hx⟩:=g_ (hD.blk hSH.o hr.o);have hfin:=Hd (hD.lift hSH.o hNH.o hr.o (Nat.le_succ _));clear hD;show _;dsimp only;go_wp2;exact bodyPost_ret (by simp[results,results45,go_sem,hx.o]) rfl hfin.o
 ·have hsn:=Hd (key 9 hk (by omega))
  rw[hk]at c0;clear key hk;go_enter func45,ntmps45;go_upto_region 1 with fail;rw[<-hW1];clear hW1;go_wp2_with fail;refine hsn.o.mono ?_;rintro e w2 hD;obtain⟨A,n,k,B,m,j,rfl⟩:=hD.form;obtain⟨⟨r0,r1,r2,r3,r4⟩,⟨y0,y1,y2,y3,y4⟩,hx⟩:=g_ (hD.blk hSH.o hr.o);have hfin:=Hd (hD.lift hSH.o hNH.o hr.o (Nat.le_succ _));clear hD;show _;dsimp only;go_wp2;exact bodyPost_ret (by simp[results,results45,go_sem,hx.o]) rfl hfin.o
 ·have hsn:=Hd (key 10 hk (by omega))
  rw[hk]at c0;clear key hk;go_enter func45,ntmps45;go_upto_region 1 with fail;rw[<-hW1];clear hW1;go_wp2_with fail;refine hsn.o.mono ?_;rintro e w2 hD;obtain⟨A,n,k,B,m,j,rfl⟩:=hD.form;obtain⟨⟨r0,r1,r2,r3,r4⟩,⟨y0,y1,y2,y3,y4⟩,hx⟩:=g_ (hD.blk hSH.o hr.o);have hfin:=Hd (hD.lift hSH.o hNH.o hr.o (Nat.le_succ _));clear hD;show _;dsimp only;go_wp2;exact bodyPost_ret (by simp[results,results45,go_sem,hx.o]) rfl hfin.o
theorem r_Z(hS:VSt A s bad oo bc xb yb c g w)(hC:a_q w C R dc)(hk:C.kind=2\/C.kind=3\/C.kind=4\/C.kind=5)(hg:pool.get g.ths C.name=none) :
  Calls prog 45 #[ptr s.st,cmV C drive keep R dc] w (VDo A s bad oo xb yb c (doT (absG bc g) C).1 (doT (absG bc g) C).2 w):=by
 have e1:doT (absG bc g) C=(Td.no 6,absG bc g):=by
  unfold doT;rw[if_neg (by omega),if_neg (by omega),if_neg (by omega),if_neg (by omega),if_pos hk,show pool.get (absG bc g).ths C.name=none from by show pool.get (F_ (byT bc) g.ths) C.name=none;rw[b_h,hg];rfl]
 rw[e1];clear e1;obtain⟨W1,hW1,hN1,hr,hcm,hz⟩:=H_ (w:=w) (cs:=cmL C.kind C.name C.other C.off C.count drive keep R C.dn dc);obtain⟨c0,c1,c2,c3,c4,c5,c6,c7⟩:=p_ hcm.o;have hNH:=Hd hN1;have hS1:=hS.new' hN1 (C_ oo w);have hSH:=Hd hS1;have s0:=hS1.c0;obtain⟨x,hlk,hsome,_⟩:=(hS1.new (New.refl W1).drew).pl.om.look underlying150 (l_M _) hC.nl;rw[hg,show(none:Option OG).isSome=false from rfl]at hlk
 obtain⟨nm,hnm⟩:∃nm,Hid (nm=C.name):=⟨_,rfl⟩;rw[<-hnm.o]at c1 hlk;clear hN1 hS hC hS1 hg hsome;rcases hk with hk|hk|hk|hk
 ·rw[hk]at c0
  clear hk;go_enter func45,ntmps45;go_upto_region 1 with fail;rw[<-hW1];clear hW1;go_upto_region 21 with fail;go_region;go_wp2_with (go_at_call 53;refine(X_ 6 _).mono ?_;rintro e w2 ⟨rfl,hn2⟩;have hn2H:=Hd (New.next (New.refl W1).drew hn2);obtain⟨⟨r0,r1,r2,r3,r4⟩,⟨y0,y1,y2,y3,y4⟩,hx⟩:=g_ (hr.o.new (New.next (New.refl W1).drew hn2)));exact bodyPost_ret (by simp[results,results45,go_sem,hx.o]) rfl (VDo.same (t:=Td.no 6) hSH.o hNH.o hr.o (Nat.le_succ _) hn2H.o (TdN.no _ _ _))
 ·rw[hk]at c0
  clear hk;go_enter func45,ntmps45;go_upto_region 1 with fail;rw[<-hW1];clear hW1;go_upto_region 21 with fail;go_region;go_wp2_with (go_at_call 53;refine(X_ 6 _).mono ?_;rintro e w2 ⟨rfl,hn2⟩;have hn2H:=Hd (New.next (New.refl W1).drew hn2);obtain⟨⟨r0,r1,r2,r3,r4⟩,⟨y0,y1,y2,y3,y4⟩,hx⟩:=g_ (hr.o.new (New.next (New.refl W1).drew hn2)));exact bodyPost_ret (by simp[results,results45,go_sem,hx.o]) rfl (VDo.same (t:=Td.no 6) hSH.o hNH.o hr.o (Nat.le_succ _) hn2H.o (TdN.no _ _ _))
 ·rw[hk]at c0
  clear hk;go_enter func45,ntmps45;go_upto_region 1 with fail;rw[<-hW1];clear hW1;go_upto_region 21 with fail;go_region;go_wp2_with (go_at_call 53;refine(X_ 6 _).mono ?_;rintro e w2 ⟨rfl,hn2⟩;have hn2H:=Hd (New.next (New.refl W1).drew hn2);obtain⟨⟨r0,r1,r2,r3,r4⟩,⟨y0,y1,y2,y3,y4⟩,hx⟩:=g_ (hr.o.new (New.next (New.refl W1).drew hn2)));exact bodyPost_ret (by simp[results,results45,go_sem,hx.o]) rfl (VDo.same (t:=Td.no 6) hSH.o hNH.o hr.o (Nat.le_succ _) hn2H.o (TdN.no _ _ _))
 ·rw[hk]at c0
  clear hk;go_enter func45,ntmps45;go_upto_region 1 with fail;rw[<-hW1];clear hW1;go_upto_region 21 with fail;go_region;go_wp2_with (go_at_call 53;refine(X_ 6 _).mono ?_;rintro e w2 ⟨rfl,hn2⟩;have hn2H:=Hd (New.next (New.refl W1).drew hn2);obtain⟨⟨r0,r1,r2,r3,r4⟩,⟨y0,y1,y2,y3,y4⟩,hx⟩:=g_ (hr.o.new (New.next (New.refl W1).drew hn2)));exact bodyPost_ret (by simp[results,results45,go_sem,hx.o]) rfl (VDo.same (t:=Td.no 6) hSH.o hNH.o hr.o (Nat.le_succ _) hn2H.o (TdN.no _ _ _))
theorem r_X(hF:e_R A s bad)(hS:VSt A s bad oo bc xb yb c g w)(hP:OkP (absG bc g))(hC:a_q w C R dc)(hcl:c<maxLen){G:OG}(hk:C.kind=2\/C.kind=3\/C.kind=4\/C.kind=5)(hg:pool.get g.ths C.name=some G) :
  Calls prog 45 #[ptr s.st,cmV C drive keep R dc] w (VDo A s bad oo xb yb c (doT (absG bc g) C).1 (doT (absG bc g) C).2 w):=by
 have e1:doT (absG bc g) C=y_ (absG bc g) (byT bc G) C:=by
  unfold doT;rw[if_neg (by omega),if_neg (by omega),if_neg (by omega),if_neg (by omega),if_pos hk,show pool.get (absG bc g).ths C.name=some (byT bc G) from by show pool.get (F_ (byT bc) g.ths) C.name=_;rw[b_h,hg];rfl]
 rw[e1];clear e1;obtain⟨W1,hW1,hN1,hr,hcm,hz⟩:=H_ (w:=w) (cs:=cmL C.kind C.name C.other C.off C.count drive keep R C.dn dc);obtain⟨c0,c1,c2,c3,c4,c5,c6,c7⟩:=p_ hcm.o;have hNH:=Hd hN1;have hS1:=hS.new' hN1 (C_ oo w);have hSH:=Hd hS1;have s0:=hS1.c0;obtain⟨x,hlk,hsome,_⟩:=(hS1.new (New.refl W1).drew).pl.om.look underlying150 (l_M _) hC.nl;have hvx:=hsome G hg;obtain⟨ob,rfl⟩:∃ob,x=ptr ob:=by obtain⟨ob,bv,h,_⟩:=hvx;exact⟨ob,h⟩
 have hobj:=Hd (k_Q A s bad (tag0 oo w) bc xb yb c g C drive keep R dc ob G W1.drew hF (hS1.new (New.refl W1).drew) (hC.new (hN1.drew)) hcl hvx hk hg);rw[hg,show(some G:Option OG).isSome=true from rfl]at hlk
 obtain⟨t,ht⟩:∃t,Hid (t=(y_ (absG bc g) (byT bc G) C).1):=⟨_,rfl⟩;obtain⟨s',hs'⟩:∃s',Hid (s'=(y_ (absG bc g) (byT bc G) C).2):=⟨_,rfl⟩;rw[<-ht.o,<-hs'.o]at hobj ⊢;have key:∀k,C.kind=k->Calls prog 95 #[ptr s.st,ptr ob,.agg (cmL k C.name C.other C.off C.count drive keep R C.dn dc)] W1.drew (VDo A s bad (tag0 oo w) xb yb c t s' W1.drew):=fun k hk=>by
  rw[<-hk];exact hobj.o
 have hSD:=Hd (hS1.new (New.refl W1).drew);have hND:Hid (New w W1.drew):=hN1.drew;have hrD:Hid (Blk W1.drew (w.heap.size+1) 38 #[.int .i64 0,.bool false,.int .i64 0,.slice none 0 0,.slice none 0 0]):=hr.o.drew;clear hN1 hS hC hS1 hg hsome hvx;obtain⟨nm,hnm⟩:∃nm,Hid (nm=C.name):=⟨_,rfl⟩;rw[<-hnm.o]at c1 hlk key;rcases hk with hk|hk|hk|hk
 ·have hob:=Hd (key 2 hk)
  rw[hk]at c0;clear hk key;go_enter func45,ntmps45;go_upto_region 1 with fail;rw[<-hW1];clear hW1;go_upto_region 21 with fail;go_region;go_wp2_with fail;refine hob.o.mono ?_;rintro e w2 hD;obtain⟨A,n,k,B,m,j,rfl⟩:=hD.form;obtain⟨⟨r0,r1,r2,r3,r4⟩,⟨y0,y1,y2,y3,y4⟩,hx⟩:=g_ (hD.blk hSD.o hrD.o);have hfin:=Hd (hD.lift hSD.o hND.o hrD.o (Nat.le_succ _));clear hD;show _;dsimp only;go_wp2;exact bodyPost_ret (by simp[results,results45,go_sem,hx.o]) rfl hfin.o
 ·have hob:=Hd (key 3 hk)
  rw[hk]at c0;clear hk key;go_enter func45,ntmps45;go_upto_region 1 with fail;rw[<-hW1];clear hW1;go_upto_region 21 with fail;go_region;go_wp2_with fail;refine hob.o.mono ?_;rintro e w2 hD;obtain⟨A,n,k,B,m,j,rfl⟩:=hD.form;obtain⟨⟨r0,r1,r2,r3,r4⟩,⟨y0,y1,y2,y3,y4⟩,hx⟩:=g_ (hD.blk hSD.o hrD.o);have hfin:=Hd (hD.lift hSD.o hND.o hrD.o (Nat.le_succ _));clear hD;show _;dsimp only;go_wp2;exact bodyPost_ret (by simp[results,results45,go_sem,hx.o]) rfl hfin.o
 ·have hob:=Hd (key 4 hk)
  rw[hk]at c0;clear hk key;go_enter func45,ntmps45;go_upto_region 1 with fail;rw[<-hW1];clear hW1;go_upto_region 21 with fail;go_region;go_wp2_with fail;refine hob.o.mono ?_;rintro e w2 hD;obtain⟨A,n,k,B,m,j,rfl⟩:=hD.form;obtain⟨⟨r0,r1,r2,r3,r4⟩,⟨y0,y1,y2,y3,y4⟩,hx⟩:=g_ (hD.blk hSD.o hrD.o);have hfin:=Hd (hD.lift hSD.o hND.o hrD.o (Nat.le_succ _));clear hD;show _;dsimp only;go_wp2;exact bodyPost_ret (by simp[results,results45,go_sem,hx.o]) rfl hfin.o
 ·have hob:=Hd (key 5 hk)
  rw[hk]at c0;clear hk key;go_enter func45,ntmps45;go_upto_region 1 with fail;rw[<-hW1];clear hW1;go_upto_region 21 with fail;go_region;go_wp2_with fail;refine hob.o.mono ?_;rintro e w2 hD;obtain⟨A,n,k,B,m,j,rfl⟩:=hD.form;obtain⟨⟨r0,r1,r2,r3,r4⟩,⟨y0,y1,y2,y3,y4⟩,hx⟩:=g_ (hD.blk hSD.o hrD.o);have hfin:=Hd (hD.lift hSD.o hND.o hrD.o (Nat.le_succ _));clear hD;show _;dsimp only;go_wp2;exact bodyPost_ret (by simp[results,results45,go_sem,hx.o]) rfl hfin.o
theorem r_W(hS:VSt A s bad oo bc xb yb c g w)(hC:a_q w C R dc)(hk:C.kind=12) :
  Calls prog 45 #[ptr s.st,cmV C drive keep R dc] w (VDo A s bad oo xb yb c (doT (absG bc g) C).1 (doT (absG bc g) C).2 w):=by
 have e1:doT (absG bc g) C=(Td.no 0,absG bc g):=by unfold doT;rw[if_neg (by omega),if_neg (by omega),if_neg (by omega),if_neg (by omega),if_neg (by omega),if_pos hk]
 rw[e1];clear e1;obtain⟨W1,hW1,hN1,hr,hcm,hz⟩:=H_ (w:=w) (cs:=cmL C.kind C.name C.other C.off C.count drive keep R C.dn dc);obtain⟨c0,c1,c2,c3,c4,c5,c6,c7⟩:=p_ hcm.o;have hNH:=Hd hN1;have hS1:=hS.new' hN1 (C_ oo w);have hSH:=Hd hS1;have s0:=hS1.c0;rw[hk]at c0;clear hN1 hS hC hS1 hk;obtain⟨⟨r0,r1,r2,r3,r4⟩,⟨y0,y1,y2,y3,y4⟩,hx⟩:=g_ hr.o;go_enter func45,ntmps45;go_upto_region 1 with fail;rw[<-hW1];clear hW1;go_wp2;exact bodyPost_ret (by simp[results,results45,go_sem,hx.o]) rfl (VDo.same (t:=Td.no 0) hSH.o hNH.o hr.o (Nat.le_succ _) (New.refl _) (TdN.no _ _ _))
theorem q_d(hS:VSt A s bad oo bc xb yb c g w)(hC:a_q w C R dc)(hk:¬(1<=C.kind/\C.kind<=12)) :
  Calls prog 45 #[ptr s.st,cmV C drive keep R dc] w (VDo A s bad oo xb yb c (doT (absG bc g) C).1 (doT (absG bc g) C).2 w):=by
 have e1:doT (absG bc g) C=(Td.no 3,absG bc g):=by unfold doT;rw[if_neg (by omega),if_neg (by omega),if_neg (by omega),if_neg (by omega),if_neg (by omega),if_neg (by omega)]
 rw[e1];clear e1;obtain⟨W1,hW1,hN1,hr,hcm,hz⟩:=H_ (w:=w) (cs:=cmL C.kind C.name C.other C.off C.count drive keep R C.dn dc);obtain⟨c0,c1,c2,c3,c4,c5,c6,c7⟩:=p_ hcm.o;have hNH:=Hd hN1;have hS1:=hS.new' hN1 (C_ oo w);have hSH:=Hd hS1;have s0:=hS1.c0;obtain⟨k,hkk⟩:∃k,Hid (k=C.kind):=⟨_,rfl⟩;rw[<-hkk.o]at c0 hk;have h1:k≠1:=by omega
 have h2:k≠2:=by omega
 have h3:k≠3:=by omega
 have h4:k≠4:=by omega
 have h5:k≠5:=by omega
 have h6:k≠6:=by omega
 have h7:k≠7:=by omega
 have h8:k≠8:=by omega
 have h9:k≠9:=by omega
 have h10:k≠10:=by omega
 have h11:k≠11:=by omega
 have h12:k≠12:=by omega
 clear hN1 hS hC hS1 hk;go_enter func45,ntmps45;go_upto_region 1 with fail;rw[<-hW1];clear hW1;go_wp2_with (go_at_call 53;refine(X_ 3 _).mono ?_;rintro e w2 ⟨rfl,hn2⟩;have hn2H:=Hd hn2;obtain⟨⟨r0,r1,r2,r3,r4⟩,⟨y0,y1,y2,y3,y4⟩,hx⟩:=g_ (hr.o.new hn2));exact bodyPost_ret (by simp[results,results45,go_sem,hx.o]) rfl (VDo.same (t:=Td.no 3) hSH.o hNH.o hr.o (Nat.le_succ _) hn2H.o (TdN.no _ _ _))
theorem t_K(hF:e_R A s bad)(hS:VSt A s bad oo bc xb yb c g w)(hP:OkP (absG bc g))(hC:a_q w C R dc)(hcl:c<maxLen) :
  Calls prog 45 #[ptr s.st,cmV C drive keep R dc] w (VDo A s bad oo xb yb c (doT (absG bc g) C).1 (doT (absG bc g) C).2 w):=by
 by_cases h:1<=C.kind/\C.kind<=12
 ·by_cases h1:C.kind=1
  ·by_cases hr:W_ g.ths C.name 4=0
   ·exact o_7 A s bad oo bc xb yb c g C drive keep R dc w hS hP hC hcl h1 hr
   ·exact g_D A s bad oo bc xb yb c g C drive keep R dc w hS hP hC h1 hr
  by_cases h2:C.kind=6
  ·exact s_0 A s bad oo bc xb yb c g C drive keep R dc w hS hP hC h2
  by_cases h3:C.kind=11
  ·exact q_c A s bad oo bc xb yb c g C drive keep R dc w hS hP hC h3
  by_cases h4:C.kind=12
  ·exact r_W A s bad oo bc xb yb c g C drive keep R dc w hS hC h4
  by_cases h5:C.kind=7\/C.kind=8\/C.kind=9\/C.kind=10
  ·exact r_Y A s bad oo bc xb yb c g C drive keep R dc w hF hS hP hC hcl h5
  have h6:C.kind=2\/C.kind=3\/C.kind=4\/C.kind=5:=by omega
  cases hg:pool.get g.ths C.name with
  |none=>exact r_Z A s bad oo bc xb yb c g C drive keep R dc w hS hC h6 hg
  |some b=>exact r_X A s bad oo bc xb yb c g C drive keep R dc w hF hS hP hC hcl h6 hg
 ·exact q_d A s bad oo bc xb yb c g C drive keep R dc w hS hC h
end
end vault
namespace vault
set_option maxRecDepth 100000
open Go.ChangeShapes Go.WideShapes Go.ChangeAt kit drive Go.Deep
theorem k_D(so:Nat->Bool){s:DS}(h:s.ws=[]):a_d so s=s:=by
 obtain⟨pl,br,ws,dead⟩:=s;cases h;rfl
section
variable {A:VA}{o o':Nat->Nat}{s s':VS}{w w' w'':World}
theorem j_V(h:VM A o s w)(d:Nat)(hd:d<A.n):∃g pv wv dv,Dr (fun b=>i_Z o w d b=16+d) 0 (A.dr d) g 512 (s.ds d).pl (s.ds d).br (s.ds d).ws (s.ds d).dead pv wv dv w/\Ft (fun b=>o b=16+d) (A.dr d) g 0 0 (fun _=>.slice none 0 0) wv (fun _=>.slice none 0 0):=by
 have hdr:=h.dr d hd;obtain⟨g,pv,wv,dv,hD⟩:=hdr.keep (P':=fun b=>i_Z o w d b=16+d) (K:=fun _=>False) (Alt.refl w) (fun _ _ _ f=>f) fun b hb hp=>(a_e o w d b hb).trans hp;exact⟨g,pv,wv,dv,hD,(hdr.of).1,(a_e o w d g hD.pt.lt).symm.trans hD.ft.g,fun k hk=>(a_e o w d k (hD.wo.lt k hk).2).symm.trans (hD.ft.w k hk),fun i hi=>absurd hi (Nat.not_lt_zero i),fun i hi=>absurd hi (Nat.not_lt_zero i)⟩
set_option maxHeartbeats 2000000 in
theorem s_1(h:VM A o s w)(d:Nat)(hd:d<A.n)(hm:(s.ds d).ws.length<300)(hdd:(s.ds d).dead=false) :
  Calls prog 88 #[ptr (A.dr d),.agg #[.int .i64 7,.int .i64 0,.int .i64 0,.slice none 0 0]] w fun e w'=>(∃v,e=.returned v)/\b_V A o s d {s.ds d with dead:=true} w w':=by
 obtain⟨g,pv,wv,dv,hD,hft⟩:=j_V h d hd;have hf:v_ 512 (s.ds d).dead 7 0 0=0:=by
  unfold v_ Q_;rw[if_neg (by omega),if_neg (fun e=>by rw[hdd]at e;cases e.1),if_neg (by omega),if_neg (by omega)]
 refine(s_r _ 0 (A.dr d) g 512 (s.ds d).ws.length (s.ds d) pv wv dv 0 0 none 0 0 (fun _=>0) w hD (Nat.le_refl _) rfl hm (d_z w _) (Nat.le_refl _) (by unfold maxLen;omega) (Nat.zero_le _) hf).mono ?_
 intro e w' hp;have hst:(a_5 512 (s.ds d) 7 0 0 0 (fun _=>0)).1={s.ds d with dead:=true}:=by
  unfold a_5;rw[if_neg (by rw[hf];simp),if_neg (by decide),if_neg (by decide),if_neg (by decide),if_neg (by decide),if_neg (by decide),if_neg (by decide),if_pos rfl]
 rw[<-hst];exact b_V.of h hd hft hp
set_option maxHeartbeats 2000000 in
theorem q_f(h:VM A o s w)(d:Nat)(hd:d<A.n)(hm:(s.ds d).ws.length<300)(hw:(s.ds d).dead=true\/(s.ds d).ws=[])(kp:Int) :
  Calls prog 88 #[ptr (A.dr d),.agg #[.int .i64 4,.int .i64 0,.int .i64 kp,.slice none 0 0]] w fun e w'=>(∃v,e=.returned v)/\b_V A o s d (s.ds d) w w':=by
 obtain⟨g,pv,wv,dv,hD,hft⟩:=j_V h d hd
 by_cases hdd:(s.ds d).dead=true
 ·have hf:v_ 512 (s.ds d).dead 4 0 0=13:=by
   unfold v_;rw[if_neg (by omega),if_pos ⟨hdd,by decide⟩]
  refine(e_j _ 0 (A.dr d) g 512 (s.ds d).ws.length (s.ds d) pv wv dv 4 0 kp none 0 0 (fun _=>0) w hD (Nat.le_refl _) rfl hm (d_z w _) (Nat.le_refl _) (by unfold maxLen;omega) (Nat.zero_le _) (by rw[hf];decide)).mono ?_
  rintro e w' ⟨rv,rfl,_,hn⟩;exact⟨⟨_,rfl⟩,b_V.new h hn⟩
 ·have hf:v_ 512 (s.ds d).dead 4 0 0=0:=by
   unfold v_ Q_;rw[if_neg (by omega),if_neg (fun e=>hdd e.1),if_neg (by omega),if_neg (by omega)]
  refine(q_T _ 0 (A.dr d) g 512 (s.ds d).ws.length (s.ds d) pv wv dv 0 kp none 0 0 (fun _=>0) w hD (Nat.le_refl _) rfl hm (d_z w _) (Nat.le_refl _) (by unfold maxLen;omega) (Nat.zero_le _) hf).mono ?_
  intro e w' hp;have hst:(a_5 512 (s.ds d) 4 0 kp 0 (fun _=>0)).1=s.ds d:=by
   unfold a_5;rw[if_neg (by rw[hf];simp),if_neg (by decide),if_neg (by decide),if_neg (by decide),if_pos rfl]
   exact k_D _ (hw.resolve_left hdd)
  have:=b_V.of h hd hft hp;rw[hst]at this;exact this
def b_8(s:VS)(d:Nat):VS:={s with ds:=fun i=>if i=d then {s.ds d with dead:=true}else s.ds i,dead:=fun i=>if i=d then true else s.dead i}
theorem VM.died(hA:VOk A)(h:VM A o s w){d:Nat}(hd:d<A.n):VM A o {s with dead:=fun i=>if i=d then true else s.dead i} (w.setCell ⟨A.eb,d,none⟩ (.bool true)):=by
 have ha:Alt (fun b=>b=A.eb) w (w.setCell ⟨A.eb,d,none⟩ (.bool true)):=Alt.set (K:=fun b=>b=A.eb) (Alt.refl w) (.inl rfl) _;obtain⟨cs,hc,hc2⟩:=h.db;obtain⟨ce,he,_⟩:=O_ h.eb;refine⟨ha.blk h.bk (e_ h.bk he (by decide)),⟨cs,ha.blk hc (e_ hc he (by decide)),hc2⟩,?_,ha.row_is h.fb (fun e=>hA.ef e.symm),fun i hi=>(h.dr i hi).keep ha (fun b hb hp e=>by have:=h.oe;rw[e]at hp;omega) fun b hb hp=>hp,h.ov,h.od,h.oe,h.of⟩
 exact(h.eb.set d (.bool true)).congr fun i hi=>by
  show(if i=d then Value.bool true else .bool (s.dead i))=.bool (if i=d then true else s.dead i);split<;>rfl
def f_9(A:VA)(o:Nat->Nat)(s:VS)(d:Nat)(w w':World):Prop:=∃o',s_ o o' w/\VM A o' (b_8 s d) w'/\Alt (fun b=>o b=16+d\/b=A.eb) w w'
theorem b_V.fail(hA:VOk A){d:Nat}(hd:d<A.n)(h:b_V A o s d {s.ds d with dead:=true} w w'):Hid (f_9 A o s d w (w'.setCell ⟨A.eb,d,none⟩ (.bool true))):=by
 obtain⟨o',h1,h2,h3⟩:=h;exact⟨o',h1,h2.died hA hd,(h3.weak fun k hk=>.inl hk).trans (Alt.set (K:=fun b=>o b=16+d\/b=A.eb) (Alt.refl w') (.inl (.inr rfl)) _)⟩
theorem f_9.told{d p:Nat}{w3:World}(h:f_9 A (tag0 o w) s d w' w'')(hn:New w w')(hp:w.heap.size<=p)(hp2:p<w'.heap.size)(ha:Alt (fun b=>b=p) w'' w3):f_9 A o s d w w3:=by
 obtain⟨o',h1,h2,h3⟩:=h;have ht:o' p=0:=(h1 p hp2).trans (z_ o w hp);refine⟨o',fun b hb=>(h1 b (Nat.lt_of_lt_of_le hb hn.size)).trans (f_ o w b hb),h2.keep ha (fun b hb e=>by subst e;omega) (s_.refl _ _),(Alt.of_new hn).trans' ((h3.weak (K':=fun b=>(tag0 o w b=16+d\/b=A.eb)\/b=p) fun k hk=>.inl hk).trans (ha.weak fun k hk=>.inr hk)) fun i hi=>?_⟩
 rcases hi with(hi|hi)|hi
 ·rcases Nat.lt_or_ge i w.heap.size with hl|hl
  ·exact .inl (.inl ((f_ o w i hl).symm.trans hi))
  ·exact .inr hl
 ·exact .inl (.inr hi)
 ·exact .inr (by omega)
set_option maxHeartbeats 2000000 in
theorem n_S(hA:VOk A)(h:VM A o s w)(d:Nat)(hd:d<A.n)(hm:(s.ds d).ws.length<300)(hdd:(s.ds d).dead=false)(n1 n2:Nm)(off count keep:Int)(R:Option Addr)(dn dc:Nat) :
  Calls prog 46 #[ptr A.v,.agg (cmL 16 n1 n2 off count (d:Nat) keep R dn dc)] w fun e w'=>e=.returned (.agg #[.int .i64 0,.bool false,.int .i64 0,.slice none 0 0,.slice none 0 0])/\f_9 A o s d w w':=by
 obtain⟨W1,hW1,hN1,hr,hcm,hz⟩:=H_ (w:=w) (cs:=cmL 16 n1 n2 off count (d:Nat) keep R dn dc);have hdo:=Hd (fun(w':World) (hn:New w w')=>s_1 (h.keep (o':=tag0 o w) (K:=fun _=>False) (Alt.of_new hn) (fun _ _ f=>f.elim) (f_ o w)) d hd hm hdd);replace hdo:Hid (∀w',New w w'->_):=hdo;have hAH:=Hd hA;have hdH:=Hd hd;have hNH:=Hd hN1;have v2:=(h.new hN1).v2;have vd:=(h.new hN1).drive hd;have hn8:=hA.n8;have hd0:(0:Int)<=(d:Int):=by omega
 have hdn:(d:Int)<(A.n:Int):=by omega
 obtain⟨x1,hx1⟩:∃x,Hid (x=encStr n1):=⟨_,rfl⟩;obtain⟨x2,hx2⟩:∃x,Hid (x=encStr n2):=⟨_,rfl⟩;unfold cmL at hW1 ⊢;rw[<-hx1.o,<-hx2.o]at hW1 ⊢;obtain⟨N,hN⟩:∃N,Hid (N=A.n):=⟨_,rfl⟩;obtain⟨dr,hdr⟩:∃dr,Hid (dr=A.dr d):=⟨_,rfl⟩;rw[<-hN.o]at hdn v2 hn8;rw[<-hdr.o]at hdo vd;have hkeep:Hid (∀w',New W1 w'->w'.cell? ⟨A.v,2,none⟩=some (.slice (some ⟨A.db,0,none⟩) N A.dc)/\w'.cell? ⟨A.db,d,none⟩=some (ptr dr)/\w'.cell? ⟨w.heap.size,0,none⟩=some (.int .i64 16)/\w'.cell? ⟨w.heap.size,3,none⟩=some (.int .i64 off)/\w'.cell? ⟨w.heap.size,5,none⟩=some (.int .i64 (d:Nat))):=fun w' hn'=>by
  obtain⟨c0,c1,c2,c3,c4,c5,c6,c7⟩:=p_ (hcm.o.new hn');exact⟨(hn'.cell (a_ v2)).trans v2,(hn'.cell (a_ vd)).trans vd,c0,c3,c5⟩
 obtain⟨k0,k1,k2,k3,k4⟩:=hkeep.o W1 (New.refl W1);have g1:¬(d:Int)<0:=by omega
 have g2:¬(N:Int)<=(d:Int):=by omega
 clear h hd hA hm hdd hN1 v2 vd;go_enter func46,ntmps46;go_upto_region 1 with fail;rw[<-hW1];clear hW1;go_region;go_wp2_with fail;go_region;go_wp2_with fail;have hN2:New w W1.drew.drew:=hNH.o.drew.drew;refine(hdo.o _ hN2).mono ?_;rintro e w2 ⟨⟨v,rfl⟩,hp⟩;have hfin:=b_V.fail hAH.o hdH.o hp;obtain⟨o',h1,hV,hq⟩:=hp;have hb1:Blk w2 (w.heap.size+1) 38 #[.int .i64 0,.bool false,.int .i64 0,.slice none 0 0,.slice none 0 0]:=hq.blk hr.o.drew.drew fun e=>by
  rw[z_ o w (by omega)]at e
  omega
 have hb2:=hq.blk hcm.o.drew.drew fun e=>by
  rw[z_ o w (by omega)]at e
  omega
 have v3:=hV.v3;have vb:=hV.eb.cell hdH.o;have vf:=hV.eb.frozen d;obtain⟨c0,c1,c2,c3,c4,c5,c6,c7⟩:=p_ hb2;obtain⟨ce,heb,_⟩:=O_ hV.eb;have hb3:=hb1.far (p:=⟨A.eb,d,none⟩) (e_ hb1 heb (by decide)) (.bool true)
 obtain⟨⟨r0,r1,r2,r3,r4⟩,⟨y0,y1,y2,y3,y4⟩,hx⟩:=g_ hb3;have hfin2:Hid (f_9 A o s d w (f_d (w2.setCell ⟨A.eb,d,none⟩ (.bool true)) (w.heap.size+1) (.int .i64 0) (.bool false) (.int .i64 0) (.slice none 0 0) (.slice none 0 0)).drew):=hfin.o.told hN2 (Nat.le_succ _) (by show _<W1.heap.size;rw[hz.o];omega) ((a_s _ _ _ _ _ _ _).next (New.refl _).drew)
 rw[<-hN.o]at v3;clear h1 hV hq hb1 hb2 hb3 heb hfin;go_wp2_with fail;go_region;go_wp2;exact bodyPost_ret (by simp[results,results46,go_sem,hx.o]) rfl ⟨rfl,hfin2.o⟩
set_option maxHeartbeats 2000000 in
theorem power_any(hA:VOk A)(h:VM A o s w)(hm:∀i,i<A.n->(s.ds i).ws.length<300)(hw:∀i,i<A.n->(s.ds i).dead=true\/(s.ds i).ws=[])(keep:Int){Q:World->Prop}(hop:∀w1,P_ A o s w w1->Calls prog 108 #[ptr A.v] w1 fun e w'=>e=.returned (.tuple #[])/\Q w') :
  Calls prog 51 #[ptr A.v,.int .i64 keep] w fun e w'=>e=.returned (.tuple #[])/\Q w':=by
 have hn8:=hA.n8;have v2:=h.v2;obtain⟨N,hN⟩:∃N,Hid (N=A.n):=⟨_,rfl⟩;rw[<-hN.o]at v2 hn8 hm hw;have hst:Hid (P_ A o s w w):=P_.start h;have hmH:=Hd hm;have hwH:=Hd hw;have hopH:=Hd hop;replace hopH:Hid (∀w1,_):=hopH;clear h hm hw hop;go_enter func51,ntmps51;go_wp2_with fail;go_loopw [11] (fun x wr=>∃i:Nat,x=.int .i64 i/\i<=N/\Hid (P_ A o s w wr)) (fun x _=>N-(intOf x).toNat);case atStart=>exact⟨0,rfl,by omega,hst⟩
 case round=>
  obtain⟨i,rfl,hi,hD⟩:=hrel;clear hst
  by_cases hlt:i<N
  ·have hiI:(i:Int)<(N:Int):=by omega
   have hi0:(0:Int)<=(i:Int):=by omega
   obtain⟨o1,s1,hV,a1⟩:=hD.o;have hiA:i<A.n:=by rw[<-hN.o];exact hlt
   have vd:=hV.drive hiA;have hdo:=Hd (fun kp=>q_f hV i hiA (hmH.o i hlt) (hwH.o i hlt) kp);replace hdo:Hid (∀kp:Int,_):=hdo;have hsH:=Hd s1;have haH:=Hd a1;clear s1 hV a1 hD v2;obtain⟨dr,hdr⟩:∃dr,Hid (dr=A.dr i):=⟨_,rfl⟩;rw[<-hdr.o]at vd hdo;go_wp2_with fail;refine(hdo.o _).mono ?_;rintro e w2 ⟨⟨v,rfl⟩,hp⟩;have hfin:=Hd (P_.trans hsH.o haH.o hp.drs);rw[VS.at_same]at hfin;clear hp;go_wp2;go_roundw;case rel=>exact⟨i+1,by go_num,by omega,hfin⟩
   case measure=>simp[intOf];omega
  ·obtain rfl:i=N:=by omega
   have hiI:¬(i:Int)<(i:Int):=by omega
   go_wp2_with fail;refine(hopH.o wr hD.o).mono ?_;rintro e w2 ⟨rfl,hq⟩;have hqH:=Hd hq;clear hq;go_wp2;exact Great.bodyPost_end0 rfl rfl ⟨rfl,hqH.o⟩
end
end vault
namespace vault
set_option maxRecDepth 100000
open Go.ChangeShapes Go.WideShapes Go.ChangeAt kit pool Go.Deep Go.Maps
abbrev e_W:Array Value:=#[.int .i64 0,.bool false,.int .i64 0,.slice none 0 0,.slice none 0 0]
theorem e_h{w:World}{v:Value}{cs:Array Value}:∃W1,W1=((w.alloc (.cells #[v] 56)).alloc (.cells cs 45)).alloc (.cells #[.int .i64 0,.bool false,.int .i64 0,.slice none 0 0,.slice none 0 0] 38)/\New w W1/\Hid (Blk W1 (w.heap.size+1+1) 38 e_W)/\Hid (Blk W1 (w.heap.size+1) 45 cs)/\Hid (Blk W1 w.heap.size 56 #[v])/\Hid (W1.heap.size=w.heap.size+3):=by
 have h1:=((Blk.fresh w 56 #[v]).alloc (.cells cs 45)).alloc (.cells e_W 38);have h2:=(Blk.fresh (w.alloc (.cells #[v] 56)) 45 cs).alloc (.cells e_W 38);have h3:=Blk.fresh ((w.alloc (.cells #[v] 56)).alloc (.cells cs 45)) 38 e_W;exact⟨_,rfl,(((New.refl w).alloc _).alloc _).alloc _,Hd (by simpa using h3),Hd (by simpa using h2),h1,Hd (by simp)⟩
set_option maxHeartbeats 4000000 in
theorem m_X{A:VA}{s:VS}{bad:List Nat}{o:Nat->Nat}{bc:Nat->Nat->Nat}{xb yb c:Nat}{g:GS}{C:Cm}{drive keep:Int}{R:Option Addr}{dc:Nat}{w:World}(hF:e_R A s bad)(hS:VSt A s bad o bc xb yb c g w)(hP:OkP (absG bc g))(hC:a_q w C R dc)(hcl:c<maxLen)(hk:1<=C.kind/\C.kind<=11)(hl:s.lost=false) :
  Calls prog 22 #[ptr A.v,cmV C drive keep R dc] w (VDo A s bad o xb yb c (doT (absG bc g) C).1 (doT (absG bc g) C).2 w):=by
 obtain⟨W1,hW1,hN1,hr,hcm,hvp,hz⟩:=e_h (w:=w) (v:=ptr A.v) (cs:=cmL C.kind C.name C.other C.off C.count drive keep R C.dn dc);obtain⟨c0,c1,c2,c3,c4,c5,c6,c7⟩:=p_ hcm.o;have cv:=hvp.o.cell 0;simp at cv;have hNH:=Hd hN1;have hS1:=hS.new' hN1.drew (C_ o w);have hSH:=Hd hS1;have v7:W1.cell? ⟨A.v,7,none⟩=_:=hS1.vm.v7;have v9:W1.cell? ⟨A.v,9,none⟩=_:=hS1.vm.v9;rw[hl]at v7;have hdo:=Hd (t_K A s bad (tag0 o w) bc xb yb c g C drive keep R dc W1.drew hF hS1 hP (hC.new hN1.drew) hcl);obtain⟨t,ht⟩:∃t,Hid (t=(doT (absG bc g) C).1):=⟨_,rfl⟩;obtain⟨s',hs'⟩:∃s',Hid (s'=(doT (absG bc g) C).2):=⟨_,rfl⟩;rw[<-ht.o,<-hs'.o]at hdo ⊢;obtain⟨k,hkk⟩:∃k,Hid (k=C.kind):=⟨_,rfl⟩;obtain⟨x1,hx1⟩:∃x,Hid (x=encStr C.name):=⟨_,rfl⟩;obtain⟨x2,hx2⟩:∃x,Hid (x=encStr C.other):=⟨_,rfl⟩;obtain⟨x3,hx3⟩:∃x,Hid (x=C.off):=⟨_,rfl⟩;obtain⟨x4,hx4⟩:∃x,Hid (x=C.count):=⟨_,rfl⟩;obtain⟨x5,hx5⟩:∃x,Hid (x=C.dn):=⟨_,rfl⟩;unfold cmV at hdo ⊢;unfold cmL at hdo hW1 ⊢;rw[<-hkk.o,<-hx1.o,<-hx2.o,<-hx3.o,<-hx4.o,<-hx5.o]at hdo hW1 ⊢;rw[<-hkk.o]at c0 hk;rw[<-hx1.o]at c1;rw[<-hx2.o]at c2;rw[<-hx3.o]at c3;rw[<-hx4.o]at c4;rw[<-hx5.o]at c7;have hk1:(1:Int)<=k:=hk.1;have hk2:k<=(11:Int):=hk.2;clear hN1 hS hC hS1 hk hF hP;go_enter func22,ntmps22;go_upto_region 1 with fail;rw[<-hW1];clear hW1;go_wp2_with fail;go_region_law
  (first
   |(go_simp;go_at_call 45;(with_reducible refine hdo.o.mono ?_);intro e w2 hD;obtain⟨A',n',k',B',m',j',rfl⟩:=hD.form;obtain⟨⟨r0,r1,r2,r3,r4⟩,⟨y0,y1,y2,y3,y4⟩,hx⟩:=g_ (hD.blk hSH.o hr.o.drew);have hfin:=Hd (hD.lift hSH.o hNH.o.drew hr.o.drew (Nat.le_add_right _ 2));clear hD;show _;dsimp only))
 all_goals go_wp2
 all_goals exact bodyPost_ret (by simp[results,results22,go_sem,hx.o]) rfl hfin.o
def t_N(Q:World->World->Prop)(w:World)(e:Ending)(w':World):Prop:=e=.returned (.agg e_W)/\∃w1 w2,New w w1/\Q w1 w2/\Alt (fun b=>b=w.heap.size+1+1) w2 w'/\w.heap.size+1+1<w1.heap.size
set_option maxHeartbeats 4000000 in
theorem q_u{A:VA}{s:VS}{o:Nat->Nat}{w:World}{Q:World->World->Prop}(h:VM A o s w)(hl:s.lost=false)(n1 n2:Nm)(off count drive keep:Int)(R:Option Addr)(dn dc:Nat)(hs:∀w1,New w w1->Calls prog 21 #[ptr A.v] w1 fun e w'=>e=.returned (.int .i64 0)/\Q w1 w')(hQ:∀w1 w2,New w w1->Q w1 w2->∀g cs,w.heap.size<=g->Blk w1 g 38 cs->Blk w2 g 38 cs) :
  Calls prog 22 #[ptr A.v,.agg (cmL 12 n1 n2 off count drive keep R dn dc)] w (t_N Q w):=by
 obtain⟨W1,hW1,hN1,hr,hcm,hvp,hz⟩:=e_h (w:=w) (v:=ptr A.v) (cs:=cmL 12 n1 n2 off count drive keep R dn dc);obtain⟨c0,c1,c2,c3,c4,c5,c6,c7⟩:=p_ hcm.o;have cv:=hvp.o.cell 0;simp at cv;have hNH:=Hd hN1;have v7:=(h.new hN1).v7;rw[hl]at v7;have hsy:=Hd (hs W1 hN1);have hq:=Hd (fun w2 hq=>hQ W1 w2 hN1 hq (w.heap.size+1+1) e_W (by omega) hr.o)
 replace hq:Hid (∀w2,_):=hq;obtain⟨x1,hx1⟩:∃x,Hid (x=encStr n1):=⟨_,rfl⟩;obtain⟨x2,hx2⟩:∃x,Hid (x=encStr n2):=⟨_,rfl⟩;unfold cmL at hW1 ⊢;rw[<-hx1.o,<-hx2.o]at hW1 ⊢;clear hN1 h hs hQ;go_enter func22,ntmps22;go_upto_region 1 with fail;rw[<-hW1];clear hW1;go_wp2_with fail;refine hsy.o.mono ?_;rintro e w2 ⟨rfl,hq2⟩;have hb:=hq.o w2 hq2;have hq2:=Hd hq2;go_wp2_with fail;refine(q_Y 0 w2).mono ?_;rintro e w3 ⟨rfl,hn3⟩;obtain⟨⟨r0,r1,r2,r3,r4⟩,⟨y0,y1,y2,y3,y4⟩,hx⟩:=g_ (hb.new hn3);have hfin:Hid (Alt (fun b=>b=w.heap.size+1+1) w2 (f_d w3 (w.heap.size+1+1) (.int .i64 0) (.bool false) (.int .i64 0) (.slice none 0 0) (.slice none 0 0))):=(Alt.of_new hn3).trans (a_s _ _ _ _ _ _ _);clear hb hn3;show _;dsimp only;go_wp2;exact bodyPost_ret (by simp[results,results22,go_sem,hx.o]) rfl ⟨rfl,W1,w2,hNH.o,hq2.o,hfin.o,by rw[hz.o];omega⟩
set_option maxHeartbeats 4000000 in
theorem q_v{A:VA}{s:VS}{o:Nat->Nat}{w:World}(hA:VOk A)(h:VM A o s w)(hl:s.lost=false)(d:Nat)(hd:d<A.n)(hm:(s.ds d).ws.length<300)(hdd:(s.ds d).dead=false)(n1 n2:Nm)(off count keep:Int)(R:Option Addr)(dn dc:Nat) :
  Calls prog 22 #[ptr A.v,.agg (cmL 16 n1 n2 off count (d:Nat) keep R dn dc)] w (t_N (f_9 A (tag0 o w) s d) w):=by
 obtain⟨W1,hW1,hN1,hr,hcm,hvp,hz⟩:=e_h (w:=w) (v:=ptr A.v) (cs:=cmL 16 n1 n2 off count (d:Nat) keep R dn dc);obtain⟨c0,c1,c2,c3,c4,c5,c6,c7⟩:=p_ hcm.o;have cv:=hvp.o.cell 0;simp at cv;have hNH:=Hd hN1;have h1:VM A (tag0 o w) s W1:=h.keep (K:=fun _=>False) (Alt.of_new hN1) (fun _ _ f=>f.elim) (f_ o w);have hha:=Hd (n_S hA h1 d hd hm hdd n1 n2 off count keep R dn dc);have hq:Hid (∀w2,f_9 A (tag0 o w) s d W1 w2->Blk w2 (w.heap.size+1+1) 38 e_W):=fun w2 ⟨o',_,_,ha⟩=>ha.blk hr.o fun e=>by
  have ht:tag0 o w (w.heap.size+1+1)=0:=if_neg (by omega)
  rcases e with e|e
  ·omega
  ·have:=h1.oe
   rw[<-e]at this;omega
 obtain⟨x1,hx1⟩:∃x,Hid (x=encStr n1):=⟨_,rfl⟩;obtain⟨x2,hx2⟩:∃x,Hid (x=encStr n2):=⟨_,rfl⟩;unfold cmL at hW1 hha ⊢;rw[<-hx1.o,<-hx2.o]at hW1 hha ⊢;rw[<-hx1.o]at c1;rw[<-hx2.o]at c2;clear hN1 h h1 hd hdd hm;go_enter func22,ntmps22;go_upto_region 1 with fail;rw[<-hW1];clear hW1;go_wp2_with fail;refine hha.o.mono ?_;rintro e w2 ⟨rfl,hq2⟩;obtain⟨⟨r0,r1,r2,r3,r4⟩,⟨y0,y1,y2,y3,y4⟩,hx⟩:=g_ (hq.o w2 hq2);have hq2:=Hd hq2;show _;dsimp only;go_wp2;exact bodyPost_ret (by simp[results,results22,go_sem,hx.o]) rfl ⟨rfl,W1,w2,hNH.o,hq2.o,a_s _ _ _ _ _ _ _,by rw[hz.o];omega⟩
set_option maxHeartbeats 4000000 in
theorem o_8{A:VA}{s:VS}{o:Nat->Nat}{w:World}{Q:World->World->Prop}(h:VM A o s w)(hl:s.lost=false)(n1 n2:Nm)(off count drive keep:Int)(R:Option Addr)(dn dc:Nat)(hs:∀w1,New w w1->Calls prog 51 #[ptr A.v,.int .i64 keep] w1 fun e w'=>e=.returned (.tuple #[])/\Q w1 w')(hQ:∀w1 w2,New w w1->Q w1 w2->∀g cs,w.heap.size<=g->Blk w1 g 38 cs->Blk w2 g 38 cs) :
  Calls prog 22 #[ptr A.v,.agg (cmL 13 n1 n2 off count drive keep R dn dc)] w (t_N Q w):=by
 obtain⟨W1,hW1,hN1,hr,hcm,hvp,hz⟩:=e_h (w:=w) (v:=ptr A.v) (cs:=cmL 13 n1 n2 off count drive keep R dn dc);obtain⟨c0,c1,c2,c3,c4,c5,c6,c7⟩:=p_ hcm.o;have cv:=hvp.o.cell 0;simp at cv;have hNH:=Hd hN1;have v7:=(h.new hN1).v7;rw[hl]at v7;have hsy:=Hd (hs W1 hN1);have hq:=Hd (fun w2 hq=>hQ W1 w2 hN1 hq (w.heap.size+1+1) e_W (by omega) hr.o)
 replace hq:Hid (∀w2,_):=hq;obtain⟨x1,hx1⟩:∃x,Hid (x=encStr n1):=⟨_,rfl⟩;obtain⟨x2,hx2⟩:∃x,Hid (x=encStr n2):=⟨_,rfl⟩;unfold cmL at hW1 ⊢;rw[<-hx1.o,<-hx2.o]at hW1 ⊢;clear hN1 h hs hQ;go_enter func22,ntmps22;go_upto_region 1 with fail;rw[<-hW1];clear hW1;go_wp2_with fail;refine hsy.o.mono ?_;rintro e w2 ⟨rfl,hq2⟩;obtain⟨⟨r0,r1,r2,r3,r4⟩,⟨y0,y1,y2,y3,y4⟩,hx⟩:=g_ (hq.o w2 hq2);have hq2:=Hd hq2;show _;dsimp only;go_wp2;exact bodyPost_ret (by simp[results,results22,go_sem,hx.o]) rfl ⟨rfl,W1,w2,hNH.o,hq2.o,a_s _ _ _ _ _ _ _,by rw[hz.o];omega⟩
end vault
end Go.Proofs.YtojcoaekhiadcaaGreat
