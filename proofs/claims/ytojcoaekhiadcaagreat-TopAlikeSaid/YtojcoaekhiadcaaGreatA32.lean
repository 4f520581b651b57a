import Derived.Test.YtojcoaekhiadcaaGreatA01
import Derived.Test.YtojcoaekhiadcaaGreatA31
import Derived.Test.YtojcoaekhiadcaaGreatA22
import Derived.Test.YtojcoaekhiadcaaGreatA26
import Derived.Test.YtojcoaekhiadcaaGreatA21
import Derived.Test.YtojcoaekhiadcaaGreatA25
import Derived.Test.YtojcoaekhiadcaaGreatA27
import Derived.Test.YtojcoaekhiadcaaGreatProg
import Derived.Test.YtojcoaekhiadcaaGreatA13
set_option linter.unusedVariables false
set_option linter.unusedSimpArgs false
namespace Go.Proofs.YtojcoaekhiadcaaGreat
open Tryz Go.RowKit
namespace vault
set_option maxRecDepth 100000
open Go.ChangeMaps (setBlock)
open Go.ChangeShapes Go.WideShapes Go.ChangeAt kit pool drive spans Go.Deep Go.Maps label flet stripe
def k_A(t:Int):Nat:=(t%4).toNat
def k_j(o:Nat->Nat)(w:World)(b:Nat):Prop:=o b≠0/\(o b=2->∃cs,Blk w b 115 cs)
structure i_Q(q:Ptr)(t:Int):Prop where
 ad:q.ad<=65536
 c1:1<=q.ct
 c2:q.ct<=32
 by2:q.by_<=128*q.ct
 bi:q.birth=t
 s0:a_0 q.sum.1
 s1:a_0 q.sum.2.1
 s2:a_0 q.sum.2.2.1
 s3:a_0 q.sum.2.2.2
structure c_w(A:VA)(o:Nat->Nat)(s:VS)(bad:List Nat)(bc:Nat->Nat->Nat)(xb yb c:Nat)(g:GS)(w:World)(s':VS)(o':Nat->Nat)(pp rs:List Ptr)(pt:Nat->Ptr)(root:Ptr)(w':World):Prop where
 st:VSt A s' bad o' bc xb yb c g w'
 rg:Reg A s' pp (rs++[root])
 sy:l_D o' s' w' (pp++(rs++[root]))
 sm:s_ o o' w
 al:Alt (k_j o w) w w'
 tm:s'.time=s.time+1
 eq:s'={s with ds:=s'.ds,time:=s'.time,syn:=s'.syn,pg:=s'.pg,bo:=s'.bo}
 dd:∀i,(s'.ds i).dead=(s.ds i).dead
 ws:∀i,i<A.n->(s'.ds i).ws.length<=60
 w0:∀i,i<A.n->(s.ds i).dead=false->(s'.ds i).ws=[]
 b8:B8 s->B8 s'
 bl:∀b,b∈g.all->BlM o' w' b (bc b) (some (pt b))/\f_l A s' bad (bc b) (some (pt b))
 bk:c_r A s' bad (bkB (r_ [] g.all) pt g) root rs
 lb:∀i,i<A.n->s.dead i=false->s.fresh i=false->(s.ds i).dead=false->rdS (s'.ds i) (k_A (s.time+1))=some (b_6 A (s.time+1) root i)
 ot:∀i j,i<A.n->j<4->j≠k_A (s.time+1)->rdS (s'.ds i) j=rdS (s.ds i) j
 rt:i_Q root (s.time+1)
theorem n_s(l:List Ptr):∀u∈q_ l,u.oneCell'=true:=fun u hu=>by
 obtain⟨q,_,h⟩:=List.mem_flatMap.1 hu;simp at h;rcases h with rfl|rfl|rfl|rfl|rfl|rfl|rfl|rfl<;>simp[Value.oneCell']
theorem c_u{P:Program}{w:World}(t ty e:TypeId)(i:TypeInfo)(ht:P.underlying t=some (.slice e))(hi:P.info? e=some i)(R R':Option Addr)(n c c':Nat)(hn:n<=c):(Builtin.append_ #[t,t] ty #[.slice R n c,.slice R' 0 c']).run P w=.ok (.slice R n c) w:=by
 have hl:∀a:Addr,(loadCells a 0).run P w=.ok #[] w:=fun a=>rfl;cases R<;>cases R'<;>simp[Builtin.append_,run_underlying ht,sizeOf,typeInfo,hi,Builtin.lenOf,hn,Builtin.firstCells,hl,storeCells]
theorem e_p{P:Program}{w:World}{ops:Array Oper}{o:Oper}{a:Act}{K:Act->World->Prop}{Q:Exit->Act->World->Prop}{E:Prop}(hgd:o.guard=none)(s x:Operand)(t:TypeId)(ho:o.op=.call {callee:=.builtin .append,args:=#[s,x],argTypes:=#[t,t]})(e:TypeId)(i:TypeInfo)(ht:P.underlying t=some (.slice e))(hi:P.info? e=some i)(R R':Option Addr)(n c c':Nat)(hs:a.eval s=.slice R n c)(hx:a.eval x=.slice R' 0 c')(hn:n<=c)(h:K (a.put o.dst (.slice R n c)) w) :
  if Region.wanted o (yielded ops a.tmps)=true then Oper.wp P o a w K Q else E:=by
 have hw:Region.wanted o (yielded ops a.tmps)=true:=by simp[Region.wanted,hgd]
 rw[if_pos hw];have hr:=c_u (P:=P) (w:=w) t o.type e i ht hi R R' n c c' hn;unfold Oper.wp;simp[execOp,ho,resolve,invoke,builtin,hs,hx,hr,Result.andThen];exact h
theorem s_W{s:DS}(h:s.dead=true)(a:Nat)(D:Nat->Nat):a_E s a D=s:=by
 unfold a_E;rw[if_pos h]
theorem m_6{s:DS}(h:s.dead=true)(D:Nat->Nat)(sl:Nat->Nat):∀j,c_4 s D sl j=s
 |0=>rfl
 |j+1=>by
  show a_E (c_4 s D sl j) _ _=s;rw[m_6 h D sl j,s_W h]
theorem p_I{A:VA}{s:VS}(q:Ptr)(sl:Nat->Nat)(m i k:Nat)(h:(s.ds k).dead=true):(K_ A s q sl m i).ds k=s.ds k:=by
 show(if _ then _ else _:DS)=_;split
 ·exact m_6 h _ _ _
 ·rfl
theorem g_w{s:VS}(m k:Nat)(h:(s.ds k).dead=true):(R_ s m).ds k=s.ds k:=by
 show(if _ then _ else _:DS)=_;split
 ·unfold a_o;rw[if_pos h]
 ·rfl
theorem a_S(A:VA)(s:VS)(m lo hi:Nat):a_3 A s (R_ s m) lo hi:=fun d j _ _ _=>by
 show rdS (if _ then _ else _:DS) j=_;split
 ·exact g_t _ j
 ·rfl
theorem r_D{A:VA}(hA:VOk A){s s':VS}{bad:List Nat}{q:Ptr}{X:Nat->Nat}{u:Bk}(h:b_F A s bad q X)(hu:PtU A q u)(hd:s'.ds=s.ds)(hf:s'.fresh=s.fresh):b_F A s' bad q X:=
 h.sameU hA hu (fun lo hi _ d j _ _ _=>by rw[hd]) hf
theorem d_O.to{A:VA}(hA:VOk A){s s':VS}{bad:List Nat}{q:Ptr}{lv:Nat}{l:List Nat}{u:Bk}(h:d_O A s bad q lv l)(hu:PtU A q u)(hs:∀lo hi,4*A.n<=lo->a_3 A s s' lo hi)(hf:s'.fresh=s.fresh):d_O A s' bad q lv l:=⟨h.pb,h.by_,h.kp.sameU hA hu hs hf⟩
theorem c_r.to{A:VA}(hA:VOk A){s s':VS}{bad:List Nat}{acc:List Nat}{root:Ptr}{rs:List Ptr}(h:c_r A s bad acc root rs)(hu:∀q,q∈rs++[root]->∃u,PtU A q u)(hs:∀lo hi,4*A.n<=lo->a_3 A s s' lo hi)(hf:s'.fresh=s.fresh):c_r A s' bad acc root rs:=by
 obtain⟨ur,hur⟩:=hu root (List.mem_append_right _ (List.mem_singleton.2 rfl));rcases h with⟨h1,h2⟩|⟨ps,h1,h2,h3,h4,h45,h5,h6⟩
 ·exact .inl ⟨h1,h2.to hA hur hs hf⟩
 ·refine .inr ⟨ps,h1,h2,h3,h4,h45,fun i q p hq hp=>?_,h6.to hA hur hs hf⟩
  obtain⟨u,hu⟩:=hu q (List.mem_append_left _ (List.mem_of_getElem? hq));exact(h5 i q p hq hp).to hA hu hs hf
theorem o_I{A:VA}(hA:VOk A){o:Nat->Nat}{s:VS}{bad:List Nat}{bc:Nat->Nat->Nat}{xb yb c:Nat}{g:GS}{w W1:World}{tm:Int}{s1 s2 s4 s5 s6:VS}{LL N C:List Bk}{MD U:List Nat}{qs olds rs pp0 pb0:List Ptr}{root:Ptr}{pt:Nat->Ptr}{ats:Nat->Option Ptr}{x vr y:Value}{o6 oE:Nat->Nat}{w6 w9 w10:World}{pm sl n:Nat}
  (hok:∀G,InG g G->d_o bc G) (hP1:PlM A.v s.st xb yb c o g W1) (ha1:Alt (fun b=>b=A.v) w W1) (hov:o A.v=1) (hats:∀b,b∈g.all->f_l A s bad (bc b) (ats b)) (hR:Reg A s pp0 pb0) (htm:tm=s.time+1) (hs1:s1={s with time:=tm}) (hLL:LL=s.pg++s.bo) (hD:SyD A bad s1 LL (MD.map bc) N qs C rs root (bkB (r_ [] g.all) pt g) s2)
  (hs4:s4=R_ s2 A.n) (hs5:s5=K_ A s4 root (fun _=>sl) 1 A.n) (hs6:s6=R_ s5 A.n) (hsl:sl=k_A tm) (hsl4:sl<4) (hR6:SyR o W1 pm MD qs olds rs x vr o6 w6) (hV6:VM A o6 s6 w6) (hoE:oE=tag2 o6 w6) (hal9:Alt (fun b=>oE b=2/\∃cs,Blk w6 b 115 cs) w6 w9) (hend:∀b,b∈g.all->BlM oE w9 b (bc b) (some (pt b)))
  (hpt:q_O g ats MD qs pt) (hUm:∀b,b∈U↔b∈g.all) (hU:U.length<=64) (holds:olds=U.filterMap ats) (hMD:MD=U.filter fun b=>(ats b).isNone) (hql:qs.length=MD.length) (hws:∀i,i<A.n->(s.ds i).ws.length<=60)
  (ha10:Alt (fun k=>x.ownBlock=some k) w9 w10) (ho10:w10.ownsRow W1.heap.size 107 8 y n (q_ ((olds++qs)++(rs++[root])))) (hn:n=((olds++qs)++(rs++[root])).length) (hy:∃k,y.ownBlock=some k/\(x.ownBlock=some k\/w9.heap.size<=k)) :
  w10.cell? ⟨A.v,8,none⟩=some s.syn/\w10.frozen? ⟨A.v,8,none⟩=false/\∃s' o' pp,c_w A o s bad bc xb yb c g w s' o' pp rs pt root (w10.setCell ⟨A.v,8,none⟩ y):=by
 obtain⟨gy,hgy,hgx⟩:=hy;have hl9:=hal9.size;have hx6:∀k,x.ownBlock=some k->k<w6.heap.size/\oE k=0:=fun k hk=>by
  have h1:=(hR6.mi.lt k hk).2;exact⟨h1,by rw[hoE,a_w o6 w6 k h1];exact hR6.mt k hk⟩
 have hE6:s_ o6 oE w6:=by rw[hoE];exact a_w o6 w6
 have hV9:VM A oE s6 w9:=hV6.keep hal9 (fun b hb hk=>by
  have h1:=hE6 b hb;rw[hk.1]at h1;omega) hE6
 have ht9:tag0 oE w9 gy=0:=by
  rcases hgx with h1|h1
  ·have h2:=hx6 gy h1
   rw[f_ oE w9 gy (by omega)]
   exact h2.2
  ·exact z_ oE w9 h1
 have hV10:VM A (tag0 oE w9) s6 w10:=hV9.keep ha10 (fun b hb hk=>by have:=hx6 b hk;omega) (f_ oE w9)
 obtain⟨o',ho'⟩:∃o':Nat->Nat,o'=fun b=>if b=gy then 1 else tag0 oE w9 b:=⟨_,rfl⟩;have hto:∀b,tag0 oE w9 b≠0->o' b=tag0 oE w9 b:=fun b hb=>by
  rw[ho'];exact if_neg fun e=>hb (by rw[e];exact ht9)
 have hVf:VM A o' s6 w10:=hV10.retag fun b _ hb=>hto b hb;have he6:s6={s with ds:=s6.ds,time:=tm}:=by
  rw[hs6,hs5,hs4,hD.ev.eq,hs1];rfl
 have hsyn:s6.syn=s.syn:=by rw[he6]
 have hc8:w10.cell? ⟨A.v,8,none⟩=some s.syn:=by
  have h1:=hV10.v8;rw[hsyn]at h1;exact h1
 have hu:∀q,∃u,q∈olds->PtU A q u/\u∈s.pg:=fun q=>by
  by_cases hq:q∈olds
  ·rw[holds]at hq
   obtain⟨b,hb,hbq⟩:=List.mem_filterMap.1 hq;have h1:=hats b ((hUm b).1 hb);rw[hbq]at h1;obtain⟨_,_,_,_,u,h2,h3⟩:=h1;exact⟨u,fun _=>⟨h2,h3⟩⟩
  ·exact⟨(0,0),fun h=>absurd h hq⟩
 obtain⟨uO,huO⟩:∃uO:Ptr->Bk,∀q,q∈olds->PtU A q (uO q)/\uO q∈s.pg:=⟨fun q=>(hu q).choose,fun q=>(hu q).choose_spec⟩;obtain⟨s',hs'⟩:∃s':VS,s'={s6 with syn:=y,pg:=olds.map uO++N,bo:=C}:=⟨_,rfl⟩;have hVs:VM A o' s' (w10.setCell ⟨A.v,8,none⟩ y):=by
  rw[hs'];exact hVf.vset 8 y rfl rfl rfl rfl
 have hds:s'.ds=s6.ds:=by rw[hs']
 have hfr:s'.fresh=s2.fresh:=by rw[hs',hs6,hs5,hs4];rfl
 have hrd:∀lo hi,4*A.n<=lo->a_3 A s2 s' lo hi:=fun lo hi hlo=>by
  have h1:=a_S A s2 A.n lo hi;rw[<-hs4]at h1;have h2:=g_l A s4 root (fun _=>sl) 1 A.n lo hi hlo (fun _ _=>hsl4);rw[<-hs5]at h2;have h3:=a_S A s5 A.n lo hi;rw[<-hs6]at h3;intro d j hd hj1 hj2;rw[hds];exact((h1.trans h2).trans h3) d j hd hj1 hj2
 have hok2:∀b,b∈g.all->f_l A s' bad (bc b) (some (pt b)):=fun b hb=>by
  refine⟨(hats b hb).1,?_⟩;rcases hpt b hb with h1|⟨h1,i,h2,h3⟩
  ·have h4:=hats b hb
   rw[h1]at h4;obtain⟨_,k1,k2,k3,u,k4,k5⟩:=h4;have hq:pt b∈olds:=by rw[holds];exact List.mem_filterMap.2 ⟨b,(hUm b).2 hb,h1⟩
   have k6:b_F A s1 bad (pt b) (bc b):=r_D hA k3 k4 (by rw[hs1]) (by rw[hs1])
   have k7:=hD.ev.kept hA k4 (by rw[hLL];exact List.mem_append_left _ k5) k6
   exact⟨k1,k2,k7.sameU hA k4 hrd hfr,uO (pt b),(huO _ hq).1,by rw[hs'];exact List.mem_append_left _ (List.mem_map_of_mem hq)⟩
  ·obtain⟨u,X,k1,k2,k3,k4,k5,k6,k7,k8⟩:=hD.kt i _ h3
   rw[List.getElem?_map,h2]at k2;cases k2;exact⟨k6,k7,k8.sameU hA k3 hrd hfr,u,k3,by rw[hs'];exact List.mem_append_right _ (List.mem_of_getElem? k1)⟩
 have hK2:∀b,tag0 oE w9 b=2->¬(x.ownBlock=some b):=fun b h2 hk=>by
  have h3:=hx6 b hk;rw[f_ oE w9 b (by omega)]at h2
  omega
 have hKE:∀b,oE b=2->¬(x.ownBlock=some b):=fun b h2 hk=>by have:=hx6 b hk;omega
 have hav:Alt (fun k=>k=A.v) w10 (w10.setCell ⟨A.v,8,none⟩ y):=Alt.set (K:=fun k=>k=A.v) (Alt.refl w10) (.inl rfl) y;have hKv:∀b,o' b=2->¬(b=A.v):=fun b hb e=>by
  have:=hVf.ov;rw[e]at hb;omega
 have hbl2:∀b,b∈g.all->BlM o' (w10.setCell ⟨A.v,8,none⟩ y) b (bc b) (some (pt b)):=fun b hb=>by
  have h1:=(hend b hb).alt ha10 hKE (f_ oE w9);have h2:=h1.altV (K:=fun _=>False) (o':=o') (Alt.refl w10) (fun f=>f) (fun _ _ _ _ _ f=>f) fun k _ hk=>by rw[hto k (by omega)];exact hk
  exact h2.alt hav hKv (s_.refl o' w10)
 have hpl2:PlM A.v s'.st xb yb c o' g (w10.setCell ⟨A.v,8,none⟩ y):=by
  have h0:=hP1.alt hR6.al (fun b hb e=>by omega) hR6.sm
  have h1:=h0.altV (o':=oE) hal9 (fun b hb hk=>hk.2) fun k hk h2=>by rw[hE6 k hk];exact h2
  have h2:=h1.alt ha10 hKE (f_ oE w9);have h3:=h2.altV (K:=fun _=>False) (o':=o') (Alt.refl w10) (fun _ _ f=>f.elim) fun k _ hk=>by rw[hto k (by omega)];exact hk
  have h4:=h3.alt hav hKv (s_.refl o' w10);rw[hs',he6];exact h4
 have hw1:=ha1.size;have h1w:W1.heap.size<=w6.heap.size:=hR6.al.size;have hgyW:W1.heap.size<=gy:=(ho10.lt gy hgy).1;have hdd:∀i,(s'.ds i).dead=(s.ds i).dead:=fun i=>by
  rw[hds,hs6,b_q,hs5,l_1,hs4,b_q,hD.ev.dead,hs1]
 have hdead2:∀i,(s.ds i).dead=true->s'.ds i=s.ds i:=fun i hi=>by
  have h2:s2.ds i=s.ds i:=by
   have:=hD.ev.wd i (by rw[hs1];exact hi)
   rw[this,hs1]
  have h4:s4.ds i=s.ds i:=by rw[hs4,g_w A.n i (by rw[h2];exact hi),h2]
  have h5:s5.ds i=s.ds i:=by rw[hs5,p_I root _ 1 A.n i (by rw[h4];exact hi),h4]
  rw[hds,hs6,g_w A.n i (by rw[h5];exact hi),h5]
 have hw0:∀i,i<A.n->(s.ds i).dead=false->(s'.ds i).ws=[]:=fun i hi hd=>by
  have h1:=hdd i;rw[hd,hds,hs6,b_q]at h1;rw[hds,hs6];show(if i<A.n then a_o (s5.ds i)else s5.ds i).ws=[];rw[if_pos hi];exact j_N _ h1
 refine⟨hc8,hV10.bk.frozen 8,s',o',olds++qs,⟨⟨hVs,hpl2,fun b hb=>⟨_,hbl2 b hb,hok2 b hb⟩,hok⟩,?_,?_,fun b hb=>?_,?_,by rw[hs',he6,htm],?_,hdd,fun i hi=>?_,hw0,fun hb8=>?_,fun b hb=>⟨hbl2 b hb,hok2 b hb⟩,?_,fun i hi hd1 hf1 hd2=>?_,fun i j hi hj hne=>?_,?_⟩⟩
 ·have hlen:(olds++qs).length<=64:=by
   rw[List.length_append,hql,holds,hMD];have:∀l:List Nat,(l.filterMap ats).length+(l.filter fun b=>(ats b).isNone).length=l.length:=fun l=>by
    induction l with
    |nil=>rfl
    |cons a l ih=>
     rw[List.filterMap_cons,List.filter_cons];cases ha:ats a with
     |none=>simp;omega
     |some q=>simp;omega
   rw[this];exact hU
  have hpg:s'.pg=olds.map uO++N:=by rw[hs']
  have hbo:s'.bo=C:=by rw[hs']
  refine⟨fun i q hi=>?_,by rw[hpg,List.length_append,List.length_append,List.length_map,hD.cl],fun i q hi=>?_,by rw[hbo,hD.bl],fun u hu=>?_,fun u hu=>hD.b0 u (by rw[hbo]at hu;exact hu),by rw[hpg,List.length_append,List.length_map,hD.cl,<-List.length_append];exact hlen,by rw[hbo,hD.bl];have:=hD.rl;simp;omega,by rw[hbo];exact hD.un⟩
  ·rw[hpg]
   by_cases hil:i<olds.length
   ·rw[List.getElem?_append_left hil]at hi
    exact⟨uO q,by rw[List.getElem?_append_left (by rw[List.length_map];exact hil),List.getElem?_map,hi];rfl,(huO q (List.mem_of_getElem? hi)).1⟩
   ·rw[List.getElem?_append_right (by omega)]at hi
    obtain⟨u,X,k1,k2,k3,_⟩:=hD.kt _ q hi;exact⟨u,by rw[List.getElem?_append_right (by rw[List.length_map];omega),List.length_map];exact k1,k3⟩
  ·obtain⟨u,k1,k2,_⟩:=hD.bu i q hi
   exact⟨u,by rw[hbo];exact k1,k2⟩
  ·rw[hpg]at hu
   rcases List.mem_append.1 hu with hu|hu
   ·obtain⟨q,hq,rfl⟩:=List.mem_map.1 hu
    exact hR.p2 _ (huO q hq).2
   ·exact hD.n2 u hu
 ·refine⟨?_,fun k hk=>?_⟩
  ·rw[hs',<-hn]
   refine(hav.own ho10 fun k hk e=>?_).mono (Nat.zero_le _);rw[e]at hk;exact b_ ho10 hVf.bk (by decide) hk
  ·have hk:y.ownBlock=some k:=by rw[hs']at hk;exact hk
   rw[hgy]at hk;cases hk;rw[ho'];exact if_pos rfl
 ·have h1:=hR6.sm b (by omega)
  rw[ho'];show(if b=gy then 1 else tag0 oE w9 b)=o b;rw[if_neg (by omega),f_ oE w9 b (by omega),hE6 b (by omega),h1]
 ·have hB:Alt (fun k=>(k<W1.heap.size/\k_j o W1 k)\/W1.heap.size<=k) W1 (w10.setCell ⟨A.v,8,none⟩ y):=by
   refine((hR6.al.weak fun k hk=>?_).trans (hal9.weak fun k hk=>?_)).trans ((ha10.weak fun k hk=>.inr (hR6.mi.lt k hk).1).trans (hav.weak fun k e=>?_))
   ·rcases Nat.lt_or_ge k W1.heap.size with hl|hl
    ·exact .inl ⟨hl,by omega,fun e=>by omega⟩
    ·exact .inr hl
   ·rcases Nat.lt_or_ge k W1.heap.size with hl|hl
    ·have h2:=hE6 k (by omega)
     rw[hk.1,hR6.sm k hl]at h2;obtain⟨_,cs,hcs⟩:=hk;exact .inl ⟨hl,by omega,fun _=>⟨cs,(hR6.al.same k hl (by omega)).symm.trans hcs⟩⟩
    ·exact .inr hl
   ·rcases Nat.lt_or_ge k W1.heap.size with hl|hl
    ·exact .inl ⟨hl,by rw[e,hov];decide,fun h2=>by rw[e,hov]at h2;omega⟩
    ·exact .inr hl
  refine(ha1.weak (K':=k_j o w) fun k e=>⟨by rw[e,hov];decide,fun h2=>by rw[e,hov]at h2;omega⟩).trans' hB fun k hk=>?_
  rcases hk with hk|hk
  ·rcases Nat.lt_or_ge k w.heap.size with hl|hl
   ·refine .inl ⟨hk.2.1,fun h2=>?_⟩
    obtain⟨cs,hcs⟩:=hk.2.2 h2;exact⟨cs,(ha1.same k hl fun e=>by rw[e,hov]at h2;omega).symm.trans hcs⟩
   ·exact .inr hl
  ·exact .inr (by omega)
 ·rw[hs',he6]
 ·by_cases hd:(s.ds i).dead=true
  ·rw[hdead2 i hd]
   exact hws i hi
  ·rw[hw0 i hi (by simpa using hd)]
   exact Nat.zero_le _
 ·have h1:B8 s1:=by rw[hs1];exact hb8
  have h2:=hD.ev.b8 h1;have h4:B8 s4:=by rw[hs4];exact d_H h2 A.n
  have h5:B8 s5:=by rw[hs5];exact j_z A h4 root _ 1 A.n
  have h6:B8 s6:=by rw[hs6];exact d_H h5 A.n
  intro k j F hF;rw[hds]at hF;exact h6 k j F hF
 ·exact hD.bk.to hA (fun q hq=>by
   obtain⟨i,hi⟩:=List.getElem?_of_mem hq;obtain⟨u,_,k2,_⟩:=hD.bu i q hi;exact⟨u,k2⟩) hrd hfr
 ·have h4:(s4.ds i).dead=false:=by rw[hs4,b_q,hD.ev.dead,hs1];exact hd2
  have h5:s4.dead i=false/\s4.fresh i=false:=by rw[hs4,hD.ev.eq,hs1];exact⟨hd1,hf1⟩
  have h6:s4.time=s.time+1:=by rw[hs4,hD.ev.eq,hs1,htm];rfl
  rw[hds,hs6];show rdS (if i<A.n then a_o (s5.ds i)else s5.ds i) _=_;rw[if_pos hi,g_t,hs5];show rdS (if i<A.n/\s4.dead i=false/\s4.fresh i=false then c_4 (s4.ds i) (b_6 A s4.time root i) (fun _=>sl) 1 else s4.ds i) _=_;rw[if_pos ⟨hi,h5⟩];show rdS (a_E (s4.ds i) sl (b_6 A s4.time root i)) _=_;rw[e_s,if_neg (by rw[h4];simp),if_pos (by rw[hsl,htm]),h6]
 ·have hlt:j*A.n+i<4*A.n:=by
   have:=Nat.mul_le_mul_right A.n (show j+1<=4 by omega)
   rw[Nat.add_mul,Nat.one_mul]at this;omega
  have h2:rdS (s2.ds i) j=rdS (s1.ds i) j:=hD.ev.lo i j hi (Nat.zero_le _) hlt;have h4:rdS (s4.ds i) j=rdS (s2.ds i) j:=by rw[hs4];exact a_S A s2 A.n 0 (4*A.n) i j hi (Nat.zero_le _) hlt
  have h5:rdS (s5.ds i) j=rdS (s4.ds i) j:=by
   rw[hs5];show rdS (if i<A.n/\s4.dead i=false/\s4.fresh i=false then c_4 (s4.ds i) (b_6 A s4.time root i) (fun _=>sl) 1 else s4.ds i) _=_;split
   ·exact i_g _ _ _ _ _ fun k _ e=>hne (by rw[<-htm,<-hsl];exact e.symm)
   ·rfl
  have h6:rdS (s6.ds i) j=rdS (s5.ds i) j:=by rw[hs6];exact a_S A s5 A.n 0 (4*A.n) i j hi (Nat.zero_le _) hlt
  rw[hds,h6,h5,h4,h2,hs1]
 ·obtain⟨u,_,h2,h3⟩:=hD.bu rs.length root (by rw[List.getElem?_append_right (Nat.le_refl _),Nat.sub_self];rfl)
  obtain⟨X,hX⟩:=hD.rp;obtain⟨b1,b2,b3,b4⟩:=sums_bd (a_9 X root.by_) (32*root.ct);rw[hX.sum]at b1 b2 b3 b4;have hun:uA A<=A.n:=by have:=hA.pn;unfold uA;omega
  have h5:u.1*uA A<=508*A.n:=Nat.mul_le_mul (by have:=h2.hi;omega) hun
  have h6:=h2.ad;have h7:=hX.ct;have h8:=hA.n8;rw[hs1]at h3;exact⟨by omega,h2.c1,h2.c2,by omega,h3.trans htm,b1,b2,b3,b4⟩
end vault
namespace vault
open kit pool Go.Deep
def NmT{α:Type}(l:List (Nm×α)):Prop:=∀p,p∈l->p.1.length<=8
structure NmP(s:PS):Prop where
 th:NmT s.ths
 sn:NmT s.shs
 sh:∀p,p∈s.shs->NmT p.2
theorem NmP.start:NmP PS.start:=⟨fun p h=>(by cases h),fun p h=>(by cases h),fun p h=>(by cases h)⟩
theorem NmT.put{α:Type}{l:List (Nm×α)}(h:NmT l){x:Nm}(hx:x.length<=8)(v:α):NmT (put l x v):=fun p hp=>by
 rcases a_C hp with rfl|hp
 ·exact hx
 ·exact h p hp
theorem NmT.del{α:Type}{l:List (Nm×α)}(h:NmT l)(x:Nm):NmT (del l x):=fun p hp=>h p (List.mem_filter.1 hp).1
theorem j_J{x:Nm}(h:c_X x=true):x.length<=8:=by
 unfold c_X at h;simp at h;exact h.2.2
theorem t_w{s:PS}(h:NmP s)(c:Cm):NmP (doT s c).2:=by
 unfold doT;split
 ·split
  ·rename_i hr
   exact⟨h.th.put (j_J (d_9 hr).1) _,h.sn,h.sh⟩
  ·exact h
 split
 ·exact h
 split
 ·exact h
 split
 ·unfold a_1
  split
  ·split
   ·rename_i hr
    refine⟨h.th,h.sn.put (j_J (d_9 hr).1) _,fun p hp=>?_⟩;rcases a_C hp with rfl|hp
    ·exact h.th
    ·exact h.sh p hp
   ·exact h
  ·split
   ·exact h
   ·rename_i l hl
    split
    ·exact⟨h.sh _ (a_R hl),h.sn,h.sh⟩
    split
    ·exact⟨h.th,h.sn.del _,fun p hp=>h.sh p (List.mem_filter.1 hp).1⟩
    split
    ·exact h
    ·exact h
 split
 ·split
  ·exact h
  ·rename_i x hx
   have hn:c.name.length<=8:=h.th _ (a_R hx);unfold y_;split
   ·exact h
   split
   ·exact⟨h.th.del _,h.sn,h.sh⟩
   split
   ·split
    ·exact h
    split
    ·exact h
    ·exact⟨h.th.put hn _,h.sn,h.sh⟩
   split
   ·exact h
   ·exact⟨h.th.put hn _,h.sn,h.sh⟩
 split
 ·exact h
 ·exact h
theorem NmT.map{α β:Type}{f:α->β}{l:List (Nm×α)}(h:NmT l):NmT (F_ f l):=fun p hp=>by
 obtain⟨q,hq,rfl⟩:=List.mem_map.1 hp;exact h q hq
theorem p_s{s:PS}(h:NmP s):NmP (c_T s):=⟨h.th.map,h.sn.map,fun p hp=>by
 obtain⟨q,hq,rfl⟩:=List.mem_map.1 hp;exact(h.sh q hq).map⟩
theorem j_q{α β:Type}{f:α->β}{l:List (Nm×α)}(h:Asc l):Asc (F_ f l):=List.pairwise_map.2 h
theorem j_g{l:Ths}(h:OkT l):OkT (F_ a_X l):=⟨j_q h.asc,by rw[F_,List.length_map];exact h.len,fun p hp=>by
 obtain⟨q,hq,rfl⟩:=List.mem_map.1 hp;exact h.sz q hq⟩
theorem p_r{s:PS}(h:OkP s):OkP (c_T s):=⟨j_g h.th,j_q h.asc,by show(F_ _ _).length<=3;rw[F_,List.length_map];exact h.len,fun p hp=>by
 obtain⟨q,hq,rfl⟩:=List.mem_map.1 hp;exact j_g (h.sh q hq)⟩
def l_X(P:PS)(C:Cm):PS:=c_T (doT P C).2
theorem o_L{P:PS}(h:OkP P)(C:Cm):OkP (l_X P C):=p_r (t_v h C)
theorem o_M{P:PS}(h:NmP P)(C:Cm):NmP (l_X P C):=p_s (t_w h C)
theorem c_Z{α:Type}{f:α->List Nat}{m:Nat}:∀{l:List α},(∀a,a∈l->(f a).length<=m)->(l.flatMap f).length<=m*l.length
 |[],_=>Nat.zero_le _
 |a::l,h=>by
  rw[List.flatMap_cons,List.length_append,List.length_cons,Nat.mul_succ];have h1:=h a (List.mem_cons_self ..);have h2:=c_Z (l:=l) fun b hb=>h b (List.mem_cons_of_mem _ hb);omega
theorem n_Y(num:Nat->Nat)(l:List Nat):(l.flatMap fun b=>n_ (num b:Nat)).length=8*l.length:=by
 induction l with
 |nil=>rfl
 |cons a l ih=>rw[List.flatMap_cons,List.length_append,ih,l_,List.length_cons];omega
theorem n_X(pt:Nat->Ptr)(l:List Nat):(l.flatMap fun b=>b_1 (pt b)).length=64*l.length:=by
 induction l with
 |nil=>rfl
 |cons a l ih=>rw[List.flatMap_cons,List.length_append,ih,b_f,List.length_cons];omega
section
variable {bc:Nat->Nat->Nat}{g:GS}
structure Lim(g:GS):Prop where
 t4:g.ths.length<=4
 s3:g.shs.length<=3
 s4:∀q,q∈g.shs->q.2.length<=4
 tn:NmT g.ths
 sn:NmT g.shs
 nn:∀q,q∈g.shs->NmT q.2
 b4:∀G,InG g G->G.bl.length<=4
theorem t_9(hP:OkP (absG bc g))(hN:NmP (absG bc g))(hG:∀G,InG g G->d_o bc G):Lim g:=by
 have hl:∀l:GT,(a_c bc l).length=l.length:=fun l=>List.length_map ..;refine⟨by rw[<-hl];exact hP.th.len,by have:=hP.len;unfold absG at this;simpa [F_]using this,fun q hq=>?_,fun p hp=>?_,fun q hq=>?_,fun q hq p hp=>?_,fun G h=>?_⟩
 ·rw[<-hl]
  exact(hP.sh (q.1,a_c bc q.2) (List.mem_map_of_mem (f:=fun p:Nm×GT=>(p.1,a_c bc p.2)) hq)).len
 ·exact hN.th (p.1,byT bc p.2) (List.mem_map_of_mem (f:=fun p:Nm×OG=>(p.1,byT bc p.2)) hp)
 ·exact hN.sn (q.1,a_c bc q.2) (List.mem_map_of_mem (f:=fun p:Nm×GT=>(p.1,a_c bc p.2)) hq)
 ·exact hN.sh (q.1,a_c bc q.2) (List.mem_map_of_mem (f:=fun p:Nm×GT=>(p.1,a_c bc p.2)) hq) (p.1,byT bc p.2) (List.mem_map_of_mem (f:=fun p:Nm×OG=>(p.1,byT bc p.2)) hp)
 ·have h1:=hG G h
  have h2:=h1.sz;have h3:=h1.len;omega
theorem Lim.gbl(h:Lim g){l:GT}(hl:∀p,p∈l->InG g p.2):(gBl l).length<=4*l.length:=c_Z fun p hp=>h.b4 _ (hl p hp)
theorem Lim.all(h:Lim g):g.all.length<=64:=by
 have h1:=h.gbl (l:=g.ths) fun p hp=>.inl ⟨p.1,hp⟩;have h2:(g.shs.flatMap fun p=>gBl p.2).length<=16*g.shs.length:=c_Z fun q hq=>by
  have h3:=h.gbl (l:=q.2) fun p hp=>.inr ⟨q,hq,p.1,hp⟩;have:=h.s4 q hq;omega
 have:=h.t4;have:=h.s3;unfold GS.all;rw[List.length_append];omega
theorem Lim.sm(h:Lim g):GSm g:=
 ⟨Nat.le_trans h.t4 (by omega),Nat.le_trans h.s3 (by omega),fun p hp=>Nat.le_trans (h.tn p hp) (by omega),fun p hp=>⟨Nat.le_trans (h.sn p hp) (by omega),Nat.le_trans (h.s4 p hp) (by omega),fun q hq=>Nat.le_trans (h.nn p hp q hq) (by omega)⟩,Nat.le_trans h.all (by omega)⟩
theorem Lim.objB(h:Lim g)(num:Nat->Nat){l:GT}(hl:∀p,p∈l->InG g p.2)(hn:NmT l)(h4:l.length<=4):(objB num l).length<=232:=by
 have h1:(l.flatMap (obB num)).length<=56*l.length:=c_Z fun p hp=>by
  have h2:=h.b4 _ (hl p hp);have h3:=hn p hp;unfold obB;rw[List.length_append,List.length_append,a_L,l_,n_Y];omega
 unfold vault.objB;rw[List.length_append,l_];omega
theorem Lim.bk(h:Lim g)(pt:Nat->Ptr):(bkB (r_ [] g.all) pt g).length<=5100:=by
 have h1:=d_N (l:=g.all) (out:=[]);have h2:=h.all;have h3:=h.objB (a_V (r_ [] g.all)) (l:=g.ths) (fun p hp=>.inl ⟨p.1,hp⟩) h.tn h.t4;have h4:(g.shs.flatMap (d_x (a_V (r_ [] g.all)))).length<=248*g.shs.length:=c_Z fun q hq=>by
  have h5:=h.objB (a_V (r_ [] g.all)) (l:=q.2) (fun p hp=>.inr ⟨q,hq,p.1,hp⟩) (h.nn q hq) (h.s4 q hq);have h6:=h.sn q hq;unfold d_x;rw[List.length_append,a_L];omega
 have h5:=h.s3;unfold bkB;simp only[List.length_append,l_,n_X];simp only[List.length_nil]at h1;omega
end
end vault
namespace vault
set_option maxRecDepth 100000
open Go.ChangeShapes Go.WideShapes Go.ChangeAt kit pool Go.Deep Go.Maps
def RdC(w:World)(A:Option Addr)(m:Nat)(Cs:Nat->Cm)(dr kp:Nat->Int)(R:Nat->Option Addr)(dc:Nat->Nat):Prop:=
 m<=maxLen/\(0<m->∃b off,A=some ⟨b,off,none⟩/\b<w.heap.size/\∀i,i<m->w.cell? ⟨b,off+i*8,none⟩=some (.int .i64 (Cs i).kind)/\w.cell? ⟨b,off+i*8+1,none⟩=some (encStr (Cs i).name)/\w.cell? ⟨b,off+i*8+2,none⟩=some (encStr (Cs i).other)/\w.cell? ⟨b,off+i*8+3,none⟩=some (.int .i64 (Cs i).off)/\w.cell? ⟨b,off+i*8+4,none⟩=some (.int .i64 (Cs i).count)/\w.cell? ⟨b,off+i*8+5,none⟩=some (.int .i64 (dr i))/\w.cell? ⟨b,off+i*8+6,none⟩=some (.int .i64 (kp i))/\w.cell? ⟨b,off+i*8+7,none⟩=some (.slice (R i) (Cs i).dn (dc i))) /\
 ∀i,i<m->a_q w (Cs i) (R i) (dc i)
theorem RdC.new{w w':World}{A:Option Addr}{m:Nat}{Cs:Nat->Cm}{dr kp:Nat->Int}{R:Nat->Option Addr}{dc:Nat->Nat}(h:RdC w A m Cs dr kp R dc)(hn:New w w'):RdC w' A m Cs dr kp R dc:=
 ⟨h.1,fun h0=>by
  obtain⟨b,off,hA,hb,hc⟩:=h.2.1 h0;exact⟨b,off,hA,Nat.lt_of_lt_of_le hb hn.size,fun i hi=>by
   obtain⟨h0,h1,h2,h3,h4,h5,h6,h7⟩:=hc i hi;exact⟨(hn.cell hb).trans h0,(hn.cell hb).trans h1,(hn.cell hb).trans h2,(hn.cell hb).trans h3,(hn.cell hb).trans h4,(hn.cell hb).trans h5,(hn.cell hb).trans h6,(hn.cell hb).trans h7⟩⟩,fun i hi=>(h.2.2 i hi).new hn⟩
def tdL(T:Nat->Td)(dv nv:Nat->Value)(m:Nat):List Value:=(List.range m).flatMap fun i=>[.int .i64 (T i).code,.bool false,.int .i64 ((T i).size:Nat),dv i,nv i]
theorem l_R(T:Nat->Td)(dv nv:Nat->Value):∀m,(tdL T dv nv m).length=m*5
 |0=>rfl
 |m+1=>by
  have:=l_R T dv nv m;unfold tdL at this ⊢;rw[List.range_succ,List.flatMap_append,List.length_append,this];simp;omega
theorem o_F(T:Nat->Td)(dv nv:Nat->Value)(m:Nat)(u v:Value):tdL T (fun i=>if i=m then u else dv i) (fun i=>if i=m then v else nv i) (m+1)=tdL T dv nv m++[.int .i64 (T m).code,.bool false,.int .i64 ((T m).size:Nat),u,v]:=by
 unfold tdL;rw[List.range_succ,List.flatMap_append];congr 1
 ·rw[List.flatMap_def,List.flatMap_def]
  congr 1;apply List.map_congr_left;intro i hi;have hi:=List.mem_range.1 hi;simp[show i≠m by omega]
 ·simp
theorem k_t(T:Nat->Td)(dv nv:Nat->Value):∀m i,i<m->(tdL T dv nv m)[i*5]?=some (.int .i64 (T i).code)/\(tdL T dv nv m)[i*5+1]?=some (.bool false)/\(tdL T dv nv m)[i*5+2]?=some (.int .i64 ((T i).size:Nat))/\(tdL T dv nv m)[i*5+3]?=some (dv i)/\(tdL T dv nv m)[i*5+4]?=some (nv i)
 |0,i,h=>absurd h (Nat.not_lt_zero i)
 |m+1,i,h=>by
  have hl:=l_R T dv nv m;have hr:=k_t T dv nv m i;unfold tdL at hl hr ⊢;rw[List.range_succ,List.flatMap_append]
  by_cases e:i<m
  ·rw[List.getElem?_append_left (by omega),List.getElem?_append_left (by omega),List.getElem?_append_left (by omega),List.getElem?_append_left (by omega),List.getElem?_append_left (by omega)]
   exact hr e
  ·have:i=m:=by omega
   subst this;rw[List.getElem?_append_right (by omega),List.getElem?_append_right (by omega),List.getElem?_append_right (by omega),List.getElem?_append_right (by omega),List.getElem?_append_right (by omega),hl]
   simp
def PlO(T:Nat->Td)(m:Nat)(cd:Int)(w:World)(e:Ending)(w':World):Prop:=
 (∃v dv nv,e=.returned (.tuple #[v,.int .i64 cd])/\w'.ownsRow w.heap.size 38 5 v m (tdL T dv nv m)/\∀j,j<m->Bs w' (dv j) (T j).dat/\Ns w' (nv j) (T j).names)/\New w w'
theorem p_O:(prog.info? 38).map (fun i=>(i.zero,i.size,i.bytes))=some (some (.agg #[.int .i64 0,.bool false,.int .i64 0,.slice none 0 0,.slice none 0 0]),5,72):=by kernel_rfl
def s_m(o:Nat->Nat)(w:World)(b:Nat):Prop:=o b≠0/\(o b=2->∀cs,¬Blk w b 5 cs/\¬Blk w b 9 cs)
def u_5(o:Nat->Nat)(v:Value):Prop:=∀k,v.ownBlock=some k->o k=0\/o k=2
structure f_8(o:Nat->Nat)(w:World)(t:Td)(dv nv:Value):Prop where
 dt:Bs w dv t.dat
 nm:Ns w nv t.names
 df:0<t.dat.n->u_5 o dv
 nf:u_5 o nv
theorem f_8.alt{o o':Nat->Nat}{w w':World}{t:Td}{dv nv:Value}{K:Nat->Prop}(h:f_8 o w t dv nv)(ha:Alt K w w')(hK:∀b cs,K b->(Blk w b 5 cs\/Blk w b 9 cs)->o b≠0/\o b≠2)(hs:s_ o o' w):f_8 o' w' t dv nv:=by
 refine⟨?_,?_,fun h0 k hk=>?_,fun k hk=>?_⟩
 ·obtain⟨A,c,h1,h2,h3,h4,h5⟩:=h.dt
  refine⟨A,c,h1,h2,h3,h4,fun h0=>?_⟩;obtain⟨g,off,cs,rfl,h7,h8⟩:=h5 h0;refine⟨g,off,cs,rfl,ha.blk h7 (fun hk=>?_),h8⟩;obtain⟨k1,k2⟩:=hK g cs hk (.inl h7);have h9:=h.df h0 g (by rw[h1];rfl)
  omega
 ·refine ha.own h.nm fun g hg hk=>?_
  have h9:=h.nf g hg;rcases h.nm.2 with⟨h0,_⟩|⟨g',cap,cur,h0,_,hg0,_⟩
  ·rw[h0]at hg;cases hg
  ·rw[h0]at hg
   have:g'=g:=by simpa [Value.ownBlock]using hg
   subst this;obtain⟨k1,k2⟩:=hK _ cur hk (.inr hg0);omega
 ·obtain⟨A,c,h1,h2,h3,h4,h5⟩:=h.dt
  obtain⟨g,off,cs,rfl,h7,h8⟩:=h5 h0;have hk2:=hk;rw[h1]at hk2;have:g=k:=by simpa [Value.ownBlock]using hk2
  subst this;rw[hs g h7.lt];exact h.df h0 g hk
 ·rw[hs k (h.nm.lt k hk).2]
  exact h.nf k hk
theorem s_m.told{o:Nat->Nat}{w:World}{b:Nat}{cs:Array Value}(h:s_m o w b)(hb:Blk w b 5 cs\/Blk w b 9 cs):o b≠0/\o b≠2:=
 ⟨h.1,fun e=>hb.elim (fun hb=>(h.2 e cs).1 hb) fun hb=>(h.2 e cs).2 hb⟩
def h_W(J':(Nat->Nat)->World->Prop)(t:Td)(o:Nat->Nat)(w:World)(e:Ending)(w':World):Prop:=
 ∃dv nv o',e=.returned (.agg #[.int .i64 t.code,.bool false,.int .i64 (t.size:Nat),dv,nv])/\f_8 o' w' t dv nv/\J' o' w'/\s_ o o' w/\Alt (s_m o w) w w'
def k_b(n p:Nat)(A:VA)(o:Nat->Nat)(w:World):Prop:=A.n=n/\A.p=p/\VOk A/\∃st xb yb o0 s' pp rs pt root w0,Reg A (vs0 st) [] []/\c_w A o0 (vs0 st) [] (fun _ _=>0) xb yb 0 ⟨[],[]⟩ w0 s' o pp rs pt root w
end vault
namespace top
set_option maxRecDepth 100000
open Go.ChangeShapes Go.WideShapes Go.ChangeAt kit pool vault Go.Deep
theorem m_C:(prog.info? 45).map (fun i=>(i.zero,i.size,i.bytes))=some (some (.agg #[.int .i64 0,.string {data:=#[]},.string {data:=#[]},.int .i64 0,.int .i64 0,.int .i64 0,.int .i64 0,.slice none 0 0]),8,96):=by kernel_rfl
def cdL(Cs:Nat->Cm)(dr kp:Nat->Int)(R:Nat->Option Addr)(dc:Nat->Nat)(m:Nat):List Value:=(List.range m).flatMap fun i=>[.int .i64 (Cs i).kind,encStr (Cs i).name,encStr (Cs i).other,.int .i64 (Cs i).off,.int .i64 (Cs i).count,.int .i64 (dr i),.int .i64 (kp i),.slice (R i) (Cs i).dn (dc i)]
theorem f_E(Cs:Nat->Cm)(dr kp:Nat->Int)(R:Nat->Option Addr)(dc:Nat->Nat):∀m,(cdL Cs dr kp R dc m).length=m*8
 |0=>rfl
 |m+1=>by
  have:=f_E Cs dr kp R dc m;unfold cdL at this ⊢;rw[List.range_succ,List.flatMap_append,List.length_append,this];simp;omega
theorem q_w(Cs:Nat->Cm)(dr kp:Nat->Int)(R:Nat->Option Addr)(dc:Nat->Nat)(m:Nat)(r:Option Addr)(d:Nat):cdL Cs dr kp (fun i=>if i=m then r else R i) (fun i=>if i=m then d else dc i) (m+1)=cdL Cs dr kp R dc m++[.int .i64 (Cs m).kind,encStr (Cs m).name,encStr (Cs m).other,.int .i64 (Cs m).off,.int .i64 (Cs m).count,.int .i64 (dr m),.int .i64 (kp m),.slice r (Cs m).dn d]:=by
 unfold cdL;rw[List.range_succ,List.flatMap_append];congr 1
 ·rw[List.flatMap_def,List.flatMap_def]
  congr 1;apply List.map_congr_left;intro i hi;have hi:=List.mem_range.1 hi;simp[show i≠m by omega]
 ·simp
theorem l_q(Cs:Nat->Cm)(dr kp:Nat->Int)(R:Nat->Option Addr)(dc:Nat->Nat):∀m i,i<m->(cdL Cs dr kp R dc m)[i*8]?=some (.int .i64 (Cs i).kind)/\(cdL Cs dr kp R dc m)[i*8+1]?=some (encStr (Cs i).name)/\(cdL Cs dr kp R dc m)[i*8+2]?=some (encStr (Cs i).other)/\(cdL Cs dr kp R dc m)[i*8+3]?=some (.int .i64 (Cs i).off)/\(cdL Cs dr kp R dc m)[i*8+4]?=some (.int .i64 (Cs i).count)/\(cdL Cs dr kp R dc m)[i*8+5]?=some (.int .i64 (dr i))/\(cdL Cs dr kp R dc m)[i*8+6]?=some (.int .i64 (kp i))/\(cdL Cs dr kp R dc m)[i*8+7]?=some (.slice (R i) (Cs i).dn (dc i))
 |0,i,h=>absurd h (Nat.not_lt_zero i)
 |m+1,i,h=>by
  have hl:=f_E Cs dr kp R dc m;have hr:=l_q Cs dr kp R dc m i;unfold cdL at hl hr ⊢;rw[List.range_succ,List.flatMap_append]
  by_cases e:i<m
  ·iterate 8 rw[List.getElem?_append_left (by omega)]
   exact hr e
  ·have:i=m:=by omega
   subst this
   iterate 8 rw[List.getElem?_append_right (by omega)]
   rw[hl];simp
theorem s_a(Cs:Nat->Cm)(dr kp:Nat->Int)(R:Nat->Option Addr)(dc:Nat->Nat)(m:Nat):∀u∈cdL Cs dr kp R dc m,u.oneCell'=true:=fun u hu=>by
 obtain⟨i,_,hi⟩:=List.mem_flatMap.1 hu;simp only[List.mem_cons,List.not_mem_nil,or_false]at hi;rcases hi with rfl|rfl|rfl|rfl|rfl|rfl|rfl|rfl<;>rfl
theorem s_9{w:World}{B:Option Addr}{m:Nat}{Cs:Nat->Cm}{dr kp:Nat->Int}{R:Nat->Option Addr}{dc:Nat->Nat}(h:RdC w B m Cs dr kp R dc)(h0:0<m):∃b off,B=some ⟨b,off,none⟩/\∀j u,(cdL Cs dr kp R dc m)[j]?=some u->w.cell? ((⟨b,off,none⟩:Addr).add j)=some u:=by
 obtain⟨b,off,e,_,hc⟩:=h.2.1 h0;refine⟨b,off,e,fun j u hu=>?_⟩;have hj:=(List.getElem?_eq_some_iff.1 hu).1;rw[f_E]at hj;obtain⟨i,r,hr,hi,rfl⟩:∃i r,r<8/\i<m/\j=i*8+r:=⟨j/8,j%8,by omega,by omega,by omega⟩
 obtain⟨a0,a1,a2,a3,a4,a5,a6,a7⟩:=l_q Cs dr kp R dc m i hi;obtain⟨c0,c1,c2,c3,c4,c5,c6,c7⟩:=hc i hi;rw[i_];have hr:r=0\/r=1\/r=2\/r=3\/r=4\/r=5\/r=6\/r=7:=by omega
 rcases hr with rfl|rfl|rfl|rfl|rfl|rfl|rfl|rfl
 ·exact c0.trans (a0.symm.trans hu)
 ·exact c1.trans (a1.symm.trans hu)
 ·exact c2.trans (a2.symm.trans hu)
 ·exact c3.trans (a3.symm.trans hu)
 ·exact c4.trans (a4.symm.trans hu)
 ·exact c5.trans (a5.symm.trans hu)
 ·exact c6.trans (a6.symm.trans hu)
 ·exact c7.trans (a7.symm.trans hu)
theorem m_3{w:World}{base m:Nat}{v:Value}{Cs:Nat->Cm}{dr kp:Nat->Int}{R:Nat->Option Addr}{dc:Nat->Nat}(h:w.ownsRow base 45 8 v m (cdL Cs dr kp R dc m))(hm:m<=maxLen)(hc:∀i,i<m->a_q w (Cs i) (R i) (dc i)):∃A c,v=.slice A m c/\m<=c/\c<=maxLen/\RdC w A m Cs dr kp R dc:=by
 obtain⟨A,c,rfl,h1,h2,h3,h4⟩:=h_ h;refine⟨A,c,rfl,h1,h2,hm,fun h0=>?_,hc⟩;obtain⟨g,e,_,hl⟩:=h3 h0;refine⟨g,0,e,hl,fun i hi=>?_⟩;obtain⟨a0,a1,a2,a3,a4,a5,a6,a7⟩:=l_q Cs dr kp R dc m i hi;simp only[Nat.zero_add];exact⟨h4 g e _ _ a0,h4 g e _ _ a1,h4 g e _ _ a2,h4 g e _ _ a3,h4 g e _ _ a4,h4 g e _ _ a5,h4 g e _ _ a6,h4 g e _ _ a7⟩
theorem e_N{w:World}{B:Option Addr}{m c:Nat}{Cs:Nat->Cm}{dr kp:Nat->Int}{R:Nat->Option Addr}{dc:Nat->Nat}(ty:TypeId)(h:RdC w B m Cs dr kp R dc)(hm:m<=1000):∃A c' w',(Builtin.append_ #[25,25] ty #[.slice none 0 0,.slice B m c]).run prog w=.ok (.slice A m c') w'/\RdC w' A m Cs dr kp R dc/\New w w':=by
 obtain⟨i0,hi0,hz0,hz1,hz2⟩:=info_parts m_C;rcases Nat.eq_zero_or_pos m with rfl|h0
 ·exact⟨none,0,w,c_u _ ty _ i0 underlying25 hi0 _ _ _ _ _ (Nat.le_refl 0),⟨Nat.zero_le _,fun h=>absurd h (Nat.lt_irrefl 0),fun i hi=>absurd hi (Nat.not_lt_zero i)⟩,New.refl w⟩
 ·obtain⟨b,off,rfl,hs⟩:=s_9 h h0
  obtain⟨v',w',hr,ho,hg,_,_⟩:=run_append_own_at (P:=prog) w w.heap.size 25 ty 45 i0 _ 8 96 underlying25 hi0 hz0 hz1 hz2 rfl (by decide) (.slice none 0 0) 0 [] (World.ownsRow_nil _ _ _ _) ⟨b,off,none⟩ m c (cdL Cs dr kp R dc m) (f_E _ _ _ _ _ _) hs (s_a _ _ _ _ _ _) (by unfold maxLen;omega) (by omega) (Nat.le_refl _)
  rw[Nat.zero_add,List.nil_append]at ho;have hn:New w w':=⟨hg.os,hg.tape,hg.output,hg.size,fun k hk=>hg.block k hk (by simp[Value.ownBlock])⟩
  obtain⟨A,c',rfl,_,_,hR⟩:=m_3 ho h.1 fun i hi=>(h.2.2 i hi).new hn;exact⟨A,c',w',hr,hR,hn⟩
theorem a_K{P:Program}{ops:Array Oper}{rest:List Oper}{o:Oper}{a:Act}{Q:Exit->Act->World->Prop}{w w':World}{v:Value}(hgd:o.guard=none)(s x:Operand)(t:TypeId)
  (ho:o.op=.call {callee:=.builtin .append,args:=#[s,x],argTypes:=#[t,t]}) (sv xv:Value) (hs:a.eval s=sv) (hx:a.eval x=xv) (hr:(Builtin.append_ #[t,t] o.type #[sv,xv]).run P w=.ok v w')
  (h:wpList P ops Q rest (a.put o.dst v) w'):wpList P ops Q (o::rest) a w:=
 wpList_plain hgd fun K hK=>by
  unfold Oper.wp execOp;simp only[ho,resolve,invoke,builtin,Sem.run_bind,Sem.run_pure,Result.andThen_ok,List.map_toArray,List.map_cons,List.map_nil,hs,hx,hr];exact hK _ _ h
end top
namespace top
set_option maxRecDepth 100000
open Go.ChangeShapes Go.WideShapes Go.ChangeAt kit pool Go.Deep
theorem o_6(a n:Int)(hn:0<n):a%n=if a.tmod n<0 then a.tmod n+n else a.tmod n:=by
 have h1:=Int.emod_nonneg a (by omega:n≠0)
 have h2:=Int.emod_lt_of_pos a hn;rw[Int.tmod_eq_emod]
 by_cases h:0<=a\/n∣a
 ·rw[if_pos h,if_neg (by omega)]
  omega
 ·rw[if_neg h,Int.natAbs_of_nonneg (by omega),if_pos (by omega)]
  omega
theorem a_F(a n:Int)(w:World)(h1:1<=n)(h2:n<=1000000)(ha : -9223372036854775808<=a/\a<=9223372036854775807) :
  Calls prog 17 #[.int .i64 a,.int .i64 n] w fun e w'=>e=.returned (.int .i64 (a%n))/\New w w':=by
 have he:=o_6 a n (by omega)
 have hlt:=Int.tmod_lt_of_pos a (b:=n) (by omega)
 have hgt : -n<=a.tmod n:=by
  have:=Int.emod_nonneg a (by omega:n≠0)
  split at he<;>omega
 obtain⟨r,hr⟩:∃r,a.tmod n=r:=⟨_,rfl⟩;rw[hr]at he hlt hgt;have hw:IntKind.i64.wrap r=r:=by rw[IntKind.wrap_i64];omega
 have hn0:¬n=0:=by omega
 obtain⟨z,hz⟩:∃z,Hid (z=a%n):=⟨_,rfl⟩;rw[<-hz.o]at he ⊢
 by_cases hneg:r<0
 ·rw[if_pos hneg]at he
  subst he;have hs:IntKind.i64.wrap (r+n)=r+n:=by rw[IntKind.wrap_i64];omega
  go_enter func17,ntmps17;go_wp2;go_ret;exact⟨rfl,New.refl w⟩
 ·rw[if_neg hneg]at he
  subst he;go_enter func17,ntmps17;go_wp2;go_ret;exact⟨rfl,New.refl w⟩
def shN(d:Int):Nat:=(2+d%7).toNat
def shP(d p:Int):Nat:=(1+p%(min 3 (2+d%7-1))).toNat
theorem k_C(d:Int):2<=shN d/\shN d<=8/\((shN d:Nat):Int)=2+d%7:=by unfold shN;omega
theorem k_B(d p:Int):1<=shP d p/\shP d p<=3/\shP d p<shN d/\((shP d p:Nat):Int)=1+p%(min 3 (2+d%7-1)):=by
 have hm:1<=min 3 (2+d%7-1)/\min 3 (2+d%7-1)<=3/\min 3 (2+d%7-1)<=2+d%7-1:=by omega
 unfold shP shN;generalize min 3 (2+d%7-1)=k at *;have h1:=Int.emod_nonneg p (by omega:k≠0)
 have h2:=Int.emod_lt_of_pos p (by omega:0<k)
 generalize p%k=q at *;omega
theorem t_F(d p m k q:Int)(w:World)(h1:∀w,Calls prog 17 #[.int .i64 d,.int .i64 7] w fun e w'=>e=.returned (.int .i64 m)/\New w w')(h2:∀w,Calls prog 17 #[.int .i64 p,.int .i64 k] w fun e w'=>e=.returned (.int .i64 q)/\New w w')(hm1:0<=m)(hm2:m<7)(hk:min (3:Int) (2+m-1)=k)(hq:0<=q)(hq2:q<k) :
  Calls prog 6 #[.int .i64 d,.int .i64 p] w fun e w'=>e=.returned (.tuple #[.int .i64 (2+m),.int .i64 (1+q)])/\New w w':=by
 have h1:=Hd h1;have h2:=Hd h2;replace h2:Hid (∀w,_):=h2;replace h1:Hid (∀w,_):=h1
 by_cases h:3<=2+m-1
 ·obtain rfl:k=3:=by omega
  clear hk;go_enter func6,ntmps6;go_wp2_with fail;refine(h1.o w).mono ?_;rintro e w1 ⟨rfl,hn1⟩;have hn1:=Hd hn1;go_wp2_with fail
  try rw[show min (3:Int) (2+m-1)=3 by omega]
  refine(h2.o w1).mono ?_;rintro e w2 ⟨rfl,hn2⟩;have hn2:=Hd hn2;go_wp2;go_ret2;exact⟨rfl,hn1.o.next hn2.o⟩
 ·obtain rfl:k=2+m-1:=by omega
  clear hk;go_enter func6,ntmps6;go_wp2_with fail;refine(h1.o w).mono ?_;rintro e w1 ⟨rfl,hn1⟩;have hn1:=Hd hn1;go_wp2_with fail
  try rw[show min (3:Int) (2+m-1)=2+m-1 by omega]
  refine(h2.o w1).mono ?_;rintro e w2 ⟨rfl,hn2⟩;have hn2:=Hd hn2;go_wp2;go_ret2;exact⟨rfl,hn1.o.next hn2.o⟩
theorem h_X(d p:Int)(w:World)(hd : -9223372036854775808<=d/\d<=9223372036854775807)(hp : -9223372036854775808<=p/\p<=9223372036854775807) :
  Calls prog 6 #[.int .i64 d,.int .i64 p] w fun e w'=>e=.returned (.tuple #[.int .i64 (shN d:Nat),.int .i64 (shP d p:Nat)])/\New w w':=by
 rw[(k_C d).2.2,(k_B d p).2.2.2];have hm:1<=min 3 (2+d%7-1)/\min 3 (2+d%7-1)<=3:=by omega
 exact t_F d p (d%7) (min 3 (2+d%7-1)) (p%min 3 (2+d%7-1)) w (fun w=>a_F d 7 w (by omega) (by omega) hd) (fun w=>a_F p _ w hm.1 (by omega) hp) (by omega) (by omega) rfl (Int.emod_nonneg p (by omega)) (Int.emod_lt_of_pos p (by omega))
theorem i_a(A B:Option Addr)(n c d:Nat)(Y Z:Nat->Int)(w:World)(hY:RdI .u8 w A n Y)(hZ:RdI .u8 w B n Z)(he:∀i,i<n->Y i=Z i) :
  Calls prog 24 #[.slice A n c,.slice B n d] w fun e w'=>e=.returned (.bool true)/\New w w':=by
 have hm:=hY.1;unfold maxLen at hm;have he1:=Hd he;clear he;go_enter func24,ntmps24;go_wp2;go_loopw [5] (fun k wr=>∃i:Nat,k=.int .i64 i/\i<=n/\New w wr) (fun k _=>n-(intOf k).toNat);case atStart=>exact⟨0,rfl,by omega,New.refl w⟩
 case round=>
  obtain⟨i,rfl,hi,hnw⟩:=hrel
  by_cases hlt:i<n
  ·obtain⟨b,off,rfl,hb,hcs⟩:=hY.2 (by omega)
   obtain⟨b',off',rfl,hb',hcs'⟩:=hZ.2 (by omega)
   have c0:=(hnw.cell hb).trans (hcs i hlt);have c1:=(hnw.cell hb').trans (hcs' i hlt);have he:=he1.o i hlt;clear hcs hcs';go_wp2;go_quiet (fail);go_wp2;go_roundw;case rel=>exact⟨i+1,by go_num,by omega,hnw.drewN _⟩
   case measure=>simp[intOf];omega
  ·have hin:i=n:=by omega
   subst hin;go_wp2;go_ret;exact⟨rfl,hnw⟩
theorem i_9(A B:Option Addr)(n c d:Nat)(Y:Nat->Nm)(w:World)(hm:n<=maxLen)(hY:0<n->∃b off,A=some ⟨b,off,none⟩/\b<w.heap.size/\∀i,i<n->w.cell? ⟨b,off+i,none⟩=some (encStr (Y i)))(hZ:0<n->∃b off,B=some ⟨b,off,none⟩/\b<w.heap.size/\∀i,i<n->w.cell? ⟨b,off+i,none⟩=some (encStr (Y i))) :
  Calls prog 25 #[.slice A n c,.slice B n d] w fun e w'=>e=.returned (.bool true)/\New w w':=by
 unfold maxLen at hm;have hY:=Hd hY;have hZ:=Hd hZ;go_enter func25,ntmps25;go_wp2;go_loopw [5] (fun k wr=>∃i:Nat,k=.int .i64 i/\i<=n/\New w wr) (fun k _=>n-(intOf k).toNat);case atStart=>exact⟨0,rfl,by omega,New.refl w⟩
 case round=>
  obtain⟨i,rfl,hi,hnw⟩:=hrel
  by_cases hlt:i<n
  ·obtain⟨b,off,rfl,hb,hcs⟩:=hY.o (by omega)
   obtain⟨b',off',rfl,hb',hcs'⟩:=hZ.o (by omega)
   have c0:=(hnw.cell hb).trans (hcs i hlt);have c1:=(hnw.cell hb').trans (hcs' i hlt);clear hcs hcs';obtain⟨v,hv⟩:∃v,v=encStr (Y i):=⟨_,rfl⟩;go_wp2;go_quiet (fail);go_wp2;go_roundw;case rel=>exact⟨i+1,by go_num,by omega,hnw.drewN _⟩
   case measure=>simp[intOf];omega
  ·have hin:i=n:=by omega
   subst hin;go_wp2;go_ret;exact⟨rfl,hnw⟩
end top
end Go.Proofs.YtojcoaekhiadcaaGreat
