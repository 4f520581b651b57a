import Derived.Test.YtojcoaekhiadcaaGreatA01
import Derived.Test.YtojcoaekhiadcaaGreatA32
import Derived.Test.YtojcoaekhiadcaaGreatA31
import Derived.Test.YtojcoaekhiadcaaGreatA30
import Derived.BigRegion
set_option linter.unusedVariables false
set_option linter.unusedSimpArgs false
namespace Go.Proofs.YtojcoaekhiadcaaGreat
open Tryz Go.RowKit
namespace vault
set_option maxRecDepth 100000
open Go.ChangeMaps (setBlock)
open Go.ChangeShapes Go.WideShapes Go.ChangeAt kit pool drive spans Go.Deep Go.Maps label flet stripe
set_option maxHeartbeats 8000000 in
theorem j_0{A:VA}{o:Nat->Nat}{s:VS}(hA:VOk A)(w:World)(bad:List Nat)(bc:Nat->Nat->Nat)(xb yb c:Nat)(g:GS)(hS:VSt A s bad o bc xb yb c g w)(pp pb:List Ptr)(hR:Reg A s pp pb)(hM:l_D o s w (pp++pb))(hbad:∀d,d<A.n->((s.ds d).dead=true\/s.fresh d=true)->d∈bad)(hws:∀i,i<A.n->(s.ds i).ws.length<=60)(ht:0<=s.time/\s.time<=1000000)(hpt:s.puts<0)(hg:GSm g)(hU64:g.all.length<=64)(hln:∀pt,(bkB (r_ [] g.all) pt g).length<=5100) :
  Calls prog 21 #[ptr A.v] w fun e w'=>e=.returned (.int .i64 0)/\∃s' o' pp rs pt root,c_w A o s bad bc xb yb c g w s' o' pp rs pt root w':=by
 have hn8:=hA.n8;have hu1:1<=uA A:=by unfold uA;omega
 have hun:uA A<=A.n:=by have:=hA.pn;unfold uA;omega
 obtain⟨ats,hats⟩:∃ats:Nat->Option Ptr,∀b,b∈g.all->BlM o w b (bc b) (ats b)/\f_l A s bad (bc b) (ats b):=by
  have h1:∀b,∃at_,b∈g.all->BlM o w b (bc b) at_/\f_l A s bad (bc b) at_:=fun b=>by
   by_cases hb:b∈g.all
   ·obtain⟨at_,h⟩:=hS.bl b hb
    exact⟨at_,fun _=>h⟩
   ·exact⟨none,fun h=>absurd h hb⟩
  exact⟨fun b=>(h1 b).choose,fun b hb=>(h1 b).choose_spec hb⟩
 obtain⟨tm,htm⟩:∃tm:Int,Hid (tm=s.time+1):=⟨_,rfl⟩;obtain⟨s1,hs1⟩:∃s1:VS,Hid (s1={s with time:=tm}):=⟨_,rfl⟩;obtain⟨W1,hW1⟩:∃W1,W1=w.setCell ⟨A.v,5,none⟩ (.int .i64 tm):=⟨_,rfl⟩;have hV1:VM A o s1 W1:=by
  rw[hW1,hs1.o];exact hS.vm.vset 5 _ rfl rfl rfl rfl
 have ha1:Hid (Alt (fun b=>b=A.v) w W1):=by rw[hW1];exact Alt.set (K:=fun b=>b=A.v) (Alt.refl w) (.inl rfl) _
 have hov:=hS.vm.ov;have hP1:PlM A.v s1.st xb yb c o g W1:=by
  rw[hs1.o];exact hS.pl.alt ha1.o (fun b hb e=>by rw[e]at hb;omega) (s_.refl o w)
 have hB1:Hid (∀b,b∈g.all->BlM o W1 b (bc b) (ats b)):=fun b hb=>(hats b hb).1.alt ha1.o (fun b hb e=>by rw[e]at hb;omega) (s_.refl o w)
 have hM1:Hid (W1.ownsRow 0 107 8 s.syn (pp++pb).length (q_ (pp++pb))):=ha1.o.own hM.rw fun k hk e=>by
  have h1:=hS.vm.bk;rw[e]at hk;exact b_ hM.rw h1 (by decide) hk
 have v5:=hS.vm.v5;have f5:=hS.vm.bk.frozen 5;have t1:s.time+1=tm:=htm.o.symm;have t2:IntKind.i64.wrap tm=tm:=IntWalk.i64_in _ (by have:=htm.o;omega)
 have u0:=hV1.v0;have hV1H:=Hd hV1;have hP1H:=Hd hP1;have hSH:=Hd hS;have hRH:=Hd hR;have hMH:=Hd hM;have hatsH:=Hd hats;have hbadH:=Hd hbad;have hwsH:=Hd hws;have hgH:=Hd hg;have hlnH:=Hd hln;have hptH:=Hd hpt;have htH:=Hd ht;have b02:(0:Int)<2:=by decide
 have u0b:=(((New.refl W1).alloc (.cells #[.slice none 0 0] 103)).cell (a_ u0)).trans u0;have m1:IntKind.i64.wrap (4*(A.n:Int))=4*(A.n:Int):=IntWalk.i64_in _ (by omega)
 have m2:IntKind.i64.wrap (512*(A.n:Int))=512*(A.n:Int):=IntWalk.i64_in _ (by omega)
 clear hS hR hM hats hbad hws ht hpt hg hln hV1 hP1;go_enter func21,ntmps21;go_upto_region 2 with fail;rw[<-hW1];clear hW1 v5 f5 t1 t2;go_cut [3] from 27 to 40 (fun t wx=>∃fb,t=ptr fb/\Hid (FrS A W1 fb [] wx));case first=>
  go_region
  all_goals go_wp2
  all_goals go_meet
  ·exact⟨_,rfl,FrS.start1 hA W1⟩
  ·exact⟨_,rfl,FrS.start2 hA W1⟩
 case rest=>
  obtain⟨fb,rfl,hF0⟩:=hcut;have v8:wc.cell? ⟨A.v,8,none⟩=some s.syn:=by
   have h1:=(hV1H.o.new hF0.o.nw).v8;rw[hs1.o]at h1;exact h1
  obtain⟨LL,hLL⟩:∃LL:List Bk,Hid (LL=s.pg++s.bo):=⟨_,rfl⟩;obtain⟨n1,hn1⟩:∃n1,Hid (n1=(pp++pb).length):=⟨_,rfl⟩;have hn1b:n1<=71:=by
   have h1:=hRH.o.n64;have h2:=hRH.o.n7;rw[hn1.o,List.length_append,<-hRH.o.pl,<-hRH.o.bl];omega
  have hLn:Hid (LL.length=n1):=by show _=_;rw[hLL.o,hn1.o,List.length_append,List.length_append,hRH.o.pl,hRH.o.bl]
  rw[<-hn1.o]at hM1;obtain⟨Rs',ks,hsyn⟩:=j_ hM1.o;rw[hsyn]at v8;have hsynH:=Hd hsyn;have hst1:Hid (FrS A W1 fb (LL.take 0) wc):=hF0;have hLpos:Hid (∀u,u∈LL->0<u.2/\u.1+u.2<=508):=fun u hu=>by
   rw[hLL.o]at hu;refine⟨hRH.o.pos u hu,?_⟩;obtain⟨i,hi⟩:=List.getElem?_of_mem hu;have hil:i<(pp++pb).length:=by
    have:=(List.getElem?_eq_some_iff.1 hi).1;rw[List.length_append,hRH.o.pl,hRH.o.bl,<-List.length_append]at this;exact this
   obtain⟨u',h1,h2⟩:=hRH.o.at (List.getElem?_eq_getElem hil);rw[h1]at hi;cases hi;exact h2.hi
  clear hF0 u0 u0b hsyn m1 m2;go_wp2_with fail;go_loopw [46] (fun x wr=>∃i:Nat,x=.int .i64 i/\i<=n1/\Hid (FrS A W1 fb (LL.take i) wr)) (fun x _=>n1-(intOf x).toNat);case atStart=>exact⟨0,rfl,by omega,hst1⟩
  case round=>
   obtain⟨i,rfl,hi,hF⟩:=hrel;clear hst1 v8
   by_cases hlt:i<n1
   ·have hiI:(i:Int)<(n1:Int):=by omega
    have hi0:(0:Int)<=(i:Int):=by omega
    obtain⟨gs,rfl⟩:∃gs,Rs'=some ⟨gs,0,none⟩:=by
     have h1:=hM1.o;rw[hsynH.o]at h1;rcases h1.2 with⟨_,h0⟩|⟨g',cap,cur,h0,_⟩
     ·omega
     ·injection h0 with h0 _ _
      exact⟨g',h0⟩
    obtain⟨q,hq⟩:∃q,(pp++pb)[i]?=some q:=⟨_,List.getElem?_eq_getElem (by rw[<-hn1.o];exact hlt)⟩
    obtain⟨u,hu,hpu⟩:=hRH.o.at hq;rw[<-hLL.o]at hu;have hum:=List.mem_of_getElem? hu;have hcells:Hid (∀k x,(x_ q)[k]?=some x->wr.cell? ⟨gs,i*8+k,none⟩=some x):=fun k x hx=>by
     have hk:k<8:=by
      have:=(Array.getElem?_eq_some_iff.1 hx).1;exact this
     have h1:=hM1.o;rw[hsynH.o]at h1;have h2:=World.ownsRow.cells h1 rfl (i*8+k) x (by
      rw[p_a hq hk];exact hx)
     rw[i_,Nat.zero_add]at h2;exact(hF.o.nw.cell (a_ h2)).trans h2
    obtain⟨ad,ct,by_,birth,t0,t1,t2,t3⟩:=q;have l0:=hcells.o 0 _ rfl;have l1:=hcells.o 1 _ rfl;have l2:=hcells.o 2 _ rfl;have l3:=hcells.o 3 _ rfl;have l4:=hcells.o 4 _ rfl;have l5:=hcells.o 5 _ rfl;have l6:=hcells.o 6 _ rfl;have l7:=hcells.o 7 _ rfl;simp only[Nat.add_zero]at l0;go_wp2_with fail;obtain⟨W5,hW5⟩:∃W5,W5=wr.alloc (.cells #[.int .i64 ad,.int .i64 ct,.int .i64 by_,.int .i64 birth,.int .i64 t0,.int .i64 t1,.int .i64 t2,.int .i64 t3] 107):=⟨_,rfl⟩;obtain⟨p5,hp5⟩:∃p5,Hid (p5=wr.heap.size):=⟨_,rfl⟩;have hb5:Blk W5 p5 107 #[.int .i64 ad,.int .i64 ct,.int .i64 by_,.int .i64 birth,.int .i64 t0,.int .i64 t1,.int .i64 t2,.int .i64 t3]:=by rw[hW5,hp5.o];exact Blk.fresh _ _ _
    have hF5:FrS A W1 fb (LL.take i) W5:=by rw[hW5];exact hF.o.new ((New.refl wr).alloc _)
    obtain⟨vf,Rf,hfb,hfo,hfr,hfl⟩:=hF5.fr;obtain⟨Rr,kr,rfl⟩:=j_ hfo;obtain⟨cu,hcu⟩:∃cu,Hid (cu=u.2):=⟨_,rfl⟩;have hu1':Hid (u.2=cU A ct):=hpu.cu;have had:Hid (ad=4*A.n+u.1*uA A):=hpu.ad;obtain⟨t9,ht9⟩:∃t9:Int,Hid (t9=((ad+cu*uA A:Nat):Int)):=⟨_,rfl⟩;have hadb:ad<=65536:=by
     have h1:u.1*uA A<=508*A.n:=Nat.mul_le_mul (by have:=hpu.hi;omega) hun
     have:=had.o;omega
    have hpl:=Hd (fun(w':World) (hn:New W5 w')=>e_u hA w' (hV1H.o.new (hF5.nw.next hn)) ⟨ad,ct,by_,birth,t0,t1,t2,t3⟩ hpu.c1 hpu.c2 hadb);have hcx:=Hd (fun(w':World) (hn:New W5 w')=>l_k hfr hn8 hu1 hun hfl (by rw[List.length_take];have:=hLn.o;omega) (b:=u) (hLpos.o u hum).1 (hLpos.o u hum).2 w' (c_ hfo hn))
    dsimp only at hcx hpl;rw[<-hu1'.o,<-hcu.o,<-ht9.o]at hpl;rw[show adr A.n (uA A) u.1=((ad:Nat):Int) by unfold adr;rw[had.o],show adr A.n (uA A) (u.1+u.2)=t9 by rw[c_o,ht9.o,hcu.o];unfold adr;rw[had.o];push_cast;rfl]at hcx
    have htk:Hid (LL.take (i+1)=LL.take i++[u]):=by show _=_;rw[List.take_add_one,hu];rfl
    have f5:=hfb.cell 0;have g5:=hfb.frozen 0;simp at f5;have l0:=hb5.cell 0;have l1:=hb5.cell 1;have l2:=hb5.cell 2;have l3:=hb5.cell 3;have l4:=hb5.cell 4;have l5:=hb5.cell 5;have l6:=hb5.cell 6;have l7:=hb5.cell 7;simp at l0 l1 l2 l3 l4 l5 l6 l7;have hF5:=Hd hF5;have hfl':=Hd hfl;clear hb5 hfb hfo hfr hfl hpu hcells hu hum hq hF;rw[<-hW5]
    try simp only[<-hp5.o]
    clear hW5;go_region_law
     (first
      |(go_simp;go_at_call 38;(with_reducible refine(hpl.o _ (New.refl W5).drew).mono ?_);rintro e w9 ⟨rfl,hn9⟩;have hN9:=Hd (New.next (New.refl W5).drew hn9);have f9:=(hN9.o.cell (a_ f5)).trans f5;clear hn9)
      |(go_simp;go_at_call 37;(with_reducible refine(hcx.o _ hN9.o).mono ?_);rintro e wA ⟨v',R',rfl,hF',hl',ho',hnA⟩;obtain⟨R7,k7,rfl⟩:=j_ ho';have hNA:=Hd (hN9.o.next hnA);have fA:=(hNA.o.cell (a_ f5)).trans f5;have gA:=(hNA.o.frozen (p:=⟨fb,0,none⟩) (a_ f5)).trans g5;have hxA:=Hd (And.intro hF' (And.intro hl' (ho'.mono hN9.o.size)));clear hF' hl' ho' hnA))
    all_goals
     have hfin:Hid (FrS A W1 fb (LL.take (i+1)) (wA.setCell ⟨fb,0,none⟩ (.slice R7 R'.length k7))):=by
      show FrS A W1 fb _ _;rw[htk.o];exact hF5.o.cut hNA.o hxA.o.2.2 hxA.o.1 hxA.o.2.1
     go_wp2;go_roundw;case rel=>exact⟨i+1,by go_num,by omega,hfin⟩
     case measure=>simp[intOf];omega
   ·obtain rfl:i=n1:=by omega
    have hiI:¬(i:Int)<(i:Int):=by omega
    have hF2:Hid (FrS A W1 fb LL wr):=by
     have h1:=hF.o;rw[List.take_of_length_le (by rw[hLn.o];exact Nat.le_refl _)]at h1
     exact h1
    clear hF;go_wp2_with fail;have hP9:PlM A.v s.st xb yb c o g wr:=by
     have h1:=hP1H.o.alt (K:=fun _=>False) (Alt.of_new hF2.o.nw) (fun _ _ f=>f) (s_.refl o W1);rw[hs1.o]at h1;exact h1
    have v9:wr.cell? ⟨A.v,9,none⟩=some (ptr s.st):=by
     have h1:=(hV1H.o.new hF2.o.nw).v9;rw[hs1.o]at h1;exact h1
    have hall:=Hd (all_any A.v s.st xb yb c o g wr v9 hP9 hgH.o fun b hb=>by obtain⟨cs,h1⟩:=(hB1.o b hb).blk;exact⟨cs,h1.new hF2.o.nw⟩)
    obtain⟨U,hU⟩:∃U,Hid (U=r_ [] g.all):=⟨_,rfl⟩;have hUn:Hid (U.Nodup):=by rw[hU.o];exact c_p List.nodup_nil
    have hUm:Hid (∀b,b∈U↔b∈g.all):=fun b=>by rw[hU.o,d_M];simp
    obtain⟨T,hT⟩:∃T,Hid (T=U.length):=⟨_,rfl⟩;have hT64:T<=64:=by
     have h1:=d_N (l:=g.all) (out:=[]);rw[hT.o,hU.o];simp at h1;omega
    rw[<-hU.o]at hall;clear hP9 v9;refine hall.o.mono ?_;rintro e W6 ⟨vU,rfl,hrU,hnW6⟩;obtain⟨RU,cU9,rfl⟩:=j_ hrU;rw[<-hT.o]at hrU ⊢;have hrU9:Hid (W6.ownsRow W1.heap.size 112 1 (.slice RU T cU9) U.length (a_2 U)):=by rw[<-hT.o];exact hrU.mono hF2.o.nw.size
    have hvU:Hid (∀k,(Value.slice RU T cU9).ownBlock=some k->k<W6.heap.size):=fun k hk=>(hrU.lt k hk).2;have h16:Hid (W1.heap.size<=W6.heap.size):=Nat.le_trans hF2.o.nw.size hnW6.size;have hst2:Hid (SgS A W1 W6 fb LL ats U (.slice RU T cU9) (U.take 0) (.slice none 0 0) (.slice none 0 0) W6):=⟨hF2.o.new hnW6,World.ownsRow_nil _ _ _ _,World.ownsRow_nil _ _ _ _,hrU9.o,Nat.le_refl _⟩;obtain⟨ib,hib,hbz,hbs,hby⟩:=info_parts d_f;obtain⟨ipi,hpi,hpi0,hpi1,hpi2⟩:=info_parts l_6;clear hall hrU hnW6 hiI;go_wp2_with fail;go_loopw [6,7,62] (fun x y z wr=>∃j:Nat,z=.int .i64 j/\j<=T/\Hid (SgS A W1 W6 fb LL ats U (.slice RU T cU9) (U.take j) x y wr)) (fun _ _ z _=>T-(intOf z).toNat);case atStart=>exact⟨0,rfl,by omega,hst2⟩
    case round=>
     obtain⟨j,rfl,hj,hG⟩:=hrel;clear hst2
     by_cases hlt2:j<T
     ·have hjI:(j:Int)<(T:Int):=by omega
      have hj0:(0:Int)<=(j:Int):=by omega
      obtain⟨gu,rfl⟩:∃gu,RU=some ⟨gu,0,none⟩:=by
       rcases hrU9.o.2 with⟨_,h0⟩|⟨g',cap,cur,h0,_⟩
       ·have:=hT.o;omega
       ·injection h0 with h0 _ _
        exact⟨g',h0⟩
      obtain⟨b,hbj⟩:∃b,U[j]?=some b:=⟨_,List.getElem?_eq_getElem (by rw[<-hT.o];exact hlt2)⟩
      have cj:=World.ownsRow.cells hG.o.ru rfl j (ptr b) (by rw[a_2,List.getElem?_map,hbj];rfl)
      rw[i_,Nat.zero_add]at cj;have hbg:=(hUm.o b).1 (List.mem_of_getElem? hbj);have hbm:=hB1.o b hbg;have hnw:=Hd hG.o.f.nw;have htk:Hid (U.take (j+1)=U.take j++[b]):=by show _=_;rw[List.take_add_one,hbj];rfl
      have hbok:=Hd (hatsH.o b hbg).2;cases hat:ats b with
      |none=>
       rw[hat]at hbm;obtain⟨_,d1,d2,d3,d4,hb1,_⟩:=hbm;have y1:=(hb1.new hnw.o).cell 1;simp at y1;have hatH:=Hd hat;obtain⟨zl,hzl⟩:∃zl,Hid (zl=((U.take j).filter fun b=>(ats b).isNone).length):=⟨_,rfl⟩;have hzb:zl<=64:=by
        rw[hzl.o];refine Nat.le_trans (List.length_filter_le _ _) ?_;rw[List.length_take];omega
       have hmd:=hG.o.md;rw[<-hzl.o]at hmd;obtain⟨Ry,ky,hvy⟩:=j_ hmd;subst hvy;have hmdH:=Hd hmd;have h6s:Hid (W6.heap.size<=wr.heap.size):=hG.o.ge;clear hmd hb1 hat;go_wp2_with (first
        |(at_builtin;refine wpList_append_lies _ rfl (.tmp 71) (.tmp 73) 98 rfl W6.heap.size 112 ib _ 1 8 underlying98 hib hbz hbs hby rfl (by decide) (.slice Ry zl ky) zl _ rfl (hmdH.o.alloc _) ⟨wr.heap.size,0,none⟩ 1 1 [ptr b] rfl rfl (World.news_of_block (cs:=#[ptr b]) (t:=112) (fr:=(0,0)) (heap_alloc_new wr _)) (by simp[Value.oneCell']) (by omega) (by unfold maxLen;omega) (by omega) (by simp;have:=h6s.o;omega) _ rfl ?_
          intro g9 c9 w9 ho9 hg9 ha9 hl9;have hfin:Hid (SgS A W1 W6 fb LL ats U (.slice (some ⟨gu,0,none⟩) T cU9) (U.take (j+1)) u6 (.slice (some ⟨g9,0,none⟩) (zl+1) c9) w9):=by
            show SgS _ _ _ _ _ _ _ _ _ _ _ _;rw[htk.o];exact hG.o.made hatH.o h16.o hvU.o _ (by rw[<-hzl.o];exact ho9) hg9
          clear ho9 hg9 ha9 hl9)
        |fail)
       go_roundw;case rel=>exact⟨j+1,by go_num,by omega,hfin⟩
       case measure=>simp[intOf];omega
      |some q=>
       rw[hat]at hbm;obtain⟨_,ag,hb1,_,hb3⟩:=hbm;have y1:=(hb1.new hnw.o).cell 1;have y3:=hb3.new hnw.o;obtain⟨hq8,hqk⟩:=hbok.o;rw[hat]at hqk;obtain⟨hqa,hqb,hqc,u,hpu,hupg⟩:=hqk;clear hqa hqb hqc;have hatH:=Hd hat;have huLL:Hid (u∈LL):=by rw[hLL.o];exact List.mem_append_left _ hupg
       obtain⟨ad,ct,by_,birth,t0,t1,t2,t3⟩:=q;have hy3:=Hd y3;have l0:=y3.cell 0;have l1:=y3.cell 1;have l2:=y3.cell 2;have l3:=y3.cell 3;have l4:=y3.cell 4;have l5:=y3.cell 5;have l6:=y3.cell 6;have l7:=y3.cell 7;simp at y1 l0 l1 l2 l3 l4 l5 l6 l7;obtain⟨zl,hzl⟩:∃zl,Hid (zl=((U.take j).filterMap ats).length):=⟨_,rfl⟩;have hzb:zl<=64:=by
        rw[hzl.o];refine Nat.le_trans (List.length_filterMap_le _ _) ?_;rw[List.length_take];omega
       have hmi:=hG.o.mi;rw[<-hzl.o]at hmi;obtain⟨Ry,ky,hvy⟩:=j_ hmi;subst hvy;have hmiH:=Hd hmi;have h1s:Hid (W1.heap.size<=wr.heap.size):=hG.o.f.nw.size;have hy1:=Hd (hb1.new hnw.o);have hapl:Hid (ag<W1.heap.size):=hb3.lt;have key:Hid (∀(g9 c9:Nat) (w9:World),w9.ownsRow W1.heap.size 107 8 (.slice (some ⟨g9,0,none⟩) (zl+1) c9) (zl+1) (q_ ((U.take j).filterMap ats)++[.int .i64 ad,.int .i64 ct,.int .i64 by_,.int .i64 birth,.int .i64 t0,.int .i64 t1,.int .i64 t2,.int .i64 t3])->(wr.alloc (.cells #[.int .i64 ad,.int .i64 ct,.int .i64 by_,.int .i64 birth,.int .i64 t0,.int .i64 t1,.int .i64 t2,.int .i64 t3] 107)).grownBy w9 (Value.slice Ry zl ky).ownBlock ->
         Hid (SgS A W1 W6 fb LL ats U (.slice (some ⟨gu,0,none⟩) T cU9) (U.take (j+1)) (.slice (some ⟨g9,0,none⟩) (zl+1) c9) u7 w9)/\Blk w9 b 115 #[.slice none 0 0,ptr ag]/\Blk w9 ag 107 #[.int .i64 ad,.int .i64 ct,.int .i64 by_,.int .i64 birth,.int .i64 t0,.int .i64 t1,.int .i64 t2,.int .i64 t3]):=fun g9 c9 w9 ho9 hg9=>by
        refine⟨?_,(hy1.o.alloc (.cells #[.int .i64 ad,.int .i64 ct,.int .i64 by_,.int .i64 birth,.int .i64 t0,.int .i64 t1,.int .i64 t2,.int .i64 t3] 107)).grown hg9 (b_ (hmiH.o.alloc (.cells #[.int .i64 ad,.int .i64 ct,.int .i64 by_,.int .i64 birth,.int .i64 t0,.int .i64 t1,.int .i64 t2,.int .i64 t3] 107)) (hy1.o.alloc (.cells #[.int .i64 ad,.int .i64 ct,.int .i64 by_,.int .i64 birth,.int .i64 t0,.int .i64 t1,.int .i64 t2,.int .i64 t3] 107)) (by decide)),(hy3.o.alloc (.cells #[.int .i64 ad,.int .i64 ct,.int .i64 by_,.int .i64 birth,.int .i64 t0,.int .i64 t1,.int .i64 t2,.int .i64 t3] 107)).grown hg9 (fun e=>by have:=(hmiH.o.lt ag e).1;have:=hapl.o;omega)⟩
        show SgS _ _ _ _ _ _ _ _ _ _ _ _;rw[htk.o];exact hG.o.old hatH.o _ (by rw[<-hzl.o];exact ho9) hg9
       clear hmi hb1 hb3 y3 hat hupg;go_wp2_with (first
        |(at_builtin;refine wpList_append_lies _ rfl (.tmp 75) (.tmp 82) 59 rfl W1.heap.size 107 ipi _ 8 64 underlying59 hpi hpi0 hpi1 hpi2 rfl (by decide) (.slice Ry zl ky) zl _ rfl (hmiH.o.alloc _) ⟨wr.heap.size,0,none⟩ 1 1 [.int .i64 ad,.int .i64 ct,.int .i64 by_,.int .i64 birth,.int .i64 t0,.int .i64 t1,.int .i64 t2,.int .i64 t3] rfl rfl (World.news_of_block (cs:=#[.int .i64 ad,.int .i64 ct,.int .i64 by_,.int .i64 birth,.int .i64 t0,.int .i64 t1,.int .i64 t2,.int .i64 t3]) (t:=107) (fr:=(0,0)) (heap_alloc_new wr _)) (by simp[Value.oneCell']) (by omega) (by unfold maxLen;omega) (by omega) (by simp;have:=h1s.o;omega) _ rfl ?_
          intro g9 c9 w9 ho9 hg9 ha9 hl9;obtain⟨hG9,hyb,hyp⟩:=key.o g9 c9 w9 ho9 hg9;clear ho9 hg9 ha9 hl9)
        |fail)
       obtain⟨vf,Rf,hfb,hfo,hfr,hfl⟩:=hG9.o.f.fr;obtain⟨Rr,kr,rfl⟩:=j_ hfo;obtain⟨cu,hcu⟩:∃cu,Hid (cu=u.2):=⟨_,rfl⟩;have hu1':Hid (u.2=cU A ct):=hpu.cu;have had:Hid (ad=4*A.n+u.1*uA A):=hpu.ad;obtain⟨t9,ht9⟩:∃t9:Int,Hid (t9=((ad+cu*uA A:Nat):Int)):=⟨_,rfl⟩;have hadb:ad<=65536:=by
        have h1:u.1*uA A<=508*A.n:=Nat.mul_le_mul (by have:=hpu.hi;omega) hun
        have:=had.o;omega
       have hpl:=Hd (fun(w':World) (hn:New w9 w')=>e_u hA w' (hV1H.o.new (hG9.o.f.nw.next hn)) ⟨ad,ct,by_,birth,t0,t1,t2,t3⟩ hpu.c1 hpu.c2 hadb);have hcx:=Hd (fun(w':World) (hn:New w9 w')=>l_k hfr hn8 hu1 hun hfl (by have:=hLn.o;omega) (b:=u) (hLpos.o u huLL.o).1 (hLpos.o u huLL.o).2 w' (c_ hfo hn))
       dsimp only at hcx hpl;rw[<-hu1'.o,<-hcu.o,<-ht9.o]at hpl;rw[show adr A.n (uA A) u.1=((ad:Nat):Int) by unfold adr;rw[had.o],show adr A.n (uA A) (u.1+u.2)=t9 by rw[c_o,ht9.o,hcu.o];unfold adr;rw[had.o];push_cast;rfl]at hcx
       have f5:=hfb.cell 0;have g5:=hfb.frozen 0;have y1:=hyb.cell 1;have l0:=hyp.cell 0;have l1:=hyp.cell 1;have l2:=hyp.cell 2;have l3:=hyp.cell 3;have l4:=hyp.cell 4;have l5:=hyp.cell 5;have l6:=hyp.cell 6;have l7:=hyp.cell 7;simp at f5 y1 l0 l1 l2 l3 l4 l5 l6 l7;clear hfb hfo hfr hfl hpu hG hyb hyp key cj;go_region_law
        (first
         |(go_simp;go_at_call 38;(with_reducible refine(hpl.o _ (New.refl w9).drew).mono ?_);rintro e wB ⟨rfl,hnB⟩;have hNB:=Hd (New.next (New.refl w9).drew hnB);have fB:=(hNB.o.cell (a_ f5)).trans f5;clear hnB)
         |(go_simp;go_at_call 37;(with_reducible refine(hcx.o _ hNB.o).mono ?_);rintro e wA ⟨v',R',rfl,hF',hl',ho',hnA⟩;obtain⟨R7,k7,rfl⟩:=j_ ho';have hNA:=Hd (hNB.o.next hnA);have fA:=(hNA.o.cell (a_ f5)).trans f5;have gA:=(hNA.o.frozen (p:=⟨fb,0,none⟩) (a_ f5)).trans g5;have hxA:=Hd (And.intro hF' (And.intro hl' (ho'.mono hNB.o.size)));clear hF' hl' ho' hnA))
       all_goals
        have hfin:=Hd (hG9.o.free huLL.o hNA.o hxA.o.2.2 hxA.o.1 hxA.o.2.1);go_wp2;go_roundw;case rel=>exact⟨j+1,by go_num,by omega,hfin⟩
        case measure=>simp[intOf];omega
     ·obtain rfl:j=T:=by omega
      have hjI:¬(j:Int)<(j:Int):=by omega
      have hG2:Hid (SgS A W1 W6 fb LL ats U (.slice RU j cU9) U u6 u7 wr):=by
       have h1:=hG.o;rw[List.take_of_length_le (by rw[hT.o];exact Nat.le_refl _)]at h1
       exact h1
      clear hG;obtain⟨pm,hpm⟩:∃pm,Hid (pm=wr.heap.size):=⟨_,rfl⟩;obtain⟨W7,hW7⟩:∃W7,W7=wr.alloc (.map #[] 0):=⟨_,rfl⟩;have hmk:(Instr.makeMap 116 none).run prog wr=.ok (.map (some pm)) W7:=by
       have:=run_makeMap (P:=prog) 116 wr;rw[hW7,hpm.o];exact this
      have hPM7:Hid (PM W7 pm []):=by rw[hW7,hpm.o];exact PM.made wr
      have hG7:Hid (SgS A W1 W6 fb LL ats U (.slice RU j cU9) U u6 u7 W7):=by rw[hW7];exact hG2.o.new ((New.refl wr).alloc _)
      have hpm6:Hid (W6.heap.size<=pm/\pm<W7.heap.size):=by rw[hW7,hpm.o];exact⟨hG2.o.ge,by simp⟩
      clear hG2;go_upto_region 19 with fail;rw[<-hW7];clear hmk hW7;obtain⟨olds,holds⟩:∃olds,Hid (olds=U.filterMap ats):=⟨_,rfl⟩;obtain⟨MD,hMD⟩:∃MD,Hid (MD=U.filter fun b=>(ats b).isNone):=⟨_,rfl⟩;have hMDn:Hid (MD.Nodup):=by rw[hMD.o];exact List.Nodup.sublist List.filter_sublist hUn.o
      have hMDm:Hid (∀b,b∈MD->b∈g.all/\ats b=none):=fun b hb=>by
       rw[hMD.o,List.mem_filter]at hb;exact⟨(hUm.o b).1 hb.1,Option.isNone_iff_eq_none.1 hb.2⟩
      obtain⟨K,hK⟩:∃K,Hid (K=MD.length):=⟨_,rfl⟩;have hK64:K<=64:=by
       rw[hK.out,hMD.o];exact Nat.le_trans (List.length_filter_le _ _) (by have:=hT.o;omega)
      have holdl:olds.length+K<=128:=by
       rw[holds.o];have h1:(U.filterMap ats).length<=U.length:=List.length_filterMap_le _ _;have:=hT.o;omega
      have hW17:Hid (W1.heap.size<=W7.heap.size):=hG7.o.f.nw.size;have hpfb:Hid (pm≠fb):=by
       obtain⟨v,R,h1,_⟩:=hG7.o.f.fr;exact hPM7.o.ne_blk h1
      have hmdv:∃Rd kd,u7=.slice Rd K kd:=by
       obtain⟨R,k,h⟩:=j_ hG7.o.md;exact⟨R,k,by rw[h,hK.out,hMD.o]⟩
      obtain⟨Rd,kd,hu7⟩:=hmdv;subst hu7;have hmiv:∃Rm km zm,u6=.slice Rm zm km:=by
       obtain⟨R,k,h⟩:=j_ hG7.o.mi;exact⟨R,k,_,h⟩
      have hs1t:Hid (s1.time=tm/\s1.puts=s.puts/\s1.ds=s.ds/\s1.fresh=s.fresh):=by rw[hs1.o];exact⟨rfl,rfl,rfl,rfl⟩
      have hbad1:Hid (∀d,d<A.n->((s1.ds d).dead=true\/s1.fresh d=true)->d∈bad):=by rw[hs1.o];exact hbadH.o
      have htb:Hid (BdI s1.time):=by
       have:=hs1t.o.1;have:=htH.o;have:=htm.o;show BdI _;unfold BdI;omega
      have hLL0:Hid (∀u,u∈LL->0<u.2):=fun u hu=>(hLpos.o u hu).1;have hLu:Hid (a_6 LL<=173/\LL.length<=71):=by
       refine⟨?_,by rw[hLn.o];exact hn1b⟩
       rw[hLL.o,b_s,e_m fun u hu=>(hRH.o.p2 u hu).1];have:=hRH.o.n64;have:=hRH.o.u45;omega
      have hst3:Hid (PgS A bad o s1 W1 W6 fb pm LL (MD.map bc) MD olds (.slice Rd K kd) [] [] (tag0 o W1) s1 u6 W7):=by
       have hn7:=hG7.o.f.nw;obtain⟨v,R,h1,h2,h3,h4⟩:=hG7.o.f.fr;refine⟨⟨hV1H.o.tag0 hn7,⟨R,⟨z_ o W1 hG7.o.f.fl,v,h1,h2.mono (Nat.zero_le _),fun k hk=>by rw[z_ o W1 (h2.lt k hk).1];omega⟩,by rw[List.append_nil];exact h3,h4⟩,Evo.refl A LL s1,h_2.start LL,(fun i q h=>by cases h),rfl,(fun u h=>by cases h),fun b hb=>z_ o W1 (Nat.le_trans hW17.o hb)⟩,(by rw[show plQ MD []=[] by simp[plQ]];exact hPM7.o),z_ o W1 (Nat.le_trans h16.o hpm6.o.1),?_,fun j hj=>z_ o W1 (hG7.o.mi.lt j hj).1,?_,fun j hj=>z_ o W1 (Nat.le_trans h16.o (hG7.o.md.lt j hj).1),f_ o W1,(fun q h=>by cases h),Alt.of_new hn7,hG7.o.f.fl,Nat.le_trans h16.o hpm6.o.1⟩
       ·rw[List.append_nil,holds.o]
        exact hG7.o.mi
       ·have h5:=hG7.o.md
        rw[<-hMD.o]at h5;exact h5
      clear hG7 hPM7;go_wp2_with fail;go_loopw [6,101] (fun x y wr=>∃(k:Nat) (N:List Bk) (qs:List Ptr) (o':Nat->Nat) (s':VS),y=.int .i64 k/\k<=K/\qs.length=k/\Hid (PgS A bad o s1 W1 W6 fb pm LL (MD.map bc) MD olds (.slice Rd K kd) N qs o' s' x wr)) (fun _ y _=>K-(intOf y).toNat);case atStart=>exact⟨0,[],[],tag0 o W1,s1,rfl,by omega,rfl,hst3⟩
      case round=>
       obtain⟨k,N,qs,o',s',rfl,hk,hqk0,hP⟩:=hrel;have hqk:Hid (qs.length=k):=hqk0;clear hst3 hqk0
       by_cases hlt3:k<K
       ·have hkI:(k:Int)<(K:Int):=by omega
        have hk0:(0:Int)<=(k:Int):=by omega
        obtain⟨gd,rfl⟩:∃gd,Rd=some ⟨gd,0,none⟩:=by
         rcases hP.o.md.2 with⟨_,h0⟩|⟨g',cap,cur,h0,_⟩
         ·have:=hK.out;omega
         · injection h0 with h0 _ _
           exact⟨g',h0⟩
        obtain⟨b,hbj⟩:∃b,MD[k]?=some b:=⟨_,List.getElem?_eq_getElem (by rw[<-hK.out];exact hlt3)⟩
        have hbM:=List.mem_of_getElem? hbj;obtain⟨hbg,hbn⟩:=hMDm.o b hbM;have hbm:=hB1.o b hbg;rw[hbn]at hbm;obtain⟨ob2,dg,doff,dcs,dc,hb1,og2,hb2,hdv,hdc1,hdc2⟩:=hbm;have ci:=World.ownsRow.cells hP.o.md rfl k (ptr b) (by rw[a_2,List.getElem?_map,hbj];rfl)
        rw[i_,Nat.zero_add]at ci;have y0:=(hP.o.al.blk hb1 (by omega)).cell 0
        simp at y0;obtain⟨yy,hyy,hry⟩:=hP.o.pa.room hLu.o.1 hLu.o.2 (by rw[hqk.o];omega)
        obtain⟨Rf,hfm,hfr,hRl⟩:=hP.o.pa.fm;have hX8:=(hatsH.o b hbg).2.1;have hXs:(MD.map bc)[qs.length]?=some (bc b):=by rw[List.getElem?_map,hqk.o,hbj];rfl
        have hMDo:Hid (∀b,b∈MD->o b=2/\∃cs,Blk W1 b 115 cs):=fun b hb=>by
         have h1:=hB1.o b (hMDm.o b hb).1;exact⟨h1.1,h1.blk⟩
        have hsto:=Hd (h_e hA hP.o.pa.vm fb (LL++N) Rf (bc b) dg doff 256 dc yy hfm hfr hRl (by have:=hLu.o.2;have:=hP.o.pa.cl;have:=hqk.o;simp only[List.length_append];omega) (fun b hb=>by
           rcases List.mem_append.1 hb with hb|hb
           ·exact hLL0.o b hb
           · have:=(hP.o.pa.n2 b hb).1;omega) (by decide) (by decide) (fun i hi=>((hP.o.al.blk hb2 (by omega)).cell (doff+i)).trans (hdv i hi)) hX8 (Nat.lt_of_lt_of_le hb2.lt hP.o.al.size) (fun e=>by have:=hb2.lt;have:=hP.o.fl.1;omega) ⟨hdc1,hdc2⟩ (fun d hd=>by
             have h1:=hP.o.pa.ev.ws d hd;have h2:=hwsH.o d hd;rw[hs1t.o.2.2.1,hqk.o]at h1;omega) (by rw[hP.o.pa.ev.eq];show s1.puts<0;rw[hs1t.o.2.1];exact hptH.o) (by rw[show(256+127)/128=2 from rfl,d_j hA];omega) (by rw[show(256+127)/128=2 from rfl,d_j hA];exact hry))
        have hX8H:=Hd hX8;have hXsH:=Hd hXs;have hyyH:=Hd hyy;have hbjH:=Hd hbj;clear hb1 hb2 hdv hbg hbn hbM hfm hfr hRl hry hX8 hXs hyy hbj ob2 og2;go_wp2_with fail;refine hsto.o.mono ?_;rintro e wA hsp;obtain⟨q,u,o2,s2,rfl,hM9⟩:=hP.o.mid hA h16.o hpfb.o hbad1.o hLL0.o htb.o hX8H.o hXsH.o hyyH.o hsp;have hM9:=Hd hM9;clear hsto hsp ci y0;have hmi:=hM9.o.mi;obtain⟨zl,hzl⟩:∃zl,Hid (zl=(olds++qs).length):=⟨_,rfl⟩;have hzb:zl<=128:=by
         rw[hzl.o,List.length_append,hqk.o];omega
        obtain⟨Rx,kx,hvx⟩:=j_ hmi;rw[<-hzl.o]at hvx;subst hvx;rw[<-hzl.o]at hmi;have hmiH:=Hd hmi;clear hmi;obtain⟨ad,ct,by_,birth,t0,t1,t2,t3⟩:=q;obtain⟨x5,hx5⟩:∃x5,Hid (x5=wA.heap.size):=⟨_,rfl⟩;obtain⟨W5,hW5⟩:∃W5,W5=wA.alloc (.cells #[.int .i64 ad,.int .i64 ct,.int .i64 by_,.int .i64 birth,.int .i64 t0,.int .i64 t1,.int .i64 t2,.int .i64 t3] 107):=⟨_,rfl⟩;have hN5:Hid (New wA W5):=by rw[hW5];exact(New.refl wA).alloc _
        have l5:Blk W5 x5 107 #[.int .i64 ad,.int .i64 ct,.int .i64 by_,.int .i64 birth,.int .i64 t0,.int .i64 t1,.int .i64 t2,.int .i64 t3]:=by rw[hW5,hx5.o];exact Blk.fresh _ _ _
        have l0:=l5.cell 0;have l1:=l5.cell 1;have l2:=l5.cell 2;have l3:=l5.cell 3;have l4:=l5.cell 4;have l5':=l5.cell 5;have l6:=l5.cell 6;have l7:=l5.cell 7;simp at l0 l1 l2 l3 l4 l5' l6 l7;have h1A:Hid (W1.heap.size<=W5.heap.size):=Nat.le_trans hM9.o.al.size hN5.o.size;obtain⟨mo,hmo⟩:∃mo,Hid (mo=mOb (plQ MD (qs++[(⟨ad,ct,by_,birth,t0,t1,t2,t3⟩:Ptr)]))):=⟨_,rfl⟩;obtain⟨WA,hWA⟩:∃WA,Hid (WA=setBlock W5.drew pm mo):=⟨_,rfl⟩;obtain⟨WB,hWB⟩:∃WB,Hid (WB=setBlock (W5.alloc (.cells #[.int .i64 ad,.int .i64 ct,.int .i64 by_,.int .i64 birth,.int .i64 t0,.int .i64 t1,.int .i64 t2,.int .i64 t3] 107)).drew pm mo):=⟨_,rfl⟩;have hN5d:Hid (New wA W5.drew):=hN5.o.drew;have hN5a:Hid (New wA (W5.alloc (.cells #[.int .i64 ad,.int .i64 ct,.int .i64 by_,.int .i64 birth,.int .i64 t0,.int .i64 t1,.int .i64 t2,.int .i64 t3] 107)).drew):=(hN5.o.alloc _).drew;have hbj1:Hid (MD[qs.length]?=some b):=by show _=_;rw[hqk.o];exact hbjH.o
        have hup:∀w9,Alt (fun k=>(Value.slice Rx zl kx).ownBlock=some k) wA w9->(Instr.mapUpdate 116 (.map (some pm)) (ptr b) (.agg #[.int .i64 ad,.int .i64 ct,.int .i64 by_,.int .i64 birth,.int .i64 t0,.int .i64 t1,.int .i64 t2,.int .i64 t3])).run prog w9=.ok () (setBlock w9 pm mo):=fun w9 ha=>by
         have h1:=hM9.o.upd hMDn.o hbj1.o hMDo.o ha;rw[<-hmo.o]at h1;exact h1
        have hupA:Hid ((Instr.mapUpdate 116 (.map (some pm)) (ptr b) (.agg #[.int .i64 ad,.int .i64 ct,.int .i64 by_,.int .i64 birth,.int .i64 t0,.int .i64 t1,.int .i64 t2,.int .i64 t3])).run prog W5.drew=.ok () WA):=by rw[hWA.o];exact hup _ (Alt.of_new hN5d.o)
        have hupB:Hid ((Instr.mapUpdate 116 (.map (some pm)) (ptr b) (.agg #[.int .i64 ad,.int .i64 ct,.int .i64 by_,.int .i64 birth,.int .i64 t0,.int .i64 t1,.int .i64 t2,.int .i64 t3])).run prog (W5.alloc (.cells #[.int .i64 ad,.int .i64 ct,.int .i64 by_,.int .i64 birth,.int .i64 t0,.int .i64 t1,.int .i64 t2,.int .i64 t3] 107)).drew=.ok () WB):=by rw[hWB.o];exact hup _ (Alt.of_new hN5a.o)
        have hupC:Hid (∀w9,(W5.alloc (.cells #[.int .i64 ad,.int .i64 ct,.int .i64 by_,.int .i64 birth,.int .i64 t0,.int .i64 t1,.int .i64 t2,.int .i64 t3] 107)).drew.grownBy w9 (Value.slice Rx zl kx).ownBlock->(Instr.mapUpdate 116 (.map (some pm)) (ptr b) (.agg #[.int .i64 ad,.int .i64 ct,.int .i64 by_,.int .i64 birth,.int .i64 t0,.int .i64 t1,.int .i64 t2,.int .i64 t3])).run prog w9=.ok () (setBlock w9 pm mo)):=fun w9 hg=>hup w9 (Alt.grown (Alt.of_new hN5a.o) hg fun r e=>.inl e);have hnA:Hid (New (setBlock W5.drew pm mo) (WA.alloc (.cells #[.int .i64 ad,.int .i64 ct,.int .i64 by_,.int .i64 birth,.int .i64 t0,.int .i64 t1,.int .i64 t2,.int .i64 t3] 107))):=by rw[hWA.o];exact(New.refl _).alloc _
        have hnB:Hid (New (setBlock (W5.alloc (.cells #[.int .i64 ad,.int .i64 ct,.int .i64 by_,.int .i64 birth,.int .i64 t0,.int .i64 t1,.int .i64 t2,.int .i64 t3] 107)).drew pm mo) WB):=by rw[hWB.o];exact New.refl _
        have hoA:Hid ((WA.alloc (.cells #[.int .i64 ad,.int .i64 ct,.int .i64 by_,.int .i64 birth,.int .i64 t0,.int .i64 t1,.int .i64 t2,.int .i64 t3] 107)).ownsRow W1.heap.size 107 8 (.slice Rx zl kx) zl (q_ (olds++qs))):=by
         have h1:=hM9.o.own hN5d.o hnA.o;rw[<-hzl.o]at h1;exact h1
        have hoB:Hid (WB.ownsRow W1.heap.size 107 8 (.slice Rx zl kx) zl (q_ (olds++qs))):=by
         have h1:=hM9.o.own hN5a.o hnB.o;rw[<-hzl.o]at h1;exact h1
        have hoC:Hid ((W5.alloc (.cells #[.int .i64 ad,.int .i64 ct,.int .i64 by_,.int .i64 birth,.int .i64 t0,.int .i64 t1,.int .i64 t2,.int .i64 t3] 107)).drew.ownsRow W1.heap.size 107 8 (.slice Rx zl kx) zl (q_ (olds++qs))):=c_ hmiH.o hN5a.o;have hbB:Hid (Blk WB W5.heap.size 107 #[.int .i64 ad,.int .i64 ct,.int .i64 by_,.int .i64 birth,.int .i64 t0,.int .i64 t1,.int .i64 t2,.int .i64 t3]):=by
         have h1:=(Blk.fresh W5 107 #[.int .i64 ad,.int .i64 ct,.int .i64 by_,.int .i64 birth,.int .i64 t0,.int .i64 t1,.int .i64 t2,.int .i64 t3]).drew;have h2:pm≠W5.heap.size:=fun e=>by have:=hM9.o.mp.lt;have:=hN5.o.size;omega
         rw[hWB.o];exact(a_i _ pm mo).blk h1 (fun e=>h2 e.symm)
        have hsA:Hid (WA.heap.size=W5.heap.size):=by rw[hWA.o];show(setBlock W5.drew pm mo).heap.size=W5.drew.heap.size;simp[setBlock]
        have hsB:Hid (WB.heap.size=W5.heap.size+1):=by show WB.heap.size=W5.heap.size+1;rw[hWB.o];simp[setBlock]
        have h5A:Hid (wA.heap.size<=W5.heap.size):=hN5.o.size;have keyA:Hid (∀g9 c9 w9,w9.ownsRow W1.heap.size 107 8 (.slice (some ⟨g9,0,none⟩) (zl+1) c9) (zl+1) (q_ (olds++qs)++[.int .i64 ad,.int .i64 ct,.int .i64 by_,.int .i64 birth,.int .i64 t0,.int .i64 t1,.int .i64 t2,.int .i64 t3])->(WA.alloc (.cells #[.int .i64 ad,.int .i64 ct,.int .i64 by_,.int .i64 birth,.int .i64 t0,.int .i64 t1,.int .i64 t2,.int .i64 t3] 107)).grownBy w9 (Value.slice Rx zl kx).ownBlock->((Value.slice Rx zl kx).ownBlock=some g9\/g9=(WA.alloc (.cells #[.int .i64 ad,.int .i64 ct,.int .i64 by_,.int .i64 birth,.int .i64 t0,.int .i64 t1,.int .i64 t2,.int .i64 t3] 107)).heap.size)->Hid (PgS A bad o s1 W1 W6 fb pm LL (MD.map bc) MD olds (.slice (some ⟨gd,0,none⟩) K kd) (N++[u]) (qs++[⟨ad,ct,by_,birth,t0,t1,t2,t3⟩]) o2 s2 (.slice (some ⟨g9,0,none⟩) (zl+1) c9) w9)):=fun g9 c9 w9 ho hg h9=>by
         show PgS _ _ _ _ _ _ _ _ _ _ _ _ _ _ _ _ _ _ _;have hx9:=h9.imp id (fun e=>(by rw[e,World.size_alloc,hsA.o];have:=h5A.o;omega:wA.heap.size<=g9))
         have h2:=hnA.o;rw[hmo.o]at h2;clear h9;have hz:=hzl.o;rw[hz]at ho ⊢;exact hM9.o.finA hN5d.o h2 ho hg hx9
        have keyB:Hid (∀g9 c9 w9,w9.ownsRow W1.heap.size 107 8 (.slice (some ⟨g9,0,none⟩) (zl+1) c9) (zl+1) (q_ (olds++qs)++[.int .i64 ad,.int .i64 ct,.int .i64 by_,.int .i64 birth,.int .i64 t0,.int .i64 t1,.int .i64 t2,.int .i64 t3])->WB.grownBy w9 (Value.slice Rx zl kx).ownBlock->((Value.slice Rx zl kx).ownBlock=some g9\/g9=WB.heap.size)->Hid (PgS A bad o s1 W1 W6 fb pm LL (MD.map bc) MD olds (.slice (some ⟨gd,0,none⟩) K kd) (N++[u]) (qs++[⟨ad,ct,by_,birth,t0,t1,t2,t3⟩]) o2 s2 (.slice (some ⟨g9,0,none⟩) (zl+1) c9) w9)):=fun g9 c9 w9 ho hg h9=>by
         show PgS _ _ _ _ _ _ _ _ _ _ _ _ _ _ _ _ _ _ _;have hx9:=h9.imp id (fun e=>(by rw[e,hsB.o];have:=h5A.o;omega:wA.heap.size<=g9))
         have h2:=hnB.o;rw[hmo.o]at h2;clear h9;have hz:=hzl.o;rw[hz]at ho ⊢;exact hM9.o.finA hN5a.o h2 ho hg hx9
        have keyC:Hid (∀g9 c9 w9,w9.ownsRow W1.heap.size 107 8 (.slice (some ⟨g9,0,none⟩) (zl+1) c9) (zl+1) (q_ (olds++qs)++[.int .i64 ad,.int .i64 ct,.int .i64 by_,.int .i64 birth,.int .i64 t0,.int .i64 t1,.int .i64 t2,.int .i64 t3])->(W5.alloc (.cells #[.int .i64 ad,.int .i64 ct,.int .i64 by_,.int .i64 birth,.int .i64 t0,.int .i64 t1,.int .i64 t2,.int .i64 t3] 107)).drew.grownBy w9 (Value.slice Rx zl kx).ownBlock->((Value.slice Rx zl kx).ownBlock=some g9\/g9=(W5.alloc (.cells #[.int .i64 ad,.int .i64 ct,.int .i64 by_,.int .i64 birth,.int .i64 t0,.int .i64 t1,.int .i64 t2,.int .i64 t3] 107)).drew.heap.size)->Hid (PgS A bad o s1 W1 W6 fb pm LL (MD.map bc) MD olds (.slice (some ⟨gd,0,none⟩) K kd) (N++[u]) (qs++[⟨ad,ct,by_,birth,t0,t1,t2,t3⟩]) o2 s2 (.slice (some ⟨g9,0,none⟩) (zl+1) c9) (setBlock w9 pm mo))):=fun g9 c9 w9 ho hg h9=>by
         show PgS _ _ _ _ _ _ _ _ _ _ _ _ _ _ _ _ _ _ _;have hx9:=h9.imp id (fun e=>(by rw[e];have:=h5A.o;show wA.heap.size<=(W5.alloc _).heap.size;rw[World.size_alloc];omega:wA.heap.size<=g9))
         rw[hmo.o];clear h9;have hz:=hzl.o;rw[hz]at ho ⊢;exact hM9.o.finC hN5a.o ho hg hx9
        clear hup;go_upto_region 23 with fail;rw[<-hW5]
        try simp only[<-hx5.o]
        clear hW5;go_wp2_with fail;have h8:∀w',Blk w' x5 107 #[.int .i64 ad,.int .i64 ct,.int .i64 by_,.int .i64 birth,.int .i64 t0,.int .i64 t1,.int .i64 t2,.int .i64 t3]->w'.cell? ⟨x5,0,none⟩=some (.int .i64 ad)/\w'.cell? ⟨x5,1,none⟩=some (.int .i64 ct)/\w'.cell? ⟨x5,2,none⟩=some (.int .i64 by_)/\w'.cell? ⟨x5,3,none⟩=some (.int .i64 birth)/\w'.cell? ⟨x5,4,none⟩=some (.int .i64 t0)/\w'.cell? ⟨x5,5,none⟩=some (.int .i64 t1)/\w'.cell? ⟨x5,6,none⟩=some (.int .i64 t2)/\w'.cell? ⟨x5,7,none⟩=some (.int .i64 t3):=fun w' hb=>by
         have g0:=hb.cell 0;have g1:=hb.cell 1;have g2:=hb.cell 2;have g3:=hb.cell 3;have g4:=hb.cell 4;have g5:=hb.cell 5;have g6:=hb.cell 6;have g7:=hb.cell 7;simp at g0 g1 g2 g3 g4 g5 g6 g7;exact⟨g0,g1,g2,g3,g4,g5,g6,g7⟩
        obtain⟨a0,a1,a2,a3,a4,a5,a6,a7⟩:=h8 _ (l5.alloc (.cells #[.int .i64 ad,.int .i64 ct,.int .i64 by_,.int .i64 birth,.int .i64 t0,.int .i64 t1,.int .i64 t2,.int .i64 t3] 107));obtain⟨m0,m1,m2,m3,m4,m5,m6,m7⟩:=h8 WA (by
         rw[hWA.o];exact(a_i W5.drew pm mo).blk l5.drew (fun e=>by have:=hM9.o.mp.lt;have:=hx5.o;omega))
        have h8C:Hid (∀w',(W5.alloc (.cells #[.int .i64 ad,.int .i64 ct,.int .i64 by_,.int .i64 birth,.int .i64 t0,.int .i64 t1,.int .i64 t2,.int .i64 t3] 107)).drew.grownBy w' (Value.slice Rx zl kx).ownBlock->w'.cell? ⟨x5,0,none⟩=some (.int .i64 ad)/\w'.cell? ⟨x5,1,none⟩=some (.int .i64 ct)/\w'.cell? ⟨x5,2,none⟩=some (.int .i64 by_)/\w'.cell? ⟨x5,3,none⟩=some (.int .i64 birth)/\w'.cell? ⟨x5,4,none⟩=some (.int .i64 t0)/\w'.cell? ⟨x5,5,none⟩=some (.int .i64 t1)/\w'.cell? ⟨x5,6,none⟩=some (.int .i64 t2)/\w'.cell? ⟨x5,7,none⟩=some (.int .i64 t3)):=fun w' hg=>h8 w' ((l5.alloc _).drew.grown hg fun e=>by have:=(hmiH.o.lt x5 e).2;have:=hx5.o;omega)
        clear h8 l5;have hupA:=hupA.o;have hupB:=hupB.o;go_region_law
         (first
           |(refine step_append_lies _ (by rfl) _ _ 59 (by rfl) W1.heap.size 107 ipi _ 8 64 underlying59 hpi hpi0 hpi1 hpi2 rfl (by decide) (.slice Rx zl kx) zl _ (by rfl) hoA.o ⟨WA.heap.size,0,none⟩ 1 1 [.int .i64 ad,.int .i64 ct,.int .i64 by_,.int .i64 birth,.int .i64 t0,.int .i64 t1,.int .i64 t2,.int .i64 t3] (by rfl) (by rfl) (World.news_of_block (cs:=#[.int .i64 ad,.int .i64 ct,.int .i64 by_,.int .i64 birth,.int .i64 t0,.int .i64 t1,.int .i64 t2,.int .i64 t3]) (t:=107) (fr:=(0,0)) (heap_alloc_new WA _)) (by simp[Value.oneCell']) (by omega) (by unfold maxLen;omega) (by omega) (by simp;have:=hsA.o;have:=h1A.o;omega) _ rfl ?_;intro g9 c9 w9 ho9 hg9 ha9 hl9;have hfin:=keyA.o g9 c9 w9 ho9 hg9 ha9;clear ho9 hg9 ha9 hl9)
           |(refine step_append_lies _ (by rfl) _ _ 59 (by rfl) W1.heap.size 107 ipi _ 8 64 underlying59 hpi hpi0 hpi1 hpi2 rfl (by decide) (.slice Rx zl kx) zl _ (by rfl) hoB.o ⟨W5.heap.size,0,none⟩ 1 1 [.int .i64 ad,.int .i64 ct,.int .i64 by_,.int .i64 birth,.int .i64 t0,.int .i64 t1,.int .i64 t2,.int .i64 t3] (by rfl) (by rfl) (World.news_of_block (cs:=#[.int .i64 ad,.int .i64 ct,.int .i64 by_,.int .i64 birth,.int .i64 t0,.int .i64 t1,.int .i64 t2,.int .i64 t3]) (t:=107) (fr:=(0,0)) hbB.o) (by simp[Value.oneCell']) (by omega) (by unfold maxLen;omega) (by omega) (by have:=hsB.o;have:=h1A.o;omega) _ rfl ?_;intro g9 c9 w9 ho9 hg9 ha9 hl9;have hfin:=keyB.o g9 c9 w9 ho9 hg9 ha9;clear ho9 hg9 ha9 hl9)
           |(refine step_append_lies _ (by rfl) _ _ 59 (by rfl) W1.heap.size 107 ipi _ 8 64 underlying59 hpi hpi0 hpi1 hpi2 rfl (by decide) (.slice Rx zl kx) zl _ (by rfl) hoC.o ⟨W5.heap.size,0,none⟩ 1 1 [.int .i64 ad,.int .i64 ct,.int .i64 by_,.int .i64 birth,.int .i64 t0,.int .i64 t1,.int .i64 t2,.int .i64 t3] (by rfl) (by rfl) (World.news_of_block (cs:=#[.int .i64 ad,.int .i64 ct,.int .i64 by_,.int .i64 birth,.int .i64 t0,.int .i64 t1,.int .i64 t2,.int .i64 t3]) (t:=107) (fr:=(0,0)) (heap_alloc_new W5 _)) (by simp[Value.oneCell']) (by omega) (by unfold maxLen;omega) (by omega) (by have:=h1A.o;simp;omega) _ rfl ?_;intro g9 c9 w9 ho9 hg9 ha9 hl9;have hupw:=hupC.o w9 hg9;obtain⟨n0,n1,n2,n3,n4,n5,n6,n7⟩:=h8C.o w9 hg9;have hfin:=keyC.o g9 c9 w9 ho9 hg9 ha9;clear ho9 hg9 ha9 hl9))
        all_goals
         go_wp2;go_roundw;case rel=>exact⟨k+1,N++[u],qs++[⟨ad,ct,by_,birth,t0,t1,t2,t3⟩],o2,s2,by go_num,by omega,by rw[List.length_append,hqk.o];rfl,hfin⟩
         case measure=>simp[intOf];omega
       ·obtain rfl:k=K:=by omega
        have hkI:¬(k:Int)<(k:Int):=by omega
        obtain⟨pt,hptA⟩:=t_R (g:=g) (ats:=ats) (MD:=MD) (qs:=qs) (fun b hb hn=>by rw[hMD.o,List.mem_filter];exact⟨(hUm.o b).2 hb,by rw[hn];rfl⟩) (by rw[hqk.o,<-hK.out];exact Nat.le_refl _)
        have hptA:=Hd hptA;have hbook:=Hd (hP.o.book hA hP1H.o hgH.o hB1.o (fun b hb=>(hatsH.o b hb).2) (fun b hb=>(hMDm.o b hb).1) hMDn.o pt hptA.o (fun G hG=>(hSH.o.ok G hG).sz) (hlnH.o pt) (P:=s.pg) (B:=s.bo) hLL.o hbad1.o (fun b hb=>⟨(hRH.o.p2 b hb).2,by have:=(hRH.o.p2 b hb).1;omega⟩) hRH.o.b0 hRH.o.u45 hRH.o.n7 hRH.o.n64 (by rw[hqk.o];exact hK64) htb.o (fun i hi=>by rw[hs1t.o.2.2.1];exact hwsH.o i hi) (by rw[hs1t.o.2.1];exact hptH.o))
        obtain⟨acc,hacc⟩:∃acc,Hid (acc=bkB (r_ [] g.all) pt g):=⟨_,rfl⟩;rw[<-hacc.o]at hbook;go_wp2_with fail;refine hbook.o.mono ?_;rintro e w2 ⟨root,rs,vr,C,o2,s2,rfl,hV2,hR2,hD2,hf2⟩;obtain⟨Rr,kr,hvr⟩:=j_ hR2.rr;obtain⟨rl,hrl⟩:∃rl,Hid (rl=rs.length):=⟨_,rfl⟩;rw[<-hrl.o]at hvr;subst hvr;have hs2t:Hid (s2.time=tm/\s2.puts=s.puts/\s2.fresh=s.fresh/\s2.dead=s.dead):=by
         have h1:=hD2.ev.eq;have h2:=hs1.o;rw[h1,h2];exact⟨rfl,rfl,rfl,rfl⟩
        have hws2:Hid (∀i,i<A.n->(s2.ds i).ws.length<=233):=fun i hi=>by
         have h1:=hD2.ev.ws i hi;have h2:=hwsH.o i hi;rw[hs1t.o.2.2.1]at h1;omega
        have hroot:Hid (root.ad<=65536/\root.ct<=32/\root.by_<=128*root.ct/\root.birth=tm/\a_0 root.sum.1/\a_0 root.sum.2.1/\a_0 root.sum.2.2.1/\a_0 root.sum.2.2.2):=by
         obtain⟨u,_,h2,h3⟩:=hD2.bu rs.length root (by rw[List.getElem?_append_right (Nat.le_refl _),Nat.sub_self];rfl)
         obtain⟨X,hX⟩:=hD2.rp;obtain⟨b1,b2,b3,b4⟩:=sums_bd (a_9 X root.by_) (32*root.ct);rw[hX.sum]at b1 b2 b3 b4;have h5:u.1*uA A<=508*A.n:=Nat.mul_le_mul (by have:=h2.hi;omega) hun
         have h6:=h2.ad;have h7:=hX.ct;rw[hs1t.o.1]at h3;exact⟨by omega,h2.c2,by omega,h3,b1,b2,b3,b4⟩
        have hD2h:=Hd hD2;clear hD2;obtain⟨rt,hrt⟩:∃rt,Hid (rt=root):=⟨_,rfl⟩;rw[<-hrt.o]at hD2h hroot;obtain⟨ad,ct,by_,birth,t0,t1,t2,t3⟩:=root;obtain⟨x3,hx3⟩:∃x3,Hid (x3=w2.heap.size):=⟨_,rfl⟩;have hx6l:Hid (∀k,u6.ownBlock=some k->k<x3):=fun k hk=>by rw[hx3.o];exact(hR2.mi.lt k hk).2
        obtain⟨W3,hW3⟩:∃W3,W3=w2.alloc (.cells #[.int .i64 ad,.int .i64 ct,.int .i64 by_,.int .i64 birth,.int .i64 t0,.int .i64 t1,.int .i64 t2,.int .i64 t3] 107):=⟨_,rfl⟩;have hN3:New w2 W3:=by rw[hW3];exact(New.refl w2).alloc _
        have hV3:=hV2.new hN3;have hR3:=Hd (hR2.new hN3);have hz3:Hid (Blk W3 x3 107 #[.int .i64 ad,.int .i64 ct,.int .i64 by_,.int .i64 birth,.int .i64 t0,.int .i64 t1,.int .i64 t2,.int .i64 t3]):=by rw[hW3,hx3.o];exact Blk.fresh _ _ _
        have hox3:Hid (o2 x3=0):=hf2 x3 (by rw[hx3.o];exact Nat.le_refl _)
        have hfl:=Hd (e_G hA hV3 (fun i hi=>by have:=hws2.o i hi;omega))
        obtain⟨s4,hs4e⟩:∃s4,Hid (s4=R_ s2 A.n):=⟨_,rfl⟩;rw[<-hs4e.o]at hfl;clear hV2 hR2 hV3 hbook;go_upto_region 28 with fail;rw[<-hW3]
        try simp only[<-hx3.o]
        clear hW3;go_wp2_with fail;refine hfl.o.mono ?_;rintro e w4 ⟨rfl,o4,hs4,hV4,ha4⟩;have hV4:=Hd hV4;have hR4:=Hd (hR3.o.alt ha4 hs4);have hz4:Hid (Blk w4 x3 107 #[.int .i64 ad,.int .i64 ct,.int .i64 by_,.int .i64 birth,.int .i64 t0,.int .i64 t1,.int .i64 t2,.int .i64 t3]):=ha4.blk hz3.o (by have:=hox3.o;omega)
        have hox4:Hid (o4 x3=0):=(hs4 x3 hz3.o.lt).trans hox3.o;have hs4t:Hid (s4.time=tm/\s4.puts=s.puts/\s4.fresh=s.fresh/\s4.dead=s.dead):=by rw[hs4e.o];exact hs2t.o
        have hws4:Hid (∀i,i<A.n->(s4.ds i).ws.length<=233):=fun i hi=>by
         have h1:=g_v s2 A.n i hi;have h2:=hws2.o i hi;rw[hs4e.o];split at h1<;>omega
        clear hfl;obtain⟨sl,hsl⟩:∃sl:Nat,Hid (sl=(tm%4).toNat):=⟨_,rfl⟩;have hsl4:Hid (sl<4/\((sl:Nat):Int)=tm%4):=by
         have h1:=hsl.o;have h2:=htH.o;have h3:=htm.o;exact⟨by omega,by omega⟩
        have tq:tm.tmod 4=((sl:Nat):Int):=by
         have h2:=htH.o;have h3:=htm.o;rw[hsl4.o.2];exact Int.tmod_eq_emod_of_nonneg (by omega)
        have tq2:IntKind.i64.wrap ((sl:Nat):Int)=((sl:Nat):Int):=IntWalk.i64_in _ (by have:=hsl4.o.1;omega)
        have v5:w4.cell? ⟨A.v,5,none⟩=some (.int .i64 tm):=by
         have h1:=hV4.o.bk.cell 5;rw[<-hs4t.o.1];exact h1
        have h8:∀w',Blk w' x3 107 #[.int .i64 ad,.int .i64 ct,.int .i64 by_,.int .i64 birth,.int .i64 t0,.int .i64 t1,.int .i64 t2,.int .i64 t3]->w'.cell? ⟨x3,0,none⟩=some (.int .i64 ad)/\w'.cell? ⟨x3,1,none⟩=some (.int .i64 ct)/\w'.cell? ⟨x3,2,none⟩=some (.int .i64 by_)/\w'.cell? ⟨x3,3,none⟩=some (.int .i64 birth)/\w'.cell? ⟨x3,4,none⟩=some (.int .i64 t0)/\w'.cell? ⟨x3,5,none⟩=some (.int .i64 t1)/\w'.cell? ⟨x3,6,none⟩=some (.int .i64 t2)/\w'.cell? ⟨x3,7,none⟩=some (.int .i64 t3):=fun w' hb=>by
         have g0:=hb.cell 0;have g1:=hb.cell 1;have g2:=hb.cell 2;have g3:=hb.cell 3;have g4:=hb.cell 4;have g5:=hb.cell 5;have g6:=hb.cell 6;have g7:=hb.cell 7;simp at g0 g1 g2 g3 g4 g5 g6 g7;exact⟨g0,g1,g2,g3,g4,g5,g6,g7⟩
        have h8:=Hd h8;obtain⟨a0,a1,a2,a3,a4,a5,a6,a7⟩:=h8.o _ hz4.o;obtain⟨m0,m1,m2,m3,m4,m5,m6,m7⟩:=h8.o _ (hz4.o.alloc (.cells #[.int .i64 ((sl:Nat):Int)] 3));have hnl:Hid (New w4 (w4.alloc (.cells #[.int .i64 ((sl:Nat):Int)] 3)).drew):=((New.refl w4).alloc _).drew;have hlab:=Hd (g_j hA (hV4.o.tag0 hnl.o) rt (fun _=>sl) 1 (some ⟨w4.heap.size,0,none⟩) 1 ⟨by unfold maxLen;omega,fun _=>⟨w4.heap.size,0,rfl,by simp,fun i hi=>by
           obtain rfl:i=0:=by omega
           have h1:=(Blk.fresh w4 3 #[.int .i64 ((sl:Nat):Int)]).drew.cell 0;exact h1⟩⟩ (fun a ha=>by cases ha;rw[z_ o4 w4 (Nat.le_refl _)];omega) (by decide) ⟨Nat.le_refl _,by unfold maxLen;omega⟩ (fun j _=>by have:=hsl4.o.1;omega) (fun i hi=>by have:=hws4.o i hi;omega) (by rw[hs4t.o.2.1];exact hptH.o) (by rw[hs4t.o.1];have:=htH.o;have:=htm.o;omega) (by rw[hs4t.o.1,hroot.o.2.2.2.1];have:=htH.o;have:=htm.o;exact⟨hroot.o.1,hroot.o.2.1,hroot.o.2.2.1,by omega,by omega⟩) ⟨hroot.o.2.2.2.2.1,hroot.o.2.2.2.2.2.1,hroot.o.2.2.2.2.2.2.1,hroot.o.2.2.2.2.2.2.2⟩)
        obtain⟨s5,hs5e⟩:∃s5,Hid (s5=K_ A s4 rt (fun _=>sl) 1 A.n):=⟨_,rfl⟩;rw[<-hs5e.o]at hlab;have hlab:Hid (Calls prog 43 #[ptr A.v,.agg #[.int .i64 ad,.int .i64 ct,.int .i64 by_,.int .i64 birth,.int .i64 t0,.int .i64 t1,.int .i64 t2,.int .i64 t3],.slice (some ⟨w4.heap.size,0,none⟩) 1 1] (w4.alloc (.cells #[.int .i64 ((sl:Nat):Int)] 3)).drew fun e w'=>e=.returned (.tuple #[])/\P_ A (tag0 o4 w4) s5 (w4.alloc (.cells #[.int .i64 ((sl:Nat):Int)] 3)).drew w'):=by
         have h1:=hlab.o;rw[hrt.o]at h1;exact h1
        have hb04:(0:Int)<4:=by decide
        go_upto_region 31 with fail;go_cut [143] from 135 to 143 (fun t wx=>Hid (P_ A (tag0 o4 w4) s5 (w4.alloc (.cells #[.int .i64 ((sl:Nat):Int)] 3)).drew wx));case first=>
         go_region_law
           (first
             |(go_simp;go_at_call 43;(with_reducible refine hlab.o.mono ?_);rintro e w5 ⟨rfl,hDr5⟩;have hDr5:=Hd hDr5))
         all_goals go_wp2
         all_goals go_meet
         all_goals exact hDr5
        case rest=>
         have hR5a:=hR4.o.alt (Alt.of_new hnl.o) (f_ o4 w4);have hz5a:=(hz4.o.alloc (.cells #[.int .i64 ((sl:Nat):Int)] 3)).drew;have hox5a:tag0 o4 w4 x3=0:=(f_ o4 w4 x3 hz4.o.lt).trans hox4.o;obtain⟨o5,hs5,hV5,ha5⟩:=hcut.o;have hR5:=Hd (hR5a.alt ha5 hs5);have hz5:=Hd (ha5.blk hz5a (by omega))
         have hox5:Hid (o5 x3=0):=(hs5 x3 hz5a.lt).trans hox5a;have hws5:Hid (∀i,i<A.n->(s5.ds i).ws.length<=234):=fun i hi=>by
           have h1:=g_k A s4 rt (fun _=>sl) 1 A.n i;have h2:=hws4.o i hi;rw[hs5e.o];omega
         have hfl6:=Hd (e_G hA hV5 (fun i hi=>by have:=hws5.o i hi;omega))
         obtain⟨s6,hs6e⟩:∃s6,Hid (s6=R_ s5 A.n):=⟨_,rfl⟩;rw[<-hs6e.o]at hfl6;clear hR5a hz5a hox5a hV5 ha5 hs5 hcut a0 a1 a2 a3 a4 a5 a6 a7 m0 m1 m2 m3 m4 m5 m6 m7 tq tq2 v5 hlab;go_wp2_with fail;refine hfl6.o.mono ?_;rintro e w6 ⟨rfl,o6,hs6,hV6,ha6⟩;have hV6:=Hd hV6;have hR6:=Hd (hR5.o.alt ha6 hs6);have hz6:Hid (Blk w6 x3 107 #[.int .i64 ad,.int .i64 ct,.int .i64 by_,.int .i64 birth,.int .i64 t0,.int .i64 t1,.int .i64 t2,.int .i64 t3]):=ha6.blk hz5.o (by have:=hox5.o;omega)
         have hox6:Hid (o6 x3=0):=(hs6 x3 hz5.o.lt).trans hox5.o;clear hfl6 hs6 ha6;have hql:Hid (qs.length=MD.length):=by show _=_;rw[hqk.o,hK.out]
         obtain⟨r7,hr7⟩:∃r7,Hid (r7=w6.heap.size):=⟨_,rfl⟩;obtain⟨W7e,hW7e⟩:∃W7e,W7e=w6.alloc (.mapIter (some pm) MD.length #[] MD.length):=⟨_,rfl⟩;have hrg:(Instr.range 116 (.map (some pm))).run prog w6=.ok (.pointer (some ⟨r7,0,none⟩)) W7e:=by
           have h1:=run_range_map (P:=prog) w6 116 112 107 pm _ _ underlying116 hR6.o.mp;rw[m_e hql.o]at h1;rw[hW7e,hr7.o];exact h1
         have hE0:=SyE.start hR6.o hB1.o hptA.o;rw[<-hr7.o,<-hW7e]at hE0;obtain⟨oE,hoE⟩:∃oE,Hid (oE=tag2 o6 w6):=⟨_,rfl⟩;rw[<-hoE.o]at hE0;obtain⟨hE0,hbE⟩:=hE0;have hE0:=Hd hE0;have hbE:=Hd hbE;have hoE2:Hid (∀k,w6.heap.size<=k->oE k=2):=fun k hk=>by rw[hoE.o];exact a_7 o6 w6 hk
         clear hW7e;go_wp2_with fail;go_loopw [148] (fun x wr=>∃seen c0,Hid (SyE g bc ats MD qs pt pm r7 oE w6 seen c0 wr)) (fun _ wr=>wr.rangeLeft pm r7);case atStart=>exact⟨#[],MD.length,hE0⟩
         case round=>
           obtain⟨seen,c0,hE⟩:=hrel;clear hrg;rcases hE.o.next (P:=prog) hql.o hMDm.o hMDn.o hptA.o 0 with⟨hend,hrun⟩|⟨i8,b,q,w1,hi8,hq8,hpq,hrun,hent,hbn,hbs,hit,hmp8,hal8,hless⟩
           · have hend:=Hd hend
             have hal9:Hid (Alt (fun b=>oE b=2/\∃cs,Blk w6 b 115 cs) w6 wr):=hE.o.al;go_wp2_with fail;clear hrun;have hrtD:SyD A bad s1 LL (MD.map bc) N qs C rs rt acc s2:=hD2h.o;obtain⟨o6m,ho6m⟩:∃f,Hid (f=oE):=⟨_,rfl⟩;obtain⟨zm,hzm⟩:∃zm,Hid (zm=(olds++qs).length):=⟨_,rfl⟩;have hzmb:zm<=128:=by
              rw[hzm.o,List.length_append,hqk.o];omega
             obtain⟨Rm,km,hvm⟩:=j_ hR6.o.mi;rw[<-hzm.o]at hvm;subst hvm;have hmi9:Hid (wr.ownsRow W1.heap.size 107 8 (.slice Rm zm km) zm (q_ (olds++qs))):=by
              have h1:=hal9.o.own hR6.o.mi fun j hj hk=>by
               obtain⟨_,cs,hb⟩:=hk;exact b_ hR6.o.mi hb (by decide) hj
              rw[<-hzm.o]at h1;exact h1
             have hrr9:Hid (wr.ownsRow W1.heap.size 107 8 (.slice Rr rl kr) rl (q_ rs)):=by
              have h1:=hal9.o.own hR6.o.rr fun j hj hk=>by
               obtain⟨_,cs,hb⟩:=hk;exact b_ hR6.o.rr hb (by decide) hj
              rw[<-hrl.o]at h1;exact h1
             have hz9:Hid (Blk wr x3 107 #[.int .i64 ad,.int .i64 ct,.int .i64 by_,.int .i64 birth,.int .i64 t0,.int .i64 t1,.int .i64 t2,.int .i64 t3]):=hal9.o.blk hz6.o fun hk=>by
              obtain⟨_,cs,hb⟩:=hk;exact e_ hb hz6.o (by decide) rfl
             have hzkm:zm<=km/\km<=maxLen:=by
              obtain⟨_,_,h1,h2,h3,_⟩:=h_ hmi9.o;injection h1 with _ _ h1;subst h1;exact⟨h2,h3⟩
             have hrl6:rl<=6:=by rw[hrl.o];exact hrtD.rl
             have h1r:Hid (W1.heap.size<=wr.heap.size):=Nat.le_trans hR6.o.al.size hal9.o.size;have hkey:Hid (∀(w10:World) (g10 c10 m10:Nat),Alt (fun k=>(Value.slice Rm zm km).ownBlock=some k) wr w10->w10.ownsRow W1.heap.size 107 8 (.slice (some ⟨g10,0,none⟩) m10 c10) m10 (q_ (olds++qs)++q_ rs++[.int .i64 ad,.int .i64 ct,.int .i64 by_,.int .i64 birth,.int .i64 t0,.int .i64 t1,.int .i64 t2,.int .i64 t3])->m10=zm+rl+1->((Value.slice Rm zm km).ownBlock=some g10\/wr.heap.size<=g10)->w10.cell? ⟨A.v,8,none⟩=some s.syn/\w10.frozen? ⟨A.v,8,none⟩=false/\Hid (∃s' o' pp rs pt root,c_w A o s bad bc xb yb c g w s' o' pp rs pt root (w10.setCell ⟨A.v,8,none⟩ (.slice (some ⟨g10,0,none⟩) m10 c10)))):=fun w10 g10 c10 m10 ha ho hm h9=>by
              have hD9:SyD A bad s1 LL (MD.map bc) N qs C rs rt acc s2:=hD2h.o;rw[hacc.o]at hD9;have hx10:w10.ownsRow W1.heap.size 107 8 (.slice (some ⟨g10,0,none⟩) m10 c10) m10 (q_ ((olds++qs)++(rs++[rt]))):=by
               rw[c_5 (olds++qs),c_5 rs,<-List.append_assoc,hrt.o];exact ho
              obtain⟨k1,k2,s',o',pp,k3⟩:=o_I hA (x:=.slice Rm zm km) hSH.o.ok (by have h1:=hP1H.o;rw[hs1.o]at h1;exact h1) ha1.o hSH.o.vm.ov (fun b hb=>(hatsH.o b hb).2) hRH.o htm.o hs1.o hLL.o hD9 hs4e.o hs5e.o hs6e.o (show sl=k_A tm from hsl.o) hsl4.o.1 hR6.o hV6.o hoE.o hal9.o hend.o hptA.o hUm.o (by rw[<-hT.o];exact hT64) holds.o hMD.o hql.o hwsH.o ha hx10 (by rw[hm,hzm.o,hrl.o];simp only[List.length_append,List.length_singleton];omega) ⟨g10,rfl,h9⟩
              exact⟨k1,k2,s',o',pp,rs,pt,rt,k3⟩
             clear hrtD;have hxw:Hid (∀k,(Value.slice Rm zm km).ownBlock=some k->k<wr.heap.size/\W1.heap.size<=k):=fun k hk=>⟨(hmi9.o.lt k hk).2,(hmi9.o.lt k hk).1⟩;have hbB:Hid (Blk (wr.alloc (.cells #[.int .i64 ad,.int .i64 ct,.int .i64 by_,.int .i64 birth,.int .i64 t0,.int .i64 t1,.int .i64 t2,.int .i64 t3] 107)).drew wr.heap.size 107 #[.int .i64 ad,.int .i64 ct,.int .i64 by_,.int .i64 birth,.int .i64 t0,.int .i64 t1,.int .i64 t2,.int .i64 t3]):=(Blk.fresh wr _ _).drew;obtain⟨a0,a1,a2,a3,a4,a5,a6,a7⟩:=h8.o _ hz9.o;have hx3w:Hid (x3<wr.heap.size):=hz9.o.lt
             by_cases hrl0:rl=0
             ·have hrs:Hid (rs=[]):=List.eq_nil_of_length_eq_zero (by rw[<-hrl.o];exact hrl0)
              have hoC:Hid ((wr.alloc (.cells #[.int .i64 ad,.int .i64 ct,.int .i64 by_,.int .i64 birth,.int .i64 t0,.int .i64 t1,.int .i64 t2,.int .i64 t3] 107)).drew.ownsRow W1.heap.size 107 8 (.slice Rm zm km) zm (q_ (olds++qs))):=c_ hmi9.o (((New.refl wr).alloc _).drew);have keyC:Hid (∀(w10:World) (g10 c10:Nat),w10.ownsRow W1.heap.size 107 8 (.slice (some ⟨g10,0,none⟩) (zm+1) c10) (zm+1) (q_ (olds++qs)++[.int .i64 ad,.int .i64 ct,.int .i64 by_,.int .i64 birth,.int .i64 t0,.int .i64 t1,.int .i64 t2,.int .i64 t3])->(wr.alloc (.cells #[.int .i64 ad,.int .i64 ct,.int .i64 by_,.int .i64 birth,.int .i64 t0,.int .i64 t1,.int .i64 t2,.int .i64 t3] 107)).drew.grownBy w10 (Value.slice Rm zm km).ownBlock->((Value.slice Rm zm km).ownBlock=some g10\/g10=(wr.alloc (.cells #[.int .i64 ad,.int .i64 ct,.int .i64 by_,.int .i64 birth,.int .i64 t0,.int .i64 t1,.int .i64 t2,.int .i64 t3] 107)).drew.heap.size)->w10.cell? ⟨A.v,8,none⟩=some s.syn/\w10.frozen? ⟨A.v,8,none⟩=false/\Hid (∃s' o' pp rs pt root,c_w A o s bad bc xb yb c g w s' o' pp rs pt root (w10.setCell ⟨A.v,8,none⟩ (.slice (some ⟨g10,0,none⟩) (zm+1) c10)))):=fun w10 g10 c10 ho hg h9=>by
               have h1:=hkey.o w10 g10 c10 (zm+1) (Alt.grown ((Alt.refl wr).alloc _).drew hg fun r e=>.inl e) (by rw[hrs.o,show q_ []=[] from rfl,List.append_nil];exact ho) (by rw[hrl0]) (h9.imp id fun e=>by rw[e];show wr.heap.size<=(wr.alloc _).heap.size;rw[World.size_alloc];omega)
               exact h1
              have hrI:((rl:Nat):Int)=0:=by rw[hrl0];rfl
              subst hrl0;clear hrI hkey;go_region_law
               (first
                |(refine e_p (by rfl) _ _ 59 (by rfl) 107 ipi underlying59 hpi Rm Rr zm km kr (by rfl) (by rfl) hzkm.1 ?_)
                |(refine step_append_lies _ (by rfl) _ _ 59 (by rfl) W1.heap.size 107 ipi _ 8 64 underlying59 hpi hpi0 hpi1 hpi2 rfl (by decide) (.slice Rm zm km) (zm) _ (by rfl) hoC.o ⟨wr.heap.size,0,none⟩ 1 1 [.int .i64 ad,.int .i64 ct,.int .i64 by_,.int .i64 birth,.int .i64 t0,.int .i64 t1,.int .i64 t2,.int .i64 t3] (by rfl) (by rfl) (World.news_of_block (cs:=#[.int .i64 ad,.int .i64 ct,.int .i64 by_,.int .i64 birth,.int .i64 t0,.int .i64 t1,.int .i64 t2,.int .i64 t3]) (t:=107) (fr:=(0,0)) hbB.o) (by simp[Value.oneCell']) (by omega) (by unfold maxLen;omega) (by omega) (by have:=h1r.o;simp;omega) _ rfl ?_;intro g10 c10 w10 ho10 hg10 ha10 hl10;obtain⟨k8,f8,hfin⟩:=keyC.o w10 g10 c10 ho10 hg10 ha10;clear ho10 hg10 ha10 hl10))
              all_goals
               go_wp2;exact bodyPost_ret (v:=.int .i64 0) (by simp[results,results21,go_sem]) rfl ⟨rfl,hfin.o⟩
             ·have hrp:0<rl:=Nat.pos_of_ne_zero hrl0
              obtain⟨gr,rfl⟩:∃gr,Rr=some ⟨gr,0,none⟩:=by
               rcases hrr9.o.2 with⟨_,h0⟩|⟨g',cap,cur,h0,_⟩
               ·omega
               ·injection h0 with h0 _ _
                exact⟨g',h0⟩
              have hmA:Hid (wr.drew.ownsRow W1.heap.size 107 8 (.slice Rm zm km) zm (q_ (olds++qs))):=c_ hmi9.o (New.refl wr).drew;have hmB:Hid ((wr.alloc (.cells #[.int .i64 ad,.int .i64 ct,.int .i64 by_,.int .i64 birth,.int .i64 t0,.int .i64 t1,.int .i64 t2,.int .i64 t3] 107)).drew.ownsRow W1.heap.size 107 8 (.slice Rm zm km) zm (q_ (olds++qs))):=c_ hmi9.o (((New.refl wr).alloc _).drew);have hnA:Hid (∀(j:Nat) u,(q_ rs)[j]?=some u->wr.drew.cell? ((⟨gr,0,none⟩:Addr).add j)=some u):=fun j u hj=>World.ownsRow.cells (c_ hrr9.o (New.refl wr).drew) rfl j u hj;have hnB:Hid (∀(j:Nat) u,(q_ rs)[j]?=some u->(wr.alloc (.cells #[.int .i64 ad,.int .i64 ct,.int .i64 by_,.int .i64 birth,.int .i64 t0,.int .i64 t1,.int .i64 t2,.int .i64 t3] 107)).drew.cell? ((⟨gr,0,none⟩:Addr).add j)=some u):=fun j u hj=>World.ownsRow.cells (c_ hrr9.o (((New.refl wr).alloc _).drew)) rfl j u hj;have hlr:Hid ((q_ rs).length=rl*8):=by show _=_;rw[n_t,hrl.o]
              have hone:Hid (∀u∈q_ rs,u.oneCell'=true):=n_s rs;have hcA:Hid (∀w9,wr.drew.grownBy w9 (Value.slice Rm zm km).ownBlock->Blk w9 x3 107 #[.int .i64 ad,.int .i64 ct,.int .i64 by_,.int .i64 birth,.int .i64 t0,.int .i64 t1,.int .i64 t2,.int .i64 t3]):=fun w9 hg=>hz9.o.drew.grown hg fun e=>by
               have:=hx6l.o x3 e;omega
              have hcB:Hid (∀w9,(wr.alloc (.cells #[.int .i64 ad,.int .i64 ct,.int .i64 by_,.int .i64 birth,.int .i64 t0,.int .i64 t1,.int .i64 t2,.int .i64 t3] 107)).drew.grownBy w9 (Value.slice Rm zm km).ownBlock->Blk w9 wr.heap.size 107 #[.int .i64 ad,.int .i64 ct,.int .i64 by_,.int .i64 birth,.int .i64 t0,.int .i64 t1,.int .i64 t2,.int .i64 t3]):=fun w9 hg=>hbB.o.grown hg fun e=>by
               have:=(hxw.o _ e).1;omega
              have hzA:Hid (∀w9,wr.drew.grownBy w9 (Value.slice Rm zm km).ownBlock->W1.heap.size<=w9.heap.size):=fun w9 hg=>Nat.le_trans h1r.o hg.size;have hzB:Hid (∀w9,(wr.alloc (.cells #[.int .i64 ad,.int .i64 ct,.int .i64 by_,.int .i64 birth,.int .i64 t0,.int .i64 t1,.int .i64 t2,.int .i64 t3] 107)).drew.grownBy w9 (Value.slice Rm zm km).ownBlock->W1.heap.size<=w9.heap.size):=fun w9 hg=>Nat.le_trans h1r.o (Nat.le_trans (by show wr.heap.size<=(wr.alloc _).heap.size;rw[World.size_alloc];omega) hg.size)
              have keyA:Hid (∀(g9 c9:Nat) (w9:World),wr.drew.grownBy w9 (Value.slice Rm zm km).ownBlock->((Value.slice Rm zm km).ownBlock=some g9\/g9=wr.drew.heap.size)->∀(w10:World) (g10 c10:Nat),w10.ownsRow W1.heap.size 107 8 (.slice (some ⟨g10,0,none⟩) (zm+rl+1) c10) (zm+rl+1) (q_ (olds++qs)++q_ rs++[.int .i64 ad,.int .i64 ct,.int .i64 by_,.int .i64 birth,.int .i64 t0,.int .i64 t1,.int .i64 t2,.int .i64 t3])->(w9.alloc (.cells #[.int .i64 ad,.int .i64 ct,.int .i64 by_,.int .i64 birth,.int .i64 t0,.int .i64 t1,.int .i64 t2,.int .i64 t3] 107)).grownBy w10 (Value.slice (some ⟨g9,0,none⟩) (zm+rl) c9).ownBlock->((Value.slice (some ⟨g9,0,none⟩) (zm+rl) c9).ownBlock=some g10\/g10=(w9.alloc (.cells #[.int .i64 ad,.int .i64 ct,.int .i64 by_,.int .i64 birth,.int .i64 t0,.int .i64 t1,.int .i64 t2,.int .i64 t3] 107)).heap.size)->w10.cell? ⟨A.v,8,none⟩=some s.syn/\w10.frozen? ⟨A.v,8,none⟩=false/\Hid (∃s' o' pp rs pt root,c_w A o s bad bc xb yb c g w s' o' pp rs pt root (w10.setCell ⟨A.v,8,none⟩ (.slice (some ⟨g10,0,none⟩) (zm+rl+1) c10)))):=fun g9 c9 w9 hg9 h9 w10 g10 c10 ho hg h10=>by
               have e9:(Value.slice (some ⟨g9,0,none⟩) (zm+rl) c9).ownBlock=some g9:=rfl;have hs0:wr.heap.size<=wr.drew.heap.size:=Nat.le_refl _;have ha9:Alt (fun k=>(Value.slice Rm zm km).ownBlock=some k) wr w9:=Alt.grown (w':=wr.drew) (Alt.of_new (New.refl wr).drew) hg9 fun r e=>.inl e;have h9':(Value.slice Rm zm km).ownBlock=some g9\/wr.heap.size<=g9:=h9.imp id fun e=>by rw[e];exact hs0
               have ha10:Alt (fun k=>(Value.slice Rm zm km).ownBlock=some k) wr w10:=Alt.grown (w':=(w9.alloc (.cells #[.int .i64 ad,.int .i64 ct,.int .i64 by_,.int .i64 birth,.int .i64 t0,.int .i64 t1,.int .i64 t2,.int .i64 t3] 107))) (ha9.alloc _) hg fun r e=>by
                rw[e9]at e;cases e;exact h9'
               have hsz:wr.heap.size<=(w9.alloc (.cells #[.int .i64 ad,.int .i64 ct,.int .i64 by_,.int .i64 birth,.int .i64 t0,.int .i64 t1,.int .i64 t2,.int .i64 t3] 107)).heap.size:=by rw[World.size_alloc];exact Nat.le_succ_of_le ha9.size
               exact hkey.o w10 g10 c10 (zm+rl+1) ha10 ho rfl (by
                rw[e9]at h10;rcases h10 with e|e
                ·cases e;exact h9'
                ·right;rw[e];exact hsz)
              have keyB:Hid (∀(g9 c9:Nat) (w9:World),(wr.alloc (.cells #[.int .i64 ad,.int .i64 ct,.int .i64 by_,.int .i64 birth,.int .i64 t0,.int .i64 t1,.int .i64 t2,.int .i64 t3] 107)).drew.grownBy w9 (Value.slice Rm zm km).ownBlock->((Value.slice Rm zm km).ownBlock=some g9\/g9=(wr.alloc (.cells #[.int .i64 ad,.int .i64 ct,.int .i64 by_,.int .i64 birth,.int .i64 t0,.int .i64 t1,.int .i64 t2,.int .i64 t3] 107)).drew.heap.size)->∀(w10:World) (g10 c10:Nat),w10.ownsRow W1.heap.size 107 8 (.slice (some ⟨g10,0,none⟩) (zm+rl+1) c10) (zm+rl+1) (q_ (olds++qs)++q_ rs++[.int .i64 ad,.int .i64 ct,.int .i64 by_,.int .i64 birth,.int .i64 t0,.int .i64 t1,.int .i64 t2,.int .i64 t3])->w9.grownBy w10 (Value.slice (some ⟨g9,0,none⟩) (zm+rl) c9).ownBlock->((Value.slice (some ⟨g9,0,none⟩) (zm+rl) c9).ownBlock=some g10\/g10=w9.heap.size)->w10.cell? ⟨A.v,8,none⟩=some s.syn/\w10.frozen? ⟨A.v,8,none⟩=false/\Hid (∃s' o' pp rs pt root,c_w A o s bad bc xb yb c g w s' o' pp rs pt root (w10.setCell ⟨A.v,8,none⟩ (.slice (some ⟨g10,0,none⟩) (zm+rl+1) c10)))):=fun g9 c9 w9 hg9 h9 w10 g10 c10 ho hg h10=>by
               have e9:(Value.slice (some ⟨g9,0,none⟩) (zm+rl) c9).ownBlock=some g9:=rfl;have hs0:wr.heap.size<=(wr.alloc (.cells #[.int .i64 ad,.int .i64 ct,.int .i64 by_,.int .i64 birth,.int .i64 t0,.int .i64 t1,.int .i64 t2,.int .i64 t3] 107)).drew.heap.size:=by show wr.heap.size<=(wr.alloc _).heap.size;rw[World.size_alloc];omega
               have ha9:Alt (fun k=>(Value.slice Rm zm km).ownBlock=some k) wr w9:=Alt.grown (w':=(wr.alloc (.cells #[.int .i64 ad,.int .i64 ct,.int .i64 by_,.int .i64 birth,.int .i64 t0,.int .i64 t1,.int .i64 t2,.int .i64 t3] 107)).drew) (Alt.of_new ((New.refl wr).alloc _).drew) hg9 fun r e=>.inl e;have h9':(Value.slice Rm zm km).ownBlock=some g9\/wr.heap.size<=g9:=h9.imp id fun e=>by rw[e];exact hs0
               have ha10:Alt (fun k=>(Value.slice Rm zm km).ownBlock=some k) wr w10:=Alt.grown (w':=w9) ha9 hg fun r e=>by
                rw[e9]at e;cases e;exact h9'
               have hsz:wr.heap.size<=w9.heap.size:=ha9.size;exact hkey.o w10 g10 c10 (zm+rl+1) ha10 ho rfl (by
                rw[e9]at h10;rcases h10 with e|e
                ·cases e;exact h9'
                ·right;rw[e];exact hsz)
              clear hkey;go_region_law
               (first
                |(refine step_append_lies _ (by rfl) _ _ 59 (by rfl) W1.heap.size 107 ipi _ 8 64 underlying59 hpi hpi0 hpi1 hpi2 rfl (by decide) (.slice Rm zm km) (zm) _ (by rfl) hmA.o ⟨gr,0,none⟩ rl kr (q_ rs) (by rfl) hlr.o hnA.o hone.o (by omega) (by unfold maxLen;omega) (by omega) (by exact h1r.o) _ rfl ?_;intro g9 c9 w9 ho9 hg9 ha9 hl9;obtain⟨n0,n1,n2,n3,n4,n5,n6,n7⟩:=h8.o w9 (hcA.o w9 hg9);have hb9:=Hd (c_ ho9 ((New.refl w9).alloc (.cells #[.int .i64 ad,.int .i64 ct,.int .i64 by_,.int .i64 birth,.int .i64 t0,.int .i64 t1,.int .i64 t2,.int .i64 t3] 107)));have hz10:=Hd (hzA.o w9 hg9);have hk9:=Hd (keyA.o g9 c9 w9 hg9 ha9);clear ho9 hg9 ha9 hl9)
                |(refine step_append_lies _ (by rfl) _ _ 59 (by rfl) W1.heap.size 107 ipi _ 8 64 underlying59 hpi hpi0 hpi1 hpi2 rfl (by decide) (.slice Rm zm km) (zm) _ (by rfl) hmB.o ⟨gr,0,none⟩ rl kr (q_ rs) (by rfl) hlr.o hnB.o hone.o (by omega) (by unfold maxLen;omega) (by omega) (by have:=h1r.o;simp;omega) _ rfl ?_;intro g9 c9 w9 ho9 hg9 ha9 hl9;have hb9:=Hd ho9;have hn9:=Hd (hcB.o w9 hg9);have hz10:=Hd (hzB.o w9 hg9);have hk9:=Hd (keyB.o g9 c9 w9 hg9 ha9);clear ho9 hg9 ha9 hl9)
                |(refine step_append_lies _ (by rfl) _ _ 59 (by rfl) W1.heap.size 107 ipi _ 8 64 underlying59 hpi hpi0 hpi1 hpi2 rfl (by decide) (.slice (some ⟨g9,0,none⟩) (zm+rl) c9) (zm+rl) _ (by rfl) hb9.o ⟨w9.heap.size,0,none⟩ 1 1 [.int .i64 ad,.int .i64 ct,.int .i64 by_,.int .i64 birth,.int .i64 t0,.int .i64 t1,.int .i64 t2,.int .i64 t3] (by rfl) (by rfl) (World.news_of_block (cs:=#[.int .i64 ad,.int .i64 ct,.int .i64 by_,.int .i64 birth,.int .i64 t0,.int .i64 t1,.int .i64 t2,.int .i64 t3]) (t:=107) (fr:=(0,0)) (heap_alloc_new w9 _)) (by simp[Value.oneCell']) (by omega) (by unfold maxLen;omega) (by omega) (by have:=hz10.o;simp;omega) _ rfl ?_;intro g10 c10 w10 ho10 hg10 ha10 hl10;obtain⟨k8,f8,hfin⟩:=hk9.o w10 g10 c10 ho10 hg10 ha10;clear ho10 hg10 ha10 hl10)
                |(refine step_append_lies _ (by rfl) _ _ 59 (by rfl) W1.heap.size 107 ipi _ 8 64 underlying59 hpi hpi0 hpi1 hpi2 rfl (by decide) (.slice (some ⟨g9,0,none⟩) (zm+rl) c9) (zm+rl) _ (by rfl) hb9.o ⟨wr.heap.size,0,none⟩ 1 1 [.int .i64 ad,.int .i64 ct,.int .i64 by_,.int .i64 birth,.int .i64 t0,.int .i64 t1,.int .i64 t2,.int .i64 t3] (by rfl) (by rfl) (World.news_of_block (cs:=#[.int .i64 ad,.int .i64 ct,.int .i64 by_,.int .i64 birth,.int .i64 t0,.int .i64 t1,.int .i64 t2,.int .i64 t3]) (t:=107) (fr:=(0,0)) hn9.o) (by simp[Value.oneCell']) (by omega) (by unfold maxLen;omega) (by omega) (by exact hz10.o) _ rfl ?_;intro g10 c10 w10 ho10 hg10 ha10 hl10;obtain⟨k8,f8,hfin⟩:=hk9.o w10 g10 c10 ho10 hg10 ha10;clear ho10 hg10 ha10 hl10))
              all_goals
               go_wp2;exact bodyPost_ret (v:=.int .i64 0) (by simp[results,results21,go_sem]) rfl ⟨rfl,hfin.o⟩
           · skip
             have hbc:∃dg doff dc,Blk w1 b 115 #[.slice (some ⟨dg,doff,none⟩) 256 dc,.pointer none]:=by
              obtain⟨_,dg,doff,dcs,dc,h1,_⟩:=hbn;exact⟨dg,doff,dc,h1⟩
             obtain⟨dg,doff,dc,hbc⟩:=hbc;obtain⟨x8,hx8⟩:∃x8,Hid (x8=w1.heap.size):=⟨_,rfl⟩;obtain⟨W8,hW8⟩:∃W8,W8=w1.alloc (.cells (x_ q) 107):=⟨_,rfl⟩;have hfin:Hid (SyE g bc ats MD qs pt pm r7 oE w6 (seen.push i8) MD.length ((W8.setCell ⟨b,1,none⟩ (ptr x8)).setCell ⟨b,0,none⟩ (.slice none 0 0))):=by
              rw[hW8,hx8.o];exact SyE.put (qs:=qs) hMDm.o hpq hi8 hbn hbs hit (Nat.le_refl _) hmp8 hal8 hE.o.rn hbE.o hoE2.o rfl
             have hm8:Hid (World.rangeLeft ((W8.setCell ⟨b,1,none⟩ (ptr x8)).setCell ⟨b,0,none⟩ (.slice none 0 0)) pm r7<wr.rangeLeft pm r7):=by
              show _<_;rw[hfin.o.left];exact hless
             have hb8:Blk W8 b 115 #[.slice (some ⟨dg,doff,none⟩) 256 dc,.pointer none]:=by rw[hW8];exact hbc.alloc _
             have y0:=hb8.cell 0;have y1:=hb8.cell 1;have z0:=hb8.frozen 0;have z1:=hb8.frozen 1;have y2:=(hb8.put 1 (ptr x8)).cell 0;have z2:=(hb8.put 1 (ptr x8)).frozen 0;simp at y0 y1 y2;clear hbc hb8 hbn hbs hit hmp8 hal8 hless hE;obtain⟨qa,qc,qb,qi,q0,q1,q2,q3⟩:=q;go_upto_region 36 with fail;rw[<-hW8]
             try simp only[<-hx8.o]
             clear hW8 hrun hent;go_wp2;go_roundw;case rel=>exact⟨seen.push i8,MD.length,hfin⟩
             case measure=>exact hm8.o
end vault
end Go.Proofs.YtojcoaekhiadcaaGreat
