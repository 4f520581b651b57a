import Derived.Test.YtojcoaekhiadcaaGreatA01
import Derived.Test.YtojcoaekhiadcaaGreatA03
set_option linter.unusedVariables false
set_option linter.unusedSimpArgs false
namespace Go.Proofs.YtojcoaekhiadcaaGreat
open Tryz Go.RowKit
namespace drive
set_option maxRecDepth 100000
open Go.ChangeShapes Go.WideShapes Go.ChangeAt kit each2 Go.Deep
attribute [local go_sem] Oper.semAt_some
theorem d_E(a:Nat)(ws:List (Nat×(Nat->Nat)))(r:Nat)(q:List Nat):∀m,m<=ws.length->(∀j,r<=j->j<m->(ws.getD j noP).1≠a)->r<=m->a_Q a ws m=a_Q a ws r
 |0,_,_,h=>by have:r=0:=by omega
              rw[this]
 |m+1,hm,hj,h=>by
  by_cases e:r=m+1
  ·rw[e]
  ·rw[a_Q,if_neg (hj m (by omega) (by omega))]
   exact d_E a ws r q m (by omega) (fun j h1 h2=>hj j h1 (by omega)) (by omega)
theorem p_c{m r j:Nat}:j∈c_N m r↔r<=j/\j<m:=by
 unfold c_N;rw[List.mem_reverse,List.mem_drop_iff_getElem];constructor
 ·rintro⟨i,h1,h2⟩
  simp at h1 h2;omega
 ·rintro⟨h1,h2⟩
  exact⟨j-r,by simp;omega,by simp;omega⟩
theorem m_b{m i:Nat}{q:List Nat}(h:q++[i] <+: (List.range m).reverse):i<m/\q=c_N m (i+1):=by
 obtain⟨t,ht⟩:=h;have hl:q.length<m:=by
  have:=congrArg List.length ht;simp at this;omega
 have hi:i=m-1-q.length:=by
  have h1:=congrArg (fun l=>l[q.length]?) ht;simp[List.getElem?_append]at h1;rw[List.getElem?_reverse (by simpa using hl)]at h1
  simp at h1;rw[List.getElem?_range (by omega)]at h1
  simp at h1;omega
 refine⟨by omega,?_⟩
 have h2:=d_b (m:=m) (r:=i) (by omega)
 have h3:=c_M m (i+1);have h4:q <+: (List.range m).reverse:=⟨[i]++t,by rw[<-ht];simp⟩
 exact List.IsPrefix.eq_of_length (List.prefix_of_prefix_length_le h4 h3 (by unfold c_N;simp;omega)) (by unfold c_N;simp;omega)
theorem B_{w:World}{a:Addr}{v:Value}(h:w.cell? a=some v)(o:Obj):(w.alloc o).cell? a=some v:=(((New.refl w).alloc o).cell (a_ h)).trans h
theorem b_M{w:World}{a:Addr}(h:w.frozen? a=false)(hl:a.block<w.heap.size)(o:Obj):(w.alloc o).frozen? a=false:=(((New.refl w).alloc o).frozen hl).trans h
theorem u_7(p q:Tmp)(a b:Value)(arr:Array Value):(#[p,q].zip #[a,b]).foldl (fun t (x:Tmp×Value)=>t.setIfInBounds x.1 x.2) arr=(arr.setIfInBounds p a).setIfInBounds q b:=by simp
structure GI(w0:World)(at_:Nat)(W:World):Prop where
 nw:New w0 W
 b0:Boxed W w0.heap.size 3 (.int .i64 at_)
 b1:Blk W (w0.heap.size+1) 187 #[.int .i64 0,.slice none 0 0]
theorem GI.new{w0 W W':World}{at_:Nat}(h:GI w0 at_ W)(hn:New W W'):GI w0 at_ W':=⟨h.nw.next hn,(hn.block _ h.b0.lt).trans h.b0,h.b1.new hn⟩
def u_e(r:Int×Option (Nat->Nat))(w:World)(e:Ending)(w':World):Prop:=(∃rv,e=.returned (.agg #[.int .i64 r.1,rv])/\Dat w' rv r.2)/\New w w'
set_option maxHeartbeats 4000000 in
theorem r_N(P:Nat->Prop)(base d g n m at_:Nat)(s:DS)(pv:Nat->Value)(wv:Value)(dv:Nat->Value)(w:World)(h:Dr P base d g n s.pl s.br s.ws s.dead pv wv dv w)(hat:at_<n)(hn:n<=512)(hm:s.ws.length=m)(hm3:m<=300) :
  Calls prog 134 #[.pointer (some ⟨d,0,none⟩),.int .i64 at_] w (u_e (b_G s at_) w):=by
 have hone:∀i,i<m->(dv i).oneCell'=true:=fun i hi=>by
  obtain⟨b,c,hv,_⟩:=h.wd i (by omega)
  rw[hv];rfl
 obtain⟨wA,wc,rfl,hw1,hw2,hwA,hwc⟩:=h_ h.wo;have hH:=Hd h;have hmH:=Hd hm;have c0:=h.bk.cell 1;simp at c0;rw[hm]at c0 hw1;have hdl:=h.bk.lt;have hG0:GI w at_ ((w.alloc (.cells #[.int .i64 at_] 3)).alloc (.cells #[.int .i64 0,.slice none 0 0] 187)):=by
  refine⟨((New.refl w).alloc _).alloc _,(Boxed.new w _ _).alloc _,?_⟩;have:=Blk.fresh (w.alloc (.cells #[.int .i64 at_] 3)) 187 #[.int .i64 0,.slice none 0 0];simpa using this
 replace hG0:=Hd hG0;have hoH:=Hd hone;clear h hm hwA hwc hone;refine(callsIn_wide (n:=3)).1 ?_;refine callsIn_of_wp_marks func134 rfl trivial ?_ rfl;simp only[ntmps134,List.size_toArray,List.length_cons,List.length_nil,Nat.reduceAdd,Nat.reduceSub,Array.replicate_succ,Array.replicate_zero,List.push_toArray,List.append_toArray,List.nil_append,List.cons_append];refine wpIn_wide.2 ?_;go_wp2_with fail;refine(i_V _ _ _ _).mono ?_;rintro e w1 ⟨rfl,rfl⟩;go_wp2_with fail;obtain⟨Wl,hWl⟩:∃Wl,Wl=((w.alloc (.cells #[.int .i64 at_] 3)).alloc (.cells #[.int .i64 0,.slice none 0 0] 187)).alloc (.cells #[.slice wA m wc] 93):=⟨_,rfl⟩;have hnl:New w Wl:=by rw[hWl];exact(((New.refl w).alloc _).alloc _).alloc _
 have hsl:Wl.heap.size=w.heap.size+3:=by rw[hWl];simp
 have hGl:Hid (GI w at_ Wl):=by rw[hWl];exact hG0.o.new ((New.refl _).alloc _)
 have hsb:Boxed Wl (w.heap.size+1+1) 93 (.slice wA m wc):=by
  rw[hWl];have:=Boxed.new ((w.alloc (.cells #[.int .i64 at_] 3)).alloc (.cells #[.int .i64 0,.slice none 0 0] 187)) 93 (.slice wA m wc);simpa using this
 have hDl:=Hd (hH.o.new hnl);rw[<-hWl];have hst:=l_w (nn:=3) s.ws dv base (w.heap.size+1+1) m (.slice wA m wc) Wl hmH.o hm3 (by have:=hDl.o.wo;rw[hmH.o]at this;exact this) hsb hoH.o
 have hKl:∀k,KB (w.heap.size+1+1) (.slice wA m wc) k->k<Wl.heap.size:=fun k hk=>by
  rcases hk with rfl|hk
  ·omega
  ·have:=hDl.o.wo
   rw[hmH.o]at this;exact(this.lt k hk).2
 clear hWl hG0 c0;refine(wpIn_wide (n:=3)).1 ?_;refine each2.d_7 (gf:=217) (lb:=#[.pointer (some ⟨w.heap.size+1+1,0,none⟩)]) rfl (enters_of func217 (by kernel_rfl) rfl) hst (Below.refl _ _) hKl (fun B x v W hv=>by rw[hv.2];rfl)
  (fun pre W=>New Wl W/\∀j∈pre,(s.ws.getD j noP).1≠at_)
  (fun cd pre W=>cd=.ret/\∃q i rv,pre=q++[i]/\(∀j∈q,(s.ws.getD j noP).1≠at_)/\(s.ws.getD i noP).1=at_/\New w W/\Blk W (w.heap.size+1) 187 #[.int .i64 0,rv]/\SdN (Wl.heap.size+2) W rv (s.ws.getD i noP).2)
  ?bears ?xbears ?first
  (fun x a' W'=>∃pb,Wl.heap.size+2<=pb/\Blk W' pb 245 #[.int .i64 (s.ws.getD x noP).1,dv x]/\a'={tmps:=#[.pointer (some ⟨d,0,none⟩),.int .i64 at_,undef,.pointer (some ⟨w.heap.size,0,none⟩),.pointer (some ⟨w.heap.size+1,0,none⟩),undef,.pointer (some ⟨pb,0,none⟩),undef,.pointer (some ⟨d,0,none⟩),.pointer (some ⟨d,0,none⟩),.pointer (some ⟨d,1,none⟩),.slice wA m wc,.func (.func 217) #[] #[.pointer (some ⟨w.heap.size+1+1,0,none⟩)],.int .i64 x,.agg #[.int .i64 (s.ws.getD x noP).1,dv x],undef,undef,undef,undef,undef,undef,undef,undef,undef,undef,undef,undef,undef,undef,undef,undef,undef,undef,undef,undef,undef,undef,undef,undef,undef,undef,undef,undef,undef],defers:=[]})
  ?abears ?assign ?body ?done ?stop
 case bears=>
  rintro pre A B row ⟨h1,h2⟩ hg hr;exact⟨h1.grown hg fun r e=>(hr r e).1,h2⟩
 case xbears=>
  rintro cd pre A B row ⟨h1,q,i,rv,h2,h3,h4,h5,h6,h7⟩ hg hr;exact⟨h1,q,i,rv,h2,h3,h4,h5.grown hg fun r e=>by have:=hr r e;omega,h6.grown hg fun e=>by have:=hr _ e;omega,h7.grown hg fun r e=>by have:=hr r e;omega⟩
 case first=>exact⟨New.refl _,fun j hj=>by simp at hj⟩
 case abears=>
  rintro x a' A B row ⟨pb,h1,h2,h3⟩ hg hr;exact⟨pb,h1,h2.grown hg fun e=>by have:=hr _ e;omega,h3⟩
 case assign=>
  rintro l pre x v W hz ⟨h1,h2⟩ hv K hK;obtain⟨hxl,rfl⟩:=hv;obtain⟨sb2,sc2,hsv,_⟩:=hDl.o.wd x hxl;rw[hsv]at hK ⊢;rw[u_7];simp only[List.setIfInBounds_toArray,List.set_cons_zero,List.set_cons_succ];obtain⟨q,hq⟩:∃q,Hid (q=(s.ws.getD x noP).1):=⟨_,rfl⟩;rw[<-hq.o]at hK ⊢;gi_wp2_with fail;exact hK _ _ ⟨W.heap.size,hz,Blk.fresh _ _ _,rfl⟩ ⟨h1.alloc _,h2⟩ ((New.refl W).alloc _)
 case body=>
  rintro l pre x a' W hz ⟨hnw,h2⟩ hpre ⟨pb,hpb,hpk,rfl⟩;obtain⟨hxm,_⟩:=m_b hpre;have hG:=hGl.o.new hnw;have hD:=hDl.o.new hnw;have hsd:=hD.wd x (by rw[hmH.o];exact hxm)
  obtain⟨q,hq⟩:∃q,Hid (q=(s.ws.getD x noP).1):=⟨_,rfl⟩;obtain⟨F,hF⟩:∃F,Hid (F=(s.ws.getD x noP).2):=⟨_,rfl⟩;rw[<-hF.o]at hsd;rw[<-hq.o]at hpk ⊢;obtain⟨sb2,sc2,hsv,k1,k2,k3⟩:=hsd;rw[hsv]at hpk ⊢;have hcl:=Hd (fun(w':World) (hn:New W w')=>k_k (.slice (some ⟨sb2,0,none⟩) 128 sc2) F w' ⟨sb2,sc2,rfl,k1,k2,k3.new hn⟩);have e0:=hpk.cell 0;have e1:=hpk.cell 1;have e2:=hG.b0.cell;simp at e0 e1;have hGH:=Hd hG;have hWv:Hid (∀r,(Value.slice wA m wc).ownBlock=some r->r<w.heap.size):=fun r hr=>by
   have:=hH.o.wo;rw[hmH.o]at this;exact(this.lt r hr).2
  have h2H:=Hd h2;have hnwH:=Hd hnw;clear hpk k3 hD hG h2 hst
  by_cases hqa:q=at_
  ·have hqi:(q:Int)=(at_:Int):=by omega
   have hfin:Hid (∀(w3:World) (v':Value),New W w3->SdN W.heap.size w3 v' F ->
     Held (KB (w.heap.size+1+1) (.slice wA m wc)) Wl.heap.size (Wl.heap.size+2+0) W ((w3.setCell ⟨w.heap.size+1,0,none⟩ (.int .i64 0)).setCell ⟨w.heap.size+1,1,none⟩ v') /\
     New w ((w3.setCell ⟨w.heap.size+1,0,none⟩ (.int .i64 0)).setCell ⟨w.heap.size+1,1,none⟩ v')/\Blk ((w3.setCell ⟨w.heap.size+1,0,none⟩ (.int .i64 0)).setCell ⟨w.heap.size+1,1,none⟩ v') (w.heap.size+1) 187 #[.int .i64 0,v'] /\
     SdN (Wl.heap.size+2) ((w3.setCell ⟨w.heap.size+1,0,none⟩ (.int .i64 0)).setCell ⟨w.heap.size+1,1,none⟩ v') v' F):=fun w3 v' hn hs=>by
    have g1:=k_ w3 (w.heap.size+1) 0 (.int .i64 0);have g2:=k_ (w3.setCell ⟨w.heap.size+1,0,none⟩ (.int .i64 0)) (w.heap.size+1) 1 v';have hkb:∀r,(some (w.heap.size+1):Option Nat)=some r->¬KB (w.heap.size+1+1) (.slice wA m wc) r/\(r<Wl.heap.size\/Wl.heap.size+2+0<=r):=fun r e=>by
     cases e;refine⟨fun hk=>?_,by omega⟩
     rcases hk with hk|hk
     ·omega
     ·have:=hWv.o _ hk;omega
    obtain⟨b,c,t1,t2,t3,t4,t5⟩:=hs;have hs':SdN (Wl.heap.size+2) w3 v' F:=⟨b,c,t1,t2,t3,t4,by omega⟩
    refine⟨((⟨hn.size,fun k _ hk=>hn.block k hk⟩:Held _ _ _ W w3).trans (Held.grown g1 hkb)).trans (Held.grown g2 hkb),?_,?_,(hs'.grown g1 fun r e=>by cases e;omega).grown g2 fun r e=>by cases e;omega⟩
    ·exact((hGH.o.nw.next hn).set (by show w.heap.size<=w.heap.size+1;omega) _).set (by show w.heap.size<=w.heap.size+1;omega) _
    ·exact((hGH.o.b1.new hn).put 0 (.int .i64 0)).put 1 v'
   clear hsv;gi_wp2_with fail;refine⟨trivial,(CallsIn.inRound l (callsIn_wide.2 (hcl.o _ (New.refl W)))).mono ?_⟩;rintro e w3 ⟨v',rfl,hs3,hn3⟩;have r0:=(hGH.o.b1.new hn3).cell 0;have r1:=(hGH.o.b1.new hn3).cell 1;have r2:=(hGH.o.b1.new hn3).frozen 0;have r3:=(hGH.o.b1.new hn3).frozen 1;simp at r0 r1;obtain⟨p1,p2,p3,p4⟩:=hfin.o w3 v' hn3 hs3;have hp:=Hd (And.intro p1 (And.intro p2 (And.intro p3 p4)));have hvo:v'.oneCell'=true:=by
    obtain⟨b,c,t1,_⟩:=hs3;rw[t1];rfl
   obtain⟨vb,vc,rfl,_⟩:=hs3;clear p1 p2 p3 p4;gi_wp2_with fail;exact⟨hp.o.1,rfl,pre,x,_,rfl,h2H.o,by rw[<-hq.o];exact hqa,hp.o.2.1,hp.o.2.2.1,by rw[<-hF.o];exact hp.o.2.2.2⟩
  ·have hqi:((q:Int)==(at_:Int))=false:=by simp;omega
   have hneg:Hid (∀j∈pre++[x],(s.ws.getD j noP).1≠at_):=fun j hj=>by
    rcases List.mem_append.1 hj with h|h
    ·exact h2H.o j h
    ·simp at h
     subst h;rw[<-hq.o];exact hqa
   clear hsv;gi_wp2_with fail;exact⟨Held.refl _,hnwH.o,hneg.o⟩
 case done=>
  rintro W ⟨hnw,hall⟩ hD;have hG:=hGl.o.new hnw;have hDr:=hDl.o.new hnw;have hno:a_Q at_ s.ws s.ws.length=none:=by
   rw[hmH.o,d_E at_ s.ws 0 [] m (by rw[hmH.o];exact Nat.le_refl _) (fun j _ h=>hall j (by simp[h])) (Nat.zero_le _)]
   rfl
  have hget:Hid (b_G s at_=b_3 s at_):=by show _=_;unfold b_G;rw[hno]
  obtain⟨k0,k1⟩:=hDr.pt.cell hat;have e0:=hDr.bk.cell 0;have e1:=hG.b0.cell;simp at e0;have hdat:=hDr.pd at_ hat;have hGH:=Hd hG;have ha0:(0:Int)<=(at_:Int):=by omega
  have ha1:(at_:Int)<(n:Int):=by omega
  have hfin:Hid (∀(W3:World) (cd:Int) (v':Value) (W5:World),New W W3->New ((W3.setCell ⟨w.heap.size+1,0,none⟩ (.int .i64 cd)).setCell ⟨w.heap.size+1,1,none⟩ v') W5 ->
    W5.heap[Wl.heap.size]?=some (.deferred (some []))/\New w (W5.putObj Wl.heap.size (.deferred none)) /\
    Blk (W5.putObj Wl.heap.size (.deferred none)) (w.heap.size+1) 187 #[.int .i64 cd,v'] /\
    (∀F,Sd W5 v' F->Sd (W5.putObj Wl.heap.size (.deferred none)) v' F)/\∀F,Sd W3 v' F->Sd W5 v' F):=fun W3 cd v' W5 hn hn5=>by
   have hl:Wl.heap.size<W.heap.size:=(Array.getElem?_eq_some_iff.1 hD).1;have g1:=k_ W3 (w.heap.size+1) 0 (.int .i64 cd);have g2:=k_ (W3.setCell ⟨w.heap.size+1,0,none⟩ (.int .i64 cd)) (w.heap.size+1) 1 v';have g3:=grownBy_putObj' W5 Wl.heap.size (.deferred none);have hb3:=hGH.o.b1.new hn;have hdef:W5.heap[Wl.heap.size]?=some (.deferred (some [])):=by
    have h1:=(hn.block _ hl).trans hD;have h2:=(g1.block Wl.heap.size (Nat.lt_of_lt_of_le hl hn.size) fun e=>by injection e;omega).trans h1
    have h3:=(g2.block Wl.heap.size (Nat.lt_of_lt_of_le hl (Nat.le_trans hn.size g1.size)) fun e=>by injection e;omega).trans h2
    exact(hn5.block _ (Array.getElem?_eq_some_iff.1 h3).1).trans h3
   refine⟨hdef,?_,?_,fun F hs=>?_,fun F hs=>?_⟩
   ·exact((((hGH.o.nw.next hn).set (by show w.heap.size<=w.heap.size+1;omega) _).set (by show w.heap.size<=w.heap.size+1;omega) _).next hn5).grown g3 fun r e=>by cases e;omega
   ·exact(((hb3.put 0 (.int .i64 cd)).put 1 v').new hn5).grown g3 fun e=>by injection e;omega
   ·obtain⟨b,c,t1,t2,t3,t4⟩:=hs
    have n3:(some Wl.heap.size:Option Nat)≠some b:=fun e=>by
     injection e with e;obtain⟨cs,hc,_⟩:=t4;rw[<-e,hdef]at hc;cases hc
    exact⟨b,c,t1,t2,t3,t4.grown g3 n3⟩
   ·have hne:∀b f,m_ 5 .u8 W3 b 128 f->(some (w.heap.size+1):Option Nat)≠some b:=fun b f hr e=>m_.ne_blk hr hb3 (by decide) (Option.some.inj e)
    obtain⟨b,c,t1,t2,t3,t4⟩:=hs;have n1:(some (w.heap.size+1):Option Nat)≠some b:=hne b F t4;exact⟨b,c,t1,t2,t3,((t4.grown g1 n1).grown g2 n1).new hn5⟩
  have q0:=hG.b1.cell 0;have q1:=hG.b1.cell 1;have q2:=hG.b1.frozen 0;have q3:=hG.b1.frozen 1;simp at q0 q1;have hb1l:=hG.b1.lt;have hmk:∀w:World,(Instr.makeSlice 35 (.int .i64 128) (.int .i64 128)).run prog w=.ok (.slice (some ⟨w.heap.size,0,none⟩) 128 128) (w.alloc (.cells (madeCells #[.int .u8 0] 128) 5)):=run_make_row' (P:=prog) 35 5 (.int .u8 0) 1 underlying35 infoU8 rfl .i64 .i64 128 (by omega) (by omega)
  have hnb:=fun w:World=>Lib.run_eql_slice_nil (P:=prog) w 35 5 none 0 0 0 0 underlying35;have hnc:=fun(w:World) (b c:Nat)=>Lib.run_eql_slice_nil (P:=prog) w 35 5 (some ⟨b,0,none⟩) 128 c 0 0 underlying35;dsimp only;clear hG hst hD hsl;cases hpl:s.pl at_ with
  |none=>
   rw[hpl]at hdat;have hdat:pv at_=.slice none 0 0:=hdat;rw[hdat]at k0;clear hdat;cases hbr:s.br at_ with
   |true=>
    rw[hbr]at k1;have hr:Hid (b_G s at_=(12,none)):=by show _=_;rw[hget.o];unfold b_3;rw[if_pos hbr]
    clear hDr;have y0:=B_ e0 (.cells #[.slice none 0 0,.bool false] 249);have y1:=B_ e1 (.cells #[.slice none 0 0,.bool false] 249);have y2:=B_ k0 (.cells #[.slice none 0 0,.bool false] 249);have y3:=B_ k1 (.cells #[.slice none 0 0,.bool false] 249);go_wp2_with fail;go_region
    all_goals go_wp2
    obtain⟨z1,z2,z3,z4,_⟩:=hfin.o W 12 (.slice none 0 0) _ (New.refl W) (((New.refl _).alloc (.cells #[.slice none 0 0,.bool true] 249)).drew);have x0:=z3.cell 0;have x1:=z3.cell 1;simp at x0 x1;refine⟨by simp,.inl ⟨_,_,rfl,run_takeDeferred z1,?_⟩⟩
    refine⟨.agg #[.int .i64 12,.slice none 0 0],by simp[results,results134,go_sem,x0,x1],?_⟩
    rw[hr.o];exact⟨⟨_,rfl,rfl⟩,z2⟩
   |false=>
    rw[hbr]at k1;have hr:Hid (b_G s at_=(0,some fun _=>0)):=by show _=_;rw[hget.o];unfold b_3;rw[if_neg (by rw[hbr];simp),hpl]
    clear hDr;have y0:=B_ e0 (.cells #[.slice none 0 0,.bool false] 249);have y1:=B_ e1 (.cells #[.slice none 0 0,.bool false] 249);have y2:=B_ k0 (.cells #[.slice none 0 0,.bool false] 249);have y3:=B_ k1 (.cells #[.slice none 0 0,.bool false] 249);have x0:=B_ (B_ q0 (.cells #[.slice none 0 0,.bool false] 249)) (.cells (madeCells #[.int .u8 0] 128) 5);have x1:=B_ (B_ q1 (.cells #[.slice none 0 0,.bool false] 249)) (.cells (madeCells #[.int .u8 0] 128) 5);have x2:=b_M (b_M q2 (by show w.heap.size+1<_;exact hb1l) (.cells #[.slice none 0 0,.bool false] 249)) (by show w.heap.size+1<_;simp;omega) (.cells (madeCells #[.int .u8 0] 128) 5)
    have x3:=b_M (b_M q3 (by show w.heap.size+1<_;exact hb1l) (.cells #[.slice none 0 0,.bool false] 249)) (by show w.heap.size+1<_;simp;omega) (.cells (madeCells #[.int .u8 0] 128) 5)
    go_wp2_with fail;go_region
    all_goals go_wp2
    obtain⟨z1,z2,z3,z4,z5⟩:=hfin.o ((W.alloc (.cells #[.slice none 0 0,.bool false] 249)).alloc (.cells (madeCells #[.int .u8 0] 128) 5)) 0 (.slice (some ⟨W.heap.size+1,0,none⟩) 128 128) _ (((New.refl W).alloc _).alloc _) (New.refl _).drew;have hs5:=z4 (fun _=>0) (z5 (fun _=>0) ⟨W.heap.size+1,128,rfl,Nat.le_refl _,by unfold maxLen;omega,by
     have h1:=World.rowIs_made (W.alloc (.cells #[.slice none 0 0,.bool false] 249)) (.int .u8 0) 128 5;have h2:=m_.of_rowIs h1 (Nat.le_refl 128) (f:=fun _=>0) fun j hj=>rfl;simpa using h2⟩)
    have x4:=z3.cell 0;have x5:=z3.cell 1;simp at x4 x5;refine⟨by simp,.inl ⟨_,_,rfl,run_takeDeferred z1,?_⟩⟩
    refine⟨.agg #[.int .i64 0,.slice (some ⟨W.heap.size+1,0,none⟩) 128 128],by simp[results,results134,go_sem,x4,x5],?_⟩
    rw[hr.o];exact⟨⟨_,rfl,hs5⟩,z2⟩
  |some F=>
   rw[hpl]at hdat;obtain⟨sb2,sc2,hsv,m1,m2,m3⟩:=hdat;rw[hsv]at k0;cases hbr:s.br at_ with
   |true=>
    rw[hbr]at k1;have hr:Hid (b_G s at_=(12,none)):=by show _=_;rw[hget.o];unfold b_3;rw[if_pos hbr]
    clear hDr hsv m3;have y0:=B_ e0 (.cells #[.slice none 0 0,.bool false] 249);have y1:=B_ e1 (.cells #[.slice none 0 0,.bool false] 249);have y2:=B_ k0 (.cells #[.slice none 0 0,.bool false] 249);have y3:=B_ k1 (.cells #[.slice none 0 0,.bool false] 249);go_wp2_with fail;go_region
    all_goals go_wp2
    obtain⟨z1,z2,z3,z4,_⟩:=hfin.o W 12 (.slice none 0 0) _ (New.refl W) (((New.refl _).alloc (.cells #[.slice (some ⟨sb2,0,none⟩) 128 sc2,.bool true] 249)).drew);have x0:=z3.cell 0;have x1:=z3.cell 1;simp at x0 x1;refine⟨by simp,.inl ⟨_,_,rfl,run_takeDeferred z1,?_⟩⟩
    refine⟨.agg #[.int .i64 12,.slice none 0 0],by simp[results,results134,go_sem,x0,x1],?_⟩
    rw[hr.o];exact⟨⟨_,rfl,rfl⟩,z2⟩
   |false=>
    rw[hbr]at k1;have hr:Hid (b_G s at_=(0,some F)):=by show _=_;rw[hget.o];unfold b_3;rw[if_neg (by rw[hbr];simp),hpl]
    have hcl:=Hd (fun(w':World) (hn:New W w')=>k_k (.slice (some ⟨sb2,0,none⟩) 128 sc2) F w' ⟨sb2,sc2,rfl,m1,m2,m3.new hn⟩);clear hDr hsv m3;have y0:=B_ e0 (.cells #[.slice none 0 0,.bool false] 249);have y1:=B_ e1 (.cells #[.slice none 0 0,.bool false] 249);have y2:=B_ k0 (.cells #[.slice none 0 0,.bool false] 249);have y3:=B_ k1 (.cells #[.slice none 0 0,.bool false] 249);go_wp2_with fail;go_region
    all_goals go_wp2_with fail
    refine(hcl.o _ (((New.refl W).alloc _).drew)).mono ?_;rintro e w3 ⟨v',rfl,hs3,hn3⟩;have hN3:New W w3:=New.next (((New.refl W).alloc _).drew) hn3;have r0:=(hGH.o.b1.new hN3).cell 0;have r1:=(hGH.o.b1.new hN3).cell 1;have r2:=(hGH.o.b1.new hN3).frozen 0;have r3:=(hGH.o.b1.new hN3).frozen 1;simp at r0 r1;obtain⟨z1,z2,z3,z4,z5⟩:=hfin.o w3 0 v' _ hN3 (New.refl _);have hs5:=Hd (z4 F (z5 F hs3.sd));obtain⟨vb,vc,rfl,_⟩:=hs3;have x0:=z3.cell 0;have x1:=z3.cell 1;simp at x0 x1;have zz:=Hd (And.intro z1 z2);clear z1 z2 z3 z4 z5;go_wp2_with fail;refine⟨by simp,.inl ⟨_,_,rfl,run_takeDeferred zz.o.1,?_⟩⟩
    refine⟨.agg #[.int .i64 0,.slice (some ⟨vb,0,none⟩) 128 vc],by simp[results,results134,go_sem,x0,x1],?_⟩
    rw[hr.o];exact⟨⟨_,rfl,hs5.o⟩,zz.o.2⟩
 case stop=>
  rintro cd pre W hpre ⟨rfl,q,i,rv,rfl,h3,h4,h5,h6,h7⟩ hD;obtain⟨him,hqq⟩:=m_b hpre;have hsome:a_Q at_ s.ws s.ws.length=some (s.ws.getD i noP).2:=by
   rw[hmH.o,d_E at_ s.ws (i+1) [] m (by rw[hmH.o];exact Nat.le_refl _) (fun j h1 h2=>h3 j (by rw[hqq];exact p_c.2 ⟨h1,h2⟩)) (by omega),a_Q,if_pos h4]
  have hget:Hid (b_G s at_=(0,some (s.ws.getD i noP).2)):=by show _=_;unfold b_G;rw[hsome]
  have hg:=grownBy_putObj' W Wl.heap.size (.deferred none);have h6':Blk (W.putObj Wl.heap.size (.deferred none)) (w.heap.size+1) 187 #[.int .i64 0,rv]:=h6.grown hg fun e=>by injection e;omega
  have r0:=h6'.cell 0;have r1:=h6'.cell 1;simp at r0 r1;have hfin:=Hd (And.intro (h7.grown hg fun r e=>by cases e;omega).sd (h5.grown hg fun r e=>by cases e;omega))
  have hDf:=Hd hD;clear hg h5 h6 h6' h7 h3 hst hD;refine wpIn_wide.2 ?_;dsimp only;go_wp2_with fail;refine⟨by simp,.inl ⟨_,_,rfl,run_takeDeferred hDf.o,?_⟩⟩
  refine⟨.agg #[.int .i64 0,rv],by simp[results,results134,go_sem,r0,r1],?_⟩
  rw[hget.o];exact⟨⟨rv,rfl,hfin.o.1⟩,hfin.o.2⟩
end drive
namespace drive
set_option maxRecDepth 100000
open Go.ChangeShapes Go.WideShapes Go.ChangeAt kit each2 Go.Deep
abbrev KW(d g:Nat)(wv:Value):Nat->Prop:=fun k=>k=d\/k=g\/wv.ownBlock=some k
def DoP(P:Nat->Prop)(base d g n:Nat)(wv:Value)(st:DS×Int×Option (Nat->Nat))(w:World)(e:Ending)(w':World):Prop:=
 ∃rv g' pv' wv' dv',e=.returned (.agg #[.int .i64 st.2.1,rv])/\Dat w' rv st.2.2/\Dr P base d g' n st.1.pl st.1.br st.1.ws st.1.dead pv' wv' dv' w'/\Chg (KW d g wv) w w'
def DoN(st:DS×Int×Option (Nat->Nat))(w:World)(e:Ending)(w':World):Prop:=
 ∃rv,e=.returned (.agg #[.int .i64 st.2.1,rv])/\Dat w' rv st.2.2/\New w w'
structure JB(w0:World)(k a p:Int)(R:Option Addr)(l c:Nat)(W:World):Prop where
 nw:New w0 W
 jb:Blk W w0.heap.size 190 #[.int .i64 k,.int .i64 a,.int .i64 p,.slice R l c]
 rb:Blk W (w0.heap.size+1) 187 #[.int .i64 0,.slice none 0 0]
theorem JB.new{w0 W W':World}{k a p:Int}{R:Option Addr}{l c:Nat}(h:JB w0 k a p R l c W)(hn:New W W'):JB w0 k a p R l c W':=⟨h.nw.next hn,h.jb.new hn,h.rb.new hn⟩
theorem JB.start(w:World)(k a p:Int)(R:Option Addr)(l c:Nat):JB w k a p R l c ((w.alloc (.cells #[.int .i64 k,.int .i64 a,.int .i64 p,.slice R l c] 190)).alloc (.cells #[.int .i64 0,.slice none 0 0] 187)):=by
 refine⟨((New.refl w).alloc _).alloc _,(Blk.fresh w _ _).alloc _,?_⟩;have:=Blk.fresh (w.alloc (.cells #[.int .i64 k,.int .i64 a,.int .i64 p,.slice R l c] 190)) 187 #[.int .i64 0,.slice none 0 0];simpa using this
theorem c_3{w W:World}{B:Nat}{c0 c1:Value}(cd:Int)(v:Value)(hb:Blk W B 187 #[c0,c1])(hB:w.heap.size<=B){K:Nat->Prop}(hC:Chg K w W) :
  Chg K w ((W.setCell ⟨B,0,none⟩ (.int .i64 cd)).setCell ⟨B,1,none⟩ v)/\Blk ((W.setCell ⟨B,0,none⟩ (.int .i64 cd)).setCell ⟨B,1,none⟩ v) B 187 #[.int .i64 cd,v] /\
  (∀o u,Dat W u o->Dat ((W.setCell ⟨B,0,none⟩ (.int .i64 cd)).setCell ⟨B,1,none⟩ v) u o) /\
  ∀{P:Nat->Prop} {base d g n:Nat} {pl:Nat->Option (Nat->Nat)} {br:Nat->Bool} {ws:List (Nat×(Nat->Nat))} {dead:Bool} {pv:Nat->Value} {wv:Value} {dv:Nat->Value},Dr P base d g n pl br ws dead pv wv dv W->Dr P base d g n pl br ws dead pv wv dv ((W.setCell ⟨B,0,none⟩ (.int .i64 cd)).setCell ⟨B,1,none⟩ v):=by
 have g1:=k_ W B 0 (.int .i64 cd);have g2:=k_ (W.setCell ⟨B,0,none⟩ (.int .i64 cd)) B 1 v;have hgg:W.grownBy ((W.setCell ⟨B,0,none⟩ (.int .i64 cd)).setCell ⟨B,1,none⟩ v) (some B):=⟨g2.os.trans g1.os,g2.tape.trans g1.tape,g2.output.trans g1.output,Nat.le_trans g1.size g2.size,fun k hk hne=>(g2.block k (Nat.lt_of_lt_of_le hk g1.size) hne).trans (g1.block k hk hne)⟩;have hu:∀b f,m_ 5 .u8 W b 128 f->(some B:Option Nat)≠some b:=fun b f hr e=>m_.ne_blk hr hb (by decide) (Option.some.inj e)
 refine⟨(hC.set (.inr hB) _).set (.inr hB) _,(hb.put 0 (.int .i64 cd)).put 1 v,fun o u h=>h.grown hgg hu,fun {P base d g n pl br ws dead pv wv dv} h=>?_⟩;obtain⟨cs,hc⟩:=h.pt.blk;exact⟨h.bk.grown hgg fun e=>e_P hb h.bk (by decide) (Option.some.inj e),h.pt.grown hgg fun e=>e_P hb hc (by decide) (Option.some.inj e),fun i hi=>(h.pd i hi).grown hgg hu,h.wo.kept hgg (.inr (a_O h.wo hb (by decide))),fun i hi=>(h.wd i hi).grown hgg hu,h.wi,h.lo,h.ft⟩
theorem h_l{w W:World}{B:Nat}{c0 c1:Value}(cd:Int)(v:Value)(hb:Blk W B 187 #[c0,c1])(hB:w.heap.size<=B)(hC:New w W) :
  New w ((W.setCell ⟨B,0,none⟩ (.int .i64 cd)).setCell ⟨B,1,none⟩ v)/\Blk ((W.setCell ⟨B,0,none⟩ (.int .i64 cd)).setCell ⟨B,1,none⟩ v) B 187 #[.int .i64 cd,v] /\
  (∀o u,Dat W u o->Dat ((W.setCell ⟨B,0,none⟩ (.int .i64 cd)).setCell ⟨B,1,none⟩ v) u o)/\True:=by
 obtain⟨_,h2,h3,_⟩:=c_3 (w:=w) cd v hb hB (Chg.of_new (K:=fun _=>False) hC);exact⟨(hC.set hB _).set hB _,h2,h3,trivial⟩
set_option maxHeartbeats 2000000 in
theorem e_j(P:Nat->Prop)(base d g n m:Nat)(s:DS)(pv:Nat->Value)(wv:Value)(dv:Nat->Value)(k a p:Int)(R:Option Addr)(l c:Nat)(D:Nat->Nat)(w:World)(h:Dr P base d g n s.pl s.br s.ws s.dead pv wv dv w)(hn:n<=512)(hm:s.ws.length=m)(hm3:m<300)
  (hJ:RdI .u8 w R l (fun i=>(D i:Nat))) (hlc:l<=c) (hcm:c<=maxLen) (hb:base<=w.heap.size) (hf:v_ n s.dead k a l≠0) :
  Calls prog 88 #[.pointer (some ⟨d,0,none⟩),l_5 k a p R l c] w (DoN (a_5 n s k a p l D) w):=by
 have hl63:l<=maxLen:=Nat.le_trans hlc hcm;have hB0:=Hd (JB.start w k a p R l c);have hD0:=h.new hB0.o.nw;have hfa:=Hd (b_r d g n wv s.dead k a p R l c _ hD0.bk hn hl63);obtain⟨cd,hcd⟩:∃cd,Hid (cd=v_ n s.dead k a l):=⟨_,rfl⟩;rw[<-hcd.o]at hfa hf;obtain⟨st,hst⟩:∃st,Hid (st=a_5 n s k a p l D):=⟨_,rfl⟩;rw[<-hst.o];have hD0H:=Hd hD0;have hmH:=Hd hm;have hJH:=Hd hJ;have hwH:=Hd h;have hdl:=h.bk.lt;clear hD0 h hm hJ;have hse:Hid (st=(s,cd,none)):=by
  show _=_;rw[hst.o,hcd.o];unfold a_5;rw[if_pos (by rw[<-hcd.o];exact hf)]
 have hcn:(cd != 0)=true:=by simpa using hf
 clear hf;go_enter func88,ntmps88;go_wp2_with fail;refine hfa.o.mono ?_;rintro e w1 ⟨rfl,hn1⟩;have hB1:=hB0.o.new hn1;have hD1:=Hd (hD0H.o.new hn1);have j0:=hB1.jb.cell 0;have j1:=hB1.jb.cell 1;have j3:=hB1.jb.cell 3;have r0:=hB1.rb.cell 0;have r1:=hB1.rb.cell 1;have r2:=hB1.rb.frozen 0;have r3:=hB1.rb.frozen 1;simp at j0 j1 j3 r0 r1;have hB1H:=Hd hB1;have hN1:=Hd hB1.nw;clear hn1 hB1 hfa hB0 hD0H;obtain⟨p1,p2,p3,p4⟩:=h_l cd (.slice none 0 0) hB1H.o.rb (Nat.le_succ _) hN1.o;have x0:=p2.cell 0;have x1:=p2.cell 1;simp at x0 x1;have p1H:=Hd p1;clear p1 p2 p3 p4;go_wp2_with fail;refine bodyPost_ret (v:=.agg #[.int .i64 cd,.slice none 0 0]) (by simp[results,results88,go_sem,x0,x1]) rfl ?_
 rw[hse.o];exact⟨_,rfl,rfl,p1H.o⟩
set_option maxHeartbeats 2000000 in
theorem s_r(P:Nat->Prop)(base d g n m:Nat)(s:DS)(pv:Nat->Value)(wv:Value)(dv:Nat->Value)(a p:Int)(R:Option Addr)(l c:Nat)(D:Nat->Nat)(w:World)(h:Dr P base d g n s.pl s.br s.ws s.dead pv wv dv w)(hn:n<=512)(hm:s.ws.length=m)(hm3:m<300)
  (hJ:RdI .u8 w R l (fun i=>(D i:Nat))) (hlc:l<=c) (hcm:c<=maxLen) (hb:base<=w.heap.size) (hf:v_ n s.dead 7 a l=0) :
  Calls prog 88 #[.pointer (some ⟨d,0,none⟩),l_5 7 a p R l c] w (DoP P base d g n wv (a_5 n s 7 a p l D) w):=by
 have hl63:l<=maxLen:=Nat.le_trans hlc hcm;have hB0:=Hd (JB.start w 7 a p R l c);have hD0:=h.new hB0.o.nw;have hfa:=Hd (b_r d g n wv s.dead 7 a p R l c _ hD0.bk hn hl63);obtain⟨cd,hcd⟩:∃cd,Hid (cd=v_ n s.dead 7 a l):=⟨_,rfl⟩;rw[<-hcd.o]at hfa hf;obtain⟨st,hst⟩:∃st,Hid (st=a_5 n s 7 a p l D):=⟨_,rfl⟩;rw[<-hst.o];have hD0H:=Hd hD0;have hmH:=Hd hm;have hJH:=Hd hJ;have hwH:=Hd h;have hdl:=h.bk.lt;clear hD0 h hm hJ;have hse:Hid (st=({s with dead:=true},0,none)):=by
  show _=_;rw[hst.o];unfold a_5;rw[if_neg (by rw[<-hcd.o,hf];simp),if_neg (by decide),if_neg (by decide),if_neg (by decide),if_neg (by decide),if_neg (by decide),if_neg (by decide),if_pos rfl]
  all_goals rfl
 subst hf;go_enter func88,ntmps88;go_wp2_with fail;refine hfa.o.mono ?_;rintro e w1 ⟨rfl,hn1⟩;have hB1:=hB0.o.new hn1;have hD1:=Hd (hD0H.o.new hn1);have j0:=hB1.jb.cell 0;have j1:=hB1.jb.cell 1;have j3:=hB1.jb.cell 3;have r0:=hB1.rb.cell 0;have r1:=hB1.rb.cell 1;have r2:=hB1.rb.frozen 0;have r3:=hB1.rb.frozen 1;simp at j0 j1 j3 r0 r1;have hB1H:=Hd hB1;have hN1:=Hd hB1.nw;clear hn1 hB1 hfa hB0 hD0H;have hDd:=hD1.o.dies;obtain⟨_,gd,_,_⟩:=hD1.o.setD (k:=2) (u:=.bool true);have hC2:Chg (KW d g wv) w (w1.setCell ⟨d,2,none⟩ (.bool true)):=Chg.set (K:=KW d g wv) (Chg.of_new hN1.o) (.inl (.inl rfl)) _;have hne:d≠w.heap.size+1:=by omega
 have hrb:=hB1H.o.rb.grown gd (fun e=>hne (Option.some.inj e));obtain⟨p1,p2,p3,p4⟩:=c_3 0 (.slice none 0 0) hrb (Nat.le_succ _) hC2;have x0:=p2.cell 0;have x1:=p2.cell 1;simp at x0 x1;have p1H:=Hd p1;have p4H:=Hd (p4 hDd);have y0:=hrb.cell 0;have y1:=hrb.cell 1;have y2:=hrb.frozen 0;have y3:=hrb.frozen 1;simp at y0 y1;have d2:=hD1.o.bk.cell 2;have d3:=hD1.o.bk.frozen 2;simp at d2;clear p1 p2 p3 p4 hDd hrb gd;go_wp2_with fail;refine bodyPost_ret (v:=.agg #[.int .i64 0,.slice none 0 0]) (by simp[results,results88,go_sem,x0,x1]) rfl ?_
 rw[hse.o];exact⟨_,g,pv,wv,dv,rfl,rfl,p4H.o,p1H.o⟩
theorem Blk.chg{K:Nat->Prop}{w w':World}{b:Nat}{t:TypeId}{cs:Array Value}(h:Blk w b t cs)(hC:Chg K w w')(hb:¬K b):Blk w' b t cs:=(hC.same b h.lt hb).trans h
set_option maxHeartbeats 2000000 in
theorem q_S(P:Nat->Prop)(base d g n m:Nat)(s:DS)(pv:Nat->Value)(wv:Value)(dv:Nat->Value)(a p:Int)(R:Option Addr)(l c:Nat)(D:Nat->Nat)(w:World)(h:Dr P base d g n s.pl s.br s.ws s.dead pv wv dv w)(hn:n<=512)(hm:s.ws.length=m)(hm3:m<300)
  (hJ:RdI .u8 w R l (fun i=>(D i:Nat))) (hlc:l<=c) (hcm:c<=maxLen) (hb:base<=w.heap.size) (hf:v_ n s.dead 3 a l=0) :
  Calls prog 88 #[.pointer (some ⟨d,0,none⟩),l_5 3 a p R l c] w (DoP P base d g n wv (a_5 n s 3 a p l D) w):=by
 have hl63:l<=maxLen:=Nat.le_trans hlc hcm;have hB0:=Hd (JB.start w 3 a p R l c);have hD0:=h.new hB0.o.nw;have hfa:=Hd (b_r d g n wv s.dead 3 a p R l c _ hD0.bk hn hl63);obtain⟨cd,hcd⟩:∃cd,Hid (cd=v_ n s.dead 3 a l):=⟨_,rfl⟩;rw[<-hcd.o]at hfa hf;obtain⟨st,hst⟩:∃st,Hid (st=a_5 n s 3 a p l D):=⟨_,rfl⟩;rw[<-hst.o];have hD0H:=Hd hD0;have hmH:=Hd hm;have hJH:=Hd hJ;have hwH:=Hd h;have hdl:=h.bk.lt;clear hD0 h hm hJ;have hse:Hid (st=(a_d (fun _=>true) s,0,none)):=by
  show _=_;rw[hst.o];unfold a_5;rw[if_neg (by rw[<-hcd.o,hf];simp),if_neg (by decide),if_neg (by decide),if_pos rfl]
  all_goals rfl
 subst hf;go_enter func88,ntmps88;go_wp2_with fail;refine hfa.o.mono ?_;rintro e w1 ⟨rfl,hn1⟩;have hB1:=hB0.o.new hn1;have hD1:=Hd (hD0H.o.new hn1);have j0:=hB1.jb.cell 0;have j1:=hB1.jb.cell 1;have j3:=hB1.jb.cell 3;have r0:=hB1.rb.cell 0;have r1:=hB1.rb.cell 1;have r2:=hB1.rb.frozen 0;have r3:=hB1.rb.frozen 1;simp at j0 j1 j3 r0 r1;have hB1H:=Hd hB1;have hN1:=Hd hB1.nw;clear hn1 hB1 hfa hB0 hD0H;have hgl:=hwH.o.pt.lt;go_wp2_with fail;refine(f_R 136 (enters_of func136 (by kernel_rfl) rfl) #[] (fun _=>true) P base d g n m s pv wv dv w1 hD1.o hn hmH.o (by omega) (fun i w2 hi hC=>all_any i w2)).mono ?_
 rintro e w2 ⟨⟨vv,rfl⟩,⟨pv',hDd⟩,hCs⟩;have hC2:Chg (KW d g wv) w w2:=(Chg.of_new (K:=KW d g wv) hN1.o).trans (hCs.weak fun k hk=>hk.imp id .inl);have hrb:=Blk.chg hB1H.o.rb hCs (fun hk=>by rcases hk with hk|hk<;>omega)
 obtain⟨p1,p2,p3,p4⟩:=c_3 0 (.slice none 0 0) hrb (Nat.le_succ _) hC2;have x0:=p2.cell 0;have x1:=p2.cell 1;simp at x0 x1;have p1H:=Hd p1;have p4H:=Hd (p4 hDd);have y0:=hrb.cell 0;have y1:=hrb.cell 1;have y2:=hrb.frozen 0;have y3:=hrb.frozen 1;simp at y0 y1;clear p1 p2 p3 p4 hDd hrb hCs;go_wp2_with fail;refine bodyPost_ret (v:=.agg #[.int .i64 0,.slice none 0 0]) (by simp[results,results88,go_sem,x0,x1]) rfl ?_
 rw[hse.o];have hset:(a_d (fun _=>true) s).ws=[]/\(a_d (fun _=>true) s).dead=s.dead:=⟨rfl,b_d _ _ _⟩;rw[<-hset.2]at p4H;exact⟨_,g,_,_,_,rfl,rfl,p4H.o,p1H.o⟩
set_option maxHeartbeats 2000000 in
theorem q_T(P:Nat->Prop)(base d g n m:Nat)(s:DS)(pv:Nat->Value)(wv:Value)(dv:Nat->Value)(a p:Int)(R:Option Addr)(l c:Nat)(D:Nat->Nat)(w:World)(h:Dr P base d g n s.pl s.br s.ws s.dead pv wv dv w)(hn:n<=512)(hm:s.ws.length=m)(hm3:m<300)
  (hJ:RdI .u8 w R l (fun i=>(D i:Nat))) (hlc:l<=c) (hcm:c<=maxLen) (hb:base<=w.heap.size) (hf:v_ n s.dead 4 a l=0) :
  Calls prog 88 #[.pointer (some ⟨d,0,none⟩),l_5 4 a p R l c] w (DoP P base d g n wv (a_5 n s 4 a p l D) w):=by
 have hl63:l<=maxLen:=Nat.le_trans hlc hcm;have hB0:=Hd (JB.start w 4 a p R l c);have hD0:=h.new hB0.o.nw;have hfa:=Hd (b_r d g n wv s.dead 4 a p R l c _ hD0.bk hn hl63);obtain⟨cd,hcd⟩:∃cd,Hid (cd=v_ n s.dead 4 a l):=⟨_,rfl⟩;rw[<-hcd.o]at hfa hf;obtain⟨st,hst⟩:∃st,Hid (st=a_5 n s 4 a p l D):=⟨_,rfl⟩;rw[<-hst.o];have hD0H:=Hd hD0;have hmH:=Hd hm;have hJH:=Hd hJ;have hwH:=Hd h;have hdl:=h.bk.lt;clear hD0 h hm hJ;have hse:Hid (st=(a_d (k_8 p) s,0,none)):=by
  show _=_;rw[hst.o];unfold a_5;rw[if_neg (by rw[<-hcd.o,hf];simp),if_neg (by decide),if_neg (by decide),if_neg (by decide),if_pos rfl]
  all_goals rfl
 subst hf;go_enter func88,ntmps88;go_wp2_with fail;refine hfa.o.mono ?_;rintro e w1 ⟨rfl,hn1⟩;have hB1:=hB0.o.new hn1;have hD1:=Hd (hD0H.o.new hn1);have j0:=hB1.jb.cell 0;have j1:=hB1.jb.cell 1;have j3:=hB1.jb.cell 3;have r0:=hB1.rb.cell 0;have r1:=hB1.rb.cell 1;have r2:=hB1.rb.frozen 0;have r3:=hB1.rb.frozen 1;simp at j0 j1 j3 r0 r1;have hB1H:=Hd hB1;have hN1:=Hd hB1.nw;clear hn1 hB1 hfa hB0 hD0H;have hgl:=hwH.o.pt.lt;go_wp2_with fail;refine(f_R 137 (enters_of func137 (by kernel_rfl) rfl) #[.pointer (some ⟨w.heap.size,0,none⟩)] (k_8 p) P base d g n m s pv wv dv w1 hD1.o hn hmH.o (by omega) (fun i w2 hi hC=>s_d i w.heap.size p w2 ((hC.cell (a:=⟨w.heap.size,2,none⟩) (by have:=hB1H.o.jb.cell 2;simpa using this) (fun hk=>by rcases hk with hk|hk<;>(simp at hk;omega)))) (by omega))).mono ?_
 rintro e w2 ⟨⟨vv,rfl⟩,⟨pv',hDd⟩,hCs⟩;have hC2:Chg (KW d g wv) w w2:=(Chg.of_new (K:=KW d g wv) hN1.o).trans (hCs.weak fun k hk=>hk.imp id .inl);have hrb:=Blk.chg hB1H.o.rb hCs (fun hk=>by rcases hk with hk|hk<;>omega)
 obtain⟨p1,p2,p3,p4⟩:=c_3 0 (.slice none 0 0) hrb (Nat.le_succ _) hC2;have x0:=p2.cell 0;have x1:=p2.cell 1;simp at x0 x1;have p1H:=Hd p1;have p4H:=Hd (p4 hDd);have y0:=hrb.cell 0;have y1:=hrb.cell 1;have y2:=hrb.frozen 0;have y3:=hrb.frozen 1;simp at y0 y1;clear p1 p2 p3 p4 hDd hrb hCs;go_wp2_with fail;refine bodyPost_ret (v:=.agg #[.int .i64 0,.slice none 0 0]) (by simp[results,results88,go_sem,x0,x1]) rfl ?_
 rw[hse.o];have hset:(a_d (k_8 p) s).ws=[]/\(a_d (k_8 p) s).dead=s.dead:=⟨rfl,b_d _ _ _⟩;rw[<-hset.2]at p4H;exact⟨_,g,_,_,_,rfl,rfl,p4H.o,p1H.o⟩
set_option maxHeartbeats 2000000 in
theorem t_J(P:Nat->Prop)(base d g n m:Nat)(s:DS)(pv:Nat->Value)(wv:Value)(dv:Nat->Value)(at_:Nat)(p:Int)(R:Option Addr)(l c:Nat)(D:Nat->Nat)(w:World)(h:Dr P base d g n s.pl s.br s.ws s.dead pv wv dv w)(hn:n<=512)(hm:s.ws.length=m)(hm3:m<300)
  (hJ:RdI .u8 w R l (fun i=>(D i:Nat))) (hlc:l<=c) (hcm:c<=maxLen) (hb:base<=w.heap.size) (hat:at_<n) (hf:v_ n s.dead 2 at_ l=0) :
  Calls prog 88 #[.pointer (some ⟨d,0,none⟩),l_5 2 at_ p R l c] w (DoN (a_5 n s 2 at_ p l D) w):=by
 have hl63:l<=maxLen:=Nat.le_trans hlc hcm;have hB0:=Hd (JB.start w 2 at_ p R l c);have hD0:=h.new hB0.o.nw;have hfa:=Hd (b_r d g n wv s.dead 2 at_ p R l c _ hD0.bk hn hl63);obtain⟨cd,hcd⟩:∃cd,Hid (cd=v_ n s.dead 2 at_ l):=⟨_,rfl⟩;rw[<-hcd.o]at hfa hf;obtain⟨st,hst⟩:∃st,Hid (st=a_5 n s 2 at_ p l D):=⟨_,rfl⟩;rw[<-hst.o];have hD0H:=Hd hD0;have hmH:=Hd hm;have hJH:=Hd hJ;have hwH:=Hd h;have hdl:=h.bk.lt;clear hD0 h hm hJ;have hse:Hid (st=(s,b_G s at_)):=by
  show _=_;rw[hst.o];unfold a_5;rw[if_neg (by rw[<-hcd.o,hf];simp),if_neg (by decide),if_pos rfl]
  all_goals rfl
 subst hf;go_enter func88,ntmps88;go_wp2_with fail;refine hfa.o.mono ?_;rintro e w1 ⟨rfl,hn1⟩;have hB1:=hB0.o.new hn1;have hD1:=Hd (hD0H.o.new hn1);have j0:=hB1.jb.cell 0;have j1:=hB1.jb.cell 1;have j3:=hB1.jb.cell 3;have r0:=hB1.rb.cell 0;have r1:=hB1.rb.cell 1;have r2:=hB1.rb.frozen 0;have r3:=hB1.rb.frozen 1;simp at j0 j1 j3 r0 r1;have hB1H:=Hd hB1;have hN1:=Hd hB1.nw;clear hn1 hB1 hfa hB0 hD0H;have hgt:=Hd (r_N P base d g n m at_ s pv wv dv w1 hD1.o hat hn hmH.o (by omega))
 obtain⟨rr,hrr⟩:∃rr,Hid (rr=b_G s at_):=⟨_,rfl⟩;rw[<-hrr.o]at hgt hse;obtain⟨rc,ro⟩:=rr;go_wp2_with fail;refine hgt.o.mono ?_;rintro e w2 ⟨⟨rv,rfl,hdat⟩,hn2⟩;have hC2:New w w2:=hN1.o.next hn2;have hrb:=hB1H.o.rb.new hn2;have hrv:rv=.slice none 0 0\/∃b c,rv=.slice (some ⟨b,0,none⟩) 128 c:=by
  cases ro with
  |none=>exact .inl hdat
  |some F=>obtain⟨b,c,e,_⟩:=hdat;exact .inr ⟨b,c,e⟩
 obtain⟨p1,p2,p3,p4⟩:=h_l rc rv hrb (Nat.le_succ _) hC2;have x0:=p2.cell 0;have x1:=p2.cell 1;simp at x0 x1;have p1H:=Hd p1;have p3H:=Hd (p3 _ _ hdat);have y0:=hrb.cell 0;have y1:=hrb.cell 1;have y2:=hrb.frozen 0;have y3:=hrb.frozen 1;simp at y0 y1;clear p1 p2 p3 p4 hrb hdat;rcases hrv with rfl|⟨b,c,rfl⟩
 ·go_wp2_with fail
  refine bodyPost_ret (v:=.agg #[.int .i64 rc,.slice none 0 0]) (by simp[results,results88,go_sem,x0,x1]) rfl ?_
  rw[hse.o];exact⟨_,rfl,p3H.o,p1H.o⟩
 ·go_wp2_with fail
  refine bodyPost_ret (v:=.agg #[.int .i64 rc,.slice (some ⟨b,0,none⟩) 128 c]) (by simp[results,results88,go_sem,x0,x1]) rfl ?_
  rw[hse.o];exact⟨_,rfl,p3H.o,p1H.o⟩
end drive
namespace kit
open Go.Deep
structure Alt(K:Nat->Prop)(w w':World):Prop where
 os:w'.os=w.os
 tape:w'.tape=w.tape
 output:w'.output=w.output
 size:w.heap.size<=w'.heap.size
 same:∀k,k<w.heap.size->¬K k->w'.heap[k]?=w.heap[k]?
section
variable {K:Nat->Prop}{w w' w'':World}
theorem Alt.refl(w:World):Alt K w w:=⟨rfl,rfl,rfl,Nat.le_refl _,fun _ _ _=>rfl⟩
theorem Alt.trans(h:Alt K w w')(k:Alt K w' w''):Alt K w w'':=
 ⟨k.os.trans h.os,k.tape.trans h.tape,k.output.trans h.output,Nat.le_trans h.size k.size,fun i hi hK=>(k.same i (Nat.lt_of_lt_of_le hi h.size) hK).trans (h.same i hi hK)⟩
theorem Alt.trans'{K':Nat->Prop}(h:Alt K w w')(k:Alt K' w' w'')(hK:∀i,K' i->K i\/w.heap.size<=i):Alt K w w'':=
 ⟨k.os.trans h.os,k.tape.trans h.tape,k.output.trans h.output,Nat.le_trans h.size k.size,fun i hi hn=>(k.same i (Nat.lt_of_lt_of_le hi h.size) fun hk=>by rcases hK i hk with h1|h1;exact hn h1;omega).trans (h.same i hi hn)⟩
theorem Alt.of_new(h:New w w'):Alt K w w':=⟨h.os,h.tape,h.output,h.size,fun i hi _=>h.block i hi⟩
theorem Alt.next(h:Alt K w w')(k:New w' w''):Alt K w w'':=h.trans (Alt.of_new k)
theorem Alt.alloc(h:Alt K w w')(o:Obj):Alt K w (w'.alloc o):=h.next ((New.refl w').alloc o)
theorem Alt.drew(h:Alt K w w'):Alt K w w'.drew:=⟨h.os,h.tape,h.output,h.size,h.same⟩
theorem Alt.grown{row:Option Nat}(h:Alt K w w')(hg:w'.grownBy w'' row)(hr:∀r,row=some r->K r\/w.heap.size<=r):Alt K w w'':=
 ⟨hg.os.trans h.os,hg.tape.trans h.tape,hg.output.trans h.output,Nat.le_trans h.size hg.size,fun i hi hK=>(hg.block i (Nat.lt_of_lt_of_le hi h.size) fun e=>by rcases hr i e.symm with h1|h1;exact hK h1;omega).trans (h.same i hi hK)⟩
theorem Alt.set(h:Alt K w w'){b k:Nat}(hb:K b\/w.heap.size<=b)(u:Value):Alt K w (w'.setCell ⟨b,k,none⟩ u):=h.grown (k_ w' b k u) fun r e=>by cases e;exact hb
theorem n_T(w:World)(g:Nat)(cs:Array Value):w.grownBy (w.setRow g cs) (some g):=
 ⟨rfl,rfl,rfl,by simp,fun k _ hk=>setRow_other w g k cs fun e=>hk (by rw[e])⟩
theorem Alt.row(h:Alt K w w'){b:Nat}(hb:K b\/w.heap.size<=b)(cs:Array Value):Alt K w (w'.setRow b cs):=h.grown (n_T w' b cs) fun r e=>by cases e;exact hb
theorem Alt.cell(h:Alt K w w'){a:Addr}{v:Value}(hc:w.cell? a=some v)(hK:¬K a.block):w'.cell? a=some v:=by
 rw[<-hc];simp only[World.cell?,h.same _ (a_ hc) hK]
theorem Alt.below{base:Nat}(h:Alt K w w')(hb:base<=w.heap.size)(hK:∀k,K k->base<=k):Below base w w':=⟨h.os,h.tape,h.output,h.size,fun k hk=>h.same k (by omega) fun hh=>by have:=hK k hh;omega⟩
theorem Alt.weak{K':Nat->Prop}(h:Alt K w w')(hK:∀k,K k->K' k):Alt K' w w':=⟨h.os,h.tape,h.output,h.size,fun i hi hh=>h.same i hi fun x=>hh (hK i x)⟩
theorem Alt.blk(h:Alt K w w'){g:Nat}{t:TypeId}{cs:Array Value}(hb:Blk w g t cs)(hK:¬K g):Blk w' g t cs:=(h.same g hb.lt hK).trans hb
theorem Alt.row_is(h:Alt K w w'){g:Nat}{t:TypeId}{n:Nat}{f:Nat->Value}(hb:w.rowIs g t n f)(hK:¬K g):w'.rowIs g t n f:=hb.of_block (h.same g hb.lt hK)
theorem Alt.own(h:Alt K w w'){b e s n:Nat}{v:Value}{xs:List Value}(ho:w.ownsRow b e s v n xs)(hK:∀g,v.ownBlock=some g->¬K g):w'.ownsRow b e s v n xs:=by
 refine⟨ho.1,?_⟩;rcases ho.2 with h0|⟨g,cap,cur,rfl,hb,hg,hr⟩
 ·exact .inl h0
 ·exact .inr ⟨g,cap,cur,rfl,hb,(h.same g (Array.getElem?_eq_some_iff.1 hg).1 (hK g rfl)).trans hg,hr⟩
end
theorem e_{w:World}{a b:Nat}{t u:TypeId}{cs ds:Array Value}(h:Blk w a t cs)(h':Blk w b u ds)(hne:t≠u):a≠b:=fun e=>by
 subst e;unfold Blk at h h';rw[h]at h';injection h' with h';injection h' with _ h' _;exact hne h'
theorem b_{w:World}{base s n bb:Nat}{e t:TypeId}{v:Value}{xs:List Value}{cs:Array Value}(h:w.ownsRow base e s v n xs)(hb:Blk w bb t cs)(hne:e≠t):v.ownBlock≠some bb:=by
 intro he;rcases h.2 with⟨h0,_⟩|⟨g',cap,cur,h0,_,hg0,_⟩
 ·rw[h0]at he;cases he
 ·rw[h0]at he
  have:g'=bb:=by simpa [Value.ownBlock]using he
  subst this;exact e_ (t:=e) hg0 hb hne rfl
theorem O_{w:World}{g:Nat}{t:TypeId}{n:Nat}{f:Nat->Value}(h:w.rowIs g t n f):∃cs,Blk w g t cs/\cs.size=n/\∀i,i<n->cs[i]?=some (f i):=by
 obtain⟨cs,h1,h2,h3⟩:=h;exact⟨cs,h1,h2,h3⟩
end kit
end Go.Proofs.YtojcoaekhiadcaaGreat
