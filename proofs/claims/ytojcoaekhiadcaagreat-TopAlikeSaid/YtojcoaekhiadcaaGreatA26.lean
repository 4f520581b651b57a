import Derived.Test.YtojcoaekhiadcaaGreatA01
import Derived.Test.YtojcoaekhiadcaaGreatA14
import Derived.Test.YtojcoaekhiadcaaGreatA22
import Derived.Test.YtojcoaekhiadcaaGreatA20
import Derived.Test.YtojcoaekhiadcaaGreatA21
import Derived.Test.YtojcoaekhiadcaaGreatA10
import Derived.Test.YtojcoaekhiadcaaGreatA12
set_option linter.unusedVariables false
set_option linter.unusedSimpArgs false
namespace Go.Proofs.YtojcoaekhiadcaaGreat
open Tryz Go.RowKit
namespace vault
set_option maxRecDepth 100000
open Go.ChangeShapes Go.WideShapes Go.ChangeAt kit pool Go.Deep Go.Maps
theorem e_n(o:Nat->Nat){w w':World}(h:w.heap.size<=w'.heap.size):tag2 (tag2 o w) w'=tag2 o w:=by
 funext b;show(if b<w'.heap.size then(if b<w.heap.size then o b else 2)else 2)=if b<w.heap.size then o b else 2
 by_cases h1:b<w'.heap.size
 ·rw[if_pos h1]
 ·rw[if_neg h1,if_neg (by omega)]
theorem q_P(vb eb:Nat)(o:Nat->Nat)(w:World)(h:Blk w eb 100 #[ptr vb,.int .i64 0,.slice none 0 0])(he:o eb=2) :
  Calls prog 36 #[ptr eb] w fun e w'=>e=.returned (ptr (w.heap.size+2))/\PlM vb (w.heap.size+2) w.heap.size (w.heap.size+1) 0 (tag2 o w) ⟨[],[]⟩ w'/\New w w':=by
 have hmm := @run_makeMap prog;obtain⟨W3,hW3⟩:∃W3,W3=((w.alloc (.map #[] 0)).alloc (.map #[] 0)).alloc (.cells #[.map (some w.heap.size),.map (some (w.heap.size+1)),ptr eb] 153):=⟨_,rfl⟩;have hN:Hid (New w W3):=by show New w W3;rw[hW3];exact(((New.refl w).alloc _).alloc _).alloc _
 have ht:∀k,tag2 o w (w.heap.size+k)=2:=fun k=>if_neg (by omega)
 have hS:Hid (PlM vb (w.heap.size+2) w.heap.size (w.heap.size+1) 0 (tag2 o w) ⟨[],[]⟩ W3):=by
  have h3:=Blk.fresh ((w.alloc (.map #[] 0)).alloc (.map #[] 0)) 153 #[.map (some w.heap.size),.map (some (w.heap.size+1)),ptr eb];rw[<-hW3]at h3;have h1:MP (ObV vb (tag2 o w) W3) W3 w.heap.size 0 []:=by
   rw[hW3];exact(MP.made (rd:=fun _ _=>False) w).new (((New.refl _).alloc _).alloc _) fun k y h=>by cases h
  have h2:MP (SnV vb w.heap.size (w.heap.size+1) 0 (tag2 o w) W3) W3 (w.heap.size+1) 0 []:=by
   have h2:=(MP.made (rd:=fun _ _=>False) (α:=GT) (w.alloc (.map #[] 0))).new (rd':=SnV vb w.heap.size (w.heap.size+1) 0 (tag2 o w) W3) ((New.refl _).alloc (.cells #[.map (some w.heap.size),.map (some (w.heap.size+1)),ptr eb] 153)) fun k y h=>by cases h
   rw[<-hW3]at h2;simpa using h2
  exact⟨⟨eb,by simpa using h3,(show(if eb<w.heap.size then o eb else 2)=2 by rw[if_pos h.lt];exact he),h.new hN.o⟩,h1,h2,ht 2,ht 0,ht 1,by omega⟩
 clear h;go_enter func36,ntmps36;go_wp2_with fail;rw[<-hW3];clear hW3;exact bodyPost_ret (v:=ptr (w.heap.size+2)) (by simp[results,results36,go_sem]) rfl ⟨rfl,hS.o,hN.o⟩
theorem h_L(vb:Nat)(o:Nat->Nat)(w:World) :
  Calls prog 20 #[ptr vb] w fun e w'=>∃st xb yb,e=.returned (ptr st)/\PlM vb st xb yb 0 (tag2 o w) ⟨[],[]⟩ w'/\New w w'/\w.heap.size<=st:=by
 obtain⟨W1,hW1⟩:∃W1,W1=w.alloc (.cells #[ptr vb,.int .i64 0,.slice none 0 0] 100):=⟨_,rfl⟩;have hb:Blk W1 w.heap.size 100 #[ptr vb,.int .i64 0,.slice none 0 0]:=by rw[hW1];exact Blk.fresh w _ _
 have hn:New w W1:=by rw[hW1];exact(New.refl w).alloc _
 have hp:=q_P vb w.heap.size (tag2 o w) W1 hb (if_neg (by omega))
 rw[e_n o hn.size]at hp;have hpH:=Hd hp;have hnH:=Hd hn;clear hb hn hp;go_enter func20,ntmps20;go_wp2_with fail;rw[<-hW1];clear hW1;refine hpH.o.mono ?_;rintro e w2 ⟨rfl,hq,hn2⟩;have hqH:=Hd hq;have hn2:=Hd (And.intro (hnH.o.next hn2) (Nat.le_trans hnH.o.size (Nat.le_add_right W1.heap.size 2)));clear hq;go_wp2;go_ret;exact⟨_,_,_,rfl,hqH.o,hn2.o.1,hn2.o.2⟩
end vault
namespace vault
open kit drive geom stripe par
theorem r_C{X:Nat->Nat}(hX:∀k,X k<256)(len pa ct wd c k:Nat):c_W X len pa ct wd c k<256:=by
 unfold c_W;split
 ·exact b_S _ _ _ _
 ·unfold a_9
  split
  ·exact hX _
  ·omega
theorem s_4{A:VA}(hA:VOk A){ct:Nat}(hct:1<=ct)(c:Nat):a_a A ct c<=ct:=by
 have hw:1<=wdA A:=by have:=hA.pn;show 1<=A.n-A.p;omega
 refine Nat.le_trans (stripe.d_5 hw hct hA.p1 c) ?_;unfold G_;have h1:=Nat.div_le_self ct (wdA A);have h2:=Nat.div_add_mod ct (wdA A)
 by_cases h:0<ct%wdA A
 ·have h4:ct/wdA A<=wdA A*(ct/wdA A):=Nat.le_mul_of_pos_left _ hw
  split<;>omega
 ·have:a_P A.p ct (wdA A)=0:=by unfold a_P;rw[if_neg h]
  rw[this,if_neg (Nat.not_lt_zero 0)];omega
def B8(s:VS):Prop:=∀i j F,rdS (s.ds i) j=some F->∀k,F k<256
theorem s_X{s:VS}(h:B8 s)(d a:Nat){D:Nat->Nat}(hD:∀k,D k<256):B8 (s.at d (a_E (s.ds d) a D)):=fun i j F hF=>by
 have hF:rdS (if i=d then a_E (s.ds d) a D else s.ds i) j=some F:=hF
 by_cases e:i=d
 ·rw[if_pos e,e_s]at hF
  split at hF
  ·cases hF
  ·split at hF
   ·cases hF
    exact hD
   ·exact h d j F hF
 ·rw[if_neg e]at hF
  exact h i j F hF
theorem m_w{A:VA}{q:Ptr}{X:Nat->Nat}(hX:∀k,X k<256){s:VS}(h:B8 s)(c:Nat):∀k,B8 (b_B A q X s c k)
 |0=>h
 |k+1=>s_X (m_w hX h c k) _ _ fun i=>r_C hX _ _ _ _ _ _
theorem i_r{A:VA}{q:Ptr}{X:Nat->Nat}(hX:∀k,X k<256)(wb:Nat->Bool){s:VS}(h:B8 s):∀c,B8 (Z_ A q X wb s c)
 |0=>h
 |c+1=>by
  unfold Z_;split
  ·exact m_w hX (i_r hX wb h c) c _
  ·exact i_r hX wb h c
theorem m_u{A:VA}(q:Ptr)(X:Nat->Nat)(s:VS)(c i:Nat)(hd:(s.ds i).dead=true):∀k,(b_B A q X s c k).ds i=s.ds i
 |0=>rfl
 |k+1=>by
  have ih:=m_u (A:=A) q X s c i hd k;show(if i=(q.ad+c)%A.n then a_E _ _ _ else(b_B A q X s c k).ds i)=_;split
  ·rename_i e
   rw[<-e,ih];unfold a_E;rw[if_pos hd]
  ·exact ih
theorem m_x{A:VA}(q:Ptr)(X:Nat->Nat)(wb:Nat->Bool)(s:VS)(i:Nat)(hd:(s.ds i).dead=true):∀c,(Z_ A q X wb s c).ds i=s.ds i
 |0=>rfl
 |c+1=>by
  have ih:=m_x (A:=A) q X wb s i hd c;unfold Z_;split
  ·rw[m_u q X _ c i (by rw[ih];exact hd),ih]
  ·exact ih
structure Evo(A:VA)(L:List Bk)(m:Nat)(s s':VS):Prop where
 eq:s'={s with ds:=s'.ds}
 dead:∀i,(s'.ds i).dead=(s.ds i).dead
 ws:∀i,i<A.n->(s'.ds i).ws.length<=(s.ds i).ws.length+m
 rd:∀b,b∈L->a_3 A s s' (4*A.n+b.1*uA A) (4*A.n+(b.1+b.2)*uA A)
 lo:a_3 A s s' 0 (4*A.n)
 b8:B8 s->B8 s'
 wd:∀i,(s.ds i).dead=true->s'.ds i=s.ds i
theorem a_3.refl(A:VA)(s:VS)(lo hi:Nat):a_3 A s s lo hi:=fun _ _ _ _ _=>rfl
theorem a_3.trans{A:VA}{s s' s'':VS}{lo hi:Nat}(h:a_3 A s s' lo hi)(k:a_3 A s' s'' lo hi):a_3 A s s'' lo hi:=fun d j h1 h2 h3=>(k d j h1 h2 h3).trans (h d j h1 h2 h3)
theorem Evo.refl(A:VA)(L:List Bk)(s:VS):Evo A L 0 s s:=⟨rfl,fun _=>rfl,fun _ _=>Nat.le_refl _,fun _ _=>a_3.refl A s _ _,a_3.refl A s _ _,fun h=>h,fun _ _=>rfl⟩
theorem Evo.trans{A:VA}{L L':List Bk}{m m':Nat}{s s' s'':VS}(h:Evo A L m s s')(k:Evo A L' m' s' s'')(hL:∀b,b∈L->b∈L'):Evo A L (m+m') s s'':=by
 refine⟨?_,fun i=>(k.dead i).trans (h.dead i),fun i hi=>by have:=h.ws i hi;have:=k.ws i hi;omega,fun b hb=>(h.rd b hb).trans (k.rd b (hL b hb)),h.lo.trans k.lo,fun hb=>k.b8 (h.b8 hb),fun i hd=>(k.wd i ((h.dead i).trans hd)).trans (h.wd i hd)⟩
 rw[k.eq,h.eq]
theorem Evo.mono{A:VA}{L L':List Bk}{m m':Nat}{s s':VS}(h:Evo A L m s s')(hL:∀b,b∈L'->b∈L)(hm:m<=m'):Evo A L' m' s s':=⟨h.eq,h.dead,fun i hi=>by have:=h.ws i hi;omega,fun b hb=>h.rd b (hL b hb),h.lo,h.b8,h.wd⟩
theorem Evo.fresh{A:VA}{L:List Bk}{m:Nat}{s s':VS}(h:Evo A L m s s'):s'.fresh=s.fresh:=by rw[h.eq]
theorem o_V{L:List Bk}{c x:Nat}(hc:1<=c)(hr:c_z L c x){b:Bk}(hb:b∈L)(h0:0<b.2):b.1+b.2<=x\/x+c<=b.1:=by
 rcases Nat.lt_or_ge b.1 (x+c)with h1|h1
 ·rcases Nat.lt_or_ge x (b.1+b.2)with h2|h2
  ·exfalso
   refine hr (max b.1 x-x) (by omega) ⟨b,hb,?_⟩
   unfold inB;omega
  ·exact .inl h2
 ·exact .inr h1
theorem Evo.lay{A:VA}(hA:VOk A){L:List Bk}{s:VS}{X:Nat->Nat}{len x:Nat}(hX:∀k,X k<256)(h1:1<=len)(h2:len<=4096)(hr:c_z L (cU A ((len+127)/128)) x)(hL:∀b,b∈L->0<b.2) :
  Evo A L ((len+127)/128) s (Z_ A (a_r A s X len x) X (fun _=>true) s (L_ A ((len+127)/128))):=by
 have hct:1<=(len+127)/128:=by omega
 have hcp:=i_K hA hct;have htot:=i_J hA ((len+127)/128);refine⟨f_w _ _ _ _ _,fun i=>c_c _ _ _ _ _ _,fun i hi=>?_,fun b hb=>?_,?_,fun h=>i_r hX _ h _,fun i hd=>m_x _ _ _ _ i hd _⟩
 ·obtain⟨_,hn2,_⟩:=c_P hA hct
  refine j_y _ X _ s i (fun c=>?_) _ hn2;show a_a A ((len+127)/128) c<=(len+127)/128;exact s_4 hA hct c
 ·refine h_v hA _ X _ s hct ?_
  have h3:∀{m n:Nat},m<=n->m*uA A<=n*uA A:=fun h=>Nat.mul_le_mul_right (uA A) h;show 4*A.n+(b.1+b.2)*uA A<=4*A.n+x*uA A\/4*A.n+x*uA A+b_X A ((len+127)/128)<=4*A.n+b.1*uA A;rcases o_V hcp hr hb (hL b hb)with h|h
  ·exact .inl (by have:=h3 h;omega)
  ·refine .inr ?_
   have:=h3 h;rw[Nat.add_mul]at this;omega
 ·refine h_v hA _ X _ s hct (.inl ?_)
  show 4*A.n<=4*A.n+x*uA A;omega
theorem a_3.mono{A:VA}{s s':VS}{lo hi lo' hi':Nat}(h:a_3 A s s' lo hi)(h1:lo<=lo')(h2:hi'<=hi):a_3 A s s' lo' hi':=fun d j hd hl hh=>h d j hd (by omega) (by omega)
theorem Evo.kept{A:VA}(hA:VOk A){L:List Bk}{m:Nat}{s s':VS}(h:Evo A L m s s'){bad:List Nat}{q:Ptr}{X:Nat->Nat}{b:Bk}(hq:PtU A q b)(hb:b∈L)(hk:b_F A s bad q X):b_F A s' bad q X:=
 hk.same hA hq.c1 ((h.rd b hb).mono (by rw[hq.ad];omega) (hq.tot hA)) h.fresh
end vault
namespace vault
set_option maxRecDepth 100000
open Go.ChangeShapes Go.WideShapes Go.ChangeAt kit pool Go.Deep Go.Maps
def obB(num:Nat->Nat)(p:Nm×OG):List Nat:=c_i p.1++(n_ (p.2.sz:Nat)++p.2.bl.flatMap fun b=>n_ (num b:Nat))
def objB(num:Nat->Nat)(l:GT):List Nat:=n_ (l.length:Nat)++l.flatMap (obB num)
theorem a_y.keep{base g:Nat}{v:Value}{l1 l2:List Nat}{w w':World}(hP:Pen base g v l1 w)(h:a_y base g v l2 w w'):(∀w0,New w0 w->w0.heap.size<=base->base<=g->New w0 w')/\(∀m L,PM w m L->PM w' m L)/\∀u ls,Ns w u ls->Ns w' u ls:=by
 obtain⟨v',h1,h2,h3⟩:=h;have hv:∀k,v.ownBlock=some k->base<=k:=fun k hk=>(hP.own.lt k hk).1;refine⟨fun w0 hn h0 hg=>⟨h3.os.trans hn.os,h3.tape.trans hn.tape,h3.output.trans hn.output,Nat.le_trans hn.size h3.size,fun k hk=>(h3.same k (Nat.lt_of_lt_of_le hk hn.size) fun e=>?_).trans (hn.block k hk)⟩,fun m L hm=>hm.alt h3 fun e=>?_,fun u ls hu=>hu.alt h3 fun gg cs hg e=>?_⟩
 ·rcases e with e|e
  ·omega
  ·have:=hv k e;omega
 ·rcases e with e|e
  ·exact hm.ne_blk hP.bk e
  ·exact hm.ne_own hP.own e
 ·rcases e with e|e
  ·exact e_ hg hP.bk (by decide) e
  ·exact b_ hP.own hg (by decide) e
theorem d_h{α:Type}(f:α->List Nat){l:List α}{i:Nat}{x:α}(h:l[i]?=some x):(l.take (i+1)).flatMap f=(l.take i).flatMap f++f x:=by
 rw[List.take_add_one,h,List.flatMap_append];simp
theorem i_B{α:Type}(f:α->List Nat)(l:List α)(i:Nat):((l.take i).flatMap f).length<=(l.flatMap f).length:=by
 have h1:l.flatMap f=(l.take i).flatMap f++(l.drop i).flatMap f:=by rw[<-List.flatMap_append,List.take_append_drop]
 rw[h1,List.length_append];omega
structure ObS(w0:World)(base g m:Nat)(L:PL)(v:Value)(l:List Nat)(w w':World):Prop where
 pn:a_y base g v l w w'
 nw:New w0 w'
 pm:PM w' m L
 st:∀u ls,Ns w u ls->Ns w' u ls
theorem ObS.next{w0 w w' w'':World}{base g m:Nat}{L:PL}{v v1:Value}{l l':List Nat}(h0:w0.heap.size<=base)(hg:base<=g)(h:ObS w0 base g m L v l w w')(hP:Pen base g v1 l w')(h2:∀k,v1.ownBlock=some k->v.ownBlock=some k\/w.heap.size<=k)(h3:Alt (fun k=>k=g\/v.ownBlock=some k) w w')(k:a_y base g v1 l' w' w''):ObS w0 base g m L v l' w w'':=by
 obtain⟨e1,e2,e3⟩:=k.keep hP;exact⟨a_y.step h2 h3 k,e1 w0 h.nw h0 hg,e2 m L h.pm,fun u ls hu=>e3 u ls (h.st u ls hu)⟩
theorem ObS.new{w0 w w' w'':World}{base g m:Nat}{L:PL}{v:Value}{l:List Nat}(h:ObS w0 base g m L v l w w')(hn:New w' w''):ObS w0 base g m L v l w w'':=
 ⟨h.pn.trans fun v1 h1=>a_y.alt h1 hn,h.nw.next hn,h.pm.alt (K:=fun _=>False) (Alt.of_new hn) fun f=>f,fun u ls hu=>(h.st u ls hu).new hn⟩
theorem ObS.call{w0 w w':World}{base g m:Nat}{L:PL}{v:Value}{l:List Nat}(h0:w0.heap.size<=base)(hg:base<=g)(hb:base<=w.heap.size)(h:ObS w0 base g m L v l w w'){f:Nat}{args:Array Value}(add:List Nat)(hc:∀v1,Pen base g v1 l w'->base<=w'.heap.size->Calls prog f args w' fun e w''=>e=.returned (.tuple #[])/\a_y base g v1 (l++add) w' w'') :
  Calls prog f args w' fun e w''=>e=.returned (.tuple #[])/\ObS w0 base g m L v (l++add) w w''/\∀u ls,Ns w' u ls->Ns w'' u ls:=by
 obtain⟨v1,h1,h2,h3⟩:=h.pn;refine(hc v1 h1 (Nat.le_trans hb h3.size)).mono ?_;rintro e w'' ⟨rfl,hp⟩;exact⟨rfl,h.next h0 hg h1 h2 h3 hp,(hp.keep h1).2.2⟩
set_option maxHeartbeats 4000000 in
theorem j_h(vb:Nat)(o:Nat->Nat)(c mb:Nat)(l:GT)(w0 w:World)(base g m:Nat)(L:PL)(v:Value)(acc:List Nat)(num:Nat->Nat)(hm:MP (ObV vb o w0) w0 mb c l)(hl:l.length<=100)(hnm:∀p,p∈l->p.1.length<=100)(hsz:∀p,p∈l->p.2.sz<=100000)
  (hbl:∀b,b∈gBl l->∃cs,Blk w0 b 115 cs) (hL:∀p,p∈L->∃cs,Blk w0 p.1 115 cs) (hn:∀b,b∈gBl l->a_n L b=some (.int .i64 (num b:Nat))/\num b<=100000)
  (hP:Pen base g v acc w) (hPM:PM w m L) (hw:New w0 w) (h0:w0.heap.size<=base) (hg:base<=g) (hb:base<=w.heap.size) (hlen:acc.length+(objB num l).length<=80000) :
  Calls prog 84 #[ptr g,.map (some mb),.map (some m)] w fun e w'=>e=.returned (.tuple #[])/\ObS w0 base g m L v (acc++objB num l) w w':=by
 have hmw:MP (ObV vb o w0) w mb c l:=hm.new hw fun _ _ _ _ h=>h;have hmH:=Hd hm;obtain⟨T,hT⟩:∃T,Hid (T=l.length):=⟨_,rfl⟩;have hT100:T<=100:=by rw[hT.o];exact hl
 have hS0:ObS w0 base g m L v acc w w:=⟨a_y.refl hP,hw,hPM,fun _ _ h=>h⟩;have hln:=hmw.len underlying150;rw[<-hT.o]at hln;have hll:Hid (acc.length+(8+(l.flatMap (obB num)).length)<=80000):=by
  unfold objB at hlen;rw[List.length_append,l_]at hlen;exact hlen
 have hc1:=Hd (hS0.call h0 hg hb (f:=82) (args:=#[ptr g,.int .i64 (T:Nat)]) (n_ (T:Nat)) fun v1 h1 hb1=>number_any base g v1 acc (T:Nat) w h1 (by have:=hll.o;omega) hb1 (by omega) (by omega))
 clear hmw hm hS0 hPM hP;go_enter func84,ntmps84;go_wp2_with fail;refine hc1.o.mono ?_;rintro e w1 ⟨rfl,hS1,_⟩;have hk:=Hd (p_M (some mb) w1);have hs:=Hd (j_5 mb c l w1 (hmH.o.new hS1.nw fun _ _ _ _ h=>h) (by omega))
 have hS1:=Hd hS1;clear hc1 hln;go_wp2_with fail;refine hk.o.mono ?_;rintro e w2 ⟨rfl,rfl⟩;go_wp2_with fail;refine hs.o.mono ?_;rintro e w3 ⟨vn,rfl,hN,hn2⟩;have hS3:=Hd (hS1.o.new (New.of_alloc hn2));obtain⟨N,cN,rfl,hc1,hc2,hc3,hc4⟩:=h_ hN;have hNs:=Hd hN;have hlm:(l.map (·.1)).length=T:=by rw[List.length_map,hT.o]
 rw[hlm]at hc1 hc3 hNs ⊢;have hst:Hid (ObS w0 base g m L v (acc++(n_ (T:Nat)++(l.take 0).flatMap (obB num))) w w3):=by
  have h:=hS3.o;show ObS _ _ _ _ _ _ _ _ _;simpa using h
 clear hk hs hn2 hN hc4 hlm hS1 hS3;go_wp2_with fail;go_loopw [18] (fun x wr=>∃i:Nat,x=.int .i64 i/\i<=T/\Hid (ObS w0 base g m L v (acc++(n_ (T:Nat)++(l.take i).flatMap (obB num))) w wr)/\Hid (∀u ls,Ns w3 u ls->Ns wr u ls)) (fun x _=>T-(intOf x).toNat);case atStart=>exact⟨0,rfl,by omega,hst,Hd fun _ _ h=>h⟩
 case round=>
  obtain⟨i,rfl,hi,hU,hNr⟩:=hrel;clear hst
  by_cases hlt:i<T
  ·have hiI:(i:Int)<(T:Int):=by omega
   have hi0:(0:Int)<=(i:Int):=by omega
   obtain⟨gn,rfl,_⟩:=hc3 (by omega)
   obtain⟨nm,og,hli⟩:∃nm og,l[i]?=some (nm,og):=⟨_,_,List.getElem?_eq_getElem (by rw[<-hT.o];exact hlt)⟩
   have ci:=World.ownsRow.cells (hNr.o _ _ hNs.o) rfl i (encStr nm) (by simp[hli])
   rw[i_,Nat.zero_add]at ci;have hmem:=List.mem_of_getElem? hli;have hnl:=hnm (nm,og) hmem;have hszo:=hsz (nm,og) hmem;dsimp only at hnl hszo;have htk:=Hd (d_h (obB num) hli);have hle:=i_B (obB num) l (i+1);rw[htk.o,List.length_append]at hle;have hob:(obB num (nm,og)).length=8+nm.length+(8+(og.bl.flatMap fun b=>n_ (num b:Nat)).length):=by
    unfold obB;rw[List.length_append,List.length_append,a_L,l_]
   have hl1:=hll.o;obtain⟨A0,hA0⟩:∃A0,Hid (A0=acc++(n_ (T:Nat)++(l.take i).flatMap (obB num))):=⟨_,rfl⟩;have hA0l:A0.length+(8+nm.length+(8+(og.bl.flatMap fun b=>n_ (num b:Nat)).length))<=80000:=by
    rw[hA0.o,List.length_append,List.length_append,l_];omega
   rw[<-hA0.o]at hU;have hcT:=Hd (hU.o.call h0 hg hb (f:=85) (args:=#[ptr g,encStr nm]) (c_i nm) fun v1 h1 hb1=>i_Y base g v1 A0 nm wr h1 (by omega) hb1)
   have hUH:=hU;clear hU hle hob hl1;go_wp2_with fail;refine hcT.o.mono ?_;rintro e w4 ⟨rfl,hS4,hst4⟩;have hlook:Hid (∀w',New w0 w'->∃v1,(Instr.lookup 150 (.map (some mb)) (encStr nm) false).run prog w'=.ok v1 w'/\ObV vb o w0 v1 og):=fun w' hn'=>m_s (hmH.o.new hn' (rd':=ObV vb o w0) fun _ _ _ _ h=>h) underlying150 (z:=.pointer none) (by rfl) (x:=nm) (by unfold maxLen;omega) (get_mem hmH.o.1 hmem)
   obtain⟨v4,hlk4,hob4⟩:=hlook.o w4 hS4.nw;obtain⟨ob4,bv4,rfl,_,hbo4,_⟩:=hob4;have z4:=(hbo4.new hS4.nw).cell 1;simp at z4;have hcN:=Hd (hS4.call h0 hg hb (f:=82) (args:=#[ptr g,.int .i64 (og.sz:Nat)]) (n_ (og.sz:Nat)) fun v1 h1 hb1=>number_any base g v1 _ (og.sz:Nat) w4 h1 (by rw[List.length_append,a_L];omega) hb1 (by omega) (by omega))
   have hst4:=Hd hst4;clear hS4 hcT hbo4;go_wp2_with fail;refine hcN.o.mono ?_;rintro e w5 ⟨rfl,hS5,hst5⟩;obtain⟨v5,hlk5,hob5⟩:=hlook.o w5 hS5.nw;obtain⟨ob5,bv5,rfl,_,hbo5,A1,c1,rfl,q1,q2,_,q4⟩:=hob5;have z5:=(hbo5.new hS5.nw).cell 2;simp at z5;have hsub:Hid (∀b,b∈og.bl->b∈gBl l):=fun b hb=>List.mem_flatMap.2 ⟨_,hmem,hb⟩;obtain⟨J,hJ⟩:∃J,Hid (J=og.bl.length):=⟨_,rfl⟩;obtain⟨bl,hbl'⟩:∃bl,Hid (bl=og.bl):=⟨_,rfl⟩;obtain⟨A1l,hA1⟩:∃A1l,Hid (A1l=A0++c_i nm++n_ (og.sz:Nat)):=⟨_,rfl⟩;have hA1len:A1l.length+(bl.flatMap fun b=>n_ (num b:Nat)).length<=80000:=by
    rw[hA1.o,List.length_append,List.length_append,a_L,l_,hbl'.o];omega
   rw[<-hA1.o]at hS5;rw[<-hJ.o]at z5 q1 q4;rw[<-hbl'.o]at q4 hsub;have q4:=Hd q4;have hst5':Hid (∀u ls,Ns w3 u ls->Ns w5 u ls):=fun u ls h=>hst5 u ls (hst4.o u ls (hNr.o u ls h));have hst:Hid (ObS w0 base g m L v (A1l++(bl.take 0).flatMap fun b=>n_ (num b:Nat)) w w5/\∀u ls,Ns w3 u ls->Ns w5 u ls):=by
    refine⟨?_,hst5'.o⟩;simpa using hS5
   have hJ2:J<=10000:=by
    have:∀k:List Nat,k.length<=(k.flatMap fun b=>n_ (num b:Nat)).length:=fun k=>by
     induction k with
     |nil=>exact Nat.le_refl _
     |cons a k ih=>rw[List.flatMap_cons,List.length_append,l_,List.length_cons];omega
    have h8:∀k:List Nat,(k.flatMap fun b=>n_ (num b:Nat)).length=8*k.length:=fun k=>by
     induction k with
     |nil=>rfl
     |cons a k ih=>rw[List.flatMap_cons,List.length_append,ih,l_,List.length_cons];omega
    rw[h8,hbl'.o,<-hJ.o]at hA1len;omega
   obtain⟨wo,rfl⟩:∃wo,wo=wr:=⟨_,rfl⟩;clear hcN hst5 hst5' hbo5 hS5 hlk4 z4 hA0l;go_wp2_with fail;go_loopw [40] (fun x wr=>∃j:Nat,x=.int .i64 j/\j<=J/\Hid (ObS w0 base g m L v (A1l++(bl.take j).flatMap fun b=>n_ (num b:Nat)) w wr/\∀u ls,Ns w3 u ls->Ns wr u ls)) (fun x _=>J-(intOf x).toNat);case atStart=>exact⟨0,rfl,by omega,hst⟩
   case round=>
    obtain⟨j,rfl,hj,hS⟩:=hrel;clear hst
    by_cases hlj:j<J
    ·have hjI:(j:Int)<(J:Int):=by omega
     have hj0:(0:Int)<=(j:Int):=by omega
     obtain⟨g2,off,cs,rfl,_,hrow,hcs⟩:=q4.o (by omega)
     obtain⟨b,hb'⟩:∃b,bl[j]?=some b:=⟨_,List.getElem?_eq_getElem (by rw[hbl'.o,<-hJ.o];exact hlj)⟩
     have hbm:=hsub.o b (List.mem_of_getElem? hb');obtain⟨cb,hbk⟩:=hbl b hbm;obtain⟨hn1,hn2⟩:=hn b hbm;have cj:=(hrow.new hS.o.1.nw).cell (off+j);rw[hcs j b hb']at cj;have hlk:=i_n hS.o.1.pm (hbk.new hS.o.1.nw) (fun p hp=>by obtain⟨cs',h⟩:=hL p hp;exact⟨_,cs',h.new hS.o.1.nw⟩)
     rw[hn1,Option.getD_some]at hlk;have hle2:=i_B (fun b=>n_ (num b:Nat)) bl j;have htk2:=Hd (d_h (fun b=>n_ (num b:Nat)) hb');have hcM:=Hd (hS.o.1.call h0 hg hb (f:=82) (args:=#[ptr g,.int .i64 (num b:Nat)]) (n_ (num b:Nat)) fun v1 h1 hb1=>number_any base g v1 _ (num b:Nat) _ h1 (by rw[List.length_append];omega) hb1 (by omega) (by omega))
     rw[List.append_assoc,<-htk2.o]at hcM;have hSn:=Hd hS.o.2;clear hS hle2;go_wp2_with fail;refine hcM.o.mono ?_;rintro e w6 ⟨rfl,hS6,hst6⟩;have hfin:Hid (ObS w0 base g m L v (A1l++(bl.take (j+1)).flatMap fun b=>n_ (num b:Nat)) w w6/\∀u ls,Ns w3 u ls->Ns w6 u ls):=⟨hS6,fun u ls h=>hst6 u ls (hSn.o u ls h)⟩;clear hS6 hst6 hcM;go_wp2;go_roundw;case rel=>exact⟨j+1,by go_num,by omega,hfin⟩
     case measure=>simp[intOf];omega
    ·obtain rfl:j=J:=by omega
     have hjI:¬(j:Int)<(j:Int):=by omega
     have hfin:Hid (ObS w0 base g m L v (acc++(n_ (T:Nat)++(l.take (i+1)).flatMap (obB num))) w wr/\∀u ls,Ns w3 u ls->Ns wr u ls):=by
      have h:=hS.o;rw[List.take_of_length_le (by rw[hbl'.o,hJ.o];exact Nat.le_refl _),hA1.o,hA0.o,hbl'.o]at h
      rw[htk.o];unfold obB at h ⊢;show _/\_;simpa only[List.append_assoc]using h
     clear hS hjI;go_wp2;go_roundw;case rel=>exact⟨i+1,by go_num,by omega,hfin.o.1,hfin.o.2⟩
     case measure=>simp[intOf];omega
  ·obtain rfl:i=T:=by omega
   have hiI:¬(i:Int)<(i:Int):=by omega
   have hfin:Hid (ObS w0 base g m L v (acc++objB num l) w wr):=by
    have h:=hU.o;rw[List.take_of_length_le (by rw[hT.o];exact Nat.le_refl _),hT.o]at h
    exact h
   clear hU;go_wp2;exact Great.bodyPost_end0 rfl rfl ⟨rfl,hfin.o⟩
def a_V(U:List Nat)(b:Nat):Nat:=U.idxOf b
def d_x(num:Nat->Nat)(p:Nm×GT):List Nat:=c_i p.1++objB num p.2
def bkB(U:List Nat)(pt:Nat->Ptr)(g:GS):List Nat:=n_ (U.length:Nat)++(U.flatMap fun b=>b_1 (pt b))++objB (a_V U) g.ths++n_ (g.shs.length:Nat)++g.shs.flatMap (d_x (a_V U))
theorem c_U{U:List Nat}(hU:U.Nodup){i j:Nat}(hi:i<U.length)(hj:j<U.length)(e:U[i]=U[j]):i=j:=by
 have h:=List.pairwise_iff_getElem.1 hU;rcases Nat.lt_trichotomy i j with h1|h1|h1
 ·exact absurd e (h i j hi hj h1)
 ·exact h1
 ·exact absurd e.symm (h j i hj hi h1)
def plU(U:List Nat)(k:Nat):PL:=(List.range k).map fun i=>(U.getD i 0,.int .i64 ((i:Nat):Int))
theorem p_e(U:List Nat)(k:Nat):plU U (k+1)=plU U k++[(U.getD k 0,.int .i64 ((k:Nat):Int))]:=by
 unfold plU;rw[List.range_succ,List.map_append];rfl
theorem g_0{U:List Nat}{k:Nat}(hk:k<=U.length){b:Nat}:b∈(plU U k).map (·.1)↔b∈U.take k:=by
 unfold plU;rw[List.map_map,List.mem_map,List.mem_take_iff_getElem];constructor
 ·rintro⟨i,hi,rfl⟩
  have hi:=List.mem_range.1 hi;exact⟨i,by omega,by simp[List.getD,show i<U.length by omega]⟩
 ·rintro⟨i,hi,rfl⟩
  exact⟨i,List.mem_range.2 (by omega),by simp[List.getD,show i<U.length by omega]⟩
theorem m_c{U:List Nat}(hU:U.Nodup){k b:Nat}(hb:U[k]?=some b):b_2 (plU U k) b (.int .i64 ((k:Nat):Int))=plU U (k+1):=by
 obtain⟨hk,he⟩:=List.getElem?_eq_some_iff.1 hb;rw[p_e,c_6]
 ·simp[List.getD,hk,he]
 ·rw[c_8,g_0 (by omega),List.mem_take_iff_getElem]
  rintro⟨i,hi,e⟩;have:=c_U hU (by omega) hk (e.trans he.symm)
  omega
theorem m_d{U:List Nat}(hU:U.Nodup):∀{k i:Nat},i<k->k<=U.length->a_n (plU U k) (U.getD i 0)=some (.int .i64 ((i:Nat):Int))
 |0,i,h,_=>absurd h (Nat.not_lt_zero i)
 |k+1,i,h,hk=>by
  have hb:U[k]?=some (U.getD k 0):=by simp[List.getD,show k<U.length by omega]
  rw[<-m_c hU hb]
  by_cases e:i=k
  ·subst e
   rw[a_l]
  ·have hne:U.getD i 0≠U.getD k 0:=fun e'=>by
    have h1:i<U.length:=by omega
    have h2:k<U.length:=by omega
    simp only[List.getD,List.getElem?_eq_getElem h1,List.getElem?_eq_getElem h2,Option.getD_some]at e';exact e (c_U hU h1 h2 e')
   rw[a_M hne];exact m_d hU (by omega) (by omega)
theorem p_m{U:List Nat}(hU:U.Nodup){b:Nat}(hb:b∈U):a_n (plU U U.length) b=some (.int .i64 ((a_V U b:Nat):Int))/\a_V U b<U.length/\U[a_V U b]?=some b:=by
 have h1:a_V U b<U.length:=List.idxOf_lt_length_iff.2 hb;have h2:U[a_V U b]=b:=List.getElem_idxOf h1;have h3:=m_d hU h1 (Nat.le_refl _);rw[List.getD,List.getElem?_eq_getElem h1,Option.getD_some,h2]at h3;exact⟨h3,h1,by rw[List.getElem?_eq_getElem h1,h2]⟩
structure BkS(w0:World)(g m r0:Nat)(L:PL)(u:Value)(U:List Nat)(acc:List Nat)(w:World):Prop where
 pn:∃v,Pen w0.heap.size g v acc w
 nw:New w0 w
 pm:PM w m L
 rw:w.ownsRow w0.heap.size 112 1 u U.length (a_2 U)
 rz:Blk w r0 107 #[.int .i64 0,.int .i64 0,.int .i64 0,.int .i64 0,.int .i64 0,.int .i64 0,.int .i64 0,.int .i64 0]
theorem BkS.new{w0 w w':World}{g m r0:Nat}{L:PL}{u:Value}{U acc:List Nat}(h:BkS w0 g m r0 L u U acc w)(hn:New w w'):BkS w0 g m r0 L u U acc w':=by
 obtain⟨v,h1⟩:=h.pn;exact⟨⟨v,h1.alt (K:=fun _=>False) (Alt.of_new hn) (fun f=>f) fun _ _ f=>f⟩,h.nw.next hn,h.pm.alt (K:=fun _=>False) (Alt.of_new hn) fun f=>f,c_ h.rw hn,h.rz.new hn⟩
theorem BkS.pen{w0 w:World}{g m r0:Nat}{L:PL}{u:Value}{U acc:List Nat}(h:BkS w0 g m r0 L u U acc w)(hg:w0.heap.size<=g){f:Nat}{args:Array Value}(add:List Nat)(hc:∀v1,Pen w0.heap.size g v1 acc w->w0.heap.size<=w.heap.size->Calls prog f args w fun e w'=>e=.returned (.tuple #[])/\a_y w0.heap.size g v1 (acc++add) w w') :
  Calls prog f args w fun e w'=>e=.returned (.tuple #[])/\BkS w0 g m r0 L u U (acc++add) w'/\∀u ls,Ns w u ls->Ns w' u ls:=by
 obtain⟨v1,h1⟩:=h.pn;refine(hc v1 h1 h.nw.size).mono ?_;rintro e w' ⟨rfl,hp⟩;obtain⟨k1,k2,k3⟩:=hp.keep h1;obtain⟨v2,p1,p2,p3⟩:=hp;refine⟨rfl,⟨⟨v2,p1⟩,k1 w0 h.nw (Nat.le_refl _) hg,k2 m L h.pm,p3.own h.rw fun k hk e=>?_,p3.blk h.rz fun e=>?_⟩,k3⟩
 ·rcases e with e|e
  ·rw[e]at hk
   exact b_ h.rw h1.bk (by decide) hk
  ·exact comb.b_Q h.rw h1.own (by decide) (fun h0=>by rw[h0]at hk;cases hk) (by rw[hk,e])
 ·rcases e with e|e
  ·exact e_ h.rz h1.bk (by decide) e
  ·exact b_ h1.own h.rz (by decide) e
theorem BkS.objs{w0 w w':World}{g m r0:Nat}{L:PL}{u:Value}{U acc acc':List Nat}{v:Value}(h:BkS w0 g m r0 L u U acc w)(hv:Pen w0.heap.size g v acc w)(hs:ObS w0 w0.heap.size g m L v acc' w w'):BkS w0 g m r0 L u U acc' w':=by
 obtain⟨v2,p1,p2,p3⟩:=hs.pn;refine⟨⟨v2,p1⟩,hs.nw,hs.pm,p3.own h.rw fun k hk e=>?_,p3.blk h.rz fun e=>?_⟩
 ·rcases e with e|e
  ·rw[e]at hk
   exact b_ h.rw hv.bk (by decide) hk
  ·exact comb.b_Q h.rw hv.own (by decide) (fun h0=>by rw[h0]at hk;cases hk) (by rw[hk,e])
 ·rcases e with e|e
  ·exact e_ h.rz hv.bk (by decide) e
  ·exact b_ hv.own h.rz (by decide) e
theorem BkS.map{w0 w w':World}{g m r0:Nat}{L L':PL}{u:Value}{U acc:List Nat}(h:BkS w0 g m r0 L u U acc w)(hm:w0.heap.size<=m)(ha:Alt (fun k=>k=m) w w')(hp:PM w' m L'):BkS w0 g m r0 L' u U acc w':=by
 obtain⟨v1,h1⟩:=h.pn;refine⟨⟨v1,h1.alt ha (fun e=>h.pm.ne_blk h1.bk e.symm) fun k hk e=>h.pm.ne_own h1.own (by rw[hk,e])⟩,h.nw.trans (ha.below h.nw.size fun k hk=>by omega),hp,ha.own h.rw fun k hk e=>h.pm.ne_own h.rw (by rw[hk,e]),ha.blk h.rz fun e=>h.pm.ne_blk h.rz e.symm⟩
end vault
namespace vault
open Go.ChangeShapes Go.WideShapes kit drive geom stripe flet label
def pgB(lv:Nat)(l:List Nat):List Nat:=n_ (lv:Nat)++n_ (l.length:Nat)++l
def pgX(lv:Nat)(l:List Nat)(k:Nat):Nat:=(pgB lv l).getD k 0
theorem r_f(lv:Nat)(l:List Nat):(pgB lv l).length=16+l.length:=by simp[pgB,l_];omega
theorem Y_(x:Int):∀b∈n_ x,b<256:=fun b hb=>by
 unfold n_ at hb;obtain⟨i,_,rfl⟩:=List.mem_map.1 hb;exact f_v _ _
theorem j_K{l:List Nat}(h:∀b∈l,b<256)(k:Nat):l.getD k 0<256:=by
 rw[List.getD];cases e:l[k]? with
 |none=>show 0<256;omega
 |some b=>exact h b (List.mem_of_getElem? e)
theorem p_f{lv:Nat}{l:List Nat}(h:∀b∈l,b<256)(k:Nat):pgX lv l k<256:=j_K (fun b hb=>by
 unfold pgB at hb;rcases List.mem_append.1 hb with hb|hb
 ·rcases List.mem_append.1 hb with hb|hb
  ·exact Y_ _ b hb
  ·exact Y_ _ b hb
 ·exact h b hb) k
theorem sums_bd(B:Nat->Nat):∀n,BdI (a_f B n (0,0,0,0)).1/\BdI (a_f B n (0,0,0,0)).2.1/\BdI (a_f B n (0,0,0,0)).2.2.1/\BdI (a_f B n (0,0,0,0)).2.2.2
 |0=>by unfold a_f BdI;decide
 |n+1=>by
  have h:∀x,BdI (wrap64 x):=fun x=>by unfold BdI wrap64;omega
  exact⟨h _,h _,h _,h _⟩
theorem f_N{A:VA}(hA:VOk A){s:VS}{X:Nat->Nat}{len x:Nat}(hX:∀k,X k<256)(h1:1<=len)(h2:len<=4096)(hx:x+cU A ((len+127)/128)<=508)(ht:BdI s.time) :
  PtU A (a_r A s X len x) (x,cU A ((len+127)/128))/\i_R A (a_r A s X len x) X/\∀y∈a_J (a_r A s X len x),BdI y:=by
 have hu:PtU A (a_r A s X len x) (x,cU A ((len+127)/128)):=⟨rfl,rfl,(by show 1<=(len+127)/128;omega),(by show(len+127)/128<=32;omega),hx,ht⟩
 have hun:uA A<=A.n:=by have:=hA.pn;unfold uA;omega
 have h3:=hu.tot hA;have h4:(x+cU A ((len+127)/128))*uA A<=508*A.n:=Nat.mul_le_mul hx hun;have hn8:=hA.n8;have h5:x*uA A<=508*A.n:=Nat.mul_le_mul (by omega) hun
 dsimp only at h3;refine⟨hu,⟨h1,h2,rfl,by omega,hX,rfl⟩,fun y hy=>?_⟩
 obtain⟨b1,b2,b3,b4⟩:=sums_bd (a_9 X len) (32*((len+127)/128));unfold a_J a_r at hy;simp only[List.mem_cons,List.not_mem_nil,or_false]at hy;rcases hy with rfl|rfl|rfl|rfl|rfl|rfl|rfl|rfl
 ·unfold BdI;omega
 ·unfold BdI;omega
 ·unfold BdI;omega
 ·exact ht
 ·exact b1
 ·exact b2
 ·exact b3
 ·exact b4
structure d_O(A:VA)(s:VS)(bad:List Nat)(q:Ptr)(lv:Nat)(l:List Nat):Prop where
 pb:i_R A q (pgX lv l)
 by_:q.by_=16+l.length
 kp:b_F A s bad q (pgX lv l)
def c_r(A:VA)(s:VS)(bad:List Nat)(acc:List Nat)(root:Ptr)(rs:List Ptr):Prop:=
 (rs=[]/\d_O A s bad root 0 acc)\/∃ps:List (List Nat),ps.flatten=acc/\ps.length=rs.length/\2<=rs.length/\rs.length<=6/\1008<acc.length/\(∀(i:Nat) q p,rs[i]?=some q->ps[i]?=some p->d_O A s bad q 0 p)/\d_O A s bad root 1 (n_ (rs.length:Nat)++rs.flatMap b_1)
theorem d_O.evo{A:VA}(hA:VOk A){L:List Bk}{m:Nat}{s s':VS}{bad:List Nat}{q:Ptr}{lv:Nat}{l:List Nat}{u:Bk}(h:d_O A s bad q lv l)(he:Evo A L m s s')(hu:PtU A q u)(hL:u∈L):d_O A s' bad q lv l:=
 ⟨h.pb,h.by_,he.kept hA hu hL h.kp⟩
def a_N(acc:List Nat)(z i:Nat):List Nat:=(acc.drop (z*i)).take z
theorem n_z(acc:List Nat)(z i:Nat):(a_N acc z i).length=min z (acc.length-z*i):=by simp[a_N]
theorem g_2(acc:List Nat)(z:Nat):∀k,((List.range k).map (a_N acc z)).flatten=acc.take (z*k)
 |0=>by simp
 |k+1=>by
  rw[List.range_succ,List.map_append,List.flatten_append,g_2 acc z k];show _++([a_N acc z k]).flatten=_;rw[List.flatten_singleton,a_N,Nat.mul_succ,List.take_add]
theorem n_A{acc:List Nat}{z i k:Nat}(hk:k<z):(a_N acc z i)[k]?=acc[z*i+k]?:=by
 unfold a_N;rw[List.getElem?_take,if_pos hk,List.getElem?_drop]
end vault
namespace vault
set_option maxRecDepth 100000
open Go.ChangeShapes Go.WideShapes Go.ChangeAt kit comb each2 Go.Deep
attribute [local go_sem] Oper.semAt_some
def chV(g off n z k:Nat):Value:=.slice (some ⟨g,off+z*k,none⟩) (min z (n-z*k)) (min z (n-z*k))
abbrev i_H(bs bn:Nat):Array Value:=#[.pointer (some ⟨bs,0,none⟩),.pointer (some ⟨bn,0,none⟩)]
def chN(n z:Nat):Nat:=(n+z-1)/z
abbrev chS(n z:Nat):List Nat:=List.range (chN n z)
abbrev chA(g off n z:Nat)(B x:Nat)(v:Array Value)(W:World):Prop:=v=#[chV g off n z x]
theorem i_G{n z k:Nat}(hz:0<z):k<chN n z↔z*k<n:=by
 unfold chN;rw[Nat.lt_div_iff_mul_lt hz,Nat.mul_comm k z];omega
set_option maxHeartbeats 1000000 in
theorem k_4{m:Nat}(g off n c z bs bn:Nat)(w:World)(hz:0<z)(hzb:z<=8192)(hn:n<=1000000)(hc:n<=c)(hcm:c<=maxLen)(hbs:Boxed w bs 35 (.slice (some ⟨g,off,none⟩) n c))(hbn:Boxed w bn 3 (.int .i64 z)) :
  n_a m prog 131 (i_H bs bn) 0 (Kn bs bn) (chS n z) (chA g off n z) w:=by
 intro l J Jx W hW hJ hJx hY h0;have hdd:∀k:Nat,(Fence.wide.depth.isSome=true->1<=k):=fun k h=>by rw[a_Y]at h;cases h
 have h1:Boxed W bs 35 (.slice (some ⟨g,off,none⟩) n c):=(hW.block bs hbs.lt).trans hbs;have h2:Boxed W bn 3 (.int .i64 z):=(hW.block bn hbn.lt).trans hbn;have hbs0:=h1.lt;have hbn0:=h2.lt;have hH1:=Hd h1;have hH2:=Hd h2;have hJ0:=Hd h0;have hJB:=Hd hJ;have hYH:=Hd hY;clear h0 h1 h2 hJ hY hbs hbn;show CallsIn Fence.wide m prog 131 #[.func (.yield l) #[] #[],.pointer (some ⟨bs,0,none⟩),.pointer (some ⟨bn,0,none⟩)] W _;refine callsIn_of_wp func131 rfl trivial ?_ rfl;simp only[ntmps131,List.size_toArray,List.length_cons,List.length_nil,Nat.reduceAdd,Nat.reduceSub,Array.replicate_succ,Array.replicate_zero,List.push_toArray,List.append_toArray,List.nil_append,List.cons_append];gi_wp2;gi_loopw [4] (fun x wr=>∃k:Nat,x=.int .i64 ((z*k:Nat):Int)/\k<=chN n z/\Hid (J (List.range k) wr)/\Hid (Boxed wr bs 35 (.slice (some ⟨g,off,none⟩) n c))/\Hid (Boxed wr bn 3 (.int .i64 z))/\Hid (W.heap.size<=wr.heap.size)) (fun x _=>z*chN n z-(intOf x).toNat);case atStart=>exact⟨0,rfl,Nat.zero_le _,hJ0,hH1,hH2,Nat.le_refl _⟩
 case round=>
  obtain⟨k,rfl,hk,hJr,hb1,hb2,hsz⟩:=hrel;have c1:=hb1.o.cell;have c2:=hb2.o.cell;obtain⟨i,hi⟩:∃i,Hid (i=z*k):=⟨_,rfl⟩;rw[<-hi.o]
  by_cases hlt:i<n
  ·have hltI:(i:Int)<(n:Int):=by omega
   have hkl:k<chN n z:=(i_G hz).2 (by rw[<-hi.o];exact hlt)
   obtain⟨e,he⟩:∃e,Hid (e=min z (n-i)):=⟨_,rfl⟩;have he0:0<e:=by rw[he.o];omega
   have hen:i+e<=n:=by rw[he.o];omega
   have hez:e<=z:=by rw[he.o];omega
   obtain⟨r,hr⟩:∃r,Hid (n=i+r):=⟨n-i,by show _=_;omega⟩
   obtain⟨d,hd⟩:∃d,Hid (c=i+d):=⟨c-i,by show _=_;omega⟩
   rw[hr.o,hd.o]at c1;have hrd:r<=d:=by have h1:=hr.o;have h2:=hd.o;omega
   have hr0:0<r:=by have h1:=hr.o;omega
   have her:e<=r:=by have:=hr.o;omega
   have hd0:¬d=0:=by omega
   have b0:(0:Int)<=(i:Int):=by omega
   have b1:(i:Int)<=(i:Int)+(r:Int):=by omega
   have b2:(i:Int)<=(i:Int)+(d:Int):=by omega
   have b3:min (z:Int) (r:Int)=(e:Int):=by have h1:=he.o;have h2:=hr.o;omega
   have b4:(i:Int)<=(i:Int)+(e:Int):=by omega
   have b5:(i:Int)+(e:Int)<=(i:Int)+(d:Int):=by omega
   have hltI2:(i:Int)<(i:Int)+(r:Int):=by omega
   have hcmb:c<=9223372036854775807:=hcm;have hpre:Hid (List.range k++[k] <+: chS n z):=by
    refine⟨(List.range (chN n z-(k+1))).map (k+1+·),?_⟩;show List.range k++[k]++_=List.range (chN n z);rw[<-List.range_succ]
    conv=>rhs;rw[show chN n z=k+1+(chN n z-(k+1)) by omega,List.range_add]
   have hv:Hid (chV g off n z k=.slice (some ⟨g,off+i,none⟩) e e):=by
    show chV _ _ _ _ _=_;unfold chV;rw[<-hi.o,<-he.o]
   gi_wp2;gi_region;have hJd:J (List.range k) wr.drew:=hJB.o _ _ _ none hJr.o (New.grow (New.refl wr).drew) fun r e=>by cases e
   have hY1:Hid (YieldAt Fence.wide m prog l #[.slice (some ⟨g,off+i,none⟩) e e] wr.drew fun e W'=>∃b:Bool,e=.returned (.bool b)/\(match b with|true=>J (List.range (k+1)) W'/\each2.Held (Kn bs bn) W.heap.size W.heap.size wr.drew W'|false=>Jx (List.range (k+1)) W')):=by
    refine(hYH.o (List.range k) k _ wr.drew hJd hpre.o (congrArg (fun v=>#[v]) hv.o.symm) hsz.o).mono fun e W' h=>?_;rw[List.range_succ];rcases h with⟨rfl,hj,hh⟩|⟨rfl,hx⟩
    ·exact⟨true,rfl,hj,hh⟩
    ·exact⟨false,rfl,hx⟩
   obtain⟨fn,tmps,assign,body,hy,hR⟩:=yieldAny (m':=m-1) hY1.o;have hpfx:Hid (List.range (k+1) <+: chS n z):=by rw[List.range_succ];exact hpre
   have hsub:((i:Int)+(e:Int)-(i:Int)).toNat=e:=by omega
   have hsn:i+e-i=e:=by omega
   clear hJd hJr hY1;gi_wp2_with fail;refine⟨hdd _,?_⟩;refine hR.mono ?_;clear hR hy;rintro ee W2 ⟨b,rfl,hb⟩;cases b with
   |true=>
    obtain⟨hj2,hh2⟩:=hb;have hj2H:=Hd hj2;have hb1':Hid (Boxed W2 bs 35 (.slice (some ⟨g,off,none⟩) n c)):=hh2.at (k:=bs) (.inl (.inl rfl)) (show wr.drew.heap[bs]?=_ from hb1.o)
    have hb2':Hid (Boxed W2 bn 3 (.int .i64 z)):=hh2.at (k:=bn) (.inl (.inr rfl)) (show wr.drew.heap[bn]?=_ from hb2.o)
    have hsz':Hid (W.heap.size<=W2.heap.size):=Nat.le_trans hsz.o hh2.size;have c2':=hb2'.o.cell;have hnx:Hid (i+z=z*(k+1)):=by show _=_;rw[Nat.mul_succ,hi.o]
    have hizb:i+z<=2000000:=by omega
    clear hj2 hh2;gi_wp2;go_roundw;case rel=>exact⟨k+1,by rw[<-hnx.o];go_num,hkl,hj2H,hb1',hb2',hsz'⟩
    case measure=>
     have h1:=Nat.mul_le_mul_left z hkl;have h2:=hnx.o;obtain⟨M,hM⟩:∃M,M=z*chN n z:=⟨_,rfl⟩;rw[<-h2,<-hM]at h1;rw[<-hM];simp[intOf];omega
   |false=>
    have hfin:=Hd hb;clear hb;gi_wp2;exact bodyPost_ret (results_none (by kernel_rfl) _ _ _) rfl ⟨⟨_,rfl⟩,.inr ⟨_,hpfx.o,hfin.o⟩⟩
  ·have hltI:¬(i:Int)<(n:Int):=by omega
   have hkl:k=chN n z:=by
    have:=(i_G (n:=n) (z:=z) (k:=k) hz).1;rw[<-hi.o]at this;omega
   have hfin:Hid (J (chS n z) wr):=by
    have h1:=hJr.o;rw[hkl]at h1;exact h1
   gi_wp2;go_end0;exact⟨⟨_,rfl⟩,.inl hfin.o⟩
theorem o_n(R:Option Addr)(n c z:Nat)(w:World)(hz:0<z)(hz2:z<=8192) :
  Calls prog 87 #[.slice R n c,.int .i64 (z:Nat)] w fun e w'=>e=.returned (.func (.func 131) #[] (i_H w.heap.size (w.heap.size+1)))/\w'=(w.alloc (.cells #[.slice R n c] 35)).alloc (.cells #[.int .i64 (z:Nat)] 3):=by
 have hz1:¬(z:Int)<1:=by omega
 go_enter func87,ntmps87;go_wp2;go_ret;exact⟨rfl,rfl⟩
def chL(g off n z:Nat)(l:List Nat):List Value:=l.map (chV g off n z)
def ChC(w:World)(Bs lo g off n z:Nat)(pre:List Nat)(W:World):Prop:=
 ∃v,Boxed W Bs 181 v/\W.ownsRow (lo+2) 35 1 v pre.length (chL g off n z pre)/\Below w.heap.size w W
theorem i_h{W W':World}{base n s:Nat}{e:TypeId}{v:Value}{xs:List Value}{row:Option Nat}(h:W.ownsRow base e s v n xs)(hg:W.grownBy W' row)(hr:∀r,row=some r->r<base):W'.ownsRow base e s v n xs:=by
 refine World.ownsRow.kept h hg ?_
 by_cases hv:v.ownBlock=none
 ·exact .inl hv
 ·refine .inr fun e=>?_
  obtain⟨g,hg⟩:=Option.ne_none_iff_exists'.1 hv;have h1:=(h.lt g hg).1;have h2:=hr g (by rw[<-e,hg])
  omega
theorem ChC.bears{w:World}{Bs lo g off n z:Nat}(hB:Bs<lo)(hw:w.heap.size<=lo):f_b lo (lo+2) (ChC w Bs lo g off n z):=by
 rintro s W W' row ⟨v,h1,h2,h4⟩ hg hr;exact⟨v,h1.kept hg (fun e=>by have:=hr _ e.symm;omega),i_h h2 hg (fun r e=>by have:=hr r e;omega),h4.grown hg h4.size (fun k e=>by have:=hr k e;omega)⟩
theorem m_B:(prog.info? 35).map (fun i=>(i.zero,i.size,i.bytes))=some (some (.slice none 0 0),1,24):=by kernel_rfl
set_option maxHeartbeats 2000000 in
theorem f_m(g off n c z bs bn:Nat)(w:World)(hz:0<z)(hzb:z<=8192)(hn:n<=1000000)(hc:n<=c)(hcm:c<=maxLen)(hbs:Boxed w bs 35 (.slice (some ⟨g,off,none⟩) n c))(hbn:Boxed w bn 3 (.int .i64 z)) :
  Calls prog 130 #[.slice none 0 0,.func (.func 131) #[] (i_H bs bn)] w fun e w'=>∃v,e=.returned v/\w'.ownsRow w.heap.size 35 1 v (chS n z).length (chL g off n z (chS n z))/\New w w':=by
 have hdd:∀k:Nat,(Fence.wide.depth.isSome=true->1<=k):=fun k h=>by rw[a_Y]at h;cases h
 obtain⟨i1,hj0,hy0,hy1,hy2⟩:=info_parts m_B;obtain⟨S,hS⟩:∃S,Hid (S=chS n z):=⟨_,rfl⟩;have hSl:S.length<=1000000:=by
  rw[hS.o,List.length_range];refine Nat.le_trans (Nat.le_of_lt_succ ?_) hn;rw[Nat.lt_succ_iff];refine Nat.le_of_not_lt fun h=>?_;have:=(i_G (n:=n) (z:=z) (k:=n) hz).1 h;have:=Nat.le_mul_of_pos_left n hz;omega
 have hst:=k_4 (m:=3) g off n c z bs bn w hz hzb hn hc hcm hbs hbn;rw[<-hS.o]at hst ⊢;have hstH:=Hd hst;have hbs0:=hbs.lt;have hbn0:=hbn.lt;clear hst hbn hbs;refine(callsIn_wide (n:=3)).1 ?_;refine callsIn_of_wp_marks func130 rfl trivial ?_ rfl;simp only[ntmps130,List.size_toArray,List.length_cons,List.length_nil,Nat.reduceAdd,Nat.reduceSub,Array.replicate_succ,Array.replicate_zero,List.push_toArray,List.append_toArray,List.nil_append,List.cons_append];gi_wp2_with fail;refine d_7 (gf:=131) (lb:=i_H bs bn) rfl (enters_of func131 (by kernel_rfl) rfl) hstH.o ((Below.refl _ _).alloc (Nat.le_refl _) _) (fun k hk=>by rcases hk with rfl|rfl<;>(simp;omega)) (fun B x vs W e=>by rw[e];rfl)
  (ChC w w.heap.size (w.heap.size+1) g off n z) (fun _ _ _=>False) ?bears (fun c s W W' row h=>h.elim) ?start (fun x a' W'=>a'={tmps:=#[.slice none 0 0,.func (.func 131) #[] (i_H bs bn),.pointer (some ⟨w.heap.size,0,none⟩),undef,.slice none 0 0,chV g off n z x,.func (.func 131) #[] (i_H bs bn),chV g off n z x,undef,undef,undef,undef,undef],defers:=[]}) ?abears ?assign ?body ?done ?stop
 case bears=>
  rw[World.size_alloc];exact ChC.bears (Nat.lt_succ_self _) (Nat.le_succ _)
 case start=>exact⟨_,Boxed.new w _ _,World.ownsRow_nil _ _ _ _,(Below.refl _ _).alloc (Nat.le_refl _) _⟩
 case abears=>exact fun x a' A B row h _ _=>h
 case assign=>
  rintro l pre x vs W hz hI rfl K hK;rw[t_P];gi_wp2;exact hK _ _ rfl hI (New.refl _)
 case stop=>
  intro c pre W _ h;exact h.elim
 case body=>
  rintro l pre x a' W hsz ⟨sv,hb,ho,hbel⟩ hpre rfl;rw[World.size_alloc]at hsz ⊢;have hpl:pre.length+1<=1000000:=by have:=hpre.length_le;simp at this;omega
  obtain⟨A,m,cx,hav⟩:∃A m cx,Hid (chV g off n z x=.slice A m cx):=⟨_,_,_,rfl⟩;obtain⟨A2,c2,rfl,_⟩:=h_ ho;have hcb:=hb.cell;have hhid:=Hd hbel;have hbH:=Hd hb;have hmap:Hid (chL g off n z pre++[.slice A m cx]=chL g off n z (pre++[x])):=by
   show _=_;rw[<-hav.o,chL,chL,List.map_append];rfl
  rw[hav.o];clear hbel hb;gi_wp2_with (first
   |(gi_at_builtin;refine wpListIn_append_own _ rfl _ _ 181 rfl (w.heap.size+1+2) 35 i1 _ 1 24 underlying181 hj0 hy0 hy1 hy2 rfl (by decide) _ pre.length (chL g off n z pre) rfl (ho.alloc _) ⟨W.heap.size,0,none⟩ 1 1 [.slice A m cx] rfl rfl (World.news_of_block (cs:=#[.slice _ _ _]) (t:=35) (fr:=(0,0)) (heap_alloc_new W _)) (by simp[Value.oneCell']) (by unfold maxLen;omega) (by omega) (by simp;omega) ?_
     intro v1 w1 hown1 hgrow1 hnil1;obtain⟨g1,c1,rfl,hg1a,hg1b⟩:=hown1.form (by omega)
     have hb2:Boxed w1 w.heap.size 181 (.slice A2 pre.length c2):=(hbH.o.alloc _).kept hgrow1 (fun e=>by have:=(ho.lt _ e.symm).1;omega)
     have e1:=hb2.cell;have e2:=hb2.frozen)
   |fail)
  have hgs:w1.grownBy (w1.setCell ⟨w.heap.size,0,none⟩ (.slice (some ⟨g1,0,none⟩) (pre.length+1) c1)) (some w.heap.size):=grownBy_setCell' _ _ _;have hro:∀r,(Value.slice A2 pre.length c2).ownBlock=some r->w.heap.size+1+2<=r:=fun r e=>(ho.lt _ e).1;refine⟨((each2.Held.grown (World.grownBy_alloc W _ none) (fun r e=>by cases e)).trans (each2.Held.grown hgrow1 fun r e=>?_)).trans (each2.Held.grown hgs fun r e=>?_),?_⟩
  ·have:=hro r e
   exact⟨fun h=>by rcases h with rfl|rfl<;>omega,by omega⟩
  ·cases e
   exact⟨fun h=>by rcases h with h|h<;>omega,by omega⟩
  ·refine⟨_,hb2.set _,?_,?_⟩
   ·rw[<-hmap.o,List.length_append]
    exact i_h hown1 hgs (fun r e=>by cases e;omega)
   ·have h1:=hhid.o.alloc (by have:=hhid.o.size;omega) (.cells #[.slice A m cx] 35)
    have h2:=h1.grown hgrow1 (by have:=h1.size;omega) (fun r e=>by have:=hro r e;omega)
    exact h2.setCell (p:=⟨w.heap.size,0,none⟩) (Nat.le_refl _) _
 case done=>
  rintro W ⟨sv,hb,ho,hbel⟩ hK;rw[World.size_alloc]at hK ⊢;obtain⟨A2,c2,rfl,_⟩:=h_ ho;have hcb:=hb.cell;have hg:=grownBy_putObj' W (w.heap.size+1) (.deferred none);have hfin:Hid ((W.putObj (w.heap.size+1) (.deferred none)).ownsRow w.heap.size 35 1 (.slice A2 S.length c2) S.length (chL g off n z S)/\New w (W.putObj (w.heap.size+1) (.deferred none))):=
   ⟨(i_h ho hg (fun r e=>by cases e;omega)).mono (by omega),hbel.grown hg hbel.size (fun k e=>by cases e;omega)⟩
  clear hbel hg ho hb;gi_wp2;refine⟨by simp,.inl ⟨_,_,rfl,run_takeDeferred hK,?_⟩⟩
  exact⟨.slice A2 S.length c2,(by simp[results,results130,go_sem]),.slice A2 S.length c2,rfl,hfin.o.1,hfin.o.2⟩
theorem h_4(g off n c z bs bn:Nat)(w:World)(hz:0<z)(hzb:z<=8192)(hn:n<=1000000)(hc:n<=c)(hcm:c<=maxLen)(hbs:Boxed w bs 35 (.slice (some ⟨g,off,none⟩) n c))(hbn:Boxed w bn 3 (.int .i64 z)) :
  Calls prog 86 #[.func (.func 131) #[] (i_H bs bn)] w fun e w'=>∃v,e=.returned v/\w'.ownsRow w.heap.size 35 1 v (chS n z).length (chL g off n z (chS n z))/\New w w':=by
 have hc:=Hd (f_m g off n c z bs bn w hz hzb hn hc hcm hbs hbn);clear hbn hbs;go_enter func86,ntmps86;go_wp2_with fail;refine hc.o.mono ?_;rintro e w1 ⟨v,rfl,ho,hn1⟩;have hfin:=Hd (And.intro ho hn1);clear ho hn1;go_wp2;go_ret;exact⟨v,rfl,hfin.o.1,hfin.o.2⟩
end vault
end Go.Proofs.YtojcoaekhiadcaaGreat
