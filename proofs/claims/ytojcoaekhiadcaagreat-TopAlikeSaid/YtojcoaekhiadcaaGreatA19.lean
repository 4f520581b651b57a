import Derived.Test.YtojcoaekhiadcaaGreatA01
import Derived.Test.YtojcoaekhiadcaaGreatA11
set_option linter.unusedVariables false
set_option linter.unusedSimpArgs false
namespace Go.Proofs.YtojcoaekhiadcaaGreat
open Tryz Go.RowKit
namespace stripe
set_option maxRecDepth 100000
open Go.ChangeShapes Go.WideShapes Go.ChangeAt kit geom par flet Go.Deep
attribute [local go_sem] Oper.semAt_some
set_option maxHeartbeats 4000000 in
theorem o_i(dr pa ad wd ct n num m c:Nat)(s0 s1 s2 s3:Int)(PA:Option Addr)(Ls:Nat->Bool)(R:Nat->Option Addr)(L C:Nat->Nat)(D:Nat->Nat->Nat)(w:World)
  (h1:2<=dr) (h2:dr<=8) (h3:1<=pa) (h4:pa<=3) (h5:dr=pa+wd) (h6:1<=wd) (h7:ad<=65536) (h:1<=n/\n<=4096) (hct:ct=(n+127)/128) (hnum:num=c_Q dr pa ct wd) (hP:RdP w PA num Ls R L C D) (hlen:∀c,c<num->Ls c=false->L c=128*G_ pa ct wd c) (hfew:(S_ Ls num).length<=pa) (hsp:(hfL (goG num pa (S_ Ls num)) (dcN ct wd)).length=0\/dcN ct wd=1)
  (hsum:a_f (fun k=>(dtL num pa ct wd L D (S_ Ls num)).getD k 0) (128*ct/4) (0,0,0,0)=(s0,s1,s2,s3)) :
  Calls prog 148 #[.int .i64 dr,.int .i64 pa,.int .i64 ad,.int .i64 n,.slice PA num c,c_Y s0 s1 s2 s3] w (GaP n (dtL num pa ct wd L D (S_ Ls num)) [] 0 w):=by
 replace hlen:=Hd hlen;replace hsp:=Hd hsp;replace hsum:=Hd hsum;have hsh:=Hd (fun w=>h_k dr pa ad n wd ct h1 h2 h3 h4 h5 h6 h7 h hct w);rw[<-hnum]at hsh;obtain⟨i1,hj0,hy0,hy1,hy2⟩:=info_parts l_7;have hc1:1<=ct:=by omega
 have hc2:ct<=32:=by omega
 have hn:=f_t (pa:=pa) h6 hc1;rw[<-h5,<-hnum]at hn;have hdc:=e_M h6 hc1;have hdl:=h_M h6 hc1;have hc0:=e_g (pa:=pa) h6 hc1 hc2 h3;have hn8:num<=8:=by omega
 have hn0:0<num:=by omega
 obtain⟨pb,po,rfl,hpb,hpc⟩:=hP.2.1 hn0;replace hpc:=Hd hpc;have hg:=Hd (G0.start (n:=n) (s0:=s0) (s1:=s1) (s2:=s2) (s3:=s3) (PA:=some ⟨pb,po,none⟩) (m:=num) (c:=c) w);have hN:=Hd (((((((New.refl w).alloc (.cells #[.int .i64 n] 3)).alloc (.cells #[.slice (some ⟨pb,po,none⟩) num c] 201)).alloc (.cells #[.int .i64 s0,.int .i64 s1,.int .i64 s2,.int .i64 s3] 105)).alloc (.cells #[.slice none 0 0] 35)).alloc (.cells #[.slice none 0 0] 27)).alloc (.cells #[.int .i64 0] 30));have hPH:=Hd hP;have hnH:=Hd hn;have h0i:=h.1;have h1i:=h.2;obtain⟨Lg,hLg⟩:∃Lg,Hid (Lg=128*G_ pa ct wd 0):=⟨_,rfl⟩;rw[<-hLg.o]at hsh;have hnct:n<=128*ct:=by omega
 clear hP hnum hct h h5 hn;refine(callsIn_wide (n:=3)).1 ?_;refine callsIn_of_wp_marks func148 rfl trivial ?_ rfl;simp only[ntmps148,List.size_toArray,List.length_cons,List.length_nil,Nat.reduceAdd,Nat.reduceSub,Array.replicate_succ,Array.replicate_zero,List.push_toArray,List.append_toArray,List.nil_append,List.cons_append];refine wpIn_wide.2 ?_;go_wp2_with fail;refine(hsh.o _).mono ?_;rintro e w1 ⟨⟨LA,cl,rfl,hown⟩,hn1⟩;have hg1:=hg.o.new hn1;have hN1:=hN.o.next hn1;have hz1:w.heap.size+6<=w1.heap.size:=by have:=hn1.size;simpa using this
 obtain⟨bcs,hbcs⟩:∃bcs:Array Value,bcs=#[.slice LA num cl,.int .i64 pa,.int .i64 Lg]:=⟨_,rfl⟩;obtain⟨cb,hcb⟩:∃cb,Hid (cb=w.heap.size):=⟨_,rfl⟩;have hA:GA w n s0 s1 s2 s3 (some ⟨pb,po,none⟩) num c w1.heap.size cb (w1.heap.size+1+1+1) (w1.heap.size+1) (w1.heap.size+1+1) bcs LA num cl dr pa ad (G_ pa ct wd) [] [] (.slice none 0 0) (.slice none 0 0)
   (((w1.alloc (.cells #[.slice LA num cl,.int .i64 pa,.int .i64 Lg] 297)).alloc (.cells #[.slice none 0 0] 27)).alloc (.cells #[.slice none 0 0] 27)):=by
  have hNN:=(((New.refl w1).alloc (.cells #[.slice LA num cl,.int .i64 pa,.int .i64 Lg] 297)).alloc (.cells #[.slice none 0 0] 27)).alloc (.cells #[.slice none 0 0] 27);refine⟨hN1.next hNN,hg1.new hNN,?_,⟨?_,?_,World.ownsRow_nil _ _ _ _,World.ownsRow_nil _ _ _ _,.inl rfl,by omega,by omega⟩,(c_ hown hNN).mono (by rw[hcb.o];simp;omega),by omega⟩
  ·rw[hbcs]
   exact((Blk.fresh w1 _ _).alloc _).alloc _
  ·have:=Boxed.new (w1.alloc (.cells #[.slice LA num cl,.int .i64 pa,.int .i64 Lg] 297)) 27 (.slice none 0 0)
   simp only[World.size_alloc]at this;exact this.alloc _
  ·have:=Boxed.new ((w1.alloc (.cells #[.slice LA num cl,.int .i64 pa,.int .i64 Lg] 297)).alloc (.cells #[.slice none 0 0] 27)) 27 (.slice none 0 0)
   simp only[World.size_alloc]at this;exact this
 replace hA:=Hd hA;have c1:=(hg1.q1.alloc (.cells #[.slice LA num cl,.int .i64 pa,.int .i64 Lg] 297)).cell;have hbcs0:=Hd hbcs;obtain⟨W3,hW3⟩:∃W3,W3=(((w1.alloc (.cells #[.slice LA num cl,.int .i64 pa,.int .i64 Lg] 297)).alloc (.cells #[.slice none 0 0] 27)).alloc (.cells #[.slice none 0 0] 27)):=⟨_,rfl⟩;rw[<-hW3]at hA;have c3:=hA.o.g0.q1.cell;have c3':(((w1.alloc (.cells #[.slice LA num cl,.int .i64 pa,.int .i64 Lg] 297)).alloc (.cells #[.slice none 0 0] 27)).alloc (.cells #[.slice none 0 0] 27)).cell? ⟨w.heap.size+1,0,none⟩=some (.slice (some ⟨pb,po,none⟩) num c):=by rw[<-hW3];exact c3
 clear hn1 hg hN hsh hown hg1 hN1 hbcs;go_wp2_with fail;rw[<-hW3];clear hW3 c1 c3';generalize hbase:w1.heap.size+1+1+1=base at hA ⊢;generalize hkb:w1.heap.size+1+1=kb at hA ⊢;generalize hlb:w1.heap.size+1=lb at hA ⊢;generalize hbb:w1.heap.size=bb at hA hz1 hlb hkb hbase ⊢;clear c3;go_loopw [47] (fun x wr=>∃(i:Nat) (lv kv:Value),x=.int .i64 i/\i<=num/\Hid (GA w n s0 s1 s2 s3 (some ⟨pb,po,none⟩) num c bb cb base lb kb bcs LA num cl dr pa ad (G_ pa ct wd) (S_ Ls i) (d_p Ls i) lv kv wr)) (fun x _=>num-(intOf x).toNat);case atStart=>exact⟨0,_,_,rfl,by omega,hA⟩
 case round=>
  clear hA;obtain⟨i,lv,kv,rfl,hi,hA⟩:=hrel
  by_cases hlt:i<num
  ·have e0:wr.cell? ⟨pb,po+i*2,none⟩=some (.bool (Ls i)):=(hA.o.nw.cell hpb).trans (hpc.o i hlt).1
   have e1:wr.cell? ⟨pb,po+i*2+1,none⟩=some (.slice (R i) (L i) (C i)):=(hA.o.nw.cell hpb).trans (hpc.o i hlt).2;have hbs:base<=wr.heap.size:=by have:=hA.o.gl.bk.lt;omega
   have hlk:=k_X (Ls:=Ls) i;cases hl:Ls i with
   |true=>
    rw[hl]at e0;obtain⟨y1,y2⟩:=j_r hl;have hA1:=hA.o.new ((New.refl wr).alloc (.cells #[.bool true,.slice (R i) (L i) (C i)] 205));have hown1:=hA1.gl.ol;have e2:=hA1.gl.bl.cell;replace hA1:=Hd hA1;obtain⟨lo,hlo⟩:∃lo,Hid (lo=S_ Ls i):=⟨_,rfl⟩;rw[<-hlo.o]at hown1 hA1 y1 hlk;have y12:=Hd (And.intro y1 y2);clear y1 y2;go_wp2_with (at_builtin;refine wpList_append_lies _ rfl _ _ 27 rfl base 3 i1 _ 1 8 underlying27 hj0 hy0 hy1 hy2 rfl (by decide) lv lo.length (lo.map comb.b_9) rfl (hown1.alloc _) ⟨wr.heap.size+1,0,none⟩ 1 1 [.int .i64 i] rfl rfl (World.news_of_block (cs:=#[.int .i64 _]) (t:=3) (fr:=(0,0)) (by simpa using heap_alloc_new (wr.alloc (.cells #[.bool true,.slice (R i) (L i) (C i)] 205)) _)) (by simp[Value.oneCell']) (by omega) (by unfold maxLen;omega) (by omega) (by simp;omega) _ rfl ?_;intro g cap w6 hown6 hgr6 hat6 hlt6;have f1:=(hA1.o.lbox hgr6).cell;have f2:=(hA1.o.lbox hgr6).frozen;have hfin:=Hd (hA1.o.lost hown6 hgr6 (hat6.imp id fun h=>by rw[h];simp));clear hown6 hgr6 hat6)
    go_roundw;case rel=>exact⟨i+1,_,kv,by go_num,by omega,by rw[y12.o.1,y12.o.2];exact hfin⟩
    case measure=>simp[intOf];omega
   |false=>
    rw[hl]at e0;obtain⟨y1,y2⟩:=m_r hl;have hA1:=hA.o.new ((New.refl wr).alloc (.cells #[.bool false,.slice (R i) (L i) (C i)] 205));obtain⟨wp,hwp⟩:∃wp,wp=wr.alloc (.cells #[.bool false,.slice (R i) (L i) (C i)] 205):=⟨_,rfl⟩;have k0:wp.cell? ⟨wr.heap.size,1,none⟩=some (.slice (R i) (L i) (C i)):=by rw[hwp];exact(Blk.fresh wr 205 _).cell 1
    rw[<-hwp]at hA1;have k1:=hA1.bk.cell 0;have k2:=hA1.bk.cell 1;have k3:=hA1.bk.cell 2;rw[hbcs0.o]at k1 k2 k3;simp at k1 k2 k3;have k0':=t_.keep k0;have k1':=t_.keep k1;have k2':=t_.keep k2;have k3':=t_.keep k3;obtain⟨sz,hsz⟩:∃sz,Hid (sz=128*G_ pa ct wd i):=⟨_,rfl⟩;have hszc:Hid (∀w',New wp w'->Calls prog 168 #[.agg #[.slice LA num cl,.int .i64 pa,.int .i64 Lg],.int .i64 i] w' fun e w''=>e=.returned (.int .i64 (sz:Nat))/\New w' w''):=fun w' hn=>by
     rw[hsz.o];exact size_any LA num cl cb dr pa ad i Lg pa _ w' (c_ hA1.col hn) hlt hn8 (by have:=d_5 (pa:=pa) (ct:=ct) h6 hc1 h3 i;omega)
    have hA1H:=Hd hA1;clear k0 k1 k2 k3 hA1;go_wp2_with fail;rw[<-hwp];clear hwp
    (refine d_ (by kernel_rfl) (by kernel_rfl) ?_;(repeat (first|go_big_quiet_step (first|(go_at_call 168;exact t_.call _ (hszc.o _ (t_.is _))))|quiet_step (first|(go_at_call 168;exact t_.call _ (hszc.o _ (t_.is _))))));refine wpQuiet_nil ?_;rintro W2 ⟨⟨_,hn_W2⟩,rfl⟩)
    have hA2:=hA1H.o.new hn_W2;have hb:L i=sz:=by rw[hsz.o];exact hlen.o i hlt hl
    ·have hne:((L i:Int) != (sz:Int))=false:=by rw[hb];simp
     have hown1:=hA2.gl.ok;have e3:=hA2.gl.bk.cell;have hbs2:base<=W2.heap.size:=by have:=hA2.gl.bk.lt;omega
     replace hA2:=Hd hA2;obtain⟨ke,hke⟩:∃ke,Hid (ke=d_p Ls i):=⟨_,rfl⟩;rw[<-hke.o]at hown1 hA2 y2 hlk;have y12:=Hd (And.intro y1 y2);clear y1 y2;go_wp2_with (at_builtin;refine wpList_append_lies _ rfl _ _ 27 rfl base 3 i1 _ 1 8 underlying27 hj0 hy0 hy1 hy2 rfl (by decide) kv ke.length (ke.map comb.b_9) rfl (hown1.alloc _) ⟨W2.heap.size,0,none⟩ 1 1 [.int .i64 i] rfl rfl (World.news_of_block (cs:=#[.int .i64 _]) (t:=3) (fr:=(0,0)) (heap_alloc_new W2 _)) (by simp[Value.oneCell']) (by omega) (by unfold maxLen;omega) (by omega) (by simp;omega) _ rfl ?_;intro g cap w6 hown6 hgr6 hat6 hlt6;have f1:=(hA2.o.kbox hgr6).cell;have f2:=(hA2.o.kbox hgr6).frozen;have hfin:=Hd (hA2.o.kept hown6 hgr6 (hat6.imp id fun h=>by rw[h];simp));clear hown6 hgr6 hat6)
     go_roundw;case rel=>exact⟨i+1,lv,_,by go_num,by omega,by rw[y12.o.1,y12.o.2];exact hfin⟩
     case measure=>simp[intOf];omega
  ·have hin:num=i:=by omega
   subst hin;obtain⟨lo,hlo⟩:∃lo,Hid (lo=S_ Ls num):=⟨_,rfl⟩;obtain⟨ke,hke⟩:∃ke,Hid (ke=d_p Ls num):=⟨_,rfl⟩;have hlk:=k_X (Ls:=Ls) num;rw[<-hlo.o,<-hke.o]at hA hlk;have e2:=hA.o.gl.bl.cell;obtain⟨LA2,lc,rfl,hlc,_⟩:=h_ hA.o.gl.ol;obtain⟨KA2,kc,rfl,hkc,_⟩:=h_ hA.o.gl.ok;have hgt:¬pa<lo.length:=by rw[hlo.o];omega
   have hsum:Hid (a_f (fun k=>(dtL num pa ct wd L D lo).getD k 0) (128*ct/4) (0,0,0,0)=(s0,s1,s2,s3)):=by rw[hlo.o];exact hsum
   have hsp:Hid ((hfL (goG num pa lo) (dcN ct wd)).length=0\/dcN ct wd=1):=by rw[hlo.o];exact hsp
   ·have hle:¬(pa:Int)<(lo.length:Int):=by omega
    have hA0:=hA;go_wp2_with fail;refine wp_loop (fun a w'=>∃(ds:List Deferred) (k:Nat) (Ds:List Nat) (us:Nat->Value),us=(fun k=>a.tmps.getD k undef)/\(ds=s_w Ds/\Hid (k=0)/\Hid (Ds=[])/\Hid (GA w n s0 s1 s2 s3 (some ⟨pb,po,none⟩) num c bb cb base lb kb bcs LA num cl dr pa ad (G_ pa ct wd) lo ke (.slice LA2 lo.length lc) (.slice KA2 ke.length kc) w')/\Hid (a_I w.heap.size Ds w'))
     /\ a={tmps:=#[.int .i64 dr,.int .i64 pa,.int .i64 ad,.int .i64 n,.slice (some ⟨pb,po,none⟩) num c,c_Y s0 s1 s2 s3,undef,undef,undef,.pointer (some ⟨w.heap.size,0,none⟩),.pointer (some ⟨w.heap.size+1,0,none⟩),.pointer (some ⟨w.heap.size+1+1,0,none⟩),.pointer (some ⟨w.heap.size+1+1+1,0,none⟩),.pointer (some ⟨w.heap.size+1+1+1+1,0,none⟩),.pointer (some ⟨w.heap.size+1+1+1+1+1,0,none⟩),.pointer (some ⟨bb,0,none⟩),.int .i64 0,.pointer (some ⟨lb,0,none⟩),.pointer (some ⟨kb,0,none⟩),u19,u20,.int .i64 k,us 22,us 23,us 24,us 25,us 26,us 27,.tuple #[.agg #[.slice LA num cl,.int .i64 pa,.int .i64 Lg],.int .i64 0],.int .i64 dr,.int .i64 pa,.int .i64 ad,.int .i64 n,.tuple #[.agg #[.slice LA num cl,.int .i64 pa,.int .i64 Lg],.int .i64 0],.agg #[.slice LA num cl,.int .i64 pa,.int .i64 Lg],.int .i64 0,.int .i64 0,.bool false,undef,.slice (some ⟨pb,po,none⟩) num c,.int .i64 num,.pointer (some ⟨bb,0,none⟩),.slice LA num cl,.int .i64 num,.bool false,.slice (some ⟨pb,po,none⟩) num c,.int .i64 num,.int .i64 num,.bool false,u49,u50,u51,u52,u53,u54,u55,u56,u57,u58,u59,u60,u61,u62,u63,u64,u65,u66,u67,u68,u69,.slice LA2 lo.length lc,.int .i64 lo.length,.int .i64 pa,.bool false,us 74,us 75,us 76,us 77,us 78,us 79,us 80,us 81,us 82,us 83,us 84,us 85,us 86,us 87,us 88,us 89,us 90,us 91,us 92,us 93,us 94,us 95,us 96,us 97,us 98,us 99,us 100,us 101,us 102,us 103,us 104,us 105,us 106,us 107,us 108,us 109,us 110,us 111,us 112,us 113,us 114,us 115,us 116,us 117,us 118,us 119,us 120,us 121,us 122,us 123,us 124,us 125,us 126,us 127],defers:=ds}) (fun a _=>pa+1-(intOf (a.tmps.getD 21 undef)).toNat) ?start ?round
    case start=>exact⟨_,0,[],_,rfl,⟨rfl,rfl,rfl,hA0,a_I.nil _ _⟩,rfl⟩
    case round=>
     clear hA hA0 e2;rintro a wr ⟨ds,k,Ds,us,-,⟨rfl,hk,hDs,hA,hT⟩,rfl⟩;have e2:=hA.o.gl.bl.cell;have e3:=hA.o.gl.bk.cell;have hKA:=Hd hA.o.gl.ok;have hLA:=Hd hA.o.gl.ol;have hca:k<=pa-lo.length:=by have:=hk.o;omega
     have hcb:k<=ke.length:=by have:=hk.o;omega
     ·have hca1:(k:Int)<=(pa:Int)-(lo.length:Int):=by omega
      have hcb1:(k:Int)<=(ke.length:Int):=by omega
      go_wp2_with fail;refine(comb.q_R _ _ _).mono ?_;rintro e w1 ⟨rfl,rfl⟩;go_wp2_with fail;have hke12:ke.length<=12:=by omega
      obtain⟨Wl,hWl⟩:∃Wl,Wl=(wr.alloc (.cells #[.int .i64 ke.length] 3)).alloc (.cells #[.int .i64 k] 3):=⟨_,rfl⟩;have hnl:New wr Wl:=by rw[hWl];exact((New.refl wr).alloc _).alloc _
      have hsl:Wl.heap.size=wr.heap.size+2:=by rw[hWl];simp
      have hbn:Boxed Wl wr.heap.size 3 (.int .i64 ke.length):=by rw[hWl];exact(Boxed.new wr _ _).alloc _
      have hbk:Boxed Wl (wr.heap.size+1) 3 (.int .i64 k):=by
       rw[hWl];have:=Boxed.new (wr.alloc (.cells #[.int .i64 ke.length] 3)) 3 (.int .i64 k);simpa using this
      rw[<-hWl];have hst:=comb.l_h (m:=3) ke.length k wr.heap.size (wr.heap.size+1) Wl hke12 hcb hk.o hbn hbk;have hAl:=Hd (hA.o.new hnl);have hTl:=Hd (hT.o.new hnl);have hDl:Hid (∀D∈Ds,D<Wl.heap.size):=fun D hD=>hTl.o.lt hD;have hbl0:=hA.o.gl.bl.lt;have hsz0:=hA.o.sz;clear e2 e3 hWl hA hT;have hw6:w.heap.size+6<=wr.heap.size:=by omega
      have hb6:w.heap.size+6<=Wl.heap.size:=by have:=hAl.o.gl.bl.lt;have:=hAl.o.sz;omega
      have hKn:Hid (∀lo' hi' X Y,each2.Held (comb.Kn (Wl.heap.size-2) (Wl.heap.size-2+1)) lo' hi' X Y->each2.Held (comb.Kn wr.heap.size (wr.heap.size+1)) lo' hi' X Y):=fun lo' hi' X Y h=>by
       rw[hsl,show wr.heap.size+2-2=wr.heap.size by omega]at h
       exact h
      refine(wpIn_wide (n:=3)).1 ?_;refine each2.d_7 (gf:=218) (lb:=comb.i_E wr.heap.size (wr.heap.size+1)) rfl (enters_of func218 (by kernel_rfl) rfl) hst (Below.refl _ _) (fun k hk=>by rcases hk with rfl|rfl<;>omega) (fun B x vs W ⟨v,e,_⟩=>by rw[e];rfl)
       (fun pre W=>New Wl W/\pre=[])
       (fun cd pre W=>cd=.ret /\
        GX w (Wl.heap.size+2+4) n (w.heap.size+1+1+1) (w.heap.size+1+1+1+1) (w.heap.size+1+1+1+1+1) (dtL num pa ct wd L D lo) [] Ds W)
       ?bears ?xbears ?first (fun x' a' W'=>∃v,a'={tmps:=#[.int .i64 dr,.int .i64 pa,.int .i64 ad,.int .i64 n,.slice (some ⟨pb,po,none⟩) num c,c_Y s0 s1 s2 s3,undef,undef,undef,.pointer (some ⟨w.heap.size,0,none⟩),.pointer (some ⟨w.heap.size+1,0,none⟩),.pointer (some ⟨w.heap.size+1+1,0,none⟩),.pointer (some ⟨w.heap.size+1+1+1,0,none⟩),.pointer (some ⟨w.heap.size+1+1+1+1,0,none⟩),.pointer (some ⟨w.heap.size+1+1+1+1+1,0,none⟩),.pointer (some ⟨bb,0,none⟩),.int .i64 0,.pointer (some ⟨lb,0,none⟩),.pointer (some ⟨kb,0,none⟩),u19,u20,.int .i64 k,v,us 23,us 24,us 25,us 26,us 27,.tuple #[.agg #[.slice LA num cl,.int .i64 pa,.int .i64 Lg],.int .i64 0],.int .i64 dr,.int .i64 pa,.int .i64 ad,.int .i64 n,.tuple #[.agg #[.slice LA num cl,.int .i64 pa,.int .i64 Lg],.int .i64 0],.agg #[.slice LA num cl,.int .i64 pa,.int .i64 Lg],.int .i64 0,.int .i64 0,.bool false,undef,.slice (some ⟨pb,po,none⟩) num c,.int .i64 num,.pointer (some ⟨bb,0,none⟩),.slice LA num cl,.int .i64 num,.bool false,.slice (some ⟨pb,po,none⟩) num c,.int .i64 num,.int .i64 num,.bool false,u49,u50,u51,u52,u53,u54,u55,u56,u57,u58,u59,u60,u61,u62,u63,u64,u65,u66,u67,u68,u69,.slice LA2 lo.length lc,.int .i64 lo.length,.int .i64 pa,.bool false,.int .i64 k,.int .i64 pa,.slice LA2 lo.length lc,.int .i64 lo.length,.int .i64 (pa-lo.length),.bool true,.bool true,.int .i64 k,.slice KA2 ke.length kc,.int .i64 ke.length,.bool true,.bool true,us 86,us 87,.slice KA2 ke.length kc,.int .i64 ke.length,.int .i64 k,.func (.func 218) #[] (comb.i_E wr.heap.size (wr.heap.size+1)),v,us 93,us 94,us 95,us 96,us 97,us 98,us 99,us 100,us 101,us 102,us 103,us 104,us 105,us 106,us 107,us 108,us 109,us 110,us 111,us 112,us 113,us 114,us 115,us 116,us 117,us 118,us 119,us 120,us 121,us 122,us 123,us 124,us 125,us 126,us 127],defers:=[]}/\comb.k_m (Wl.heap.size+2+4) x' v W') ?abears ?assign ?body ?done ?stop
      case bears=>
       rintro pre A B row ⟨h1,h2⟩ hg hr;exact⟨h1.grown hg fun r e=>(hr r e).1,h2⟩
      case xbears=>
       rintro cd pre A B row ⟨h1,h5⟩ hg hr;exact⟨h1,h5.kept hg hr (by omega) (by omega) (by omega) (by omega) hDl.o⟩
      case first=>exact⟨New.refl _,rfl⟩
      case abears=>
       rintro x a' A B row ⟨v,h1,h2⟩ hg hr;exact⟨v,h1,comb.k_m.kept 0 _ _ _ _ _ row h2 hg fun r e=>by have:=hr r e;omega⟩
      case assign=>
       rintro l pre x vs W hz hI ⟨v,rfl,hv⟩ K hK;rw[comb.t_P];gi_wp2;exact hK _ _ ⟨v,rfl,hv⟩ hI (New.refl _)
      case body=>
       rintro l pre x a' W hsz ⟨hnw,hpre0⟩ hpre ⟨v,rfl,harg⟩;have hxm:x∈comb.c_v ke.length 0 k:=hpre.subset (by simp)
       have hxl:=comb.e_v _ _ _ x hxm;obtain rfl:x=[]:=List.length_eq_zero_iff.1 (hxl.trans hk.o);have hgood:Hid ((∀c∈lo,c<num)/\lo.Nodup):=by
        rw[hlo.o];exact⟨fun c hc=>(e_4.1 hc).1,g_f⟩
       have hAW:=Hd (hAl.o.new hnw);obtain⟨hi,hhi⟩:∃hi,hi=Wl.heap.size+2+4:=⟨_,rfl⟩;rw[<-hhi]at harg hsz;unfold comb.k_m at harg;rw[h_K,hxl]at harg;obtain⟨PP,pcc,rfl,hp1,hp2,hPP,_⟩:=h_ harg;have hPf:Hid ((PP=none/\k=0/\pcc=0)\/∃g,PP=some ⟨g,0,none⟩/\hi<=g/\g<W.heap.size):=by
        rcases harg.2 with⟨h0,h1⟩|⟨g',cap,cur,h0,hb,hgg,_⟩
        ·cases h0
         exact .inl ⟨rfl,h1,rfl⟩
        ·cases h0
         exact .inr ⟨g',rfl,hb,(harg.lt g' rfl).2⟩
       clear harg hPP;gi_wp2_with fail;gi_loopw [95] (fun cv wr'=>∃i:Nat,cv=.int .i64 i/\i<=k/\Hid (Below hi W wr')) (fun cv _=>k-(intOf cv).toNat);case atStart=>exact⟨0,rfl,by omega,Below.refl _ _⟩
       case round=>
        obtain⟨i,rfl,hik,hbel⟩:=hrel;have hWn:Hid (New Wl wr):=hnw.trans (hbel.o.mono (by omega))
        have hA2:=Hd (hAl.o.new hWn.o)
        ·have hin:k=i:=by have:=hk.o;omega
         subst hin;have hN6:=hbel.o.size;have hlk':lo.length+k<=pa:=by omega
         have hPk:Hid ((PP=none/\k=0/\pcc=0)\/∃b off,PP=some ⟨b,off,none⟩):=hPf.o.imp id fun⟨g',h1,_⟩=>⟨g',0,h1⟩;have hcl:Hid (∀w',New wr w'->Calls prog 176 #[.slice LA2 lo.length lc] w' fun e w''=>∃v',e=.returned v'/\w''.ownsRow w'.heap.size 3 1 v' lo.length (lo.map comb.b_9)/\New w' w''):=fun w' hn=>
          o_m _ lo base w' (c_ hA2.o.gl.ol hn) (by omega)
         have hda:Hid (∀w' v base',New wr w'->w'.ownsRow base' 3 1 v (lo.length+k) (lo.map comb.b_9++[].map comb.b_9) ->
               Calls prog 175 #[.agg #[.slice LA num cl,.int .i64 pa,.int .i64 Lg],.slice (some ⟨pb,po,none⟩) num c,v] w' (dtP ct (dtL num pa ct wd L D lo) w')):=fun w' v base' hn ho=>by
          rw[List.map_nil,List.append_nil,hk.o,Nat.add_zero,h_K]at ho;obtain⟨A,cc,rfl,_,_,hR⟩:=j_d ho;exact q_n LA (some ⟨pb,po,none⟩) A num cl dr pa ad ct wd Lg c cc cb Ls R L C D lo w' h3 h4 hnH.o h6 hc1 hc2 hn8 hdc hLg.o (c_ hA2.o.col hn) (hPH.o.new (hA2.o.nw.next hn)) hR hgood.o.1 hgood.o.2 (by omega) hsp.o
         have hld:Hid (∀w',New wr w'->w'.cell? ⟨bb,0,none⟩=some (.slice LA num cl)/\w'.cell? ⟨bb,1,none⟩=some (.int .i64 pa)/\w'.cell? ⟨bb,2,none⟩=some (.int .i64 Lg)/\w'.cell? ⟨w.heap.size+1,0,none⟩=some (.slice (some ⟨pb,po,none⟩) num c)/\w'.cell? ⟨lb,0,none⟩=some (.slice LA2 lo.length lc)):=fun w' hn=>by
          have hh:=hA2.o.new hn;have y0:=hh.bk.cell 0;have y1:=hh.bk.cell 1;have y2:=hh.bk.cell 2;rw[hbcs0.o]at y0 y1 y2;simp at y0 y1 y2;exact⟨y0,y1,y2,hh.g0.q1.cell,hh.gl.bl.cell⟩
         obtain⟨m0,m1,m2,m3,m4⟩:=hld.o wr (New.refl _);obtain⟨XL,hXL⟩:∃XL,Hid (XL=dtL num pa ct wd L D lo):=⟨_,rfl⟩;have hsum:Hid (a_f (fun k=>XL.getD k 0) (128*ct/4) (0,0,0,0)=(s0,s1,s2,s3)):=by rw[hXL.o];exact hsum
         rw[<-hXL.o]at hda;have hpre0H:=Hd hpre0;clear hpre0 hxm hpre;gi_wp2_with fail;refine o_v (fun a a' w'=>∃v1 v2 A3 c3,a'={tmps:=(((((((a.tmps.setIfInBounds 108 (.agg #[.slice LA num cl,.int .i64 pa,.int .i64 Lg])).setIfInBounds 109 (.slice (some ⟨pb,po,none⟩) num c)).setIfInBounds 110 (.slice LA2 lo.length lc)).setIfInBounds 111 v1).setIfInBounds 112 (.slice PP k pcc)).setIfInBounds 113 v2).setIfInBounds 114 (.slice A3 (128*ct) c3)).setIfInBounds 25 (.slice A3 (128*ct) c3),defers:=a.defers} /\
          (128*ct<=c3/\c3<=maxLen/\RdI .u8 w' A3 (128*ct) (fun k=>(XL.getD k 0:Nat))/\(∀a,A3=some a->wr.heap.size<=a.block)/\New wr w')) ?reg ?rest
         case reg=>
          refine i_c (fun w'=>w'.cell? ⟨bb,0,none⟩=some (.slice LA num cl)/\w'.cell? ⟨bb,1,none⟩=some (.int .i64 pa)/\w'.cell? ⟨bb,2,none⟩=some (.int .i64 Lg)/\w'.cell? ⟨w.heap.size+1,0,none⟩=some (.slice (some ⟨pb,po,none⟩) num c)/\w'.cell? ⟨lb,0,none⟩=some (.slice LA2 lo.length lc))
               (by kernel_rfl) (by kernel_rfl) (by rintro⟨a,w',h,_⟩;cases h) (hld.o _ (New.refl wr).drew) (fun hHeld=>?_)
          refine wpAnyH_take (i:=0) (v := ?_) rfl (by kernel_rfl) (by kernel_rfl) (by kernel_rfl) (fun _ _ _ h=>by cases h.1) (Or.inl ⟨by rfl,?_⟩) hHeld ?_
          rotate_left
          ·    intro w' hSw
               obtain⟨y0,y1,y2,y3,y4⟩:=hSw;go_simp
               first|done|with_reducible rfl
          try simp only[Act.put,List.setIfInBounds_toArray,List.set_cons_zero,List.set_cons_succ]
          refine wpAnyH_take (i:=1) (v := ?_) rfl (by kernel_rfl) (by kernel_rfl) (by kernel_rfl) (fun _ _ _ h=>by cases h.1) (Or.inl ⟨by rfl,?_⟩) hHeld ?_
          rotate_left
          ·    intro w' hSw
               obtain⟨y0,y1,y2,y3,y4⟩:=hSw;go_simp
               first|done|with_reducible rfl
          try simp only[Act.put]
          refine wpAnyH_take (i:=2) (v := ?_) rfl (by kernel_rfl) (by kernel_rfl) (by kernel_rfl) (fun _ _ _ h=>by cases h.1) (Or.inl ⟨by rfl,?_⟩) hHeld ?_
          rotate_left
          ·    intro w' hSw
               obtain⟨y0,y1,y2,y3,y4⟩:=hSw;go_simp
               first|done|with_reducible rfl
          try simp only[Act.put]
          refine wpAnyH_take (i:=4) (v := ?_) rfl (by kernel_rfl) (by kernel_rfl) (by kernel_rfl) (fun _ _ _ h=>by cases h.1) (Or.inl ⟨by rfl,?_⟩) hHeld ?_
          rotate_left
          ·    intro w' hSw
               obtain⟨y0,y1,y2,y3,y4⟩:=hSw;go_simp
               first|done|with_reducible rfl
          try simp only[Act.put]
          refine wpAnyH_ready (rs:=[3]) (by kernel_rfl) (by simp) ?_
          refine AllReadyH.cons rfl (fun K hK=>?_) AllReadyH.nil;rw[if_pos (by rfl)]
          go_simp;go_at_call 176;refine(hcl.o _ (New.refl wr).drew).mono ?_;rintro e w1 ⟨v1,rfl,hown1,hn1⟩;have hN1:New wr w1:=New.next (New.refl wr).drew hn1;obtain⟨v2,w2,hrun2,hown2,hg2⟩:=k_9 wr.heap.size v1 lo.length (lo.map comb.b_9) hown1 PP k pcc [] hk.o.symm (hPk.o.imp id fun⟨b,off,h⟩=>⟨b,off,h,fun i hi=>absurd hi (by rw[hk.o];exact Nat.not_lt_zero i)⟩) (by omega) hN1.size
          have hN2:New wr w2:=hN1.grown hg2 (fun r e=>(hown1.lt r e).1);refine hK.out _ _ (hld.o w1 hN1) (fun hHeld=>?_);clear hK K
          try simp only[Act.put,List.setIfInBounds_toArray,List.set_cons_zero,List.set_cons_succ]
          refine wpAnyH_ready (rs:=[5]) (by kernel_rfl) (by simp) ?_
          refine AllReadyH.cons rfl (fun K hK=>?_) AllReadyH.nil;rw[if_pos (by rfl)]
          refine g_R (.tmp 111) (.tmp 112) 27 rfl v1 (.slice PP k pcc) rfl rfl hrun2 ?_;refine hK.out _ _ (hld.o w2 hN2) (fun hHeld=>?_);clear hK K
          try simp only[Act.put,List.setIfInBounds_toArray]
          refine wpAnyH_ready (rs:=[6]) (by kernel_rfl) (by simp) ?_
          refine AllReadyH.cons rfl (fun K hK=>?_) AllReadyH.nil;rw[if_pos (by rfl)]
          go_simp;go_at_call 175;refine(hda.o _ v2 _ hN2 hown2).mono ?_;rintro e w3 ⟨⟨A3,c3,rfl,hr3⟩,hn3⟩;have hN3:New wr w3:=hN2.next hn3;refine hK.out _ _ (hld.o w3 hN3) (fun hHeld=>?_);clear hK K
          try simp only[Act.put,List.setIfInBounds_toArray,List.set_cons_zero,List.set_cons_succ]
          refine wpAnyH_take (i:=7) (v := ?_) rfl (by kernel_rfl) (by kernel_rfl) (by kernel_rfl) (fun _ _ _ h=>by cases h.1) (Or.inl ⟨by rfl,?_⟩) hHeld ?_
          rotate_left
          ·    intro w' hSw
               go_simp
               first|done|with_reducible rfl
          try simp only[Act.put,List.setIfInBounds_toArray]
          refine wpAnyH_done (by kernel_rfl) ?_ _
          refine⟨rfl,v1,v2,A3,c3,?_,hr3.1,hr3.2.1,hr3.2.2.1,fun a ha=>Nat.le_trans hN2.size (hr3.2.2.2 a ha),hN3⟩;rfl
         case rest=>
          rintro a' w3 ⟨v1,v2,A3,c3,rfl,r1,r2,r3,r4,hN3⟩;simp only[List.setIfInBounds_toArray,List.set_cons_zero,List.set_cons_succ];have hof:Hid (Calls prog 79 #[.slice A3 (128*ct) c3] w3 fun e w'=>e=.returned (.tuple #[p_Z (a_f (fun k=>XL.getD k 0) (128*ct/4) (0,0,0,0)),.int .i64 0])/\New w3 w'):=by
               refine n_6 A3 (128*ct) c3 (fun k=>XL.getD k 0) w3 ⟨r3.1,fun i hi=>?_,r3.2⟩ r1 (by omega)
               have hall:∀y∈XL,y<256:=by
                rw[hXL.o];exact m_Y (fun i k=>k_I _ _ _ _ _ _) _ _
               show XL.getD i 0<256;rcases Nat.lt_or_ge i XL.length with h|h
               ·rw[show XL.getD i 0=XL[i] by simp[List.getD,h]]
                exact hall _ (List.getElem_mem h)
               ·rw[show XL.getD i 0=0 by simp[List.getD,h]]
                omega
          have hr3:=Hd (And.intro r1 (And.intro r2 (And.intro r3 r4)));rw[hsum.o]at hof;clear m0 m1 m2 m3 m4 r1 r2 r3 r4;gi_wp2_with fail;refine⟨trivial,(CallsIn.inRound l (callsIn_wide.2 hof.o)).mono ?_⟩;rintro e w4 ⟨rfl,hn4⟩;have hN4:=hN3.next hn4;have hA4:=Hd (hA2.o.new hN4);obtain⟨W5,hW5⟩:∃W5,W5=w4.alloc (.cells #[.int .i64 s0,.int .i64 s1,.int .i64 s2,.int .i64 s3] 105):=⟨_,rfl⟩;have hN5:New wr W5:=by rw[hW5];exact hN4.alloc _
          have hA5:=hA2.o.new hN5;have hnw5:Hid (New w W5):=hA5.nw;have u0:=hA5.g0.q2.cell 0;have u1:=hA5.g0.q2.cell 1;have u2:=hA5.g0.q2.cell 2;have u3:=hA5.g0.q2.cell 3;have v0:=hA5.g0.q0.cell;have v3:=hA5.g0.q3.cell;have v4:=hA5.g0.q4.cell;have v5:=hA5.g0.q5.cell;have z3:=hA5.g0.q3.frozen;have z4:=hA5.g0.q4.frozen;have z5:=hA5.g0.q5.frozen;have bxs:=Hd (And.intro hA5.g0.q3 (And.intro hA5.g0.q4 hA5.g0.q5));simp at u0 u1 u2 u3;have hB5:Hid (Below hi W W5):=hbel.o.trans (hN5.mono (by omega))
          have hT5:Hid (a_I w.heap.size Ds W5):=hTl.o.new (hWn.o.next hN5);have hX5:Hid (RdI .u8 W5 A3 (128*ct) (fun k=>(XL.getD k 0:Nat))):=by
               have:New w3 W5:=by rw[hW5];exact hn4.alloc _
               exact hr3.o.2.2.1.new this
          rw[hW5]at u0 u1 u2 u3 v0 v3 v4 v5 z3 z4 z5;clear hA5;have hn0i:(0:Int)<=(n:Int):=by omega
          have hnc:(n:Int)<=(c3:Int):=by have:=hr3.o.1;omega
          have hR4:=Hd hr3.o.2.2.2;have hPa:Hid (∀a,PP=some a->hi<=a.block):=fun a ha=>by
               rcases hPf.o with⟨h1,_⟩|⟨g',h1,h2,_⟩
               ·rw[h1]at ha;cases ha
               ·rw[h1]at ha;cases ha;exact h2
          have hfin:Hid (∀W6,W6=(((W5.setCell ⟨w.heap.size+1+1+1,0,none⟩ (.slice A3 n n)).setCell ⟨w.heap.size+1+1+1+1,0,none⟩ (.slice PP k pcc)).setCell ⟨w.heap.size+1+1+1+1+1,0,none⟩ (.int .i64 0)) ->
                each2.Held (comb.Kn (Wl.heap.size-2) (Wl.heap.size-2+1)) Wl.heap.size (Wl.heap.size+2+4) W W6/\GX w (Wl.heap.size+2+4) n (w.heap.size+1+1+1) (w.heap.size+1+1+1+1) (w.heap.size+1+1+1+1+1) XL [] Ds W6):=fun W6 hW6=>by
               obtain⟨y3,y4,y5⟩:=bxs.o;have g1:=a_Z W5 (w.heap.size+1+1+1) (.slice A3 n n);have g2:=a_Z (W5.setCell ⟨w.heap.size+1+1+1,0,none⟩ (.slice A3 n n)) (w.heap.size+1+1+1+1) (.slice PP k pcc);have g3:=a_Z ((W5.setCell ⟨w.heap.size+1+1+1,0,none⟩ (.slice A3 n n)).setCell ⟨w.heap.size+1+1+1+1,0,none⟩ (.slice PP k pcc)) (w.heap.size+1+1+1+1+1) (.int .i64 0);rw[<-hW6]at g3;have hd:∀{b:Nat} {t:TypeId} {v:Value},Boxed W5 b t v->∀D∈Ds,some D≠some b:=fun {b t v} hb D hD e=>by
                cases e;have h1:=(hT5.o.2 b hD).2;rw[hb]at h1;cases h1
               have hlw:=hbel.o.size;refine⟨(((each2.Held.below hB5.o (fun k hk=>by rcases hk with rfl|rfl<;>omega) (by omega)).trans (each2.Held.grown g1 fun r e=>?_)).trans (each2.Held.grown g2 fun r e=>?_)).trans (each2.Held.grown g3 fun r e=>?_),?_⟩
               ·cases e;exact⟨fun h=>by rcases h with h|h<;>omega,by omega⟩
               ·cases e;exact⟨fun h=>by rcases h with h|h<;>omega,by omega⟩
               ·cases e;exact⟨fun h=>by rcases h with h|h<;>omega,by omega⟩
               ·have hXn:RdI .u8 W5 A3 n (fun k=>(XL.getD k 0:Nat)):=⟨by unfold maxLen;omega,fun h0=>by
                 obtain⟨b,off,k1,k2,k3⟩:=hX5.o.2 (by omega)
                 exact⟨b,off,k1,k2,fun i hi'=>k3 i (by omega)⟩⟩
                have hz:=hlw;refine⟨?_,((hT5.o.grown g1 (hd y3)).grown g2 (hd y4)).grown g3 (hd y5),⟨A3,((y3.set _).kept g2 (fun e=>by injection e;omega)).kept g3 (fun e=>by injection e;omega),?_,fun a ha=>by have:=hR4.o a ha;omega⟩,⟨PP,pcc,?_,?_,fun a ha=>by have:=hPa.o a ha;omega⟩,?_⟩
                ·rw[hW6]
                 exact((hnw5.o.set (by show w.heap.size<=w.heap.size+1+1+1;omega) _).set (by show w.heap.size<=w.heap.size+1+1+1+1;omega) _).set (by show w.heap.size<=w.heap.size+1+1+1+1+1;omega) _
                ·exact c_K (c_K (c_K hXn g1 hR4.o fun r e=>by cases e;omega) g2 hR4.o fun r e=>by cases e;omega) g3 hR4.o fun r e=>by cases e;omega
                ·rw[List.length_nil]
                 rw[<-hk.o];exact((y4.kept g1 (fun e=>by injection e;omega)).set _).kept g3 (fun e=>by injection e;omega)
                ·rw[List.length_nil]
                 exact⟨Nat.zero_le _,fun h=>absurd h (Nat.lt_irrefl 0)⟩
                ·rw[hW6]
                 exact((y5.kept g1 (fun e=>by injection e;omega)).kept g2 (fun e=>by injection e;omega)).set _
          clear bxs;gi_wp2_with fail;rw[<-hW5];obtain⟨q1,q2⟩:=hfin.o _ rfl;rw[hXL.o]at q2;exact⟨hKn.o _ _ _ _ q1,rfl,q2⟩
      case done=>
       rintro W ⟨hnw,hall⟩ hD;rw[hk.o,comb.d_A]at hall;cases hall
      case stop=>
       rintro cd pre W hpre ⟨rfl,h4⟩ hD;have hTk:=Hd (h4.tk.cons hD (by omega) (fun h=>by have:=hDl.o _ h;omega))
       obtain⟨A,a1,a2,a3⟩:=h4.x3;obtain⟨B,cB,d1,d2,d3⟩:=h4.x4;have d5:=h4.x5;have hz:w.heap.size<=W.heap.size:=h4.nw.size;have hfin:Hid (∀w',h_Y w.heap.size W w'->New w w'/\RdI .u8 w' A n (fun k=>((dtL num pa ct wd L D lo).getD k 0:Nat))/\RdI .i64 w' B 0 (atZ [])/\w'.cell? ⟨w.heap.size+1+1+1,0,none⟩=some (.slice A n n)/\w'.cell? ⟨w.heap.size+1+1+1+1,0,none⟩=some (.slice B 0 cB)/\w'.cell? ⟨w.heap.size+1+1+1+1+1,0,none⟩=some (.int .i64 0)):=fun w' hs=>
        ⟨h4.nw.trans hs.1,hs.rdI a2,hs.rdI d2,hs.cell a1.cell,hs.cell d1.cell,hs.cell d5.cell⟩
       clear h4 a1 a2 a3 d1 d2 d3 d5 hst hbn hbk hnl;refine wpIn_wide.2 ?_;dsimp only;go_wp2_with fail;refine e_5 (Wl.heap.size::Ds) _ hz hTk.o fun w' hs=>?_;obtain⟨g1,r1,r2,g3,g4,g5⟩:=hfin.o w' hs;exact⟨.tuple #[.slice A n n,.slice B 0 cB,.int .i64 0],by simp[results,results148,go_sem,g3,g4,g5],by rw[<-hlo.o];exact⟨⟨A,B,cB,rfl,r1,r2⟩,g1⟩⟩
end stripe
namespace vault
open geom stripe par mat fld comb flet
theorem r_8{G:Nat->Bool}{n p:Nat}{M:Nat->Nat->Int}{TM:Nat->Nat->Nat}{t:Nat}(hsp:(hfL G n).length=0\/n=1)(hp:n=1->G 0=true->∃j,j<p/\G (n+j)=false)(hM:∀k,k<n+p->G k=false->M k t=(TM k t:Nat))(hT:∀k,TM k t<256)
  (hpar:∀j,j<p->TM (n+j) t=enN j (fun i t=>(TM i t:Nat)) n t) {k:Nat} (hk:k<n):rbD G n p M k t=TM k t:=by
 have e0:∀k,k<n+p->G k=false->rb0 G M k t=TM k t:=fun k h1 h2=>by
  unfold rb0;rw[if_neg (by rw[h2];simp),hM k h1 h2,Int.toNat_natCast,Nat.mod_eq_of_lt (hT k)]
 cases hG:G k with
 |false=>
  have:rbD G n p M k=rb0 G M k:=d_1 fun q hq e=>by
   have:=(i_x.1 (get_mem hq)).2;rw[e,hG]at this;cases this
  rw[this];exact e0 k (by omega) hG
 |true=>
  have hn:n=1:=hsp.resolve_left fun h=>by
   have:=List.length_pos_of_mem (i_x.2 ⟨hk,hG⟩);omega
  subst hn;obtain rfl:k=0:=by omega
  have hh:hfL G 1=[0]:=by show(List.range 1).filter G=[0];simp[hG,List.range_succ]
  obtain⟨j,hj,hjG⟩:=hp rfl hG;have hu:=f_s.1 (get_mem (List.length_pos_of_mem (f_s.2 ⟨hj,hjG⟩)));obtain⟨u,hu0⟩:∃u,u=(pfL G 1 p).getD 0 0:=⟨_,rfl⟩;rw[<-hu0]at hu;have e1:rbD G 1 p M 0 t=b_W 1 (rb0 G M) (fun b=>(pfL G 1 p).getD b 0) 0 t:=by
   unfold rbD;rw[hh];show 0 ^^^ gf.mul 1 _=_;rw[gf.one_mul (b_W 1 _ _ 0 t) (gf.b_o (b_S _ _ _ _) (k_J _ _ _ _)),Nat.zero_xor]
  rw[e1];unfold b_W;show enN ((pfL G 1 p).getD 0 0) _ 1 t ^^^ rb0 G M (1+(pfL G 1 p).getD 0 0) t=_;rw[<-hu0,e0 _ (by omega) hu.2,hpar u hu.1]
  show(0 ^^^ gf.mul _ ((rb0 G M 0 t:Nat):Int).toNat) ^^^ (0 ^^^ gf.mul (fcN u 0) ((TM 0 t:Nat):Int).toNat)=_;have e2:rb0 G M 0 t=0:=by unfold rb0;rw[if_pos hG]
  rw[e2,Int.toNat_natCast,Int.toNat_natCast,gf.mul_zero,r_P,m_J,gf.one_mul _ (hT 0),Nat.zero_xor,Nat.zero_xor,Nat.zero_xor]
theorem f_M{B B':Nat->Nat}:∀{n:Nat} {s:Int×Int×Int×Int},(∀k,k<4*n->B k=B' k)->a_f B n s=a_f B' n s
 |0,_,_=>rfl
 |n+1,s,h=>by
  unfold a_f;rw[f_M fun k hk=>h k (by omega),h (4*n) (by omega),h (4*n+1) (by omega),h (4*n+2) (by omega),h (4*n+3) (by omega)]
section
variable {num pa ct wd len:Nat}{X:Nat->Nat}{Ls:Nat->Bool}{L:Nat->Nat}{D:Nat->Nat->Nat}
def f_I(X:Nat->Nat)(len pa ct wd i k:Nat):Nat:=if i<dcN ct wd then b_L X len pa ct wd i k else enN (i-dcN ct wd) (fun i k=>(b_L X len pa ct wd i k:Nat)) (dcN ct wd) k
theorem k_5(hw:1<=wd)(hc:1<=ct)(F:Nat->Nat->Nat):∀j,(∀i k,i<j->k<128*G_ pa ct wd (pa+i)->F i k=a_9 X len (atS ct wd i+k))->d_L F (fun i=>128*G_ pa ct wd (pa+i)) j=(List.range (atS ct wd j)).map (a_9 X len)
 |0,_=>by rw[i_M];rfl
 |j+1,h=>by
  unfold d_L;rw[k_5 hw hc F j fun i k hi hk=>h i k (by omega) hk,d_k (pa:=pa) hw hc j,List.range_add,List.map_append,List.map_map]
  congr 1;apply List.map_congr_left;intro k hk;exact h j k (by omega) (List.mem_range.1 hk)
theorem h_F(hsp:S_ Ls num=[]\/dcN ct wd=1):(hfL (goG num pa (S_ Ls num)) (dcN ct wd)).length=0\/dcN ct wd=1:=hsp.imp (fun h=>by
 rw[h,List.length_eq_zero_iff];refine List.filter_eq_nil_iff.2 fun k _=>?_;simp[goG]) id
theorem j_L(h5:num=pa+dcN ct wd)(p1:1<=pa)(p3:pa<=3)(h6:1<=wd)(hc1:1<=ct)(hc2:ct<=32)(h8:num<=8)(hX:∀k,X k<256)(hlost:(S_ Ls num).length<=pa)(hsp:S_ Ls num=[]\/dcN ct wd=1)
  (hL:∀c,c<num->Ls c=false->L c=128*G_ pa ct wd c) (hD:∀c,c<num->Ls c=false->∀k,k<128*G_ pa ct wd c->D c k=c_W X len pa ct wd c k) :
  dtL num pa ct wd L D (S_ Ls num)=(List.range (128*ct)).map (a_9 X len):=by
 have hd1:=e_M h6 hc1;have hd2:=h_M h6 hc1;unfold dtL;rw[show num-pa=dcN ct wd by omega,k_5 (X:=X) (len:=len) h6 hc1,l_y h6 hc1]
 intro i k hi hk;have hle:=d_5 (pa:=pa) h6 hc1 p1 (pa+i);have hk0:k<128*G_ pa ct wd 0:=by omega
 have hT:∀i,f_I X len pa ct wd i k<256:=fun i=>by
  unfold f_I;split
  ·exact j_s hX _ _ _ _ _ _
  ·exact b_S _ _ _ _
 have hM:∀q,q<dcN ct wd+pa->goG num pa (S_ Ls num) q=false->((stripe.mxF num pa L D q k:Nat):Int)=(f_I X len pa ct wd q k:Nat):=fun q hq hG=>by
  have hqn:q<num:=by omega
  have hcn:(q+pa)%num<num:=Nat.mod_lt _ (by omega)
  have hls:Ls ((q+pa)%num)=false:=by
   unfold goG at hG;rw[decide_eq_true hqn,Bool.true_and]at hG;cases hl:Ls ((q+pa)%num)with
   |false=>rfl
   |true=>
    have:=e_4.2 ⟨hcn,hl⟩;rw[List.contains_iff_mem.2 this]at hG;cases hG
  have e1:=hL _ hcn hls;have e2:=hD _ hcn hls;have e3:=i_O hqn (by omega:pa<=num)
  unfold stripe.mxF pcF;rw[e1];unfold f_I
  by_cases hqd:q<dcN ct wd
  ·rw[if_pos (by omega)]at e3
   rw[e3]at e2 ⊢;rw[if_pos hqd];unfold b_L;rw[Nat.add_comm pa q]
   by_cases hkc:k<128*G_ pa ct wd (q+pa)
   ·rw[if_pos hkc,if_pos hkc,e2 k hkc]
    unfold c_W;rw[if_neg (by omega),show q+pa-pa=q by omega]
   ·rw[if_neg hkc,if_neg hkc]
  ·rw[if_neg (by omega)]at e3
   rw[e3]at e2 ⊢;have hcp:=d_K h6 hc1 p1 (q+pa-num) (by omega)
   rw[if_neg hqd,hcp,if_pos hk0,e2 k (by rw[hcp];exact hk0)]
   unfold c_W;rw[if_pos (by omega),show q+pa-num=q-dcN ct wd by omega]
 have hp:dcN ct wd=1->goG num pa (S_ Ls num) 0=true->∃j,j<pa/\goG num pa (S_ Ls num) (dcN ct wd+j)=false:=fun h1 hg=>by
  obtain⟨c,hc,hcl⟩:∃c,c<num/\Ls c=false:=by
   rcases Classical.em (∃c,c<num/\Ls c=false)with h|h
   ·exact h
   ·have:S_ Ls num=List.range num:=List.filter_eq_self.2 fun c hc=>by
     cases hl:Ls c with
     |true=>rfl
     |false=>exact absurd ⟨c,List.mem_range.1 hc,hl⟩ h
    rw[this,List.length_range]at hlost;omega
  have hb:=e_2 hc (by omega:pa<=num)
  have hlt:(c+num-pa)%num<num:=Nat.mod_lt _ (by omega)
  have hf:goG num pa (S_ Ls num) ((c+num-pa)%num)=false:=by
   unfold goG;rw[hb,Bool.and_eq_false_iff];right;cases h:(S_ Ls num).contains c with
   |false=>rfl
   |true=>
    have:=(e_4.1 (List.contains_iff_mem.1 h)).2;rw[hcl]at this;cases this
  have hne:(c+num-pa)%num≠0:=fun e=>by rw[e,hg]at hf;cases hf
  exact⟨(c+num-pa)%num-1,by omega,by rw[h1,show 1+((c+num-pa)%num-1)=(c+num-pa)%num by omega];exact hf⟩
 have hsp:=h_F (num:=num) (pa:=pa) hsp;unfold rbF;rw[if_neg (by omega),r_8 (TM:=f_I X len pa ct wd) hsp hp hM hT (fun j hj=>?_) hi]
 ·unfold f_I b_L
  rw[if_pos hi,if_pos hk]
 ·unfold f_I
  rw[if_neg (by omega),show dcN ct wd+j-dcN ct wd=j by omega]
  refine e_K j fun q hq=>?_;rw[if_pos hq]
theorem n_U{s:Int×Int×Int×Int}(h5:num=pa+dcN ct wd)(p1:1<=pa)(p3:pa<=3)(h6:1<=wd)(hc1:1<=ct)(hc2:ct<=32)(h8:num<=8)(hX:∀k,X k<256)(hlost:(S_ Ls num).length<=pa)(hsp:S_ Ls num=[]\/dcN ct wd=1)
  (hL:∀c,c<num->Ls c=false->L c=128*G_ pa ct wd c) (hD:∀c,c<num->Ls c=false->∀k,k<128*G_ pa ct wd c->D c k=c_W X len pa ct wd c k) (hs:a_f (a_9 X len) (128*ct/4) (0,0,0,0)=s) :
  a_f (fun k=>(dtL num pa ct wd L D (S_ Ls num)).getD k 0) (128*ct/4) (0,0,0,0)=s:=by
 rw[j_L h5 p1 p3 h6 hc1 hc2 h8 hX hlost hsp hL hD];refine Eq.trans ?_ hs;refine f_M fun k hk=>?_;have hk2:k<128*ct:=by omega
 simp[List.getD,hk2]
end
end vault
end Go.Proofs.YtojcoaekhiadcaaGreat
