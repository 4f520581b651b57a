import Derived.Test.YtojcoaekhiadcaaGreatA01
import Derived.Test.YtojcoaekhiadcaaGreatA16
import Derived.Laws.AppendOwnNone
set_option linter.unusedVariables false
set_option linter.unusedSimpArgs false
namespace Go.Proofs.YtojcoaekhiadcaaGreat
open Tryz Go.RowKit
namespace spans
open Go.ChangeShapes Go.WideShapes Go.ChangeAt kit span Go.Deep
theorem r_G:(prog.info? 102).map (fun i=>(i.zero,i.size,i.bytes))=some (some (.agg #[.int .i64 0,.int .i64 0]),2,16):=by kernel_rfl
theorem j_1{D E:List (Int×Int)}{n:Nat}(hn:E.length=n)(hp:D.Perm E)(hs:∀i j (hi:i<D.length) (hj:j<D.length),i<=j->D[i].1<=D[j].1)(hE:∀e∈E,0<=e.1/\e.1<=1048576/\-1<=e.2/\e.2<=1)(hsum:c_x E=0) :
  ∃P Q:Nat->Int,(∀i (hi:i<D.length),D[i]=(P i,Q i))/\(∀i j,i<=j->j<n->P i<=P j)/\(∀i,i<n->0<=P i/\P i<=1048576)/\(∀i,i<n->-1<=Q i/\Q i<=1)/\(∀x,f_i P Q n x=dep E x)/\b_v Q n=0/\D.length=n:=by
 have hl:D.length=n:=hp.length_eq.trans hn;have hat:∀i (hi:i<D.length),D.getD i (0,0)=D[i]:=fun i hi=>by simp[hi]
 refine⟨fun i=>(D.getD i (0,0)).1,fun i=>(D.getD i (0,0)).2,fun i hi=>?_,fun i j hij hj=>?_,fun i hi=>?_,fun i hi=>?_,fun x=>?_,?_,hl⟩
 ·simp only[hat i hi]
 ·have hi':i<D.length:=by omega
  have hj':j<D.length:=by omega
  show(D.getD i (0,0)).1<=(D.getD j (0,0)).1;rw[hat i hi',hat j hj'];exact hs i j hi' hj' hij
 ·have hi':i<D.length:=by omega
  have:=hE D[i] (hp.mem_iff.1 (List.getElem_mem hi'));show 0<=(D.getD i (0,0)).1/\(D.getD i (0,0)).1<=1048576;rw[hat i hi'];exact⟨this.1,this.2.1⟩
 ·have hi':i<D.length:=by omega
  have:=hE D[i] (hp.mem_iff.1 (List.getElem_mem hi'));show -1<=(D.getD i (0,0)).2/\(D.getD i (0,0)).2<=1;rw[hat i hi'];exact⟨this.2.2.1,this.2.2.2⟩
 ·rw[<-hl,m_R D x D.length (Nat.le_refl _),List.take_length,q_h hp]
 ·rw[<-hl,m_9 D D.length (Nat.le_refl _),List.take_length]
  have:∀{A B:List (Int×Int)},A.Perm B->c_x A=c_x B:=fun h=>by
   induction h with
   |nil=>rfl
   |cons e _ ih=>simp only[c_x,ih]
   |swap e e' l=>simp only[c_x];omega
   |trans _ _ h1 h2=>rw[h1,h2]
  rw[this hp,hsum]
set_option maxRecDepth 100000 in
set_option maxHeartbeats 1000000 in
theorem n_d(g c kf n:Nat)(want:Int->Bool)(E:List (Int×Int))(hn:E.length=n)(base:Nat)(w:World)(eg:∀args w,(callFunc kf args).run prog w=.ok (.enter kf args) w)(h2:2<=n)(hsz:n<=1000)
  (hown:w.ownsRow base 230 2 (.slice (some ⟨g,0,none⟩) n c) n (V_ E)) (hE:∀e∈E,0<=e.1/\e.1<=1048576/\-1<=e.2/\e.2<=1) (hsum:c_x E=0) (hw0:want 0=false)
  (hwant:∀(d:Int) w',Calls prog kf #[.int .i64 d] w' fun e w''=>e=.returned (.bool (want d))/\w'=w'') :
  Calls prog 70 #[.slice (some ⟨g,0,none⟩) n c,.func (.func kf) #[] #[]] w fun e w'=>(∃(v:Value) (R:Rs),e=.returned v/\w'.ownsRow w.heap.size 102 2 v R.length (V_ R)/\R.length<=n/\b_z R/\∀x,want (dep E x)=true↔inR R x)/\w.grownBy w' (some g):=by
 obtain⟨i0,hi0,hz0,hz1,hz2⟩:=info_parts r_G;have hgl:g<w.heap.size:=(hown.lt g rfl).2;have hwant0:=Hd hwant;have hE0:=Hd hE;have hsum0:=Hd hsum;have hw00:=Hd hw0;have hn0:=Hd hn;have hown0:=hown.alloc (.cells #[.slice (some ⟨g,0,none⟩) n c] 158);have hbox:=Hd (Blk.fresh w 158 #[.slice (some ⟨g,0,none⟩) n c]);have hbc:(w.alloc (.cells #[.slice (some ⟨g,0,none⟩) n c] 158)).cell? ⟨w.heap.size,0,none⟩=some (.slice (some ⟨g,0,none⟩) n c):=hbox.o.cell 0;have hsort0:=k_y E g c w.heap.size base (w.alloc (.cells #[.slice (some ⟨g,0,none⟩) n c] 158)) (by omega) (by omega) (by rw[hn];exact hown0) (by rw[hn];exact hbc) (by simp) (by omega)
 rw[hn]at hsort0;have hsort:=Hd hsort0;clear hown hE hsum hw0 hwant hbc hown0 hsort0 hn;go_enter func70,ntmps70;go_wp2_with fail;refine hsort.o.mono ?_;rintro e w1 ⟨rfl,⟨D,hperm,hsrt,hcl⟩,hg1⟩;obtain⟨P,Q,hPQ,hPs,hPb,hQb,hdep,hpre,hDl⟩:=j_1 hn0.o hperm hsrt hE0.o hsum0.o;have hcell:Hid (∀i,i<n->w1.cell? ⟨g,i*2,none⟩=some (.int .i64 (P i))/\w1.cell? ⟨g,i*2+1,none⟩=some (.int .i64 (Q i))):=fun i hi=>by
  have:=hcl i (by omega)
  rw[hPQ i (by omega)]at this
  exact this
 have hPs0:=Hd hPs;have hPb0:=Hd hPb;have hpb:=Hd (m_a hQb);have hQb0:=Hd hQb;have hdep0:=Hd hdep;have hpre0:=Hd hpre;have hb1:=Hd (hbox.o.grown hg1 (by simp;omega))
 have hgA:=Hd ((World.grownBy_alloc w (.cells #[.slice (some ⟨g,0,none⟩) n c] 158) (some g)).trans hg1);have hgl1:g<w1.heap.size:=Nat.lt_of_lt_of_le hgl hgA.o.size;clear hperm hsrt hcl hg1 hPQ hPs hPb hQb hdep hpre hDl hsort hbox;go_wp2;go_loopw [8,6,7,5] (fun a d f o wr=>∃(i:Nat) (R:Rs) (fv:Int) (sv:Value),sv=o/\a=.int .i64 i/\d=.int .i64 (b_v Q i)/\f=.int .i64 fv/\i<=n/\-1<=fv/\fv<=1048576/\Hid (c_y P Q n want i R fv)/\R.length<=i/\wr.ownsRow w1.heap.size 102 2 sv R.length (V_ R)/\New w1 wr) (fun a _ _ _ _=>n-(intOf a).toNat);case atStart=>exact⟨0,[],-1,_,rfl,rfl,rfl,rfl,by omega,by omega,by omega,o_J hw00.o hPs0.o,Nat.le_refl _,World.ownsRow_nil _ _ _ _,New.refl _⟩
 case round=>
  obtain⟨i,R,fv,sv,rfl,rfl,rfl,rfl,hi,hf1,hf2,hsw,hRl,hown,hnw⟩:=hrel;have cb:=(hb1.o.new hnw).cell 0;simp at cb
  by_cases hlt:i<n
  ·have hown1:=Hd hown
   have hnw1:=Hd hnw;have ci:=(hnw.cell (p:=⟨g,i*2,none⟩) hgl1).trans (hcell.o i hlt).1;obtain⟨p,hp⟩:∃p,Hid (P i=p):=⟨_,(rfl:_=_)⟩;have hpb2:=hPb0.o i hlt;rw[hp.o]at ci hpb2;have hli:(i:Int)<(n:Int):=by omega
   clear hown hnw;go_wp2;go_loop [8,6] (fun a d=>∃j:Nat,a=.int .i64 j/\i<=j/\j<=n/\d=.int .i64 (b_v Q j)/\Hid (∀k,i<=k->k<j->P k=p)) (fun a _=>n-(intOf a).toNat);case atStart=>exact⟨i,rfl,Nat.le_refl _,by omega,rfl,fun k h1 h2=>by omega⟩
   case round=>
    obtain⟨j,rfl,hij,hjn,rfl,hall⟩:=hrel;have hpj:=hpb.o j hjn
    by_cases hc:j<n/\P j=p
    ·obtain⟨hjl,hjp⟩:=hc
     have cj:=(hnw1.o.cell (p:=⟨g,j*2,none⟩) hgl1).trans (hcell.o j hjl).1;have cq:=(hnw1.o.cell (p:=⟨g,j*2+1,none⟩) hgl1).trans (hcell.o j hjl).2;rw[hjp]at cj;have hqb:=hQb0.o j hjl;have hstep:Hid (b_v Q (j+1)=b_v Q j+Q j):=rfl;have hall2:Hid (∀k,i<=k->k<j+1->P k=p):=fun k h1 h2=>by
      rcases Nat.lt_or_ge k j with h3|h3
      ·exact hall.o k h1 h3
      ·have:k=j:=by omega
       rw[this];exact hjp
     have hjl2:(j:Int)<(n:Int):=by omega
     clear hjp;generalize b_v Q j=u at *;generalize Q j=v at *;go_wp2;go_round;case rel=>exact⟨j+1,by go_num,by omega,by omega,by rw[hstep.o],hall2⟩
     case measure=>simp[intOf];omega
    ·have hij2:i<j:=by
      rcases Nat.lt_or_ge i j with h|h
      ·exact h
      ·have:j=i:=by omega
       exact absurd ⟨by omega,by rw[this];exact hp.o⟩ hc
     have hnext:Hid (j<n->p<P j):=fun h=>by
      have h1:=hPs0.o i j hij h;rw[hp.o]at h1;have h3:P j≠p:=fun h4=>hc ⟨h,h4⟩;omega
     obtain⟨u,hu⟩:∃u,Hid (b_v Q j=u):=⟨_,(rfl:_=_)⟩;rw[hu.o]at hpj ⊢;have hcc:=Hd hc;clear hc
     by_cases hjl:j<n
     ·have cj:=(hnw1.o.cell (p:=⟨g,j*2,none⟩) hgl1).trans (hcell.o j hjl).1
      obtain⟨p',hp'⟩:∃p',Hid (P j=p'):=⟨_,(rfl:_=_)⟩;rw[hp'.o]at cj;have hne:(p'==p)=false:=by
       have:=hnext.o hjl;rw[hp'.o]at this;simp;omega
      have hjl2:(j:Int)<(n:Int):=by omega
      cases hb:want u with
      |true=>
       have hb0:=Hd hb;clear hb
       by_cases hfv:fv<0
       ·go_wp2_with fail
        refine(hwant0.o u _).mono ?_;rw[hb0.o];rintro e w9 ⟨rfl,rfl⟩;have hsw2:Hid (c_y P Q n want j R p):=l_T hsw.o hPs0.o hlt hp.o hij2 hjn hall.o hnext.o hpb2.1 (by rw[hu.o];exact hb0.o) hfv
        go_wp2;go_roundw;case rel=>exact⟨j,R,p,_,rfl,rfl,by rw[hu.o],rfl,hjn,by omega,by omega,hsw2,by omega,hown1.o,hnw1.o⟩
        case measure=>simp[intOf];omega
       ·go_wp2_with fail
        refine(hwant0.o u _).mono ?_;rw[hb0.o];rintro e w9 ⟨rfl,rfl⟩;go_wp2_with fail;refine(hwant0.o u _).mono ?_;rw[hb0.o];rintro e w9 ⟨rfl,rfl⟩;have hsw2:Hid (c_y P Q n want j R fv):=f_n hsw.o hPs0.o hlt hp.o hij2 hjn hall.o hnext.o (by rw[hu.o,hb0.o];exact⟨fun _=>by omega,fun _=>rfl⟩)
        go_wp2;go_roundw;case rel=>exact⟨j,R,fv,_,rfl,rfl,by rw[hu.o],rfl,hjn,by omega,by omega,hsw2,by omega,hown1.o,hnw1.o⟩
        case measure=>simp[intOf];omega
      |false=>
       have hb0:=Hd hb;clear hb
       by_cases hfv:fv<0
       ·go_wp2_with fail
        refine(hwant0.o u _).mono ?_;rw[hb0.o];rintro e w9 ⟨rfl,rfl⟩;go_wp2_with fail;refine(hwant0.o u _).mono ?_;rw[hb0.o];rintro e w9 ⟨rfl,rfl⟩;have hsw2:Hid (c_y P Q n want j R fv):=f_n hsw.o hPs0.o hlt hp.o hij2 hjn hall.o hnext.o (by rw[hu.o,hb0.o];exact⟨(fun h=>by cases h),fun h=>by omega⟩)
        go_wp2;go_roundw;case rel=>exact⟨j,R,fv,_,rfl,rfl,by rw[hu.o],rfl,hjn,by omega,by omega,hsw2,by omega,hown1.o,hnw1.o⟩
        case measure=>simp[intOf];omega
       ·go_wp2_with fail
        refine(hwant0.o u _).mono ?_;rw[hb0.o];rintro e w9 ⟨rfl,rfl⟩;go_wp2_with fail;refine(hwant0.o u _).mono ?_;rw[hb0.o];rintro e w9 ⟨rfl,rfl⟩;have hsw2:Hid (c_y P Q n want j (R++[(fv,p)]) (-1)):=j_2 hsw.o hPs0.o hlt hp.o hij2 hjn hall.o hnext.o (by rw[hu.o];exact hb0.o) (by omega)
        have hsz1:=hnw1.o.size;have happ:Hid (V_ (R++[(fv,p)])=V_ R++[.int .i64 fv,.int .i64 p]):=by rw[b_N];exact(rfl:_=_)
        have hRn:R.length<=1000:=by omega
        have hLen:Hid ((R++[(fv,p)]).length=R.length+1):=by rw[List.length_append];exact(rfl:_=_)
        obtain⟨m,hm⟩:∃m,Hid (R.length=m):=⟨_,(rfl:_=_)⟩;rw[hm.o]at hRn;have hown2:wr.ownsRow w1.heap.size 102 2 sv m (V_ R):=by rw[<-hm.o];exact hown1.o
        have hown3:=Hd (hown2.alloc (.cells #[.int .i64 fv,.int .i64 p] 102));clear hown2;go_wp2_with (at_builtin;refine wpList_append_own _ rfl _ _ 103 rfl w1.heap.size 102 i0 _ 2 16 underlying103 hi0 hz0 hz1 hz2 rfl (by decide) sv m (V_ R) rfl hown3.o ⟨wr.heap.size,0,none⟩ 1 1 [.int .i64 fv,.int .i64 p] rfl rfl (World.news_of_block (cs:=#[.int .i64 _,.int .i64 _]) (t:=102) (fr:=(0,0)) (heap_alloc_new wr _)) (by simp[Value.oneCell']) (by unfold maxLen;omega) (by omega) (by simp;omega) ?_;intro v6 w6 hown6 hgrow hnil)
        have hN6:=Hd ((hnw1.o.alloc (.cells #[.int .i64 fv,.int .i64 p] 102)).appendO hown3.o (Nat.le_refl _) hgrow);rw[<-happ.o]at hown6;have hown7:Hid (w6.ownsRow w1.heap.size 102 2 v6 (R++[(fv,p)]).length (V_ (R++[(fv,p)]))):=by rw[hLen.o,hm.o];exact hown6
        clear hown6 hgrow hnil;go_wp2;go_roundw;case rel=>exact⟨j,R++[(fv,p)],-1,_,rfl,rfl,by rw[hu.o],rfl,hjn,by omega,by omega,hsw2,by rw[hLen.o];omega,hown7.o,hN6.o⟩
        case measure=>simp[intOf];omega
     ·have hjl2:¬(j:Int)<(n:Int):=by omega
      cases hb:want u with
      |true=>
       have hb0:=Hd hb;clear hb
       by_cases hfv:fv<0
       ·go_wp2_with fail
        refine(hwant0.o u _).mono ?_;rw[hb0.o];rintro e w9 ⟨rfl,rfl⟩;have hsw2:Hid (c_y P Q n want j R p):=l_T hsw.o hPs0.o hlt hp.o hij2 hjn hall.o hnext.o hpb2.1 (by rw[hu.o];exact hb0.o) hfv
        go_wp2;go_roundw;case rel=>exact⟨j,R,p,_,rfl,rfl,by rw[hu.o],rfl,hjn,by omega,by omega,hsw2,by omega,hown1.o,hnw1.o⟩
        case measure=>simp[intOf];omega
       ·go_wp2_with fail
        refine(hwant0.o u _).mono ?_;rw[hb0.o];rintro e w9 ⟨rfl,rfl⟩;go_wp2_with fail;refine(hwant0.o u _).mono ?_;rw[hb0.o];rintro e w9 ⟨rfl,rfl⟩;have hsw2:Hid (c_y P Q n want j R fv):=f_n hsw.o hPs0.o hlt hp.o hij2 hjn hall.o hnext.o (by rw[hu.o,hb0.o];exact⟨fun _=>by omega,fun _=>rfl⟩)
        go_wp2;go_roundw;case rel=>exact⟨j,R,fv,_,rfl,rfl,by rw[hu.o],rfl,hjn,by omega,by omega,hsw2,by omega,hown1.o,hnw1.o⟩
        case measure=>simp[intOf];omega
      |false=>
       have hb0:=Hd hb;clear hb
       by_cases hfv:fv<0
       ·go_wp2_with fail
        refine(hwant0.o u _).mono ?_;rw[hb0.o];rintro e w9 ⟨rfl,rfl⟩;go_wp2_with fail;refine(hwant0.o u _).mono ?_;rw[hb0.o];rintro e w9 ⟨rfl,rfl⟩;have hsw2:Hid (c_y P Q n want j R fv):=f_n hsw.o hPs0.o hlt hp.o hij2 hjn hall.o hnext.o (by rw[hu.o,hb0.o];exact⟨(fun h=>by cases h),fun h=>by omega⟩)
        go_wp2;go_roundw;case rel=>exact⟨j,R,fv,_,rfl,rfl,by rw[hu.o],rfl,hjn,by omega,by omega,hsw2,by omega,hown1.o,hnw1.o⟩
        case measure=>simp[intOf];omega
       ·go_wp2_with fail
        refine(hwant0.o u _).mono ?_;rw[hb0.o];rintro e w9 ⟨rfl,rfl⟩;go_wp2_with fail;refine(hwant0.o u _).mono ?_;rw[hb0.o];rintro e w9 ⟨rfl,rfl⟩;have hsw2:Hid (c_y P Q n want j (R++[(fv,p)]) (-1)):=j_2 hsw.o hPs0.o hlt hp.o hij2 hjn hall.o hnext.o (by rw[hu.o];exact hb0.o) (by omega)
        have hsz1:=hnw1.o.size;have happ:Hid (V_ (R++[(fv,p)])=V_ R++[.int .i64 fv,.int .i64 p]):=by rw[b_N];exact(rfl:_=_)
        have hRn:R.length<=1000:=by omega
        have hLen:Hid ((R++[(fv,p)]).length=R.length+1):=by rw[List.length_append];exact(rfl:_=_)
        obtain⟨m,hm⟩:∃m,Hid (R.length=m):=⟨_,(rfl:_=_)⟩;rw[hm.o]at hRn;have hown2:wr.ownsRow w1.heap.size 102 2 sv m (V_ R):=by rw[<-hm.o];exact hown1.o
        have hown3:=Hd (hown2.alloc (.cells #[.int .i64 fv,.int .i64 p] 102));clear hown2;go_wp2_with (at_builtin;refine wpList_append_own _ rfl _ _ 103 rfl w1.heap.size 102 i0 _ 2 16 underlying103 hi0 hz0 hz1 hz2 rfl (by decide) sv m (V_ R) rfl hown3.o ⟨wr.heap.size,0,none⟩ 1 1 [.int .i64 fv,.int .i64 p] rfl rfl (World.news_of_block (cs:=#[.int .i64 _,.int .i64 _]) (t:=102) (fr:=(0,0)) (heap_alloc_new wr _)) (by simp[Value.oneCell']) (by unfold maxLen;omega) (by omega) (by simp;omega) ?_;intro v6 w6 hown6 hgrow hnil)
        have hN6:=Hd ((hnw1.o.alloc (.cells #[.int .i64 fv,.int .i64 p] 102)).appendO hown3.o (Nat.le_refl _) hgrow);rw[<-happ.o]at hown6;have hown7:Hid (w6.ownsRow w1.heap.size 102 2 v6 (R++[(fv,p)]).length (V_ (R++[(fv,p)]))):=by rw[hLen.o,hm.o];exact hown6
        clear hown6 hgrow hnil;go_wp2;go_roundw;case rel=>exact⟨j,R++[(fv,p)],-1,_,rfl,rfl,by rw[hu.o],rfl,hjn,by omega,by omega,hsw2,by rw[hLen.o];omega,hown7.o,hN6.o⟩
        case measure=>simp[intOf];omega
  ·have hin:i=n:=by omega
   subst hin;have hfv:fv<0:=by
    rcases Int.lt_or_le fv 0 with h|h
    ·exact h
    ·have:=hsw.o.now.2 h
     rw[hpre0.o,hw00.o]at this;cases this
   have hend:=Hd (s_N hsw.o hfv);have hown1:=Hd (a_8 hown hgA.o.size);have hg9:=Hd (hgA.o.trans (b_7 hnw (some g)));clear hown hnw;go_wp2;go_ret;exact⟨⟨_,_,rfl,hown1.o,hRl,hend.o.1,fun x=>by rw[<-hdep0.o x];exact hend.o.2 x⟩,hg9.o⟩
theorem u_b{n:Nat}{F T G U:Nat->Int}(h1:b_g n F T=true)(h2:b_g 1 G U=true)(x:Int):decide (0<dep (edL F T 1 n++edL G U (-1) 1) x)=(d_l n F T x && !d_l 1 G U x):=by
 rw[d_J,m_P h1,m_P h2];cases d_l n F T x<;>cases d_l 1 G U x<;>rfl
theorem t_X{n m:Nat}{F T G U:Nat->Int}{b:Int}(h1:b_g n F T=true)(h2:b_g m G U=true)(hb:b=1\/b = -1):∀e∈edL F T 1 n++edL G U b m,0<=e.1/\e.1<=1048576/\-1<=e.2/\e.2<=1:=fun e he=>by
 rcases List.mem_append.1 he with h|h
 ·exact q_9 (c_V h1).2 (.inl rfl) e h
 ·exact q_9 (c_V h2).2 hb e h
theorem t_r(n m:Nat)(F T G U:Nat->Int)(b:Int):c_x (edL F T 1 n++edL G U b m)=0:=by rw[c_E,f_F,f_F];rfl
theorem t_s(n m:Nat)(F T G U:Nat->Int)(b:Int):(edL F T 1 n++edL G U b m).length=2*n+2*m:=by rw[List.length_append,f_A,f_A]
set_option maxRecDepth 100000 in
theorem o_4:∀(args:Array Value) (w:World),(callFunc 72 args).run prog w=.ok (.enter 72 args) w:=q_5 (fn:=Tryz.f72) (by rfl) (by kernel_rfl) (by rfl)
theorem c_1{w:World}{base:Nat}{e:TypeId}{size:Nat}{v:Value}{n:Nat}{xs:List Value}(h:w.ownsRow base e size v n xs):∃A c,v=.slice A n c/\(0<n->∃g,A=some ⟨g,0,none⟩/\base<=g):=by
 obtain⟨A,c,hv,_,_,h1,_⟩:=h_ h;exact⟨A,c,hv,fun h=>(h1 h).elim fun g hg=>⟨g,hg.1,hg.2.1⟩⟩
theorem i_d(w:World)(g:Nat)(hg:g=w.heap.size)(f t:Int)(T:TypeId):Rd (w.alloc (.cells #[.int .i64 f,.int .i64 t] T)) (some ⟨g,0,none⟩) 1 (fun _=>f) (fun _=>t):=by
 rw[hg];exact s_S w f t T
theorem m_4(w:World)(g:Nat)(hg:g=w.heap.size)(f t:Int)(T:TypeId):Rd (w.alloc (.cells #[.int .i64 f,.int .i64 t] T)).drew (some ⟨g,0,none⟩) 1 (fun _=>f) (fun _=>t):=i_d w g hg f t T
theorem q_Z(A:Option Addr)(n c:Nat)(w:World)(hn:n<=maxLen)(u:Value)(cd:Int)(hu:u=if n<=200 then Value.slice A n c else .slice none 0 0)(hc:cd=if n<=200 then 0 else 8) :
  Calls prog 69 #[.slice A n c] w fun e w'=>e=.returned (.tuple #[u,.int .i64 cd])/\w=w':=by
 rw[hu,hc];exact o_B A n c w hn
theorem g_L.of{S:Int->Bool}{w w':World}{v:Value}{R:Rs}(h1:b_z R)(h2:∀x,S x=true↔inR R x)(h3:R.length<=2000)(h4:w'.ownsRow w.heap.size 102 2 v R.length (V_ R))(hn:New w w'){u:Value}{cd:Int}
  (hu:u=if R.length<=200 then v else .slice none 0 0) (hc:cd=if R.length<=200 then 0 else 8):g_L S w (.returned (.tuple #[u,.int .i64 cd])) w':=
 ⟨⟨v,R,h1,h2,h3,h4,by rw[hu,hc]⟩,hn⟩
set_option maxRecDepth 100000 in
set_option maxHeartbeats 4000000 in
theorem t_L(A:Option Addr)(n c:Nat)(F T:Nat->Int)(f t:Int)(w:World)(h:Rd w A n F T)(hyes:b_g n F T=true/\c_A f t) :
  Calls prog 37 #[.slice A n c,.agg #[.int .i64 f,.int .i64 t]] w (g_L (fun x=>d_l n F T x && !d_l 1 (fun _=>f) (fun _=>t) x) w):=by
 obtain⟨i0,hi0,hz0,hz1,hz2⟩:=info_parts j_D;have h0:=Hd h;obtain⟨hb,hb'⟩:=hyes;have hn200:=(c_V hb).1;have hb0:=Hd hb;have hb1:=Hd hb';have hb2:=Hd (j_f f t hb');clear h hb hb';have hN1:New w (w.alloc (.cells #[.int .i64 f,.int .i64 t] 102)):=(New.refl w).alloc _;obtain⟨W1,hW1⟩:∃W1,W1=w.alloc (.cells #[.int .i64 f,.int .i64 t] 102):=⟨_,rfl⟩;rw[<-hW1]at hN1;have k0:W1.cell? ⟨w.heap.size,0,none⟩=some (.int .i64 f):=by rw[hW1];simp
 have k1:W1.cell? ⟨w.heap.size,1,none⟩=some (.int .i64 t):=by rw[hW1];simp
 go_enter func37,ntmps37;go_wp2_with fail;rw[<-hW1];refine(May_any A n c F T _ (h0.o.new hN1)).mono ?_;rw[hb0.o];rintro e w1 ⟨rfl,hn1⟩;have hN2:=hN1.next hn1;have j0:=(hn1.cell (a_ k0)).trans k0;have j1:=(hn1.cell (a_ k1)).trans k1;go_wp2_with fail;refine(b_p f t _).mono ?_;rw[decide_eq_true hb1.o];rintro e W ⟨rfl,hn2⟩;have hN3:=Hd (hN2.next hn2);have d0:=(hn2.cell (a_ j0)).trans j0;have d1:=(hn2.cell (a_ j1)).trans j1;clear hN1 hN2 hn1 hn2 j0 j1 k0 k1 hW1;have hkeep:Hid (∀w',New W w'->New W w'/\w'.cell? ⟨w.heap.size,0,none⟩=some (.int .i64 f)/\w'.cell? ⟨w.heap.size,1,none⟩=some (.int .i64 t)):=fun w' h=>⟨h,(h.cell (a_ d0)).trans d0,(h.cell (a_ d1)).trans d1⟩;have hone:Hid (∀u∈V_ (edL (fun _=>f) (fun _=>t) (-1) 1),u.oneCell'=true):=encE_one _;have hnl:Hid ((V_ (edL (fun _=>f) (fun _=>t) (-1) 1)).length=2*2):=(show _=_ by rw[q_7,f_A])
 go_wp2_with fail;go_region_held3 (fun w'=>New W w'/\w'.cell? ⟨w.heap.size,0,none⟩=some (.int .i64 f)/\w'.cell? ⟨w.heap.size,1,none⟩=some (.int .i64 t))
  (first
   |exact hkeep.o _ (New.refl _).drew
   |assumption
   |exact hkeep.o _ ((And.left ‹New W _/\_›).alloc _)
   |exact hkeep.o _ ((New.refl _).alloc _).drew
   |exact hkeep.o _ hn6
   |exact hkeep.o _ hn5
   |exact hkeep.o _ (New.next (And.left ‹New W _/\_›) hnD)
   |exact hkeep.o _ (New.next (And.left ‹New W _/\_›) hnC))
  (first
   |(go_at_call 71;(with_reducible refine(c_f A n c 1 F T _ (h0.o.new (hN3.o.next (And.left ‹New W _/\_›))) hn200 (.inl rfl)).mono ?_);rintro e wC ⟨v1,rfl,hownC,hnC⟩;have hown1:=a_8 hownC (And.left ‹New W _/\_›).size;clear hownC;(try have hown2:=c_ hown2 hnC))
   |(go_at_call 71;refine(c_f (some ⟨_,0,none⟩) 1 1 (-1) (fun _=>f) (fun _=>t) _ (i_d _ _ (by rfl) f t _) (by omega) (.inr rfl)).mono ?_;rintro e wD ⟨v2,rfl,hownD,hnD⟩;obtain⟨A2,c2,rfl,hA2⟩:=c_1 hownD;obtain⟨g2,rfl,_⟩:=hA2 (by omega);have hown2:=a_8 hownD (Nat.zero_le _);clear hownD hA2;(try have hown1:=c_ hown1 hnD);(try have hown1:=c_ (hown1.alloc _) hnD))
   |(go_at_call 71;refine(c_f (some ⟨_,0,none⟩) 1 1 (-1) (fun _=>f) (fun _=>t) _ ((i_d _ _ (by rfl) f t _).new hnC) (by omega) (.inr rfl)).mono ?_;rintro e wD ⟨v2,rfl,hownD,hnD⟩;obtain⟨A2,c2,rfl,hA2⟩:=c_1 hownD;obtain⟨g2,rfl,_⟩:=hA2 (by omega);have hown2:=a_8 hownD (Nat.zero_le _);clear hownD hA2;(try have hown1:=c_ hown1 hnD);(try have hown1:=c_ (hown1.alloc _) hnD))
   |(go_at_call 71;refine(c_f (some ⟨_,0,none⟩) 1 1 (-1) (fun _=>f) (fun _=>t) _ (m_4 _ _ (by rfl) f t _) (by omega) (.inr rfl)).mono ?_;rintro e wD ⟨v2,rfl,hownD,hnD⟩;obtain⟨A2,c2,rfl,hA2⟩:=c_1 hownD;obtain⟨g2,rfl,_⟩:=hA2 (by omega);have hown2:=a_8 hownD (Nat.zero_le _);clear hownD hA2;(try have hown1:=c_ hown1 hnD);(try have hown1:=c_ (hown1.alloc _) hnD))
   |(go_at_call 71;refine(c_f (some ⟨_,0,none⟩) 1 1 (-1) (fun _=>f) (fun _=>t) _ ((m_4 _ _ (by rfl) f t _).new hnC) (by omega) (.inr rfl)).mono ?_;rintro e wD ⟨v2,rfl,hownD,hnD⟩;obtain⟨A2,c2,rfl,hA2⟩:=c_1 hownD;obtain⟨g2,rfl,_⟩:=hA2 (by omega);have hown2:=a_8 hownD (Nat.zero_le _);clear hownD hA2;(try have hown1:=c_ hown1 hnD);(try have hown1:=c_ (hown1.alloc _) hnD))
   |(refine step_append_lies _ (by rfl) _ _ 158 (by rfl) W.heap.size 230 i0 _ 2 16 underlying158 hi0 hz0 hz1 hz2 rfl (by decide) v1 (2*n) (V_ (edL F T 1 n)) (by rfl) hown1 ⟨g2,0,none⟩ 2 c2 (V_ (edL (fun _=>f) (fun _=>t) (-1) 1)) (by rfl) hnl.o (hown2.cells rfl) hone.o (by omega) (by unfold maxLen;omega) (by omega) (And.left ‹New W _/\_›).size _ rfl ?_;intro g5 c5 w5 hown5 hgrow5 hat5 hlt5;have hn5:New W w5:=(And.left ‹New W _/\_›).grown hgrow5 (fun g hg=>(hown1.lt g hg).1);rw[<-b_N]at hown5;clear hgrow5 hat5 hlt5)
   |(go_at_call 70;refine(n_d g5 c5 72 (2*n+2) (fun d=>decide (0<d)) (edL F T 1 n++edL (fun _=>f) (fun _=>t) (-1) 1) (t_s _ _ _ _ _ _ _) W.heap.size _ o_4 (by omega) (by omega) hown5 (t_X hb0.o hb2.o (.inr rfl)) (t_r _ _ _ _ _ _ _) rfl (fun d w'=>q_U d w')).mono ?_;rintro e w6 ⟨⟨v6,R,rfl,hown6,hR1,hR2,hR3⟩,hgr6⟩;obtain⟨A6,c6,rfl,_⟩:=c_1 hown6;have hn6:New W w6:=hn5.grown1 hgr6 (hown5.lt _ rfl).1;obtain⟨u,hu⟩:∃u,Hid (u=if R.length<=200 then Value.slice A6 R.length c6 else .slice none 0 0):=⟨_,rfl⟩;obtain⟨cd,hcd⟩:∃cd:Int,Hid (cd=if R.length<=200 then 0 else 8):=⟨_,rfl⟩;have hans:Hid (g_L (fun x=>d_l n F T x && !d_l 1 (fun _=>f) (fun _=>t) x) w (.returned (.tuple #[u,.int .i64 cd])) w6):=g_L.of hR2 (fun x=>by rw[<-u_b hb0.o hb2.o];exact hR3 x) (by omega) (a_8 hown6 (hN3.o.next hn5).size) (hN3.o.next hn6) hu.o hcd.o;clear hR2 hR3 hgr6 hown6)
   |(go_at_call 69;refine(q_Z A6 R.length c6 _ (by unfold maxLen;omega) u cd hu.o hcd.o).mono ?_;rintro e w7 ⟨rfl,rfl⟩))
 all_goals go_wp2
 all_goals go_ret2
 all_goals exact hans.o
end spans
namespace span
open Go.ChangeShapes Go.WideShapes Go.ChangeAt kit
def n_V(n:Nat)(F T:Nat->Int)(m:Int):Option Nat:=(List.range n).find? fun j=>decide (m<=T j-F j)
def c_m(n:Nat)(F T:Nat->Int)(m:Int):Int:=if b_g n F T=true/\1<=m then(match n_V n F T m with|some j=>F j|none=>0)else 0
def c_n(n:Nat)(F T:Nat->Int)(m:Int):Int:=if b_g n F T=true then(if 1<=m then(match n_V n F T m with|some _=>0|none=>6)else 2)else 4
theorem p_V{F T:Nat->Int}{n i:Nat}{m:Int}(hi:i<n)(hc:m<=T i-F i)(hno:∀j,j<i->T j-F j<m):n_V n F T m=some i:=by
 unfold n_V;rw[List.find?_range_eq_some];exact⟨by simpa using hc,by simpa using hi,fun j hj=>by have:=hno j hj;simp;omega⟩
theorem p_W{F T:Nat->Int}{n:Nat}{m:Int}(hno:∀j,j<n->T j-F j<m):n_V n F T m=none:=by
 unfold n_V;rw[List.find?_eq_none];intro x hx;have:=hno x (by simpa using hx)
 simp;omega
theorem f_5{F T:Nat->Int}{n:Nat}{m:Int}(hmay:b_g n F T=true)(hm:1<=m):∀i,i<n->m<=T i-F i->(∀j,j<i->T j-F j<m)->c_m n F T m=F i/\c_n n F T m=0:=by
 intro i hi hc hno;have h:=p_V hi hc hno;simp[c_m,c_n,hmay,hm,h]
theorem l_b{F T:Nat->Int}{n:Nat}{m:Int}(hmay:b_g n F T=true)(hm:1<=m):(∀j,j<n->T j-F j<m)->c_m n F T m=0/\c_n n F T m=6:=by
 intro hno;have h:=p_W hno;simp[c_m,c_n,hmay,hm,h]
theorem o_j(A:Option Addr)(n c:Nat)(F T:Nat->Int)(m:Int)(w:World)(h:Rd w A n F T) :
  Calls prog 78 #[.slice A n c,.int .i64 m] w fun e w'=>e=.returned (.tuple #[.int .i64 (c_m n F T m),.int .i64 (c_n n F T m)])/\New w w':=by
 by_cases hmay:b_g n F T=true
 ·by_cases hm1:1<=m
  ·obtain⟨hn,hst⟩:=c_V hmay
   have hF:=Hd (f_5 (F:=F) (T:=T) (n:=n) (m:=m) hmay hm1);have hN:=Hd (l_b (F:=F) (T:=T) (n:=n) (m:=m) hmay hm1);have hone:=Hd (fun j hj=>(hst j hj).1);have hlin:(n:Int)<=200:=by omega
   clear hst;go_enter func78,ntmps78;go_wp2_with fail;refine(May_any _ _ _ _ _ _ h).mono ?_;rintro e w1 ⟨rfl,hn1⟩;go_wp2;go_loopw [15] (fun k wr=>∃i:Nat,k=.int .i64 i/\i<=n/\New w wr/\Hid (∀j,j<i->T j-F j<m)) (fun k _=>n-(intOf k).toNat);case atStart=>exact⟨0,rfl,by omega,hn1,fun j hj=>absurd hj (Nat.not_lt_zero j)⟩
   case round=>
    obtain⟨i,rfl,hi,hnw,hno⟩:=hrel;clear hn1
    by_cases hlt:i<n
    ·obtain⟨b,off,rfl,hb,hcs⟩:=(h.new hnw).2 (by omega)
     obtain⟨d0,d1⟩:=hcs i hlt;have b3:=hone.o i hlt;unfold c_A at b3;have iI:(i:Int)<(n:Int):=by omega
     clear hcs
     by_cases hc:m<=T i-F i
     ·have hv:=Hd (hF.o i hlt hc hno.o)
      clear hF hN hno;go_wp2;go_ret2;exact⟨d_y hv.o.1.symm hv.o.2.symm,hnw.alloc _⟩
     ·have hno2:Hid (∀j,j<i+1->T j-F j<m):=fun j hj=>by
       by_cases hji:j=i
       ·subst hji;omega
       ·exact hno.o j (by omega)
      go_wp2;go_roundw;case rel=>exact⟨i+1,by go_num,by omega,hnw.alloc _,hno2.o⟩
      case measure=>simp[intOf];omega
    ·have hv:=Hd (hN.o (fun j hj=>hno.o j (by omega)))
     have iI:¬(i:Int)<(n:Int):=by omega
     clear hF hN hno;go_wp2;go_ret2;exact⟨d_y hv.o.1.symm hv.o.2.symm,hnw⟩
  ·have hV:Hid (c_m n F T m=0/\c_n n F T m=2):=⟨by simp[c_m,hmay,hm1],by simp[c_n,hmay,hm1]⟩
   go_enter func78,ntmps78;go_wp2_with fail;refine(May_any _ _ _ _ _ _ h).mono ?_;rintro e w1 ⟨rfl,hn1⟩;go_wp2;go_ret2;exact⟨d_y hV.o.1.symm hV.o.2.symm,hn1⟩
 ·have hf:b_g n F T=false:=by simpa using hmay
  have hV:Hid (c_m n F T m=0/\c_n n F T m=4):=⟨by simp[c_m,hmay],by simp[c_n,hmay]⟩
  clear hmay;go_enter func78,ntmps78;go_wp2_with fail;refine(May_any _ _ _ _ _ _ h).mono ?_;rintro e w1 ⟨rfl,hn1⟩;go_wp2;go_ret2;exact⟨d_y hV.o.1.symm hV.o.2.symm,hn1⟩
end span
namespace vault
set_option maxRecDepth 100000
open Go.ChangeShapes Go.WideShapes Go.ChangeAt kit span spans Go.Deep
def frF(R:Rs)(i:Nat):Int:=(R.getD i (0,0)).1
def frT(R:Rs)(i:Nat):Int:=(R.getD i (0,0)).2
theorem frG{R:Rs}{i:Nat}(h:i<R.length):R.getD i (0,0)=R[i]:=by simp[List.getD,h]
section
variable {n u:Nat}{L:List Bk}{R:Rs}
theorem r_O(hF:a_b n u L R){p:Int×Int}(hp:p∈R):(4*n:Nat)<=p.1/\p.2<=(512*n:Nat)/\p.1<p.2:=by
 have h0:=hF.norm.2 p hp;have h1:=((hF.mem p.1).1 ⟨p,hp,Int.le_refl _,h0⟩).1;have h2:=((hF.mem (p.2-1)).1 ⟨p,hp,by omega,by omega⟩).2.1
 omega
theorem g_s(hF:a_b n u L R)(hn:n<=8)(hl:R.length<=200):b_g R.length (frF R) (frT R)=true:=by
 refine e_z hl fun j hj=>⟨?_,?_⟩
 ·have:=r_O hF (List.getElem_mem hj)
  unfold c_A frF frT;rw[frG hj];omega
 ·rcases Nat.eq_zero_or_pos j with h0|h0
  ·exact .inl h0
  ·right
   have:=List.pairwise_iff_getElem.1 hF.norm.1 (j-1) j (by omega) hj (by omega)
   unfold frF frT;rw[frG hj,frG (show j-1<R.length by omega)]
   exact this
theorem p_Y(hF:a_b n u L R)(hn:n<=8)(hl:R.length<=200)(x:Int):d_l R.length (frF R) (frT R) x=true↔inR R x:=by
 unfold d_l;rw[g_s hF hn hl,Bool.true_and,List.any_eq_true];constructor
 ·rintro⟨j,hj,h⟩
  have hj:=List.mem_range.1 hj;unfold span.inB frF frT at h;rw[frG hj]at h;simp only[Bool.and_eq_true,decide_eq_true_eq]at h;exact⟨_,List.getElem_mem hj,h.1,h.2⟩
 ·rintro⟨p,hp,h1,h2⟩
  obtain⟨j,hj,rfl⟩:=List.getElem_of_mem hp;refine⟨j,List.mem_range.2 hj,?_⟩;unfold span.inB frF frT;rw[frG hj];simp[h1,h2]
theorem encE_at(R:Rs):∀i,i<R.length->(V_ R)[i*2]?=some (.int .i64 (frF R i))/\(V_ R)[i*2+1]?=some (.int .i64 (frT R i)):=by
 induction R with
 |nil=>intro i hi;exact absurd hi (Nat.not_lt_zero i)
 |cons p R ih=>
  intro i hi;cases i with
  |zero=>exact⟨rfl,rfl⟩
  |succ i=>
   have:=ih i (by simpa using hi)
   rw[show(i+1)*2=i*2+2 by omega]
   exact this
theorem m_I{w:World}{base:Nat}{v:Value}(h:w.ownsRow base 102 2 v R.length (V_ R)):∃A c,v=.slice A R.length c/\Rd w A R.length (frF R) (frT R):=by
 obtain⟨A,c,rfl,h1,h2,h3,h4⟩:=h_ h;refine⟨A,c,rfl,by omega,fun h0=>?_⟩
 obtain⟨g,rfl,_,hg⟩:=h3 h0;refine⟨g,0,rfl,hg,fun i hi=>?_⟩;obtain⟨e1,e2⟩:=encE_at R i hi;rw[Nat.zero_add];exact⟨h4 g rfl _ _ e1,h4 g rfl _ _ e2⟩
theorem q_0(hF:a_b n u L R)(hn:n<=8)(hu:1<=u)(hun:u<=n)(hl:R.length<=200)(hL:∀b,b∈L->0<b.2){c y:Nat}(hc:1<=c)(hy:y+c<=508)(hr:c_z L c y)(w:World){base:Nat}{v:Value}(h:w.ownsRow base 102 2 v R.length (V_ R)) :
  Calls prog 78 #[v,.int .i64 ((c*u:Nat):Int)] w fun e w'=>∃x,e=.returned (.tuple #[.int .i64 ((4*n+x*u:Nat):Int),.int .i64 0])/\x<=y/\c_z L c x/\(x=0\/b_k L (x-1))/\New w w':=by
 obtain⟨A,k,rfl,hrd⟩:=m_I h;obtain⟨i,x,hi,h1,h2,h3,h4,h5⟩:=n_Z hF hu hun hL hc hy hr;obtain⟨g1,g2⟩:=h1 _ (List.getElem?_eq_getElem hi);have hcu:1<=c*u:=Nat.mul_le_mul hc hu;obtain⟨e1,e2⟩:=f_5 (m:=((c*u:Nat):Int)) (g_s hF hn hl) (by omega) i hi (by unfold frT frF;rw[frG hi];exact g1) fun j hj=>by
  have:=h2 j _ hj (List.getElem?_eq_getElem (by omega))
  unfold frT frF;rw[frG (by omega)]
  exact this
 refine(o_j A R.length k (frF R) (frT R) _ w hrd).mono ?_;rintro e w' ⟨rfl,hn'⟩;refine⟨x,?_,h3,h4,h5,hn'⟩;rw[e1,e2];unfold frF;rw[frG hi,g2];rfl
theorem l_k(hF:a_b n u L R)(hn:n<=8)(hu:1<=u)(hun:u<=n)(hl:R.length<=200)(hLl:L.length<=190){b:Bk}(hb0:0<b.2)(hb:b.1+b.2<=508)(w:World){base:Nat}{v:Value}(h:w.ownsRow base 102 2 v R.length (V_ R)) :
  Calls prog 37 #[v,.agg #[.int .i64 (adr n u b.1),.int .i64 (adr n u (b.1+b.2))]] w fun e w'=>∃v' R',e=.returned (.tuple #[v',.int .i64 0])/\a_b n u (L++[b]) R'/\R'.length<=200/\w'.ownsRow w.heap.size 102 2 v' R'.length (V_ R')/\New w w':=by
 obtain⟨A,k,rfl,hrd⟩:=m_I h;have hlt:=l_A (n:=n) hu (show b.1<b.1+b.2 by omega)
 have hle:=i_N (n:=n) (u:=u) hb;have h508:508*u<=508*n:=Nat.mul_le_mul_left _ hun;have hone:c_A (adr n u b.1) (adr n u (b.1+b.2)):=by
  unfold c_A;refine⟨by unfold adr;omega,hlt,?_⟩
  have:adr n u 508<=4096:=by unfold adr;omega
  omega
 refine(t_L A R.length k (frF R) (frT R) _ _ w hrd ⟨g_s hF hn hl,hone⟩).mono ?_;rintro e w' ⟨⟨v',R',hnr,hm,_,hown,he⟩,hnw⟩;have hF':a_b n u (L++[b]) R':=hF.cut hnr b fun x=>by
  rw[<-hm x,<-p_Y hF hn hl x];have h1:d_l 1 (fun _=>adr n u b.1) (fun _=>adr n u (b.1+b.2)) x=(decide (adr n u b.1<=x)&&decide (x<adr n u (b.1+b.2))):=by
   unfold d_l;rw[j_f _ _ hone];simp[span.inB]
  show(d_l R.length (frF R) (frT R) x && !d_l 1 (fun _=>adr n u b.1) (fun _=>adr n u (b.1+b.2)) x)=true↔_;rw[h1];simp only[Bool.and_eq_true,Bool.not_eq_true',Bool.and_eq_false_iff,decide_eq_false_iff_not];constructor
  ·rintro⟨h2,h3⟩;exact⟨h2,fun h4=>by omega⟩
  ·rintro⟨h2,h3⟩;exact⟨h2,by omega⟩
 have hl':=p_X hF';rw[List.length_append,List.length_singleton]at hl';have hl2:R'.length<=200:=by omega
 rw[if_pos hl2,if_pos hl2]at he;exact⟨v',R',he,hF',hl2,hown,hnw⟩
end
end vault
end Go.Proofs.YtojcoaekhiadcaaGreat
