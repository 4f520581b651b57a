import Derived.Test.YtojcoaekhiadcaaGreatA01
import Derived.Test.YtojcoaekhiadcaaGreatA15
import Derived.Test.YtojcoaekhiadcaaGreatA14
import Derived.Test.YtojcoaekhiadcaaGreatA05
import Derived.Test.YtojcoaekhiadcaaGreatProg
import Derived.Deep.RegionHeld3
import Derived.Laws.CopyOwn
import Derived.Deep.AppendLies
import Derived.Shelf.Small.Bits
import Derived.Shelf.Strconv.Itoa0
import Derived.Ground.GgsProg
import Derived.Shelf.GgSortFunc.Insertion
import Derived.Shelf.GgSortFunc.Small
import Derived.Shelf.GgSortFunc.InsertionK
import Derived.Shelf.GgSortFunc.SmallK
import Derived.Shelf.GgSortFunc.Compose
import Derived.Shelf.GgSortFunc.LotD
import Derived.Shelf.SlSortFunc.Xorshift
import Derived.Shelf.SlSortFuncK.ComposeK
import Derived.Shelf.SlSortFuncK.SiftDownK
import Derived.Shelf.SlSortFuncK.HeapSortK
import Derived.Shelf.SlSortFuncK.PartialInsertionK
import Derived.Shelf.SlSortFuncK.LotDK
import Derived.Shelf.SlSortFuncK.PivotK
import Derived.Shelf.SlSortFuncK.PartitionK
import Derived.Shelf.SlSortFuncK.PdqK
import Derived.Shelf.SlSortFuncK.WholeK
import Derived.Shelf.GgSortFunc.Tiny
import Derived.Sort.OwnSortedInts
set_option linter.unusedSectionVars false
set_option linter.unusedVariables false
set_option linter.unusedSimpArgs false
namespace Go.Proofs.YtojcoaekhiadcaaGreat
open Tryz Go.RowKit
namespace vault
open spans
def adr(n u y:Nat):Int:=((4*n+y*u:Nat):Int)
theorem i_N{n u a b:Nat}(h:a<=b):adr n u a<=adr n u b:=by
 have:=Nat.mul_le_mul_right u h;unfold adr;omega
theorem l_A{n u a b:Nat}(hu:1<=u)(h:a<b):adr n u a<adr n u b:=by
 have:=Nat.mul_le_mul_right u (Nat.succ_le_of_lt h);rw[Nat.succ_mul]at this;unfold adr;omega
theorem c_o(n u a b:Nat):adr n u (a+b)=adr n u a+(b*u:Nat):=by
 unfold adr;rw[Nat.add_mul];omega
theorem o_f{n u a b:Nat}(hu:1<=u)(h:adr n u a<=adr n u b):a<=b:=by
 rcases Nat.lt_or_ge b a with h1|h1
 ·have:=l_A (n:=n) hu h1;omega
 ·exact h1
theorem h_V{n u a b:Nat}(h:adr n u a<adr n u b):a<b:=by
 rcases Nat.lt_or_ge a b with h1|h1
 ·exact h1
 ·have:=i_N (n:=n) (u:=u) h1;omega
def u_4(n u:Nat)(L:List Bk)(x:Int):Prop:=(4*n:Nat)<=x/\x<(512*n:Nat)/\∀b,b∈L->¬(adr n u b.1<=x/\x<adr n u (b.1+b.2))
structure a_b(n u:Nat)(L:List Bk)(R:Rs):Prop where
 norm:b_z R
 mem:∀x,inR R x↔u_4 n u L x
theorem p_q{R:Rs}(h:b_z R){p:Int×Int}(hp:p∈R):¬inR R p.2:=by
 induction R with
 |nil=>cases hp
 |cons q R ih=>
  obtain⟨h1,h2,h3⟩:=e_y h;rintro⟨r,hr,k1,k2⟩;rcases List.mem_cons.1 hp with rfl|hp'
  ·rcases List.mem_cons.1 hr with rfl|hr
   ·omega
   ·have:=h3 r hr;omega
  ·rcases List.mem_cons.1 hr with rfl|hr
   ·have:=h3 p hp'
    have:=h1.2 p hp';omega
   ·exact ih h1 hp' ⟨r,hr,k1,k2⟩
theorem h_r{R:Rs}(h:b_z R){p:Int×Int}(hp:p∈R):¬inR R (p.1-1):=by
 induction R with
 |nil=>cases hp
 |cons q R ih=>
  obtain⟨h1,h2,h3⟩:=e_y h;rintro⟨r,hr,k1,k2⟩;rcases List.mem_cons.1 hp with rfl|hp'
  ·rcases List.mem_cons.1 hr with rfl|hr
   ·omega
   ·have:=h3 r hr;omega
  ·rcases List.mem_cons.1 hr with rfl|hr
   ·have:=h3 p hp'
    omega
   ·exact ih h1 hp' ⟨r,hr,k1,k2⟩
theorem h_o{R:Rs}(h:b_z R)(f:Int):∀m:Nat,(∀x,f<=x->x<f+(m+1:Nat)->inR R x)->∃p,p∈R/\p.1<=f/\f+(m+1:Nat)<=p.2
 |0,hall=>by
  obtain⟨p,hp,h1,h2⟩:=hall f (by omega) (by omega)
  exact⟨p,hp,h1,by omega⟩
 |m+1,hall=>by
  obtain⟨p,hp,h1,h2⟩:=h_o h f m fun x hx1 hx2=>hall x hx1 (by omega)
  refine⟨p,hp,h1,?_⟩;apply Classical.byContradiction;intro hn;exact p_q h hp (hall p.2 (by omega) (by omega))
section
variable {n u:Nat}{L:List Bk}{R:Rs}
theorem n_l(hF:a_b n u L R)(hu:1<=u)(hn:u<=n){c y:Nat}(hc:1<=c)(hy:y+c<=508)(hr:c_z L c y):∃p,p∈R/\p.1<=adr n u y/\adr n u y+(c*u:Nat)<=p.2:=by
 have hcu:1<=c*u:=Nat.mul_le_mul hc hu;have h508:508*u<=508*n:=Nat.mul_le_mul_left _ hn;have h1:=h_o hF.norm (adr n u y) (c*u-1) fun x hx1 hx2=>by
  rw[Nat.sub_add_cancel hcu]at hx2;rw[hF.mem];have e1:=c_o n u y c;have e2:=i_N (n:=n) (u:=u) hy;refine⟨by unfold adr at hx1;omega,?_,fun b hb ⟨k1,k2⟩=>?_⟩
  ·have:adr n u 508<=(512*n:Nat):=by unfold adr;omega
   omega
  ·
   have:∃j,j<c/\adr n u (y+j)<=x/\x<adr n u (y+j+1):=by
    refine⟨((x-adr n u y).toNat)/u,?_,?_,?_⟩
    ·exact(Nat.div_lt_iff_lt_mul hu).2 (by omega)
    ·have h2:=Nat.div_mul_le_self (x-adr n u y).toNat u
     have h3:=c_o n u y ((x-adr n u y).toNat/u);omega
    ·have h2:=Nat.lt_div_mul_add (a:=(x-adr n u y).toNat) hu
     have h3:=c_o n u y ((x-adr n u y).toNat/u+1);rw[Nat.add_mul,Nat.one_mul,<-Nat.add_assoc]at h3;omega
   obtain⟨j,hj,j1,j2⟩:=this;refine hr j hj ⟨b,hb,?_,?_⟩
   ·have:adr n u b.1<adr n u (y+j+1):=by omega
    have:=h_V this;omega
   ·exact h_V (n:=n) (u:=u) (by omega)
 rw[Nat.sub_add_cancel hcu]at h1;exact h1
theorem k_K(hF:a_b n u L R)(hu:1<=u)(hL:∀b,b∈L->0<b.2){p:Int×Int}(hp:p∈R){c:Nat}(hc:1<=c)(hsz:(c*u:Nat)<=p.2-p.1) :
  ∃x,p.1=adr n u x/\c_z L c x/\(x=0\/b_k L (x-1)):=by
 have hcu:1<=c*u:=Nat.mul_le_mul hc hu;have h1:inR R p.1:=⟨p,hp,Int.le_refl _,by omega⟩
 have h2:=h_r hF.norm hp;have hin:=(hF.mem p.1).1 h1;have:∃x,p.1=adr n u x/\(x=0\/b_k L (x-1)):=by
  by_cases h4:p.1=(4*n:Nat)
  ·exact⟨0,by unfold adr;omega,.inl rfl⟩
  ·have:∃b,b∈L/\adr n u b.1<=p.1-1/\p.1-1<adr n u (b.1+b.2):=by
    apply Classical.byContradiction;intro hno;refine h2 ((hF.mem _).2 ⟨by have:=hin.1;omega,by have:=hin.2.1;omega,fun b hb hk=>hno ⟨b,hb,hk⟩⟩)
   obtain⟨b,hb,k1,k2⟩:=this;have hnb:=hin.2.2 b hb;have h0:=hL b hb;exact⟨b.1+b.2,by omega,.inr ⟨b,hb,by omega,by omega⟩⟩
 obtain⟨x,hx,hx0⟩:=this;refine⟨x,hx,fun j hj ⟨b,hb,k1,k2⟩=>?_,hx0⟩;have e1:=c_o n u x j;have e2:(j*u:Nat)<c*u:=Nat.mul_lt_mul_of_pos_right hj hu;have h3:inR R (adr n u (x+j)):=⟨p,hp,by omega,by omega⟩
 exact((hF.mem _).1 h3).2.2 b hb ⟨i_N k1,l_A hu k2⟩
theorem n_Z(hF:a_b n u L R)(hu:1<=u)(hn:u<=n)(hL:∀b,b∈L->0<b.2){c y:Nat}(hc:1<=c)(hy:y+c<=508)(hr:c_z L c y) :
  ∃i x,i<R.length/\(∀p,R[i]?=some p->(c*u:Nat)<=p.2-p.1/\p.1=adr n u x)/\(∀j p,j<i->R[j]?=some p->p.2-p.1<(c*u:Nat))/\x<=y/\c_z L c x/\(x=0\/b_k L (x-1)):=by
 obtain⟨p,hp,h1,h2⟩:=n_l hF hu hn hc hy hr;obtain⟨k,hk,hkp⟩:=List.getElem_of_mem hp;have:∃i,i<=k/\(∀q,R[i]?=some q->(c*u:Nat)<=q.2-q.1)/\∀j q,j<i->R[j]?=some q->q.2-q.1<(c*u:Nat):=by
  have key:∀m,m<=k+1->(∀j q,j<m->R[j]?=some q->q.2-q.1<(c*u:Nat))\/∃i,i<m/\(∀q,R[i]?=some q->(c*u:Nat)<=q.2-q.1)/\∀j q,j<i->R[j]?=some q->q.2-q.1<(c*u:Nat):=by
   intro m
   induction m with
   |zero=>intro _;exact .inl fun j q hj=>absurd hj (Nat.not_lt_zero j)
   |succ m ih=>
    intro hm;rcases ih (by omega)with h|⟨i,h3,h4,h5⟩
    ·have hlt:m<R.length:=by omega
     by_cases hc':(c*u:Nat)<=R[m].2-R[m].1
     ·refine .inr ⟨m,by omega,fun q hq=>?_,h⟩
      rw[List.getElem?_eq_getElem hlt]at hq;cases hq;exact hc'
     ·refine .inl fun j q hj hq=>?_
      by_cases hjm:j=m
      ·subst hjm
       rw[List.getElem?_eq_getElem hlt]at hq;cases hq;omega
      ·exact h j q (by omega) hq
    ·exact .inr ⟨i,by omega,h4,h5⟩
  rcases key (k+1) (Nat.le_refl _)with h|⟨i,h3,h4,h5⟩
  ·have:=h k p (by omega) (by rw[List.getElem?_eq_getElem hk,hkp])
   omega
  ·exact⟨i,by omega,h4,h5⟩
 obtain⟨i,hik,hi1,hi2⟩:=this;have hil:i<R.length:=by omega
 obtain⟨x,hx,hx1,hx2⟩:=k_K hF hu hL (List.getElem_mem hil) hc (hi1 _ (List.getElem?_eq_getElem hil));refine⟨i,x,hil,fun q hq=>⟨hi1 q hq,?_⟩,hi2,?_,hx1,hx2⟩
 ·rw[List.getElem?_eq_getElem hil]at hq
  cases hq;exact hx
 ·apply o_f (n:=n) hu
  rw[<-hx]
  by_cases hek:i=k
  ·subst hek
   rw[hkp];exact h1
  ·have h6:=List.pairwise_iff_getElem.1 hF.norm.1 i k hil hk (by omega)
   have h7:=hF.norm.2 _ (List.getElem_mem hil);rw[hkp]at h6;omega
theorem p_X(hF:a_b n u L R):R.length<=L.length+1:=by
 have hsub:∀p,p∈R->p.1∈((4*n:Nat):Int)::L.map fun b=>adr n u (b.1+b.2):=fun p hp=>by
  have h1:inR R p.1:=⟨p,hp,Int.le_refl _,hF.norm.2 p hp⟩;have h2:=h_r hF.norm hp;have hin:=(hF.mem p.1).1 h1
  by_cases h4:p.1=(4*n:Nat)
  ·rw[h4];exact List.mem_cons_self ..
  ·have:∃b,b∈L/\adr n u b.1<=p.1-1/\p.1-1<adr n u (b.1+b.2):=by
    apply Classical.byContradiction;intro hno;exact h2 ((hF.mem _).2 ⟨by have:=hin.1;omega,by have:=hin.2.1;omega,fun b hb hk=>hno ⟨b,hb,hk⟩⟩)
   obtain⟨b,hb,k1,k2⟩:=this;have hnb:=hin.2.2 b hb;exact List.mem_cons_of_mem _ (List.mem_map.2 ⟨b,hb,by omega⟩)
 have key:∀(R:Rs) (M:List Int),b_z R->(∀p,p∈R->p.1∈M)->R.length<=M.length:=by
  intro R
  induction R with
  |nil=>intro M _ _;exact Nat.zero_le _
  |cons q R ih=>
   intro M hR hM;obtain⟨h1,h2,h3⟩:=e_y hR;have hq:=hM q (List.mem_cons_self ..);have:=ih (M.erase q.1) h1 fun p hp=>(List.mem_erase_of_ne (by have:=h3 p hp;omega)).2 (hM p (List.mem_cons_of_mem _ hp))
   rw[List.length_erase_of_mem hq]at this;have:=List.length_pos_of_mem hq;rw[List.length_cons];omega
 have:=key R _ hF.norm hsub;simpa using this
end
theorem a_b.start{n u:Nat}(hn:1<=n):a_b n u [] [(((4*n:Nat):Int),((512*n:Nat):Int))]:=
 ⟨⟨by simp,fun p hp=>by rw[List.mem_singleton.1 hp];show((4*n:Nat):Int)<(512*n:Nat);omega⟩,fun x=>by
  constructor
  ·rintro⟨p,hp,h1,h2⟩
   rw[List.mem_singleton.1 hp]at h1 h2;exact⟨h1,h2,fun b hb=>by cases hb⟩
  ·rintro⟨h1,h2,_⟩
   exact⟨_,List.mem_singleton.2 rfl,h1,h2⟩⟩
theorem a_b.cut{n u:Nat}{L:List Bk}{R R':Rs}(h:a_b n u L R)(hn:b_z R')(b:Bk)(hm:∀x,inR R' x↔inR R x/\¬(adr n u b.1<=x/\x<adr n u (b.1+b.2))):a_b n u (L++[b]) R':=
 ⟨hn,fun x=>by
  rw[hm,h.mem];constructor
  ·rintro⟨⟨h1,h2,h3⟩,h4⟩
   refine⟨h1,h2,fun c hc=>?_⟩;rcases List.mem_append.1 hc with hc|hc
   ·exact h3 c hc
   ·rw[List.mem_singleton.1 hc];exact h4
  ·rintro⟨h1,h2,h3⟩
   exact⟨⟨h1,h2,fun c hc=>h3 c (List.mem_append_left _ hc)⟩,h3 b (List.mem_append_right _ (List.mem_singleton.2 rfl))⟩⟩
theorem a_b.same{n u:Nat}{L L':List Bk}{R:Rs}(h:a_b n u L R)(h1:∀b,b∈L->b∈L')(h2:∀b,b∈L'->b∈L):a_b n u L' R:=
 ⟨h.norm,fun x=>by
  rw[h.mem];exact⟨fun⟨a,b,c⟩=>⟨a,b,fun d hd=>c d (h2 d hd)⟩,fun⟨a,b,c⟩=>⟨a,b,fun d hd=>c d (h1 d hd)⟩⟩⟩
end vault
namespace vault
set_option maxRecDepth 100000
open Go.ChangeShapes Go.WideShapes Go.ChangeAt kit drive geom stripe Go.Deep
abbrev uA(A:VA):Nat:=A.p+1
def cU(A:VA)(ct:Nat):Nat:=(b_X A ct+A.p)/uA A
section
variable {A:VA}(hA:VOk A)
include hA
theorem k_r{ct:Nat}(h1:1<=ct):b_X A ct=ct+A.p*((ct+wdA A-1)/wdA A):=by
 obtain⟨hw,hn⟩:=b_P hA;unfold b_X a_P;have e:=Nat.div_add_mod ct (wdA A);have hr:=Nat.mod_lt ct hw;generalize hq:ct/wdA A=q at *;generalize hrr:ct%wdA A=r at *;have e2:q*A.n=A.p*q+wdA A*q:=by rw[hn,Nat.mul_add,Nat.mul_comm q A.p,Nat.mul_comm q (wdA A)]
 have e3:(ct+wdA A-1)/wdA A=q+if 0<r then 1 else 0:=by
  rw[<-e];split
  ·rw[show wdA A*q+r+wdA A-1=(r-1)+wdA A*(q+1) by rw[Nat.mul_succ];omega,Nat.add_mul_div_left _ _ hw,Nat.div_eq_of_lt (by omega),Nat.zero_add]
  ·rw[show wdA A*q+r+wdA A-1=(wdA A-1)+wdA A*q by omega,Nat.add_mul_div_left _ _ hw,Nat.div_eq_of_lt (by omega),Nat.zero_add,Nat.add_zero]
 rw[e3,Nat.mul_add];split
 ·rw[Nat.mul_one];omega
 ·rw[Nat.mul_zero];omega
theorem f_B{ct:Nat}(h1:1<=ct)(h2:ct<=32):q_p A.n A.p ct=((cU A ct*uA A:Nat):Int)/\q_q A.n A.p ct=0:=by
 obtain⟨hw,hn⟩:=b_P hA;have hm:b_R A.n A.p:=⟨by have:=hA.n2;omega,by have:=hA.n8;omega,by have:=hA.p1;omega,by have:=hA.p3;omega,by have:=hA.pn;omega⟩
 have hc:c_D ct:=⟨by omega,by omega⟩
 constructor
 ·unfold q_p
  rw[if_pos ⟨hm,hc⟩];unfold s_B upF cU;have e0:(A.n:Int)-(A.p:Int)=((wdA A:Nat):Int):=by omega
  have e1:((ct:Int)+((wdA A:Nat):Int)-1)/((wdA A:Nat):Int)=(((ct+wdA A-1)/wdA A:Nat):Int):=by
   rw[show(ct:Int)+((wdA A:Nat):Int)-1=((ct+wdA A-1:Nat):Int) by omega]
   rfl
  rw[e0,e1,Int.mul_ediv_cancel _ (by omega),k_r hA h1]
  generalize (ct+wdA A-1)/wdA A=k;have e2:(ct:Int)+(A.p:Int)*(k:Int)+((A.p:Int)+1)-1=((ct+A.p*k+A.p:Nat):Int):=by
   push_cast;omega
  rw[e2];push_cast;rfl
 ·unfold q_q
  rw[if_pos ⟨hm,hc⟩]
theorem i_J(ct:Nat):b_X A ct<=cU A ct*uA A:=by
 have h:=Nat.lt_div_mul_add (a:=b_X A ct+A.p) (b:=uA A) (by unfold uA;omega)
 unfold cU uA at *;omega
theorem i_K{ct:Nat}(h1:1<=ct):1<=cU A ct:=by
 have:=k_r hA h1;exact(Nat.le_div_iff_mul_le (by unfold uA;omega)).2 (by unfold uA;omega)
theorem k_7{ct:Nat}(h1:1<=ct):cU A ct<=ct:=by
 have h:=s_L hA h1;have e:ct*uA A=ct+A.p*ct:=by unfold uA;rw[Nat.mul_succ,Nat.mul_comm];omega
 exact Nat.le_of_lt_succ ((Nat.div_lt_iff_lt_mul (by unfold uA;omega)).2 (by rw[Nat.succ_mul,e];unfold uA;omega))
theorem d_j:cU A 2=2:=by
 have h1:=k_7 hA (ct:=2) (by omega)
 obtain⟨hw,hn⟩:=b_P hA;have h2:=k_r hA (ct:=2) (by omega)
 have h3:1<=(2+wdA A-1)/wdA A:=(Nat.le_div_iff_mul_le hw).2 (by omega)
 have h4:A.p*1<=A.p*((2+wdA A-1)/wdA A):=Nat.mul_le_mul_left _ h3;have h5:2<=cU A 2:=(Nat.le_div_iff_mul_le (by unfold uA;omega)).2 (by unfold uA;omega)
 omega
end
section
variable {A:VA}{o:Nat->Nat}{s:VS}
set_option maxHeartbeats 1000000 in
theorem e_u(hA:VOk A)(w:World)(h:VM A o s w)(q:Ptr)(h1:1<=q.ct)(h2:q.ct<=32)(h3:q.ad<=65536) :
  Calls prog 38 #[ptr A.v,.agg (x_ q)] w fun e w'=>e=.returned (.agg #[.int .i64 q.ad,.int .i64 ((q.ad+cU A q.ct*uA A:Nat):Int)])/\New w w':=by
 obtain⟨cc,hcc⟩:∃cc,Hid (cc=cU A q.ct*uA A):=⟨_,rfl⟩;have hc32:=k_7 hA h1;have hcb:cc<=128:=by
  rw[hcc.o];have h4:cU A q.ct*uA A<=32*4:=Nat.mul_le_mul (by omega) (by have:=hA.p3;unfold uA;omega)
  omega
 have hc:=Hd (fun w=>k_0 A.n A.p q.ct w);rw[(f_B hA h1 h2).1,(f_B hA h1 h2).2,<-hcc.o]at hc;rw[<-hcc.o];have v0:=h.v0;have v1:=h.v1;obtain⟨W0,hW0⟩:∃W0,W0=(w.alloc (.cells (x_ q) 107)).alloc (.cells #[.int .i64 0,.int .i64 0] 102):=⟨_,rfl⟩;have hN0:New w W0:=by rw[hW0];exact((New.refl w).alloc _).alloc _
 have hb0:Blk W0 w.heap.size 107 (x_ q):=by rw[hW0];exact(c_k w _).alloc _
 have hb1:Blk W0 (w.heap.size+1) 102 #[.int .i64 0,.int .i64 0]:=by
  rw[hW0];have:=Blk.fresh (w.alloc (.cells (x_ q) 107)) 102 #[.int .i64 0,.int .i64 0];simpa using this
 have hkeep:Hid (∀w',New W0 w'->w'.cell? ⟨A.v,0,none⟩=some (.int .i64 A.n)/\w'.cell? ⟨A.v,1,none⟩=some (.int .i64 A.p)/\w'.cell? ⟨w.heap.size,1,none⟩=some (.int .i64 q.ct)):=fun w' hn=>⟨((hN0.next hn).cell (a_ v0)).trans v0,((hN0.next hn).cell (a_ v1)).trans v1,(hb0.new hn).cell 1⟩;have hN0H:=Hd hN0;have hb0H:=Hd hb0;have hb1H:=Hd hb1;obtain⟨k0,k1,k2⟩:=hkeep.o W0 (New.refl _);clear hb0 hN0 hb1 v0 v1 h hc32;go_enter func38,ntmps38;go_wp2_with fail;rw[<-hW0];clear hW0;go_region_held3 (fun w'=>w'.cell? ⟨A.v,0,none⟩=some (.int .i64 A.n)/\w'.cell? ⟨A.v,1,none⟩=some (.int .i64 A.p)/\w'.cell? ⟨w.heap.size,1,none⟩=some (.int .i64 q.ct))
  (first
   |with_reducible exact hkeep.o _ (New.refl _).drew
   |with_reducible exact hkeep.o _ hN6.o)
  ((go_at_call 73;(with_reducible refine(hc.o _).mono ?_);rintro e W6 ⟨rfl,hn6⟩;have hN6:=Hd (New.next (New.refl W0).drew hn6);clear hn6))
 all_goals
  have b0:=(hb0H.o.new hN6.o).cell 0;have b1:=(hb1H.o.new hN6.o).cell 0;have b2:=(hb1H.o.new hN6.o).cell 1;have b3:=(hb1H.o.new hN6.o).frozen 0;have b4:=(hb1H.o.new hN6.o).frozen 1;have hx:=((hb1H.o.new hN6.o).put 0 (.int .i64 q.ad)).put 1 (.int .i64 ((q.ad:Int)+(cc:Int)));have x0:=hx.cell 0;have x1:=hx.cell 1;simp at b0 b1 b2 x0 x1;have hxH:=Hd (And.intro x0 x1);clear hx x0 x1;go_wp2;refine bodyPost_ret (v:=.agg #[.int .i64 q.ad,.int .i64 ((q.ad:Int)+(cc:Int))]) (by simp[results,results38,go_sem,hxH.o.1,hxH.o.2]) rfl ⟨by rw[Int.natCast_add],((hN0H.o.next hN6.o).set (Nat.le_succ _) _).set (Nat.le_succ _) _⟩
end
end vault
namespace span
open Go.ChangeShapes Go.WideShapes Go.ChangeAt kit
def c_A(f t:Int):Prop:=0<=f/\f<t/\t<=1048576
instance (f t:Int):Decidable (c_A f t):=by unfold c_A;infer_instance
theorem b_p(f t:Int)(w:World) :
  Calls prog 68 #[.agg #[.int .i64 f,.int .i64 t]] w fun e w'=>e=.returned (.bool (decide (c_A f t)))/\New w w':=by
 go_enter func68,ntmps68;go_wp2
 all_goals go_ret
 all_goals refine⟨b_t ?_,(New.refl _).alloc _⟩
 all_goals first
 |(refine(decide_eq_true ?_).symm;unfold c_A;omega)
 |(refine(decide_eq_false ?_).symm;unfold c_A;omega)
 |(refine decide_eq_decide.2 ?_;unfold c_A;omega)
def Rd(w:World)(A:Option Addr)(n:Nat)(F T:Nat->Int):Prop:=
 n<=maxLen/\(0<n->∃b off,A=some ⟨b,off,none⟩/\b<w.heap.size /\
  ∀i,i<n->w.cell? ⟨b,off+i*2,none⟩=some (.int .i64 (F i))/\w.cell? ⟨b,off+i*2+1,none⟩=some (.int .i64 (T i)))
theorem Rd.new{w w':World}{A:Option Addr}{n:Nat}{F T:Nat->Int}(h:Rd w A n F T)(hn:New w w'):Rd w' A n F T:=
 ⟨h.1,fun h0=>by
  obtain⟨b,off,hA,hb,hc⟩:=h.2 h0;exact⟨b,off,hA,Nat.lt_of_lt_of_le hb hn.size,fun i hi=>⟨(hn.cell hb).trans (hc i hi).1,(hn.cell hb).trans (hc i hi).2⟩⟩⟩
def c_t(F T:Nat->Int)(j:Nat):Prop:=c_A (F j) (T j)/\(j=0\/T (j-1)<F j)
instance (F T:Nat->Int)(j:Nat):Decidable (c_t F T j):=by unfold c_t;infer_instance
def b_g(n:Nat)(F T:Nat->Int):Bool:=decide (n<=200)&&(List.range n).all fun j=>decide (c_t F T j)
theorem e_z{n:Nat}{F T:Nat->Int}(h:n<=200)(hs:∀j,j<n->c_t F T j):b_g n F T=true:=by
 simp[b_g,h];exact hs
theorem n_M{n:Nat}{F T:Nat->Int}(h:¬n<=200):b_g n F T=false:=by simp[b_g,h]
theorem j_p{n j:Nat}{F T:Nat->Int}(hj:j<n)(hs:¬c_t F T j):b_g n F T=false:=by
 cases hb:b_g n F T with
 |false=>rfl
 |true=>
  simp[b_g]at hb;exact absurd (hb.2 j hj) hs
theorem c_V{n:Nat}{F T:Nat->Int}(h:b_g n F T=true):n<=200/\∀j,j<n->c_t F T j:=by simpa [b_g]using h
theorem May_any(A:Option Addr)(n c:Nat)(F T:Nat->Int)(w:World)(h:Rd w A n F T) :
  Calls prog 67 #[.slice A n c] w fun e w'=>e=.returned (.bool (b_g n F T))/\New w w':=by
 obtain⟨hm,hr⟩:=h;unfold maxLen at hm;go_enter func67,ntmps67;go_wp2;go_loopw [7] (fun k wr=>∃i:Nat,k=.int .i64 i/\i<=n/\New w wr/\Hid (∀j,j<i->c_t F T j)) (fun k _=>n-(intOf k).toNat);case atStart=>exact⟨0,rfl,by omega,New.refl w,fun j hj=>absurd hj (Nat.not_lt_zero j)⟩
 case round=>
  obtain⟨i,rfl,hi,hnw,hup⟩:=hrel
  by_cases hlt:i<n
  ·obtain⟨b,off,rfl,hb,hcs⟩:=hr (by omega)
   obtain⟨c0,c1⟩:=hcs i hlt;have d0:wr.cell? ⟨b,off+i*2,none⟩=some (.int .i64 (F i)):=(hnw.cell hb).trans c0;have d1:wr.cell? ⟨b,off+i*2+1,none⟩=some (.int .i64 (T i)):=(hnw.cell hb).trans c1;have dp:Hid (0<i->wr.cell? ⟨b,off+(i-1)*2+1,none⟩=some (.int .i64 (T (i-1)))):=fun h0=>(hnw.cell hb).trans (hcs (i-1) (by omega)).2
   have hbr:b<wr.heap.size:=Nat.lt_of_lt_of_le hb hnw.size;clear hcs c0 c1 hr;have e0:=fun(W1:World) hW1=>t_.keep (w:=W1) (a:=⟨wr.heap.size,0,none⟩) (v:=.int .i64 (F i)) hW1;have e1:=fun(W1:World) hW1=>t_.keep (w:=W1) (a:=⟨wr.heap.size,1,none⟩) (v:=.int .i64 (T i)) hW1;have e2:=fun(W1:World) hW1=>t_.keep (w:=W1) (a:=⟨b,off+(i-1)*2+1,none⟩) (v:=.int .i64 (T (i-1))) hW1;have e0:=Hd e0;have e1:=Hd e1;have e2:=Hd e2
   by_cases h1:c_A (F i) (T i)
   ·have hd:decide (c_A (F i) (T i))=true:=decide_eq_true h1
    have h1:=Hd h1
    by_cases h0:0<i
    ·by_cases hcmp:T (i-1)<F i
     ·have hs:Hid (∀j,j<i+1->c_t F T j):=fun j hj=>by
       by_cases hji:j=i
       ·subst hji;exact⟨h1.o,.inr hcmp⟩
       ·exact hup.o j (by omega)
      go_wp2;obtain⟨W1,hW1⟩:∃W1,W1=wr.alloc (.cells #[.int .i64 (F i),.int .i64 (T i)] 102):=⟨_,rfl⟩;have f0:=e0.o W1 (by rw[hW1];simp)
      have f1:=e1.o W1 (by rw[hW1];simp)
      have f2:=e2.o W1 (by rw[hW1,World.cell?_alloc_lt _ _ _ hbr];exact dp.o h0)
      have hN:Hid (New w W1):=by rw[hW1];exact hnw.alloc _
      rw[<-hW1];clear hW1 d0 d1 dp e0 e1 e2
      (refine d_ (by kernel_rfl) (by kernel_rfl) ?_;(repeat (first|go_big_quiet_step (first|(go_at_call 68;exact t_.call _ (b_p _ _ _)))|quiet_step (first|(go_at_call 68;exact t_.call _ (b_p _ _ _)))));refine wpQuiet_nil ?_;rintro W2 ⟨⟨_,hn_W2⟩,rfl⟩)
      go_wp2;go_roundw;case rel=>exact⟨i+1,by go_num,by omega,hN.o.next hn_W2,hs.o⟩
      case measure=>simp[intOf];omega
     ·have hs:Hid (¬c_t F T i):=fun h=>by rcases h.2 with h2|h2<;>omega
      go_wp2;obtain⟨W1,hW1⟩:∃W1,W1=wr.alloc (.cells #[.int .i64 (F i),.int .i64 (T i)] 102):=⟨_,rfl⟩;have f0:=e0.o W1 (by rw[hW1];simp)
      have f1:=e1.o W1 (by rw[hW1];simp)
      have f2:=e2.o W1 (by rw[hW1,World.cell?_alloc_lt _ _ _ hbr];exact dp.o h0)
      have hN:Hid (New w W1):=by rw[hW1];exact hnw.alloc _
      rw[<-hW1];clear hW1 d0 d1 dp e0 e1 e2
      (refine d_ (by kernel_rfl) (by kernel_rfl) ?_;(repeat (first|go_big_quiet_step (first|(go_at_call 68;exact t_.call _ (b_p _ _ _)))|quiet_step (first|(go_at_call 68;exact t_.call _ (b_p _ _ _)))));refine wpQuiet_nil ?_;rintro W2 ⟨⟨_,hn_W2⟩,rfl⟩)
      go_wp2;go_ret;exact⟨b_t (j_p hlt hs.o).symm,hN.o.next hn_W2⟩
    ·have hs:Hid (∀j,j<i+1->c_t F T j):=fun j hj=>by
      have hj0:j=0:=by omega
      have hi0:i=0:=by omega
      subst hj0;exact⟨by rw[<-hi0];exact h1.o,.inl rfl⟩
     go_wp2;obtain⟨W1,hW1⟩:∃W1,W1=wr.alloc (.cells #[.int .i64 (F i),.int .i64 (T i)] 102):=⟨_,rfl⟩;have f0:=e0.o W1 (by rw[hW1];simp)
     have f1:=e1.o W1 (by rw[hW1];simp)
     have hN:Hid (New w W1):=by rw[hW1];exact hnw.alloc _
     rw[<-hW1];clear hW1 d0 d1 dp e0 e1 e2
     (refine d_ (by kernel_rfl) (by kernel_rfl) ?_;(repeat (first|go_big_quiet_step (first|(go_at_call 68;exact t_.call _ (b_p _ _ _)))|quiet_step (first|(go_at_call 68;exact t_.call _ (b_p _ _ _)))));refine wpQuiet_nil ?_;rintro W2 ⟨⟨_,hn_W2⟩,rfl⟩)
     go_wp2;go_roundw;case rel=>exact⟨i+1,by go_num,by omega,hN.o.next hn_W2,hs.o⟩
     case measure=>simp[intOf];omega
   ·have hd:decide (c_A (F i) (T i))=false:=decide_eq_false h1
    have hs:Hid (¬c_t F T i):=fun h=>h1 h.1;clear h1;go_wp2;obtain⟨W1,hW1⟩:∃W1,W1=wr.alloc (.cells #[.int .i64 (F i),.int .i64 (T i)] 102):=⟨_,rfl⟩;have f0:=e0.o W1 (by rw[hW1];simp)
    have f1:=e1.o W1 (by rw[hW1];simp)
    have hN:Hid (New w W1):=by rw[hW1];exact hnw.alloc _
    rw[<-hW1];clear hW1 d0 d1 dp e0 e1 e2
    (refine d_ (by kernel_rfl) (by kernel_rfl) ?_;(repeat (first|go_big_quiet_step (first|(go_at_call 68;exact t_.call _ (b_p _ _ _)))|quiet_step (first|(go_at_call 68;exact t_.call _ (b_p _ _ _)))));refine wpQuiet_nil ?_;rintro W2 ⟨⟨_,hn_W2⟩,rfl⟩)
    go_wp2;go_ret;exact⟨b_t (j_p hlt hs.o).symm,hN.o.next hn_W2⟩
  ·have hs:Hid (b_g n F T=decide (n<=200)):=by
    by_cases h2:n<=200
    ·exact(e_z h2 (fun j hj=>hup.o j (by omega))).trans (decide_eq_true h2).symm
    ·exact(n_M h2).trans (decide_eq_false h2).symm
   go_wp2
   all_goals go_ret
   all_goals exact⟨b_t (by rw[hs.o];exact decide_eq_decide.2 (by omega)),hnw⟩
end span
namespace spans
open Go.ChangeShapes Go.WideShapes Go.ChangeAt kit span Go.Deep
theorem j_D:(prog.info? 230).map (fun i=>(i.zero,i.size,i.bytes))=some (some (.agg #[.int .i64 0,.int .i64 0]),2,16):=by kernel_rfl
def V_(E:List (Int×Int)):List Value:=E.flatMap fun e=>[.int .i64 e.1,.int .i64 e.2]
theorem b_N(E E':List (Int×Int)):V_ (E++E')=V_ E++V_ E':=by unfold V_;rw[List.flatMap_append]
theorem q_7(E:List (Int×Int)):(V_ E).length=2*E.length:=by
 induction E with
 |nil=>rfl
 |cons e E ih=>unfold V_ at ih ⊢;simp only[List.flatMap_cons,List.length_append,ih,List.length_cons,List.length_nil];omega
theorem encE_one(E:List (Int×Int)):∀u∈V_ E,u.oneCell'=true:=by
 intro u hu;unfold V_ at hu;rw[List.mem_flatMap]at hu;obtain⟨e,_,h⟩:=hu;simp at h;rcases h with rfl|rfl<;>rfl
theorem encE_at(E:List (Int×Int)):∀i (h:i<E.length),(V_ E)[2*i]?=some (.int .i64 E[i].1)/\(V_ E)[2*i+1]?=some (.int .i64 E[i].2):=by
 induction E with
 |nil=>intro i h;cases h
 |cons e E ih=>
  intro i h;have hc:V_ (e::E)=.int .i64 e.1 :: .int .i64 e.2::V_ E:=rfl;cases i with
  |zero=>rw[hc];exact⟨rfl,rfl⟩
  |succ i=>
   have:=ih i (by simpa using h)
   rw[hc,show 2*(i+1)=2*i+1+1 by omega]
   exact this
def edL(F T:Nat->Int)(by_:Int):Nat->List (Int×Int)
 |0=>[]
 |k+1=>edL F T by_ k++[(F k,by_),(T k,-by_)]
theorem f_A(F T:Nat->Int)(b:Int):∀k,(edL F T b k).length=2*k
 |0=>rfl
 |k+1=>by unfold edL;rw[List.length_append,f_A F T b k];simp;omega
theorem s_b(w:World)(o:Obj)(t:TypeId)(cs:Array Value):((w.alloc o).alloc (.cells cs t)).heap[w.heap.size+1]?=some (.cells cs t (0,0)):=heap_alloc2_new w o _
set_option maxRecDepth 100000 in
theorem c_f(A:Option Addr)(n c:Nat)(b:Int)(F T:Nat->Int)(w:World)(h:Rd w A n F T)(hn:n<=200)(hb:b=1\/b = -1) :
  Calls prog 71 #[.slice A n c,.int .i64 b] w fun e w'=>∃v,e=.returned v/\w'.ownsRow w.heap.size 230 2 v (2*n) (V_ (edL F T b n))/\New w w':=by
 obtain⟨i0,hi0,hz0,hz1,hz2⟩:=info_parts j_D;have hb1 : -1<=b:=by omega
 have hb2:b<=1:=by omega
 have h0:=Hd h;clear h hb;go_enter func71,ntmps71;go_wp2;go_loopw [10,5] (fun k v wr=>∃(q:Nat) (sv:Value),sv=v/\k=.int .i64 q/\q<=n/\wr.ownsRow w.heap.size 230 2 sv (2*q) (V_ (edL F T b q))/\New w wr) (fun k _ _=>n-(intOf k).toNat);case atStart=>exact⟨0,_,rfl,rfl,by omega,World.ownsRow_nil _ _ _ _,New.refl w⟩
 case round=>
  obtain⟨q,sv,rfl,rfl,hq,hown,hnw⟩:=hrel
  by_cases hlt:q<n
  ·obtain⟨bb,off,rfl,hbb,hcs⟩:=h0.o.2 (by omega)
   obtain⟨c0,c1⟩:=hcs q hlt;have d0:=(hnw.cell hbb).trans c0;have d1:=(hnw.cell hbb).trans c1;have hnext:Hid (V_ (edL F T b (q+1))=V_ (edL F T b q)++[.int .i64 (F q),.int .i64 b,.int .i64 (T q),.int .i64 (-b)]):=by
    have h1:edL F T b (q+1)=edL F T b q++[(F q,b),(T q,-b)]:=rfl;rw[h1,b_N];exact(rfl:_=_)
   have hsz:=hnw.size;have hown1:=Hd ((hown.alloc (.cells #[.int .i64 (F q),.int .i64 (T q)] 102)).alloc (.cells #[.int .i64 (F q),.int .i64 b,.int .i64 (T q),.int .i64 (-b)] 230));have hnw1:=Hd ((hnw.alloc (.cells #[.int .i64 (F q),.int .i64 (T q)] 102)).alloc (.cells #[.int .i64 (F q),.int .i64 b,.int .i64 (T q),.int .i64 (-b)] 230));have hnb:=Hd (s_b wr (.cells #[.int .i64 (F q),.int .i64 (T q)] 102) 230 #[.int .i64 (F q),.int .i64 b,.int .i64 (T q),.int .i64 (-b)]);clear hcs c0 c1 hown hnw;have hli:(q:Int)<(n:Int):=by omega
   go_wp2_with (at_builtin;refine wpList_append_own _ rfl _ _ 158 rfl w.heap.size 230 i0 _ 2 16 underlying158 hi0 hz0 hz1 hz2 rfl (by decide) sv (2*q) (V_ (edL F T b q)) rfl hown1.o ⟨wr.heap.size+1,0,none⟩ 2 2 [.int .i64 (F q),.int .i64 b,.int .i64 (T q),.int .i64 (-b)] rfl rfl (World.news_of_block (cs:=#[.int .i64 _,.int .i64 _,.int .i64 _,.int .i64 _]) (t:=230) (fr:=(0,0)) hnb.o) (by simp[Value.oneCell']) (by unfold maxLen;omega) (by omega) (by simp;omega) ?_;intro v3 w3 hown3 hgrow hnil)
   have hN3:=Hd (hnw1.o.appendO hown1.o (Nat.le_refl _) hgrow);rw[<-hnext.o]at hown3;have hown4:=Hd hown3;clear hown3 hgrow hnil;go_wp2;go_roundw;case rel=>exact⟨q+1,_,rfl,by go_num,by omega,hown4.o,hN3.o⟩
   case measure=>simp[intOf];omega
  ·have hqn:q=n:=by omega
   subst hqn;go_wp2;go_ret;exact⟨_,rfl,hown,hnw⟩
end spans
namespace span
open Go.ChangeShapes Go.WideShapes Go.ChangeAt kit
theorem q_5{P:Program}{f:FuncId}{fn:Func}{c:Code}(hf:P.funcs[f]?=some fn)(hname:(fn.name == "runtime.NumGoroutine")=false)(hb:fn.body=some c) :
  ∀(args:Array Value) (w:World),(callFunc f args).run P w=.ok (.enter f args) w:=by
 intro args w;have h1:fn.name≠ "runtime.NumGoroutine" := by simpa using hname
 simp[callFunc,hf,h1,hb]
def inB(F T:Nat->Int)(m:Int)(j:Nat):Bool:=decide (F j<=m)&&decide (m<T j)
def d_l(n:Nat)(F T:Nat->Int)(m:Int):Bool:=b_g n F T&&(List.range n).any fun j=>inB F T m j
theorem s_u{n:Nat}{F T:Nat->Int}(hs:∀j,j<n->c_t F T j):∀(d i:Nat),i+d<n->T i<=T (i+d)/\(0<d->T i<F (i+d))
 |0,i,_=>⟨Int.le_refl _,fun h=>absurd h (Nat.lt_irrefl 0)⟩
 |d+1,i,h=>by
  have ih:=s_u hs d i (by omega)
  obtain⟨h1,h2⟩:=hs (i+d+1) (by omega)
  have h3:T (i+d)<F (i+d+1):=by rcases h2 with h2|h2;omega;exact h2
  have h4:=h1.2.1;rw[show i+(d+1)=i+d+1 by omega]
  exact⟨by omega,fun _=>by omega⟩
end span
namespace spans
open Go.ChangeShapes Go.WideShapes Go.ChangeAt kit span Go.Deep
theorem f_F(F T:Nat->Int)(b:Int):∀k,c_x (edL F T b k)=0
 |0=>rfl
 |k+1=>by
  unfold edL;rw[c_E,f_F F T b k];simp only[c_x];omega
theorem q_8{F T:Nat->Int}{b:Int}:∀{k:Nat} {e:Int×Int},e∈edL F T b k->∃j,j<k/\(e=(F j,b)\/e=(T j,-b))
 |0,e,h=>by cases h
 |k+1,e,h=>by
  unfold edL at h;rcases List.mem_append.1 h with h1|h1
  ·obtain⟨j,hj,h2⟩:=q_8 h1
   exact⟨j,by omega,h2⟩
  ·simp at h1
   exact⟨k,by omega,h1⟩
theorem q_9{F T:Nat->Int}{b:Int}{n:Nat}(hm:∀j,j<n->c_t F T j)(hb:b=1\/b = -1):∀e∈edL F T b n,0<=e.1/\e.1<=1048576/\-1<=e.2/\e.2<=1:=fun e he=>by
 obtain⟨j,hj,h⟩:=q_8 he;have h1:=(hm j hj).1;unfold c_A at h1;rcases h with rfl|rfl
 ·exact⟨h1.1,by simp only;omega,by simp only;omega,by simp only;omega⟩
 ·exact⟨by simp only;omega,h1.2.2,by simp only;omega,by simp only;omega⟩
theorem m_Q{F T:Nat->Int}{b:Int}{n:Nat}(hm:∀j,j<n->c_t F T j)(x:Int):∀k,k<=n->dep (edL F T b k) x=if(List.range k).any (fun j=>inB F T x j)then b else 0
 |0,_=>by simp[edL,dep]
 |k+1,h=>by
  have ih:=m_Q (b:=b) hm x k (by omega)
  have hk:=(hm k (by omega)).1
  unfold c_A at hk;unfold edL;rw[d_J,ih];simp only[dep];rw[List.range_succ,List.any_append];simp only[List.any_cons,List.any_nil,Bool.or_false]
  by_cases hx:F k<=x
  ·have hno:(List.range k).any (fun j=>inB F T x j)=false:=by
    rw[List.any_eq_false];intro j hj;have hj':=List.mem_range.1 hj;have:=(s_u hm (k-j) j (by omega)).2 (by omega)
    rw[show j+(k-j)=k by omega]at this
    unfold inB;simp;intro _;omega
   rw[hno]
   by_cases ht:T k<=x
   ·have hi:inB F T x k=false:=by unfold inB;simp;omega
    rw[hi,if_pos hx,if_pos ht];simp;omega
   ·have hi:inB F T x k=true:=by unfold inB;simp;omega
    rw[hi,if_pos hx,if_neg ht];simp
  ·have hi:inB F T x k=false:=by unfold inB;simp;omega
   have ht:¬T k<=x:=by omega
   rw[hi,if_neg hx,if_neg ht];simp
theorem m_P{F T:Nat->Int}{b:Int}{n:Nat}(hm:b_g n F T=true)(x:Int):dep (edL F T b n) x=if d_l n F T x then b else 0:=by
 rw[m_Q (c_V hm).2 x n (Nat.le_refl _)];unfold d_l;rw[hm,Bool.true_and]
theorem q_U(d:Int)(w:World):Calls prog 72 #[.int .i64 d] w fun e w'=>e=.returned (.bool (decide (0<d)))/\w=w':=by
 go_enter func72,ntmps72;go_wp2;go_ret;exact⟨by simp,rfl⟩
theorem o_B(A:Option Addr)(n c:Nat)(w:World)(hn:n<=maxLen) :
  Calls prog 69 #[.slice A n c] w fun e w'=>e=.returned (.tuple #[if n<=200 then .slice A n c else .slice none 0 0,.int .i64 (if n<=200 then 0 else 8)])/\w=w':=by
 unfold maxLen at hn
 by_cases h:n<=200
 ·rw[if_pos h,if_pos h]
  have hd:decide ((200:Int)<(n:Int))=false:=by simp;omega
  go_enter func69,ntmps69;go_wp2;go_ret2;exact⟨rfl,rfl⟩
 ·rw[if_neg h,if_neg h]
  have hd:decide ((200:Int)<(n:Int))=true:=by simp;omega
  go_enter func69,ntmps69;go_wp2;go_ret2;exact⟨rfl,rfl⟩
def g_L(S:Int->Bool)(w:World)(e:Ending)(w':World):Prop:=
 (∃(v:Value) (R:Rs),b_z R/\(∀x,S x=true↔inR R x)/\R.length<=2000/\w'.ownsRow w.heap.size 102 2 v R.length (V_ R) /\
    e=.returned (.tuple #[if R.length<=200 then v else .slice none 0 0,.int .i64 (if R.length<=200 then 0 else 8)]))/\New w w'
theorem j_f(f t:Int)(h:c_A f t):b_g 1 (fun _=>f) (fun _=>t)=true:=e_z (by omega) fun j hj=>by
 have:j=0:=by omega
 subst this;exact⟨h,.inl rfl⟩
theorem s_S(w:World)(f t:Int)(T:TypeId):Rd (w.alloc (.cells #[.int .i64 f,.int .i64 t] T)) (some ⟨w.heap.size,0,none⟩) 1 (fun _=>f) (fun _=>t):=
 ⟨by unfold maxLen;omega,fun _=>⟨w.heap.size,0,rfl,by simp,fun i hi=>by
  have:i=0:=by omega
  subst this;constructor<;>simp⟩⟩
end spans
namespace spans
open Go.Shelf
def j_v:Go.Shelf.Ren:=⟨fun|6=>119|10=>156|11=>157|12=>158|13=>159|14=>160|24=>194|25=>195|26=>196|27=>197|28=>198|29=>199|30=>200|31=>201|32=>202|33=>203|34=>223|35=>224|36=>225|37=>226|38=>227|39=>240|n=>n,fun|20=>20|26=>231|35=>281|0=>0|37=>283|3=>3|41=>239|44=>288|49=>324|51=>326|4=>4|54=>329|53=>328|58=>333|5=>5|9=>9|60=>350|64=>251|66=>363|67=>23|17=>17|32=>278|33=>279|82=>397|12=>12|75=>390|76=>391|77=>392|78=>393|79=>394|80=>395|n=>n,fun|n=>n⟩
theorem r_A:Go.Proofs.LaysGg.n6 prog j_v:={
 mixed:=by kernel_rfl
 f6:=func119.trans (congrArg some (by kernel_rfl))
 f10:=func156.trans (congrArg some (by kernel_rfl))
 f11:=func157.trans (congrArg some (by kernel_rfl))
 f12:=func158.trans (congrArg some (by kernel_rfl))
 f13:=func159.trans (congrArg some (by kernel_rfl))
 f14:=func160.trans (congrArg some (by kernel_rfl))
 f24:=func194.trans (congrArg some (by kernel_rfl))
 f25:=func195.trans (congrArg some (by kernel_rfl))
 f26:=func196.trans (congrArg some (by kernel_rfl))
 f27:=func197.trans (congrArg some (by kernel_rfl))
 f28:=func198.trans (congrArg some (by kernel_rfl))
 f29:=func199.trans (congrArg some (by kernel_rfl))
 f30:=func200.trans (congrArg some (by kernel_rfl))
 f31:=func201.trans (congrArg some (by kernel_rfl))
 f32:=func202.trans (congrArg some (by kernel_rfl))
 f33:=func203.trans (congrArg some (by kernel_rfl))
 f34:=func223.trans (congrArg some (by kernel_rfl))
 f35:=func224.trans (congrArg some (by kernel_rfl))
 f36:=func225.trans (congrArg some (by kernel_rfl))
 f37:=func226.trans (congrArg some (by kernel_rfl))
 f38:=func227.trans (congrArg some (by kernel_rfl))
 f39:=func240.trans (congrArg some (by kernel_rfl))
 t0:=underlying0
 a0:=Tryz.isAgg0
 z0:=Tryz.sizeOf0
 v0:=Tryz.zeroValue0
 i0:=by kernel_rfl
 t3:=underlying3
 a3:=Tryz.isAgg3
 z3:=Tryz.sizeOf3
 v3:=Tryz.zeroValue3
 i3:=by kernel_rfl
 t4:=underlying4
 a4:=Tryz.isAgg4
 z4:=Tryz.sizeOf4
 v4:=Tryz.zeroValue4
 i4:=by kernel_rfl
 t5:=underlying5
 a5:=Tryz.isAgg5
 z5:=Tryz.sizeOf5
 v5:=Tryz.zeroValue5
 i5:=by kernel_rfl
 t9:=underlying9
 a9:=Tryz.isAgg9
 z9:=Tryz.sizeOf9
 v9:=Tryz.zeroValue9
 i9:=by kernel_rfl
 t12:=underlying12
 a12:=Tryz.isAgg12
 z12:=Tryz.sizeOf12
 v12:=Tryz.zeroValue12
 i12:=by kernel_rfl
 t17:=underlying17
 a17:=Tryz.isAgg17
 z17:=Tryz.sizeOf17
 v17:=Tryz.zeroValue17
 i17:=by kernel_rfl
 t20:=underlying20
 a20:=Tryz.isAgg20
 z20:=Tryz.sizeOf20
 v20:=Tryz.zeroValue20
 i20:=by kernel_rfl
 t26:=underlying231
 a26:=Tryz.isAgg231
 z26:=Tryz.sizeOf231
 v26:=Tryz.zeroValue231
 i26:=by kernel_rfl
 t32:=underlying278
 a32:=Tryz.isAgg278
 z32:=Tryz.sizeOf278
 v32:=Tryz.zeroValue278
 i32:=by kernel_rfl
 t33:=underlying279
 a33:=Tryz.isAgg279
 z33:=Tryz.sizeOf279
 v33:=Tryz.zeroValue279
 i33:=by kernel_rfl
 t35:=underlying281
 a35:=Tryz.isAgg281
 z35:=Tryz.sizeOf281
 v35:=Tryz.zeroValue281
 i35:=by kernel_rfl
 t37:=underlying283
 a37:=Tryz.isAgg283
 z37:=Tryz.sizeOf283
 v37:=Tryz.zeroValue283
 i37:=by kernel_rfl
 t41:=underlying239
 a41:=Tryz.isAgg239
 z41:=Tryz.sizeOf239
 v41:=Tryz.zeroValue239
 i41:=by kernel_rfl
 t44:=underlying288
 a44:=Tryz.isAgg288
 z44:=Tryz.sizeOf288
 v44:=Tryz.zeroValue288
 i44:=by kernel_rfl
 t49:=underlying324
 a49:=Tryz.isAgg324
 z49:=Tryz.sizeOf324
 v49:=Tryz.zeroValue324
 i49:=by kernel_rfl
 t51:=underlying326
 a51:=Tryz.isAgg326
 z51:=Tryz.sizeOf326
 v51:=Tryz.zeroValue326
 i51:=by kernel_rfl
 t53:=underlying328
 a53:=Tryz.isAgg328
 z53:=Tryz.sizeOf328
 v53:=Tryz.zeroValue328
 i53:=by kernel_rfl
 t54:=underlying329
 a54:=Tryz.isAgg329
 z54:=Tryz.sizeOf329
 v54:=Tryz.zeroValue329
 i54:=by kernel_rfl
 t58:=underlying333
 a58:=Tryz.isAgg333
 z58:=Tryz.sizeOf333
 v58:=Tryz.zeroValue333
 i58:=by kernel_rfl
 t60:=underlying350
 a60:=Tryz.isAgg350
 z60:=Tryz.sizeOf350
 v60:=Tryz.zeroValue350
 i60:=by kernel_rfl
 t64:=underlying251
 a64:=Tryz.isAgg251
 z64:=Tryz.sizeOf251
 v64:=Tryz.zeroValue251
 i64:=by kernel_rfl
 t66:=underlying363
 a66:=Tryz.isAgg363
 z66:=Tryz.sizeOf363
 v66:=Tryz.zeroValue363
 i66:=by kernel_rfl
 t67:=underlying23
 a67:=Tryz.isAgg23
 z67:=Tryz.sizeOf23
 v67:=Tryz.zeroValue23
 i67:=by kernel_rfl
 t75:=underlying390
 a75:=Tryz.isAgg390
 z75:=Tryz.sizeOf390
 v75:=Tryz.zeroValue390
 i75:=by kernel_rfl
 t76:=underlying391
 a76:=Tryz.isAgg391
 z76:=Tryz.sizeOf391
 v76:=Tryz.zeroValue391
 i76:=by kernel_rfl
 t77:=underlying392
 a77:=Tryz.isAgg392
 z77:=Tryz.sizeOf392
 v77:=Tryz.zeroValue392
 i77:=by kernel_rfl
 t78:=underlying393
 a78:=Tryz.isAgg393
 z78:=Tryz.sizeOf393
 v78:=Tryz.zeroValue393
 i78:=by kernel_rfl
 t79:=underlying394
 a79:=Tryz.isAgg394
 z79:=Tryz.sizeOf394
 v79:=Tryz.zeroValue394
 i79:=by kernel_rfl
 t80:=underlying395
 a80:=Tryz.isAgg395
 z80:=Tryz.sizeOf395
 v80:=Tryz.zeroValue395
 i80:=by kernel_rfl
 t82:=underlying397
 a82:=Tryz.isAgg397
 z82:=Tryz.sizeOf397
 v82:=Tryz.zeroValue397
 i82:=by kernel_rfl}
open Go.ChangeShapes Go.WideShapes Go.ChangeAt kit span Go.Deep Go.Lib Go.Sort
def e_I(p:Int×Int):List Value:=[.int .i64 p.1,.int .i64 p.2]
def ltP(a b:Int×Int):Bool:=decide (a.1<b.1)
theorem u_a:SWO ltP where
 irrefl:=fun x=>by simp[ltP]
 trans:=fun x y z h1 h2=>by simp[ltP]at *;omega
 ntrans:=fun x y z h1 h2=>by simp[ltP]at *;omega
theorem p_E(blk c Bs size:Nat)(W:World)(G:Nat->Int)(hs:W.cell? ⟨Bs,0,none⟩=some (.slice (some ⟨blk,0,none⟩) size c))
  (hc:∀t,t<size->W.cell? ⟨blk,0+t*2,none⟩=some (.int .i64 (G t))) (i j:Nat) (hi:i<size) (hj:j<size) (hsz:size<=1000) :
  Calls prog 120 #[.int .i64 i,.int .i64 j,.pointer (some ⟨Bs,0,none⟩)] W fun e w'=>e=.returned (.bool (decide (G i<G j)))/\∃q,w'=W.drewN q:=by
 have ci:=hc i hi;have cj:=hc j hj;rw[Nat.zero_add]at ci cj;have hc0:=Hd hc;clear hc;go_enter func120,ntmps120;go_wp2;go_quiet (fail);go_wp2;go_ret;exact⟨rfl,nq,rfl⟩
theorem t_U:(prog.info? 158).map (·.desc)=some (.slice 230):=by kernel_rfl
theorem t_V:(prog.info? 230).map (fun i=>(i.size,i.hasPointers,i.bytes))=some (2,false,16):=by kernel_rfl
theorem swk{ie:TypeInfo}(h:ie.hasPointers=false)(hb:ie.bytes=16)(n:Nat)(h2:2<=n):Lib.swapperK n ie 25=9:=by
 have c:(n==0)=false:=by simp;omega
 have d:(n==1)=false:=by simp;omega
 simp[Lib.swapperK,h,hb,c,d]
theorem o_N(blk c Bs:Nat)(d:Array (Int×Int))(h2:2<=d.size)(hsz:d.size<=1000)(w:World)(hH:HoldsK e_I 2 w blk 0 d)(hblk:blk<w.heap.size)
  (hBs:w.cell? ⟨Bs,0,none⟩=some (.slice (some ⟨blk,0,none⟩) d.size c)) (hB1:Bs<w.heap.size) (hB2:Bs≠blk) :
  Calls prog 119 #[.iface 158 (.slice (some ⟨blk,0,none⟩) d.size c),.func (.func 120) #[] #[.pointer (some ⟨Bs,0,none⟩)]] w fun e w'=>
   e=.returned (.tuple #[])/\∃d' n os,PermIn 0 d.size d d'/\SortedIn ltP 0 d.size d'/\w'=grow (putRowK e_I 2 (Sort.ahead w n) blk 0 d') os:=by
 obtain⟨it,hit,hdt⟩:=Option.map_eq_some_iff.1 t_U;obtain⟨ie,hie,hee⟩:=Option.map_eq_some_iff.1 t_V;simp only[Prod.mk.injEq]at hee;obtain⟨he1,he2,he3⟩:=hee;have hless:LessReadsK prog 120 #[.pointer (some ⟨Bs,0,none⟩)] e_I 2 ltP blk 0 d.size w:=by
  intro m os dk hs i j hi hj;have e:sortWorldK e_I 2 w blk 0 m dk os=putRowK e_I 2 (grow (Sort.ahead w m) os) blk 0 dk:=by
   unfold sortWorldK;rw[putRowK_grow _ _ (Sort.ahead w m) _ blk 0 _ hblk]
  have hHg:HoldsK e_I 2 (grow (Sort.ahead w m) os) blk 0 d:=holdsK_grow _ _ _ _ blk 0 d hblk (holdsK_ahead _ _ _ _ _ _ _ hH);refine p_E blk c Bs d.size _ (fun t=>dk[t]!.1) ?_ (fun t ht=>?_) i j hi hj (by omega)
  ·rw[e,cell?_putRowK_other _ _ _ blk 0 dk _ (by exact hB2),cell?_grow _ _ _ (by exact hB1)];exact hBs
  ·rw[e];exact((holdsK_putRowK _ _ _ blk 0 d dk hHg hs).cell (i:=t) (c:=0) (by omega) (by omega)).1
 exact Any.sort_Slice_cells_sorted r_A 158 230 it ie hit hdt (by kernel_rfl) hie 25 (fun _=>by kernel_rfl) e_I 2 (fun _=>rfl) he1 (fun _=>by kernel_rfl)
  (fun x v hv=>by simp[e_I]at hv;rcases hv with rfl|rfl<;>rfl) ltP u_a 120 _
  (enters_of func120 (by kernel_rfl) rfl) blk 0 c d h2 (by omega) 193 (by rw[swk he2 he3 _ h2];kernel_rfl) false
  (fun args W=>run_callFunc_extern func193 (by kernel_rfl) (by kernel_rfl) (by kernel_rfl) (e:=Extern.ReflectliteSwapper.swap false) (by kernel_rfl) args W) w hless hH hblk
theorem k_O{w:World}{base:Nat}{e:TypeId}{size:Nat}{g n c:Nat}{m:Nat}{xs:List Value}(h:w.ownsRow base e size (.slice (some ⟨g,0,none⟩) n c) m xs)(i:Nat):w.frozen? ⟨g,i,none⟩=false:=by
 rcases h.2 with⟨h0,_⟩|⟨g',cap,cur,hv,_,hg,_⟩
 ·cases h0
 ·cases hv
  simp[World.frozen?,hg]
theorem i_y{w:World}{g n:Nat}{os:Array Obj}(d:Array (Int×Int)):w.grownBy (grow (putRowK e_I 2 (Sort.ahead w n) g 0 d) os) (some g):=by
 refine⟨rfl,rfl,rfl,by simp[putRowK],fun k hk hne=>?_⟩
 rw[heap_grow_old _ _ (by simpa [putRowK]using hk)]
 have:g≠k:=fun e=>hne (by rw[e])
 simp[putRowK,putRow,mapBlock,Sort.ahead,Array.getElem?_modify,this]
theorem k_y(E:List (Int×Int))(g c Bs base:Nat)(w:World)(h2:2<=E.length)(hsz:E.length<=1000)(hown:w.ownsRow base 230 2 (.slice (some ⟨g,0,none⟩) E.length c) E.length (V_ E))
  (hBs:w.cell? ⟨Bs,0,none⟩=some (.slice (some ⟨g,0,none⟩) E.length c)) (hB1:Bs<w.heap.size) (hB2:Bs≠g) :
  Calls prog 119 #[.iface 158 (.slice (some ⟨g,0,none⟩) E.length c),.func (.func 120) #[] #[.pointer (some ⟨Bs,0,none⟩)]] w fun e w'=>
   e=.returned (.tuple #[])/\(∃D:List (Int×Int),D.Perm E/\(∀i j (hi:i<D.length) (hj:j<D.length),i<=j->D[i].1<=D[j].1) /\
    ∀i (hi:i<D.length),w'.cell? ⟨g,i*2,none⟩=some (.int .i64 D[i].1)/\w'.cell? ⟨g,i*2+1,none⟩=some (.int .i64 D[i].2))/\w.grownBy w' (some g):=by
 have hgl:g<w.heap.size:=(hown.lt g rfl).2;have hcells:∀j u,(V_ E)[j]?=some u->w.cell? ⟨g,j,none⟩=some u:=fun j u hu=>by
  have:=hown.cells (g:=g) rfl j u hu;rw[i_,Nat.zero_add]at this;exact this
 have hH:HoldsK e_I 2 w g 0 E.toArray:=fun j hj=>by
  have hj2:j<E.length*2:=by simpa using hj
  refine⟨?_,k_O hown _⟩;rw[Nat.zero_add,get_flatK e_I 2 E.toArray j (by simpa using hj2)]
  have hi:j/2<E.length:=by omega
  have e1:E.toArray[j/2]! = E[j/2]:=by simp[hi]
  rw[e1];have h3:=encE_at E (j/2) hi;rcases Nat.mod_two_eq_zero_or_one j with h0|h1
  ·rw[h0]
   have h4:=hcells _ _ h3.1;rw[show 2*(j/2)=j by omega]at h4
   exact h4
  ·rw[h1]
   have h4:=hcells _ _ h3.2;rw[show 2*(j/2)+1=j by omega]at h4
   exact h4
 have h:=o_N g c Bs E.toArray (by simpa using h2) (by simpa using hsz) w hH hgl (by simpa using hBs) hB1 hB2
 have es:E.toArray.size=E.length:=by simp
 rw[es]at h;refine h.mono ?_;rintro e w' ⟨rfl,d',n,os,hp,hso,rfl⟩;obtain⟨hp1,_,hp3⟩:=hp;rw[es]at hp1;have hext:∀(a:Array (Int×Int)),a.size=E.length->a.extract 0 E.length=a:=fun a ha=>by rw[<-ha];simp
 rw[hext d' hp1,hext E.toArray es]at hp3;have hH2:HoldsK e_I 2 (grow (putRowK e_I 2 (Sort.ahead w n) g 0 d') os) g 0 d':=
  holdsK_grow _ _ _ _ g 0 d' (by simpa [putRowK,Sort.ahead]using hgl) (holdsK_putRowK _ _ _ g 0 E.toArray d' (holdsK_ahead _ _ _ _ _ _ _ hH) (by rw[hp1,es]))
 refine⟨rfl,⟨d'.toList,by simpa using hp3,fun i j hi hj hij=>?_,fun i hi=>?_⟩,i_y d'⟩
 ·rcases Nat.lt_or_ge i j with hlt|hge
  ·have:=hso i j (Nat.zero_le _) hlt (by rw[<-hp1];simpa using hj)
   have hi':i<d'.size:=by simpa using hi
   have hj':j<d'.size:=by simpa using hj
   simp[ltP,hi',hj']at this;simpa using this
  ·have:i=j:=by omega
   subst this;exact Int.le_refl _
 ·have hi':i<d'.size:=by simpa using hi
  have c0:=(hH2.cell (i:=i) (c:=0) hi' (by omega)).1
  have c1:=(hH2.cell (i:=i) (c:=1) hi' (by omega)).1
  have e1:d'[i]! = d'[i]:=by simp[hi']
  rw[e1]at c0 c1;rw[Nat.zero_add]at c0 c1;exact⟨c0,c1⟩
end spans
end Go.Proofs.YtojcoaekhiadcaaGreat
