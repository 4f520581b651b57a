import Derived.Test.YtojcoaekhiadcaaGreatA01
import Derived.Test.YtojcoaekhiadcaaGreatA04
import Derived.Lib.Hide
import Derived.Test.YtojcoaekhiadcaaGreatProg
import Derived.Handy
import Derived.BigRegion
import Derived.OneCell
import Derived.Deep.DeepCutAuto
import Derived.Deep.CutBlock
import Derived.Deep.OwnRows
import Derived.Deep.AppendLies
import Derived.Deep.Onto
import Derived.Deep.RegionHeld3
import Derived.OwnWalk
set_option linter.unusedVariables false
set_option linter.unusedSimpArgs false
namespace Go.Proofs.YtojcoaekhiadcaaGreat
open Tryz Go.RowKit
namespace vault
set_option maxRecDepth 100000
open kit drive Go.Deep
abbrev ptr(g:Nat):Value:=.pointer (some ⟨g,0,none⟩)
structure VA where
 n:Nat
 p:Nat
 v:Nat
 db:Nat
 dc:Nat
 eb:Nat
 fb:Nat
 dr:Nat->Nat
structure VS where
 ds:Nat->DS
 dead:Nat->Bool
 fresh:Nat->Bool
 time:Int
 puts:Int
 lost:Bool
 syn:Value
 st:Nat
 pg:List (Nat×Nat)
 bo:List (Nat×Nat)
def i_3(A:VA)(s:VS):Array Value:=#[.int .i64 A.n,.int .i64 A.p,.slice (some ⟨A.db,0,none⟩) A.n A.dc,.slice (some ⟨A.eb,0,none⟩) A.n A.n,.slice (some ⟨A.fb,0,none⟩) A.n A.n,.int .i64 s.time,.int .i64 s.puts,.bool s.lost,s.syn,ptr s.st]
def DrP(P:Nat->Prop)(d:Nat)(s:DS)(w:World):Prop:=∃g pv wv dv,Dr P 0 d g 512 s.pl s.br s.ws s.dead pv wv dv w
structure VM(A:VA)(o:Nat->Nat)(s:VS)(w:World):Prop where
 bk:Blk w A.v 62 (i_3 A s)
 db:∃cs:Array Value,Blk w A.db 63 cs/\∀i,i<A.n->cs[i]?=some (ptr (A.dr i))
 eb:w.rowIs A.eb 4 A.n fun i=>.bool (s.dead i)
 fb:w.rowIs A.fb 4 A.n fun i=>.bool (s.fresh i)
 dr:∀i,i<A.n->DrP (fun b=>o b=16+i) (A.dr i) (s.ds i) w
 ov:o A.v=1
 od:o A.db=1
 oe:o A.eb=1
 of:o A.fb=1
structure VOk(A:VA):Prop where
 n2:2<=A.n
 n8:A.n<=8
 p1:1<=A.p
 p3:A.p<=3
 pn:A.p<A.n
 dc:A.n<=A.dc/\A.dc<=maxLen
 ef:A.eb≠A.fb
def s_(o o':Nat->Nat)(w:World):Prop:=∀b,b<w.heap.size->o' b=o b
theorem s_.refl(o:Nat->Nat)(w:World):s_ o o w:=fun _ _=>rfl
theorem s_.trans{o o' o'':Nat->Nat}{w w':World}(h:s_ o o' w)(k:s_ o' o'' w')(hs:w.heap.size<=w'.heap.size):s_ o o'' w:=fun b hb=>(k b (by omega)).trans (h b hb)
section
variable {P P':Nat->Prop}{K:Nat->Prop}{d g n m base:Nat}{pl:Nat->Option (Nat->Nat)}{br:Nat->Bool}{ws:List (Nat×(Nat->Nat))}{dead:Bool}{pv:Nat->Value}{wv:Value}{dv:Nat->Value}{w w':World}{s:DS}
theorem s_8(h:Chg K w w'):Alt K w w':=⟨h.os,h.tape,h.output,h.size,h.same⟩
theorem m_V{v:Value}{q:Option (Nat->Nat)}(h:Dat w v q)(hs:∀k,v.ownBlock=some k->k<w.heap.size->w'.heap[k]?=w.heap[k]?):Dat w' v q:=by
 cases q with
 |none=>exact h
 |some F=>
  obtain⟨b,c,rfl,h2,h3,h4⟩:=h;exact⟨b,c,rfl,h2,h3,h4.block (hs b rfl h4.lt)⟩
theorem r_V(h:Dr P base d g n pl br ws dead pv wv dv w)(ha:Alt K w w')(hK:∀b,b<w.heap.size->P b->¬K b)(hP:∀b,b<w.heap.size->P b->P' b):Dr P' base d g n pl br ws dead pv wv dv w':=by
 have hs:∀k,P k->k<w.heap.size->w'.heap[k]?=w.heap[k]?:=fun k hp hl=>ha.same k hl (hK k hl hp);have hgl:g<w.heap.size:=h.pt.lt;have sdl:∀{v F},Sd w v F->∀k,v.ownBlock=some k->k<w.heap.size:=fun {v F} hv k hk=>by
  obtain⟨b,c,rfl,_,_,h4⟩:=hv;cases hk;exact h4.lt
 refine⟨ha.blk h.bk (hK _ h.bk.lt h.ft.d),?_,fun i hi=>m_V (h.pd i hi) fun k hk hl=>hs k (h.ft.p i hi k hk) hl,?_,fun i hi=>(show Dat w' (dv i) (some _) from m_V (q:=some _) (h.wd i hi) fun k hk hl=>hs k (h.ft.v i hi k hk) hl),h.wi,h.lo,⟨hP _ h.bk.lt h.ft.d,hP _ hgl h.ft.g,fun k hk=>hP k (h.wo.lt k hk).2 (h.ft.w k hk),fun i hi k hk=>?_,fun i hi k hk=>hP k (sdl (h.wd i hi) k hk) (h.ft.v i hi k hk)⟩⟩
 ·obtain⟨cs,hc,h2⟩:=h.pt
  exact⟨cs,(hs g h.ft.g hgl).trans hc,h2⟩
 ·exact ha.own h.wo fun k hk=>hK k (h.wo.lt k hk).2 (h.ft.w k hk)
 ·have hd:=h.pd i hi
  cases hp:pl i with
  |none=>
   rw[hp]at hd;have hd:pv i=.slice none 0 0:=hd;rw[hd]at hk;cases hk
  |some F=>
   rw[hp]at hd;exact hP k (sdl hd k hk) (h.ft.p i hi k hk)
theorem DrP.keep(h:DrP P d s w)(ha:Alt K w w')(hK:∀b,b<w.heap.size->P b->¬K b)(hP:∀b,b<w.heap.size->P b->P' b):DrP P' d s w':=by
 obtain⟨g,pv,wv,dv,h⟩:=h;exact⟨g,pv,wv,dv,r_V h ha hK hP⟩
theorem DrP.new(h:DrP P d s w)(hn:New w w'):DrP P d s w':=h.keep (K:=fun _=>False) (Alt.of_new hn) (fun _ _ _ f=>f) fun _ _ p=>p
theorem DrP.of(h:DrP P d s w):P d/\d<w.heap.size:=by
 obtain⟨g,pv,wv,dv,h⟩:=h;exact⟨h.ft.d,h.bk.lt⟩
end
section
variable {A:VA}{o o':Nat->Nat}{s:VS}{w w':World}{K:Nat->Prop}
theorem VM.keep(h:VM A o s w)(ha:Alt K w w')(hK:∀b,b<w.heap.size->K b->o b≠1/\o b<16)(hs:s_ o o' w):VM A o' s w':=by
 have hv:=h.bk.lt;obtain⟨cs,hc,hc2⟩:=h.db;have n1:∀b,b<w.heap.size->o b=1->¬K b:=fun b hb h1 hk=>(hK b hb hk).1 h1;exact⟨ha.blk h.bk (n1 _ hv h.ov),⟨cs,ha.blk hc (n1 _ hc.lt h.od),hc2⟩,ha.row_is h.eb (n1 _ h.eb.lt h.oe),ha.row_is h.fb (n1 _ h.fb.lt h.of),
  fun i hi=>(h.dr i hi).keep ha (fun b hb hp hk=>by have:=(hK b hb hk).2;omega) fun b hb hp=>(hs b hb).trans hp,
  (hs _ hv).trans h.ov,(hs _ hc.lt).trans h.od,(hs _ h.eb.lt).trans h.oe,(hs _ h.fb.lt).trans h.of⟩
theorem VM.new(h:VM A o s w)(hn:New w w'):VM A o s w':=h.keep (K:=fun _=>False) (Alt.of_new hn) (fun _ _ f=>f.elim) (s_.refl o w)
theorem VM.v0(h:VM A o s w):w.cell? ⟨A.v,0,none⟩=some (.int .i64 A.n):=h.bk.cell 0
theorem VM.v1(h:VM A o s w):w.cell? ⟨A.v,1,none⟩=some (.int .i64 A.p):=h.bk.cell 1
theorem VM.v2(h:VM A o s w):w.cell? ⟨A.v,2,none⟩=some (.slice (some ⟨A.db,0,none⟩) A.n A.dc):=h.bk.cell 2
theorem VM.v3(h:VM A o s w):w.cell? ⟨A.v,3,none⟩=some (.slice (some ⟨A.eb,0,none⟩) A.n A.n):=h.bk.cell 3
theorem VM.v4(h:VM A o s w):w.cell? ⟨A.v,4,none⟩=some (.slice (some ⟨A.fb,0,none⟩) A.n A.n):=h.bk.cell 4
theorem VM.v5(h:VM A o s w):w.cell? ⟨A.v,5,none⟩=some (.int .i64 s.time):=h.bk.cell 5
theorem VM.v6(h:VM A o s w):w.cell? ⟨A.v,6,none⟩=some (.int .i64 s.puts):=h.bk.cell 6
theorem VM.v7(h:VM A o s w):w.cell? ⟨A.v,7,none⟩=some (.bool s.lost):=h.bk.cell 7
theorem VM.v8(h:VM A o s w):w.cell? ⟨A.v,8,none⟩=some (s.syn):=h.bk.cell 8
theorem VM.v9(h:VM A o s w):w.cell? ⟨A.v,9,none⟩=some (ptr s.st):=h.bk.cell 9
theorem VM.drive(h:VM A o s w){i:Nat}(hi:i<A.n):w.cell? ⟨A.db,i,none⟩=some (ptr (A.dr i)):=by
 obtain⟨cs,hc,h2⟩:=h.db;exact(hc.cell i).trans (h2 i hi)
theorem VM.isDead(h:VM A o s w){i:Nat}(hi:i<A.n):w.cell? ⟨A.eb,i,none⟩=some (.bool (s.dead i)):=h.eb.cell hi
theorem VM.isFresh(h:VM A o s w){i:Nat}(hi:i<A.n):w.cell? ⟨A.fb,i,none⟩=some (.bool (s.fresh i)):=h.fb.cell hi
end
def rdS(s:DS)(at_:Nat):Option (Nat->Nat):=if s.dead=true then none else(b_G s at_).2
end vault
namespace geom
def upF(n b:Int):Int:=(n+b-1)/b*b
def b_R(d p:Int):Prop:=2<=d/\d<=8/\1<=p/\p<=3/\p<d
instance (d p:Int):Decidable (b_R d p):=by unfold b_R;infer_instance
def c_D(c:Int):Prop:=1<=c/\c<=32
instance (c:Int):Decidable (c_D c):=by unfold c_D;infer_instance
def k_a(a:Int):Prop:=0<=a/\a<=65536
instance (a:Int):Decidable (k_a a):=by unfold k_a;infer_instance
def s_B(d p c:Int):Int:=upF (c+p*(upF c (d-p)/(d-p))) (p+1)
def q_p(d p c:Int):Int:=if b_R d p/\c_D c then s_B d p c else 0
def q_q(d p c:Int):Int:=if b_R d p/\c_D c then 0 else 2
theorem o_A(n b:Int)(hb:1<=b):n<=upF n b/\upF n b<=n+b-1:=by
 unfold upF;have h1:=Int.mul_ediv_add_emod (n+b-1) b;have h2:=Int.emod_nonneg (n+b-1) (b:=b) (by omega)
 have h3:=Int.emod_lt_of_pos (n+b-1) (b:=b) (by omega)
 rw[Int.mul_comm]at h1;omega
open Go.ChangeShapes Go.WideShapes Go.ChangeAt kit
theorem d_3(c:Int)(w:World) :
  Calls prog 122 #[.int .i64 c] w fun e w'=>e=.returned (.bool (decide (c_D c)))/\w=w':=by
 go_enter func122,ntmps122;go_wp2
 all_goals go_ret
 all_goals refine⟨b_t ?_,rfl⟩
 all_goals first
 |(refine(decide_eq_true ?_).symm;unfold c_D;omega)
 |(refine(decide_eq_false ?_).symm;unfold c_D;omega)
 |(refine decide_eq_decide.2 ?_;unfold c_D;omega)
theorem g_Z(a:Int)(w:World) :
  Calls prog 177 #[.int .i64 a] w fun e w'=>e=.returned (.bool (decide (k_a a)))/\w=w':=by
 go_enter func177,ntmps177;go_wp2
 all_goals go_ret
 all_goals refine⟨b_t ?_,rfl⟩
 all_goals first
 |(refine(decide_eq_true ?_).symm;unfold k_a;omega)
 |(refine(decide_eq_false ?_).symm;unfold k_a;omega)
 |(refine decide_eq_decide.2 ?_;unfold k_a;omega)
theorem f_u(d p:Int)(w:World) :
  Calls prog 121 #[.agg #[.int .i64 d,.int .i64 p]] w fun e w'=>e=.returned (.bool (decide (b_R d p)))/\New w w':=by
 go_enter func121,ntmps121;go_wp2
 all_goals go_ret
 all_goals refine⟨b_t ?_,(New.refl _).alloc _⟩
 all_goals first
 |(refine(decide_eq_true ?_).symm;unfold b_R;omega)
 |(refine(decide_eq_false ?_).symm;unfold b_R;omega)
 |(refine decide_eq_decide.2 ?_;unfold b_R;omega)
theorem s_J(n b:Int)(h0:0<=n)(h1:n<=1000)(h2:1<=b)(h3:b<=100)(w:World) :
  Calls prog 123 #[.int .i64 n,.int .i64 b] w fun e w'=>e=.returned (.int .i64 (upF n b))/\w=w':=by
 have hb:=o_A n b h2;unfold upF at hb;go_enter func123,ntmps123;go_wp2;go_ret;exact⟨rfl,rfl⟩
theorem k_0(d p c:Int)(w:World) :
  Calls prog 73 #[.int .i64 d,.int .i64 p,.int .i64 c] w fun e w'=>e=.returned (.tuple #[.int .i64 (q_p d p c),.int .i64 (q_q d p c)])/\New w w':=by
 by_cases hm:b_R d p
 ·by_cases hc:c_D c
  ·have hm':decide (b_R d p)=true:=decide_eq_true hm
   have hc':decide (c_D c)=true:=decide_eq_true hc;have H:=Hd (And.intro hm hc);have h1:=o_A c (d-p) (by unfold b_R at hm;omega)
   have h2:0<=upF c (d-p)/(d-p)/\upF c (d-p)/(d-p)<=upF c (d-p):=⟨Int.ediv_nonneg (by unfold b_R c_D at *;omega) (by unfold b_R at hm;omega),Int.ediv_le_self _ (by unfold b_R c_D at *;omega)⟩
   obtain⟨m1,m2,m3,m4,m5⟩:=hm;obtain⟨c1,c2⟩:=hc;have h4:0<=p*(upF c (d-p)/(d-p))/\p*(upF c (d-p)/(d-p))<=3*(upF c (d-p)/(d-p)):=⟨Int.mul_nonneg (by omega) h2.1,Int.mul_le_mul_of_nonneg_right (by omega) h2.1⟩
   have h3:d-p≠0:=by omega
   go_enter func73,ntmps73;go_wp2_with (first|(go_at_call 121;refine(f_u _ _ _).mono ?_;rintro e w1 ⟨rfl,hb1⟩)|(go_at_call 122;refine(d_3 _ _).mono ?_;rintro e w' ⟨rfl,rfl⟩)|(go_at_call 123;refine(s_J _ _ (by omega) (by omega) (by omega) (by omega) _).mono ?_;rintro e w' ⟨rfl,rfl⟩))
   go_ret2;exact⟨d_y (if_pos H.o).symm (if_pos H.o).symm,hb1.of_alloc⟩
  ·have hm':decide (b_R d p)=true:=decide_eq_true hm
   have hc':decide (c_D c)=false:=decide_eq_false hc;have H:Hid (¬(b_R d p/\c_D c)):=fun h=>hc h.2;clear hm hc;go_enter func73,ntmps73;go_wp2_with (first|(go_at_call 121;refine(f_u _ _ _).mono ?_;rintro e w1 ⟨rfl,hb1⟩)|(go_at_call 122;refine(d_3 _ _).mono ?_;rintro e w' ⟨rfl,rfl⟩))
   go_ret2;exact⟨d_y (if_neg H.o).symm (if_neg H.o).symm,hb1.of_alloc⟩
 ·have hm':decide (b_R d p)=false:=decide_eq_false hm
  have H:Hid (¬(b_R d p/\c_D c)):=fun h=>hm h.1;clear hm;go_enter func73,ntmps73;go_wp2_with (first|(go_at_call 121;refine(f_u _ _ _).mono ?_;rintro e w1 ⟨rfl,hb1⟩))
  go_ret2;exact⟨d_y (if_neg H.o).symm (if_neg H.o).symm,hb1.of_alloc⟩
end geom
namespace geom
set_option maxRecDepth 100000
open Go.ChangeShapes Go.WideShapes Go.ChangeAt kit Go.Deep
theorem r_J:(prog.info? 175).map (fun i=>(i.zero,i.size,i.bytes))=some (some (.agg #[.int .i64 0,.int .i64 0,.int .i64 0,.bool false]),4,32):=by kernel_rfl
def k_2(dr pa ad:Nat)(C:Nat->Nat)(j:Nat):List Value:=[.int .i64 (((ad+j)%dr:Nat):Int),.int .i64 (((ad+j)/dr:Nat):Int),.int .i64 (C j:Nat),.bool (decide (j<pa))]
def a_U(dr pa ad:Nat)(C:Nat->Nat)(k:Nat):List Value:=(List.range k).flatMap (k_2 dr pa ad C)
theorem c_g(dr pa ad:Nat)(C:Nat->Nat)(k:Nat):a_U dr pa ad C (k+1)=a_U dr pa ad C k++k_2 dr pa ad C k:=by
 unfold a_U;rw[List.range_succ,List.flatMap_append];simp
theorem e_e(dr pa ad:Nat)(C:Nat->Nat):∀k:Nat,(a_U dr pa ad C k).length=4*k
 |0=>rfl
 |k+1=>by rw[c_g,List.length_append,e_e dr pa ad C k];simp[k_2];omega
theorem colL_at(dr pa ad:Nat)(C:Nat->Nat):∀(k j f:Nat),j<k->f<4->(a_U dr pa ad C k)[j*4+f]?=(k_2 dr pa ad C j)[f]?
 |0,j,f,h,_=>absurd h (Nat.not_lt_zero j)
 |k+1,j,f,h,hf=>by
  rw[c_g]
  by_cases hj:j<k
  ·rw[List.getElem?_append_left (by rw[e_e];omega)];exact colL_at dr pa ad C k j f hj hf
  ·have:j=k:=by omega
   subst this;rw[List.getElem?_append_right (by rw[e_e];omega),e_e]
   congr 1;omega
def a_P(pa ct wd:Nat):Nat:=if 0<ct%wd then ct%wd+pa else 0
def c_Q(dr pa ct wd:Nat):Nat:=if ct/wd=0 then a_P pa ct wd else dr
def G_(pa ct wd:Nat)(j:Nat):Nat:=ct/wd+if j<a_P pa ct wd then 1 else 0
set_option maxHeartbeats 1000000 in
theorem g_P(dr pa ad ct wd:Nat)(h1:2<=dr)(h2:dr<=8)(h3:1<=pa)(h4:pa<=3)(h5:dr=pa+wd)(h6:1<=wd)(h7:ad<=65536)(h8:1<=ct)(h9:ct<=32)(w:World) :
  Calls prog 149 #[.int .i64 dr,.int .i64 pa,.int .i64 ad,.int .i64 ct] w fun e w'=>∃v,e=.returned (.tuple #[v,.int .i64 0])/\w'.ownsRow w.heap.size 175 4 v (c_Q dr pa ct wd) (a_U dr pa ad (G_ pa ct wd) (c_Q dr pa ct wd))/\New w w':=by
 have hm':decide (b_R dr pa)=true:=decide_eq_true (by unfold b_R;omega)
 have hc':decide (c_D ct)=true:=decide_eq_true (by unfold c_D;omega)
 have ha':decide (k_a ad)=true:=decide_eq_true (by unfold k_a;omega)
 obtain⟨i0,hi0,hz0,hz1,hz2⟩:=info_parts r_J;have hwd:(dr:Int)-(pa:Int)=(wd:Int):=by omega
 have hq1:=Nat.div_le_self ct wd;have hr1:=Nat.mod_lt ct h6;have h50:=Hd h5;clear h5;have hwd0:(wd:Int)≠0:=by omega
 have e1:IntKind.i64.wrap ((dr:Int)-(pa:Int))=(wd:Int):=by rw[hwd];exact IntWalk.i64_in _ (by have:=h50.o;omega)
 obtain⟨q,hq⟩:∃q,Hid (q=ct/wd):=⟨_,(rfl:_=_)⟩;obtain⟨r,hr⟩:∃r,Hid (r=ct%wd):=⟨_,(rfl:_=_)⟩;rw[<-hq.o]at hq1;rw[<-hr.o]at hr1;have e4:(ct:Int)/(wd:Int)=(q:Int):=by rw[hq.o];push_cast;rfl
 have e5:(ct:Int)%(wd:Int)=(r:Int):=by rw[hr.o];push_cast;rfl
 have e2:IntKind.i64.wrap ((ct:Int).tdiv (wd:Int))=(q:Int):=by
  rw[Int.tdiv_eq_ediv_of_nonneg (by omega),e4];exact IntWalk.i64_in _ (by omega)
 have e3:(ct:Int).tmod (wd:Int)=(r:Int):=by
  rw[Int.tmod_eq_emod_of_nonneg (by omega),e5]
 obtain⟨lg,hlg⟩:∃lg,Hid (lg=a_P pa ct wd):=⟨_,(rfl:_=_)⟩;obtain⟨nn,hnn⟩:∃nn,Hid (nn=c_Q dr pa ct wd):=⟨_,(rfl:_=_)⟩;have hl1:Hid (0<r->lg=r+pa):=fun h=>by rw[hlg.o];unfold a_P;rw[<-hr.o,if_pos h]
 have hl2:Hid (¬0<r->lg=0):=fun h=>by rw[hlg.o];unfold a_P;rw[<-hr.o,if_neg h]
 have hn1:Hid (q=0->nn=lg):=fun h=>by rw[hnn.o];unfold c_Q;rw[<-hq.o,if_pos h,<-hlg.o]
 have hn2:Hid (q≠0->nn=dr):=fun h=>by rw[hnn.o];unfold c_Q;rw[<-hq.o,if_neg h]
 obtain⟨C,hC⟩:∃C,Hid (C=G_ pa ct wd):=⟨_,(rfl:_=_)⟩;have hCj1:Hid (∀j,j<lg->C j=q+1):=fun j hj=>by rw[hC.o];unfold G_;rw[<-hlg.o,<-hq.o,if_pos hj]
 have hCj2:Hid (∀j,¬j<lg->C j=q):=fun j hj=>by rw[hC.o];unfold G_;rw[<-hlg.o,<-hq.o,if_neg hj];rfl
 have hnn8:nn<=8:=by
  have h50:=h50.o
  by_cases hz:q=0
  ·rw[hn1.o hz]
   by_cases hz2:0<r
   ·rw[hl1.o hz2];omega
   ·rw[hl2.o hz2];omega
  ·rw[hn2.o hz];exact h2
 have hCs:Hid (∀k,a_U dr pa ad C (k+1)=a_U dr pa ad C k++k_2 dr pa ad C k):=c_g _ _ _ _;rw[<-hnn.o,<-hC.o];go_enter func149,ntmps149;go_wp2_with (first|(go_at_call 121;refine(f_u _ _ _).mono ?_;rintro e w1 ⟨rfl,hb1⟩)|(go_at_call 122;refine(d_3 _ _).mono ?_;rintro e w' ⟨rfl,rfl⟩)|(go_at_call 177;refine(g_Z _ _).mono ?_;rintro e w' ⟨rfl,rfl⟩))
 go_quiet (fail);obtain⟨W1,hW1⟩:∃W1,W1=w1.drewN nq:=⟨_,rfl⟩;have hnW1:New w W1:=by rw[hW1];exact hb1.of_alloc.drewN _
 rw[<-hW1];clear hW1;go_upto_if 45 with fail;go_cut [13] (fun s wx=>s=.int .i64 lg/\wx=W1);case first=>
  go_wp2
  all_goals go_meet
  ·exact⟨by rw[hl1.o (by assumption)];push_cast;rfl,rfl⟩
  ·exact⟨by rw[hl2.o (by assumption)];rfl,rfl⟩
 case rest=>
  obtain⟨rfl,rfl⟩:=hcut;go_upto_if 51 with fail;go_cut [14] (fun s wx=>s=.int .i64 nn/\wx=wc);case first=>
   go_wp2
   all_goals go_meet
   ·rename_i hq0
    exact⟨by rw[hn1.o (by simpa using hq0)],rfl⟩
   ·rename_i hq0
    exact⟨by rw[hn2.o (by simpa using hq0)],rfl⟩
  case rest=>
   obtain⟨rfl,rfl⟩:=hcut;obtain⟨W1,hW1⟩:∃W1,W1=wc:=⟨_,rfl⟩;subst hW1;have hd0:(dr:Int)≠0:=by omega
   clear e1 e2 e3 e4 e5 hwd hwd0;go_wp2;go_loopw [54,15] (fun c o wr=>∃j:Nat,c=.int .i64 j/\j<=nn/\wr.ownsRow w.heap.size 175 4 o j (a_U dr pa ad C j)/\New w wr) (fun c _ _=>nn-(intOf c).toNat);case atStart=>exact⟨0,rfl,by omega,World.ownsRow_nil _ _ _ _,hnW1⟩
   case round=>
    obtain⟨j,rfl,hj,hown,hnw⟩:=hrel
    by_cases hlt:j<nn
    ·obtain⟨x,hx⟩:∃x,Hid (x=(ad+j)%dr):=⟨_,(rfl:_=_)⟩
     obtain⟨y,hy⟩:∃y,Hid (y=(ad+j)/dr):=⟨_,(rfl:_=_)⟩;have e1:IntKind.i64.wrap ((ad:Int)+(j:Int))=(ad:Int)+(j:Int):=IntWalk.i64_in _ (by omega)
     have hyl:y<=ad+j:=by rw[hy.o];exact Nat.div_le_self _ _
     have e5:((ad:Int)+(j:Int))%(dr:Int)=(x:Int):=by rw[hx.o];push_cast;rfl
     have e6:((ad:Int)+(j:Int))/(dr:Int)=(y:Int):=by rw[hy.o];push_cast;rfl
     have e3:((ad:Int)+(j:Int)).tmod (dr:Int)=(x:Int):=by rw[Int.tmod_eq_emod_of_nonneg (by omega),e5]
     have e4:((ad:Int)+(j:Int)).tdiv (dr:Int)=(y:Int):=by rw[Int.tdiv_eq_ediv_of_nonneg (by omega),e6]
     have e2:IntKind.i64.wrap (y:Int)=(y:Int):=IntWalk.i64_in _ (by omega)
     go_wp2;go_region;obtain⟨WY,hWY⟩:∃WY,WY=(wr.alloc (.cells #[.int .i64 x,.int .i64 y,.int .i64 q,.bool (decide (j<pa))] 175)).drew:=⟨_,rfl⟩;rw[<-hWY];have hB:Blk WY wr.heap.size 175 #[.int .i64 x,.int .i64 y,.int .i64 q,.bool (decide (j<pa))]:=by rw[hWY];exact Blk.fresh _ _ _
     have hNY:New w WY:=by rw[hWY];exact(hnw.alloc _).drew
     have hownY:WY.ownsRow w.heap.size 175 4 u15 j (a_U dr pa ad C j):=by rw[hWY];exact(hown.alloc _).drew
     have hne:u15.ownBlock≠some wr.heap.size:=fun he=>absurd (hown.lt _ he).2 (Nat.lt_irrefl _);clear hWY;go_upto_if 74 with fail;go_cut [] (fun wx=>Blk wx wr.heap.size 175 #[.int .i64 x,.int .i64 y,.int .i64 (C j:Nat),.bool (decide (j<pa))]/\New w wx/\wx.ownsRow w.heap.size 175 4 u15 j (a_U dr pa ad C j));case first=>
      have c2:=hB.cell 2;have f2:=hB.frozen 2;simp at c2
      by_cases hjl:j<lg
      ·have hCj:=Hd (hCj1.o j hjl)
       go_wp2;go_meet;have hS:=hB.put 2 (.int .i64 ((q:Int)+1));have hle:w.heap.size<=wr.heap.size:=hnw.size;refine⟨?_,hNY.set (p:=⟨wr.heap.size,2,none⟩) hle _,ownsRow_setCell_other hownY (a:=⟨wr.heap.size,2,none⟩) hne _⟩;rw[hCj.o];exact hS
      ·have hCj:=Hd (hCj2.o j hjl)
       go_wp2;go_meet;rw[hCj.o];exact⟨hB,hNY,hownY⟩
     case rest=>
      obtain⟨hB',hN',hown'⟩:=hcut;obtain⟨WX,hWX⟩:∃WX,WX=wc:=⟨_,rfl⟩;subst hWX;have c0:=hB'.cell 0;have c1:=hB'.cell 1;have c2:=hB'.cell 2;have c3:=hB'.cell 3;simp at c0 c1 c2 c3;go_wp2_with (at_builtin;refine wpList_append_own _ rfl _ _ 208 rfl w.heap.size 175 i0 _ 4 32 underlying208 hi0 hz0 hz1 hz2 rfl (by decide) _ j (a_U dr pa ad C j) rfl (hown'.alloc _) ⟨WX.heap.size,0,none⟩ 1 1 [.int .i64 x,.int .i64 y,.int .i64 (C j:Nat),.bool (decide (j<pa))] rfl rfl (World.news_of_block (cs:=#[.int .i64 _,.int .i64 _,.int .i64 _,.bool _]) (t:=175) (fr:=(0,0)) (heap_alloc_new WX _)) (by simp[Value.oneCell']) (by unfold maxLen;omega) (by omega) (by have:=hN'.size;simp;omega) ?_;intro v3 w3 hown3 hgrow hnil)
      have hrow:k_2 dr pa ad C j=[.int .i64 x,.int .i64 y,.int .i64 (C j:Nat),.bool (decide (j<pa))]:=by rw[hx.o,hy.o];rfl
      rw[<-hrow,<-hCs.o]at hown3;have hown4:=Hd hown3;have hN3:New w w3:=hN'.append' hgrow fun g hg=>(hown'.lt _ hg).1;clear hrow hown3 hgrow hnil;go_wp2;go_roundw;case rel=>exact⟨j+1,by go_num,by omega,hown4.o,hN3⟩
      case measure=>simp[intOf];omega
    ·have hin:j=nn:=by omega
     subst hin;go_wp2;go_ret2;exact⟨_,rfl,hown,hnw⟩
end geom
namespace stripe
open geom
def dcN(ct wd:Nat):Nat:=if ct/wd=0 then ct%wd else wd
def atS(ct wd j:Nat):Nat:=128*(j*(ct/wd)+min j (ct%wd))
theorem t_4{pa ct wd:Nat}(hw:1<=wd):c_Q (pa+wd) pa ct wd=pa+dcN ct wd\/(ct/wd=0/\ct%wd=0):=by
 unfold c_Q dcN a_P
 by_cases h:ct/wd=0
 ·rw[if_pos h,if_pos h]
  by_cases h2:0<ct%wd
  ·rw[if_pos h2];left;omega
  ·right;omega
 ·rw[if_neg h,if_neg h]
  left;rfl
theorem d_2{ct wd:Nat}(hw:1<=wd)(hc:1<=ct):0<ct/wd\/0<ct%wd:=by
 rcases Nat.eq_zero_or_pos (ct/wd)with h|h
 ·right
  have:=Nat.div_add_mod ct wd;rw[h]at this;omega
 ·exact .inl h
theorem f_t{pa ct wd:Nat}(hw:1<=wd)(hc:1<=ct):c_Q (pa+wd) pa ct wd=pa+dcN ct wd:=by
 rcases t_4 (pa:=pa) (ct:=ct) hw with h|h
 ·exact h
 ·have:=d_2 hw hc;omega
theorem e_M{ct wd:Nat}(hw:1<=wd)(hc:1<=ct):1<=dcN ct wd:=by
 have:=d_2 hw hc;unfold dcN;split<;>omega
theorem h_M{ct wd:Nat}(hw:1<=wd)(hc:1<=ct):dcN ct wd<=wd:=by
 have:=Nat.mod_lt ct hw;unfold dcN;split<;>omega
theorem k_3{pa ct wd:Nat}(hw:1<=wd)(hc:1<=ct)(j:Nat):G_ pa ct wd (pa+j)=ct/wd+(if j<ct%wd then 1 else 0):=by
 unfold G_ a_P
 by_cases h:0<ct%wd
 ·rw[if_pos h]
  congr 1
  by_cases h2:j<ct%wd
  ·rw[if_pos h2,if_pos (by omega)]
  ·rw[if_neg h2,if_neg (by omega)]
 ·rw[if_neg h,if_neg (by omega),if_neg (by omega)]
theorem d_K{pa ct wd:Nat}(hw:1<=wd)(hc:1<=ct)(hpa:1<=pa)(c:Nat)(hcp:c<pa):G_ pa ct wd c=G_ pa ct wd 0:=by
 unfold G_ a_P
 by_cases h:0<ct%wd
 ·rw[if_pos h,if_pos (by omega),if_pos (by omega)]
 ·rw[if_neg h,if_neg (by omega),if_neg (by omega)]
theorem d_5{pa ct wd:Nat}(hw:1<=wd)(hc:1<=ct)(hpa:1<=pa)(c:Nat):G_ pa ct wd c<=G_ pa ct wd 0:=by
 unfold G_ a_P
 by_cases h:0<ct%wd
 ·rw[if_pos h,if_pos (show 0<ct%wd+pa by omega)]
  split<;>omega
 ·rw[if_neg h,if_neg (by omega),if_neg (by omega)]
  exact Nat.le_refl _
theorem e_f{pa ct wd:Nat}(hw:1<=wd)(hc:1<=ct)(hpa:1<=pa):1<=G_ pa ct wd 0:=by
 have:=d_2 hw hc;unfold G_ a_P;rcases Nat.eq_zero_or_pos (ct%wd)with h|h
 ·omega
 ·rw[if_pos h,if_pos (by omega)];exact Nat.le_add_left 1 _
theorem f_C{pa ct wd:Nat}(hw:1<=wd)(hc:1<=ct)(j:Nat)(hj:j<dcN ct wd):1<=G_ pa ct wd (pa+j):=by
 rw[k_3 hw hc];unfold dcN at hj;split at hj
 ·rw[if_pos hj];exact Nat.le_add_left 1 _
 ·rename_i h0
  exact Nat.le_trans (Nat.pos_of_ne_zero h0) (Nat.le_add_right _ _)
theorem e_g{pa ct wd:Nat}(hw:1<=wd)(hc:1<=ct)(hct:ct<=32)(hpa:1<=pa):G_ pa ct wd 0<=32:=by
 unfold G_;have h1:=Nat.div_le_self ct wd;have h2:=Nat.div_add_mod ct wd
 by_cases h:0<ct%wd
 ·have:ct/wd<=31:=by
   have h3:wd*(ct/wd)<ct:=by omega
   have h4:ct/wd<=wd*(ct/wd):=Nat.le_mul_of_pos_left _ hw;omega
  split<;>omega
 ·unfold a_P
  rw[if_neg h,if_neg (by omega)]
  omega
theorem d_k{pa ct wd:Nat}(hw:1<=wd)(hc:1<=ct)(j:Nat):atS ct wd (j+1)=atS ct wd j+128*G_ pa ct wd (pa+j):=by
 rw[k_3 hw hc];unfold atS;rw[show(j+1)*(ct/wd)=j*(ct/wd)+ct/wd from Nat.succ_mul _ _]
 generalize j*(ct/wd)=x;generalize ct/wd=q;generalize ct%wd=r;split
 ·rw[Nat.min_eq_left (by omega),Nat.min_eq_left (by omega)];omega
 ·rw[Nat.min_eq_right (by omega),Nat.min_eq_right (by omega)];omega
theorem l_y{ct wd:Nat}(hw:1<=wd)(hc:1<=ct):atS ct wd (dcN ct wd)=128*ct:=by
 have h2:=Nat.div_add_mod ct wd;have h3:=Nat.mod_lt ct hw;unfold atS dcN
 by_cases h:ct/wd=0
 ·rw[if_pos h,h]
  rw[h]at h2;omega
 ·rw[if_neg h,Nat.min_eq_right (by omega)]
  rw[h2]
theorem n_0{ct wd:Nat}(hw:1<=wd)(hc:1<=ct):∀(d j:Nat),atS ct wd j<=atS ct wd (j+d)
 |0,j=>Nat.le_refl _
 |d+1,j=>by
  have h1:=d_k (pa:=0) hw hc (j+d);have h2:=n_0 hw hc d j;rw[show j+(d+1)=j+d+1 by omega]
  omega
theorem q_D{ct wd:Nat}(hw:1<=wd)(hc:1<=ct)(j:Nat)(hj:j<=dcN ct wd):atS ct wd j<=128*ct:=by
 have h1:=n_0 hw hc (dcN ct wd-j) j;rw[show j+(dcN ct wd-j)=dcN ct wd by omega,l_y hw hc]at h1
 exact h1
theorem i_M(ct wd:Nat):atS ct wd 0=0:=by simp[atS]
def a_9(X:Nat->Nat)(len k:Nat):Nat:=if k<len then X k else 0
def b_L(X:Nat->Nat)(len pa ct wd j k:Nat):Nat:=if k<128*G_ pa ct wd (pa+j)then a_9 X len (atS ct wd j+k)else 0
end stripe
namespace par
open Go.ChangeShapes Go.WideShapes Go.ChangeAt kit Go.Joins Go.Deep
def evP(L:Nat->Nat)(i:Nat):Prop:=L i=L 0/\L i<=4096
instance (L:Nat->Nat)(i:Nat):Decidable (evP L i):=by unfold evP;infer_instance
def evB(n:Nat)(L:Nat->Nat):Bool:=(List.range n).all fun i=>decide (evP L i)
theorem j_R{n:Nat}{L:Nat->Nat}(h:∀j,j<n->evP L j):evB n L=true:=by simpa [evB]using h
theorem r_Q{n j:Nat}{L:Nat->Nat}(hj:j<n)(h:¬evP L j):evB n L=false:=by
 cases hb:evB n L with
 |false=>rfl
 |true=>simp[evB]at hb;exact absurd (hb j hj) h
theorem m_M{n:Nat}{L:Nat->Nat}(h:evB n L=true):∀j,j<n->evP L j:=by simpa [evB]using h
def g_V(n:Nat)(L:Nat->Nat):Bool:=decide (1<=n/\n<=12)&&evB n L
theorem o_3(r:Option Addr)(l c n cap b0 off b:Nat)(R0:Option Addr)(l0 c0:Nat)(w:World)(h1:w.cell? ⟨b,0,none⟩=some (.slice (some ⟨b0,off,none⟩) n cap))(h2:w.cell? ⟨b0,off,none⟩=some (.slice R0 l0 c0))(hn:0<n)(hl:l<=maxLen)(hl0:l0<=maxLen) :
  Calls prog 243 #[.slice r l c,.pointer (some ⟨b,0,none⟩)] w fun e w'=>e=.returned (.bool (! decide (l=l0/\l<=4096)))/\w=w':=by
 unfold maxLen at hl hl0;have hn0:(0:Int)<n:=by omega
 by_cases h:l=l0
 ·subst h
  by_cases h4:l<=4096
  ·have hd:decide (l=l/\l<=4096)=true:=decide_eq_true ⟨rfl,h4⟩
   rw[hd];have h5:decide ((4096:Int)<l)=false:=by simp;omega
   clear hd;go_enter func243,ntmps243;go_wp2;go_ret;exact⟨b_t (by simp),rfl⟩
  ·have hd:decide (l=l/\l<=4096)=false:=decide_eq_false fun hh=>h4 hh.2
   rw[hd];have h5:decide ((4096:Int)<l)=true:=by simp;omega
   clear hd;go_enter func243,ntmps243;go_wp2;go_ret;exact⟨b_t (by simp),rfl⟩
 ·have hd:decide (l=l0/\l<=4096)=false:=decide_eq_false fun hh=>h hh.1
  have hne:((l:Int) != (l0:Int))=true:=by simp;omega
  rw[hd];clear hd;go_enter func243,ntmps243;go_wp2;go_ret;exact⟨b_t (by simp),rfl⟩
theorem g_N(n c b:Nat)(A:Option Addr)(R:Nat->Option Addr)(L C:Nat->Nat)(M:Nat->Nat->Int)(w:World)(h:RdM .u8 w A n R L C M)(hb:w.cell? ⟨b,0,none⟩=some (.slice A n c)) :
  Calls prog 247 #[.slice A n c,.func (.func 243) #[] #[.pointer (some ⟨b,0,none⟩)]] w fun e w'=>∃r:Int,e=.returned (.int .i64 r)/\decide (r >= 0)=(! evB n L)/\w=w':=by
 obtain⟨hm,hr,hrows⟩:=h;unfold maxLen at hm;have hr0:=Hd hr;have hrows0:=Hd hrows;have hb0:=Hd hb;clear hr hrows hb;go_enter func247,ntmps247;go_wp2;go_loopw [8] (fun k wr=>∃i:Nat,k=.int .i64 i/\i<=n/\w=wr/\Hid (∀j,j<i->evP L j)) (fun k _=>n-(intOf k).toNat);case atStart=>exact⟨0,rfl,by omega,rfl,fun j hj=>absurd hj (Nat.not_lt_zero j)⟩
 case round=>
  obtain⟨i,rfl,hi,rfl,hup⟩:=hrel
  by_cases hlt:i<n
  ·obtain⟨b1,off,rfl,hb1,hcs⟩:=hr0.o (by omega)
   have z0:w.cell? ⟨b1,off,none⟩=some (.slice (R 0) (L 0) (C 0)):=by simpa using hcs 0 (by omega)
   have z0:=Hd z0;have ci:=hcs i hlt;clear hcs;have hli:=(hrows0.o i hlt).1.1;have hl0:=(hrows0.o 0 (by omega)).1.1
   go_wp2_with fail;refine(o_3 _ _ _ n c b1 off b (R 0) (L 0) (C 0) _ hb0.o z0.o (by omega) hli hl0).mono ?_
   rintro e w1 ⟨rfl,rfl⟩
   by_cases hp:evP L i
   ·have hd:decide (L i=L 0/\L i<=4096)=true:=decide_eq_true hp
    have hs:Hid (∀j,j<i+1->evP L j):=fun j hj=>by
     by_cases hji:j=i
     ·subst hji;exact hp
     ·exact hup.o j (by omega)
    rw[hd];clear hp hd;go_wp2;go_roundw;case rel=>exact⟨i+1,by go_num,by omega,trivial,hs.o⟩
    case measure=>simp[intOf];omega
   ·have hd:decide (L i=L 0/\L i<=4096)=false:=decide_eq_false hp
    rw[hd];have hp:=Hd hp;clear hd;go_wp2;go_ret;refine⟨_,rfl,?_,?_⟩
    ·rw[r_Q hlt hp.o];simp
    ·simp
  ·have hin:i=n:=by omega
   subst hin;go_wp2;go_ret;refine⟨_,rfl,?_,?_⟩
   ·rw[j_R hup.o];rfl
   ·simp
theorem e_k(n c b:Nat)(A:Option Addr)(R:Nat->Option Addr)(L C:Nat->Nat)(M:Nat->Nat->Int)(w:World)(h:RdM .u8 w A n R L C M)(hb:w.cell? ⟨b,0,none⟩=some (.slice A n c)) :
  Calls prog 242 #[.slice A n c,.func (.func 243) #[] #[.pointer (some ⟨b,0,none⟩)]] w fun e w'=>e=.returned (.bool (! evB n L))/\w=w':=by
 go_enter func242,ntmps242;go_wp2_with fail;refine(g_N _ _ _ _ _ _ _ _ _ h hb).mono ?_;rintro e w1 ⟨r,rfl,hr,rfl⟩;have hr:=Hd hr;go_wp2
 all_goals go_ret
 all_goals refine⟨b_t ?_,rfl⟩
 all_goals rw[<-hr.o]
theorem j_Q(n c:Nat)(A:Option Addr)(R:Nat->Option Addr)(L C:Nat->Nat)(M:Nat->Nat->Int)(w:World)(h:RdM .u8 w A n R L C M) :
  Calls prog 234 #[.slice A n c] w fun e w'=>e=.returned (.bool (evB n L))/\New w w':=by
 have hN:New w (w.alloc (.cells #[.slice A n c] 181)):=(New.refl w).alloc _;have hbx0:(w.alloc (.cells #[.slice A n c] 181)).cell? ⟨w.heap.size,0,none⟩=some (.slice A n c):=by rw[(Blk.fresh w 181 #[.slice A n c]).cell 0];rfl
 have hbx:=Hd hbx0;clear hbx0;go_enter func234,ntmps234;go_wp2_with fail;refine(e_k _ _ _ _ _ _ _ _ _ (h.new hN) hbx.o).mono ?_;rintro e w1 ⟨rfl,rfl⟩;go_wp2;go_ret;exact⟨by simp,hN⟩
theorem May_any(n c:Nat)(A:Option Addr)(R:Nat->Option Addr)(L C:Nat->Nat)(M:Nat->Nat->Int)(w:World)(h:RdM .u8 w A n R L C M) :
  Calls prog 214 #[.slice A n c] w fun e w'=>e=.returned (.bool (g_V n L))/\New w w':=by
 have hm:=h.1;unfold maxLen at hm
 by_cases hs:1<=n/\n<=12
 ·have e1:(0:Int)<n:=by omega
  have e2:(n:Int)<=12:=by omega
  have hd:g_V n L=evB n L:=by unfold g_V;rw[decide_eq_true hs];rfl
  rw[hd];go_enter func214,ntmps214;go_wp2_with fail;refine(j_Q _ _ _ _ _ _ _ _ h).mono ?_;rintro e w1 ⟨rfl,hn⟩;go_wp2;go_ret;exact⟨by simp,hn⟩
 ·have hd:g_V n L=false:=by unfold g_V;rw[decide_eq_false hs];rfl
  rw[hd];clear hd;go_enter func214,ntmps214;go_wp2
  all_goals go_ret
  all_goals exact⟨by simp;try omega,New.refl _⟩
end par
namespace gf
def xt(a:Nat):Nat:=if 255<a*2 then(a*2) ^^^ 285 else a*2
def tmN:Nat->Nat->Nat->Nat->Nat
 |0,_,_,o=>o
 |f+1,a,b,o=>if b=0 then o else tmN f (xt a) (b/2) (if b%2=1 then o ^^^ a else o)
def sm:Nat->Nat->Nat->Nat
 |0,_,_=>0
 |f+1,a,b=>(if b%2=1 then a else 0) ^^^ sm f (xt a) (b/2)
theorem f_p(f a b:Nat):sm (f+1) a b=(if b%2=1 then a else 0) ^^^ sm f (xt a) (b/2):=rfl
def mul(a b:Nat):Nat:=sm 8 a b
def u_9:Nat:=70160881166704368827218703435136616750530459438269794890424969378298545675077208731798828898087927652446353395360628748027273188182808436399538186061104243134188885576122562338679313492324190829158544377810568631194580132524405266702234305646236648896994794467054525044798919765581988418950285252905306116225263236585714808161311289784028762024137133735135393922581566890382566480334369299400480864790538739986285574563168380416343369614948461817839620668187777978661530364712890858126432457562886306102556561631759900551331094983229723298224611133722330829711659991602983068895685602467964643306841827719562658305
def u_8:Nat:=22135253156888987530748098150270024343632497605293634117281264061560962248099620766229961468867162294233796152347975563017024165690400661622462404646302566225833645086064538892198543335321514950294300187779610338557442029018619797274438901674641748676613670242915365385819254959901651105240253464034662486586186382979728982817772067067513442677601938078891989292316012868233806586592927239821351197800766822366321181463280924672822998103315976779850880337712374790938628529953751181886374687897611504386983350015558142994211516619836411558782076806704747441947939324473761869443721989389604670425385080942269787340800
def b_i(i:Nat):Nat:=u_9/2 ^ (8*i)%256
def b_A(a:Nat):Nat:=u_8/2 ^ (8*a)%256
def k_p(n:Nat)(p:Nat->Bool):Bool:=match n with
 |0=>true
 |n+1=>p n&&k_p n p
theorem c_I:∀{n:Nat} {p:Nat->Bool},k_p n p=true->∀i,i<n->p i=true
 |0,_,_,i,hi=>absurd hi (Nat.not_lt_zero i)
 |n+1,p,h,i,hi=>by
  simp only[k_p,Bool.and_eq_true]at h;rcases Nat.lt_succ_iff_lt_or_eq.1 hi with h1|h1
  ·exact c_I h.2 i h1
  ·rw[h1];exact h.1
theorem s_H{a b n:Nat}(ha:a<2 ^ n)(hb:b<2 ^ n):a ^^^ b<2 ^ n:=Nat.xor_lt_two_pow ha hb
theorem b_o{a b:Nat}(ha:a<256)(hb:b<256):a ^^^ b<256:=s_H (n:=8) ha hb
theorem s_I(a b c d:Nat):(a ^^^ b) ^^^ (c ^^^ d)=(a ^^^ c) ^^^ (b ^^^ d):=by ac_rfl
theorem i_1(a:Nat)(h:a<256):xt a=(a*2) ^^^ (if a.testBit 7 then 285 else 0):=by
 unfold xt
 by_cases h1:255<a*2
 ·rw[if_pos h1,if_pos]
  rw[Nat.testBit_eq_decide_div_mod_eq];simp;omega
 ·rw[if_neg h1,if_neg,Nat.xor_zero]
  rw[Nat.testBit_eq_decide_div_mod_eq];simp;omega
theorem t_B:(k_p 256 fun a=>decide (xt a<256))=true:=by decide +kernel
theorem h_7(a:Nat)(h:a<256):xt a<256:=by simpa using c_I t_B a h
theorem p_x(a b:Nat):(a ^^^ b)*2=(a*2) ^^^ (b*2):=by
 have h:=Nat.shiftLeft_xor_distrib (a:=a) (b:=b) (i:=1);simpa [Nat.shiftLeft_eq]using h
theorem i_0(a b:Nat)(ha:a<256)(hb:b<256):xt (a ^^^ b)=xt a ^^^ xt b:=by
 rw[i_1 _ (b_o ha hb),i_1 _ ha,i_1 _ hb,p_x,s_I,Nat.testBit_xor];cases a.testBit 7<;>cases b.testBit 7<;>simp
theorem o_T:∀(f a b:Nat),a<256->sm f a b<256
 |0,_,_,_=>by simp[sm]
 |f+1,a,b,ha=>by
  unfold sm;refine b_o ?_ (o_T f _ _ (h_7 a ha));split<;>omega
theorem a_k:∀(f a:Nat),sm f a 0=0
 |0,_=>rfl
 |f+1,a=>by unfold sm;simp[a_k f]
theorem d_U:∀(f b:Nat),sm f 0 b=0
 |0,_=>rfl
 |f+1,b=>by
  unfold sm;have:xt 0=0:=by decide
  rw[this,d_U f];simp
theorem e_X:∀(f a a' b:Nat),a<256->a'<256->sm f (a ^^^ a') b=sm f a b ^^^ sm f a' b
 |0,_,_,_,_,_=>by simp[sm]
 |f+1,a,a',b,ha,ha'=>by
  unfold sm;rw[i_0 _ _ ha ha',e_X f _ _ _ (h_7 _ ha) (h_7 _ ha'),s_I];split<;>simp
theorem q_g(a b:Nat):(a ^^^ b)/2=a/2 ^^^ b/2:=by
 have h:=Nat.shiftRight_xor_distrib (a:=a) (b:=b) (i:=1);simpa [Nat.shiftRight_eq_div_pow]using h
theorem p_y(a b:Nat):(a ^^^ b)%2=1↔((a%2=1/\b%2=0)\/(a%2=0/\b%2=1)):=by
 have h:=Nat.testBit_xor a b 0;rw[Nat.testBit_zero,Nat.testBit_zero,Nat.testBit_zero]at h;have h1:=Nat.mod_two_eq_zero_or_one a;have h2:=Nat.mod_two_eq_zero_or_one b;rcases h1 with h1|h1<;>rcases h2 with h2|h2<;>simp[h1,h2]at h⊢<;> omega
theorem d_V:∀(f a b b':Nat),sm f a (b ^^^ b')=sm f a b ^^^ sm f a b'
 |0,_,_,_=>by simp[sm]
 |f+1,a,b,b'=>by
  unfold sm;rw[q_g,d_V f,s_I];congr 1;have h1:=Nat.mod_two_eq_zero_or_one b;have h2:=Nat.mod_two_eq_zero_or_one b';have h3:=p_y b b';rcases h1 with h1|h1<;>rcases h2 with h2|h2<;>simp[h1,h2]at h3⊢<;> simp[h3]
theorem l_Y:∀(f a b:Nat),a<256->sm f (xt a) b=xt (sm f a b)
 |0,_,_,_=>by simp[sm];decide
 |f+1,a,b,ha=>by
  unfold sm;have h0:xt 0=0:=by decide
  rw[l_Y f _ _ (h_7 a ha),i_0 _ _ (by split<;>omega) (o_T f _ _ (h_7 a ha))]
  split
  ·rw[l_Y f _ _ ha]
  ·rw[h0,l_Y f _ _ ha]
theorem o_D:∀(f a b o:Nat),tmN f a b o=o ^^^ sm f a b
 |0,_,_,_=>by simp[tmN,sm]
 |f+1,a,b,o=>by
  unfold tmN;split
  ·rename_i h;subst h;rw[a_k];simp
  ·rw[o_D f,f_p]
   split
   ·rw[Nat.xor_assoc]
   ·rw[Nat.zero_xor]
theorem a_u(a b:Nat)(ha:a<256):mul a b<256:=o_T 8 a b ha
theorem mul_zero(a:Nat):mul a 0=0:=a_k 8 a
theorem zero_mul(a:Nat):mul 0 a=0:=d_U 8 a
theorem mul_one(a:Nat):mul a 1=a:=by
 show sm 8 a 1=a;unfold sm;rw[show 1/2=0 from rfl,a_k]
 simp
theorem m_o(a b c:Nat):mul a (b ^^^ c)=mul a b ^^^ mul a c:=d_V 8 a b c
theorem q_X(a b c:Nat)(ha:a<256)(hb:b<256):mul (a ^^^ b) c=mul a c ^^^ mul b c:=e_X 8 a b c ha hb
theorem l_Z:∀(f a b:Nat),b<2 ^ f->sm (f+1) a b=sm f a b
 |0,a,b,h=>by
  have:b=0:=by omega
  subst this;rw[a_k,a_k]
 |f+1,a,b,h=>by
  have h2:b/2<2 ^ f:=by rw[Nat.pow_succ]at h;omega
  rw[f_p (f+1) a b,f_p f a b,l_Z f _ _ h2]
theorem s_5:(k_p 256 fun a=>mul a 29==xt (mul a 128))=true:=by decide +kernel
theorem t_7(a b:Nat)(ha:a<256)(hb:b<256):mul a (xt b)=xt (mul a b):=by
 have low:∀c,c<128->mul a (xt c)=xt (mul a c):=by
  intro c hc;have e:xt c=c*2:=by unfold xt;rw[if_neg (by omega)]
  rw[e];show sm 8 a (c*2)=xt (sm 8 a c);rw[l_Z 7 a c hc,f_p];rw[if_neg (by omega),Nat.zero_xor,show c*2/2=c from by omega,l_Y 7 _ _ ha]
 by_cases h:b<128
 ·exact low b h
 ·have e:b=(b-128) ^^^ 128:=by
   have h1:=Nat.xor_comm (b-128) 128;have h2:(b-128) ^^^ 128=(b-128)+128:=by
    have:=Nat.two_pow_add_eq_or_of_lt (i:=7) (b:=b-128) (by omega) 1
    have hx:∀x:Fin 128,x.val ^^^ 128=x.val+128:=by decide +kernel
    exact hx ⟨b-128,by omega⟩
   omega
  have ht:xt 128=29:=by decide
  have hm:mul a 29=xt (mul a 128):=by simpa using c_I s_5 a ha
  rw[e,i_0 _ _ (by omega) (by omega),m_o,m_o,low _ (by omega),ht,hm,i_0 _ _ (a_u _ _ ha) (a_u _ _ ha)]
theorem s_6:(k_p 256 fun a=>a==0||(decide (b_A a<255)&&b_i (b_A a)==a))=true:=by decide +kernel
theorem s_7:(k_p 255 fun i=>decide (b_i i<256)&&(b_i i != 0)&&(b_A (b_i i)==i)&&(xt (b_i i)==b_i ((i+1)%255)))=true:=by decide +kernel
theorem a_x(i:Nat)(h:i<255):b_i i<256/\b_i i≠0/\b_A (b_i i)=i/\xt (b_i i)=b_i ((i+1)%255):=by
 have:=c_I s_7 i h;simp only[Bool.and_eq_true,decide_eq_true_eq,bne_iff_ne,ne_eq,beq_iff_eq]at this;exact⟨this.1.1.1,this.1.1.2,this.1.2,this.2⟩
theorem c_b(a:Nat)(h:a<256)(h0:a≠0):b_A a<255/\b_i (b_A a)=a:=by
 have:=c_I s_6 a h;simpa [h0]using this
theorem g_A:b_i 0=1:=by decide +kernel
theorem m_p(a:Nat)(ha:a<255):∀j,j<255->mul (b_i a) (b_i j)=b_i ((a+j)%255)
 |0,_=>by rw[g_A,mul_one,Nat.add_zero,Nat.mod_eq_of_lt ha]
 |j+1,h=>by
  have h1:=a_x j (by omega)
  have h2:=m_p a ha j (by omega)
  have h3:=a_x a ha;rw[Nat.mod_eq_of_lt h]at h1;rw[<-h1.2.2.2,t_7 _ _ h3.1 h1.1,h2,(a_x ((a+j)%255) (Nat.mod_lt _ (by omega))).2.2.2]
  congr 1;omega
theorem b_K(a b:Nat)(ha:a<256)(hb:b<256)(a0:a≠0)(b0:b≠0):mul a b=b_i ((b_A a+b_A b)%255):=by
 have h1:=c_b a ha a0;have h2:=c_b b hb b0;have:=m_p _ h1.1 _ h2.1;rw[h1.2,h2.2]at this;exact this
theorem mul_comm(a b:Nat)(ha:a<256)(hb:b<256):mul a b=mul b a:=by
 by_cases a0:a=0
 ·subst a0;rw[zero_mul,mul_zero]
 ·by_cases b0:b=0
  ·subst b0;rw[zero_mul,mul_zero]
  ·rw[b_K a b ha hb a0 b0,b_K b a hb ha b0 a0,Nat.add_comm]
theorem k_U(a b:Nat)(ha:a<256)(hb:b<256)(a0:a≠0)(b0:b≠0):mul a b≠0:=by
 rw[b_K a b ha hb a0 b0];exact(a_x _ (Nat.mod_lt _ (by omega))).2.1
theorem m_t(a b:Nat)(ha:a<256)(hb:b<256)(a0:a≠0)(b0:b≠0):b_A (mul a b)=(b_A a+b_A b)%255:=by
 rw[b_K a b ha hb a0 b0];exact(a_x _ (Nat.mod_lt _ (by omega))).2.2.1
theorem mul_assoc(a b c:Nat)(ha:a<256)(hb:b<256)(hc:c<256):mul (mul a b) c=mul a (mul b c):=by
 by_cases a0:a=0
 ·subst a0;simp only[zero_mul]
 ·by_cases b0:b=0
  ·subst b0;simp only[zero_mul,mul_zero]
  ·by_cases c0:c=0
   ·subst c0;simp only[mul_zero]
   ·rw[b_K _ c (a_u _ _ ha) hc (k_U a b ha hb a0 b0) c0,b_K a _ ha (a_u _ _ hb) a0 (k_U b c hb hc b0 c0),m_t a b ha hb a0 b0,m_t b c hb hc b0 c0]
    congr 1;omega
def pw(a:Nat):Nat->Nat
 |0=>1
 |n+1=>mul (pw a n) a
theorem f_1(a:Nat)(ha:a<256):∀n,pw a n<256
 |0=>by simp[pw]
 |n+1=>a_u _ _ (f_1 a ha n)
theorem one_mul(a:Nat)(ha:a<256):mul 1 a=a:=by rw[mul_comm 1 a (by omega) ha,mul_one]
theorem p_3(a:Nat)(ha:a<256)(m:Nat):∀n,pw a (m+n)=mul (pw a m) (pw a n)
 |0=>by rw[Nat.add_zero,pw,mul_one]
 |n+1=>by
  rw[<-Nat.add_assoc,pw,p_3 a ha m n,pw,mul_assoc _ _ _ (f_1 a ha m) (f_1 a ha n) ha]
theorem s_v(a:Nat)(ha:a<256):∀n,pw (mul a a) n=pw a (2*n)
 |0=>rfl
 |n+1=>by
  rw[pw,s_v a ha n,show 2*(n+1)=2*n+1+1 from by omega,pw,pw,mul_assoc _ _ _ (f_1 a ha _) ha ha]
theorem r_9(a o n:Nat)(ha:a<256)(ho:o<256):mul (if n%2=1 then mul o a else o) (pw (mul a a) (n/2))=mul o (pw a n):=by
 rw[s_v a ha];split
 ·rename_i h
  have e:n=1+2*(n/2):=by omega
  conv=>rhs;rw[e,p_3 a ha]
  rw[show pw a 1=a from one_mul a ha,mul_assoc _ _ _ ho ha (f_1 a ha _)]
 ·rename_i h
  have e:n=2*(n/2):=by omega
  conv=>rhs;rw[e]
theorem k_L(a:Nat)(ha:a<256)(a0:a≠0):∀n,pw a n=b_i (b_A a*n%255)
 |0=>by rw[pw,Nat.mul_zero];exact g_A.symm
 |n+1=>by
  have h1:=c_b a ha a0;have h2:=a_x (b_A a*n%255) (Nat.mod_lt _ (by omega))
  rw[pw,k_L a ha a0 n,b_K _ a h2.1 ha h2.2.1 a0,h2.2.2.1,Nat.mul_succ];congr 1;omega
theorem s_V(n:Nat):pw 2 n=b_i (n%255):=by
 have h:=k_L 2 (by omega) (by omega) n
 have hl:b_A 2=1:=by decide +kernel
 rw[hl,Nat.one_mul]at h;exact h
def f_h(a b:Nat):Nat:=if a=0 then 0 else b_i ((b_A a+255-b_A b)%255)
theorem s_3(a b:Nat):f_h a b<256:=by
 unfold f_h;split
 ·omega
 ·exact(a_x _ (Nat.mod_lt _ (by omega))).1
theorem m_O(a b:Nat)(ha:a<256)(hb:b<256)(b0:b≠0):mul (f_h a b) b=a:=by
 unfold f_h;split
 ·rename_i h;rw[zero_mul,h]
 ·rename_i h
  have h1:=c_b a ha h;have h2:=c_b b hb b0;have h3:=a_x ((b_A a+255-b_A b)%255) (Nat.mod_lt _ (by omega))
  rw[b_K _ b h3.1 hb h3.2.1 b0,h3.2.2.1];have e:((b_A a+255-b_A b)%255+b_A b)%255=b_A a:=by omega
  rw[e,h1.2]
theorem k_V(x y b:Nat)(hx:x<256)(hy:y<256)(hb:b<256)(b0:b≠0)(h:mul x b=mul y b):x=y:=by
 have h1:mul (x ^^^ y) b=0:=by rw[q_X _ _ _ hx hy,h,Nat.xor_self]
 have h2:x ^^^ y=0:=by
  by_cases hz:x ^^^ y=0
  ·exact hz
  ·exact absurd h1 (k_U _ _ (b_o hx hy) hb hz b0)
 have h3:(x ^^^ y) ^^^ y=y:=by rw[h2,Nat.zero_xor]
 rw[Nat.xor_assoc,Nat.xor_self,Nat.xor_zero]at h3;exact h3
theorem l_i(x a b:Nat)(hx:x<256)(ha:a<256)(hb:b<256)(b0:b≠0):mul x b=a↔x=f_h a b:=by
 constructor
 ·intro h
  exact k_V x _ b hx (s_3 a b) hb b0 (by rw[h,m_O a b ha hb b0])
 ·rintro rfl
  exact m_O a b ha hb b0
theorem r_E(b:Nat)(hb:b<256)(b0:b≠0):mul (pw b 254) b=1:=by
 have h:pw b 255=1:=by
  rw[k_L b hb b0,Nat.mul_mod_left];exact g_A
 exact h
theorem s_2(a b:Nat)(ha:a<256)(hb:b<256)(b0:b≠0):mul a (pw b 254)=f_h a b:=by
 refine(l_i _ a b (a_u _ _ ha) ha hb b0).1 ?_;rw[mul_assoc _ _ _ ha (f_1 b hb _) hb,r_E b hb b0,mul_one]
theorem s_M(a b:Nat):tmN 8 a b 0=mul a b:=by rw[o_D,Nat.zero_xor];rfl
end gf
end Go.Proofs.YtojcoaekhiadcaaGreat
