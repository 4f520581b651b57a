import Derived.Test.YtojcoaekhiadcaaGreatA01
import Derived.Test.YtojcoaekhiadcaaGreatA12
import Derived.Test.YtojcoaekhiadcaaGreatA26
import Derived.Test.YtojcoaekhiadcaaGreatA22
import Derived.Test.YtojcoaekhiadcaaGreatA03
set_option linter.unusedVariables false
set_option linter.unusedSimpArgs false
namespace Go.Proofs.YtojcoaekhiadcaaGreat
open Tryz Go.RowKit
namespace vault
open Go.ChangeShapes Go.WideShapes Go.ChangeAt kit Go.Deep
theorem l_z{P:Program}{w:World}{t u ty e e':TypeId}{v x:Value}(ht:P.underlying t=some (.slice e))(hu:P.underlying u=some (.slice e')):(Builtin.append_ #[t,u] ty #[v,x]).run P w=(Builtin.append_ #[t,t] ty #[v,x]).run P w:=by
 unfold Builtin.append_;cases v<;>simp[run_underlying ht,run_underlying hu]
theorem d_Q{P:Program}{w:World}{ops:Array Oper}{rest:List Oper}{o:Oper}{a:Act}{Q:Exit->Act->World->Prop}(hgd:o.guard=none)(s x:Operand)(t u e':TypeId)
  (ho:o.op=.call {callee:=.builtin .append,args:=#[s,x],argTypes:=#[t,u]})
  (base:Nat) (e:TypeId) (i:TypeInfo) (z:Value) (size bytes:Nat) (ht:P.underlying t=some (.slice e)) (hu:P.underlying u=some (.slice e')) (hi:P.info? e=some i) (hz:i.zero=some z)
  (hsize:i.size=size) (hby:i.bytes=bytes) (hzs:z.cells.size=size) (hsz:0<size)
  (v:Value) (n:Nat) (xs:List Value) (hs:a.eval s=v) (hown:w.ownsRow base e size v n xs)
  (ad:Addr) (m c:Nat) (news:List Value) (hx:a.eval x=.slice (some ad) m c) (hl:news.length=m*size) (hnews:∀j u,news[j]?=some u->w.cell? (ad.add j)=some u) (h1:∀u∈news,u.oneCell'=true)
  (hm:0<m) (h63:n+m<=maxLen) (hbytes:(n+m)*bytes<=140737488355328) (hbase:base<=w.heap.size) (H:Nat) (hH:w.heap.size=H)
  (h:∀g cap w',w'.ownsRow base e size (.slice (some ⟨g,0,none⟩) (n+m) cap) (n+m) (xs++news)->w.grownBy w' v.ownBlock->(v.ownBlock=some g\/g=H)->g<w'.heap.size->wpList P ops Q rest (a.put o.dst (.slice (some ⟨g,0,none⟩) (n+m) cap)) w'):wpList P ops Q (o::rest) a w:=by
 refine wpList_plain hgd fun K hK=>?_;obtain⟨g,cap,w',hr,h2,h3,h4,h5⟩:=run_append_lies (P:=P) w t o.type base e i z size bytes ht hi hz hsize hby hzs hsz v n xs hown ad m c news hl hnews h1 hm h63 hbytes hbase H hH;rw[<-l_z (e':=e') ht hu]at hr;unfold Oper.wp execOp;simp only[ho,resolve,invoke,builtin,Sem.run_bind,Sem.run_pure,Result.andThen_ok,List.map_toArray,List.map_cons,List.map_nil,hs,hx,hr];exact hK _ _ (h g cap w' h2 h3 h4 h5)
end vault
namespace vault
set_option maxRecDepth 100000
open Go.ChangeShapes Go.WideShapes Go.ChangeAt kit pool drive spans Go.Deep Go.Maps
def q_(l:List Ptr):List Value:=l.flatMap fun q=>(x_ q).toList
theorem n_t(l:List Ptr):(q_ l).length=l.length*8:=by
 induction l with
 |nil=>rfl
 |cons q l ih=>
  show((x_ q).toList++q_ l).length=_;rw[List.length_append,ih];show 8+l.length*8=(l.length+1)*8;omega
theorem c_5(a b:List Ptr):q_ (a++b)=q_ a++q_ b:=by simp[q_]
structure BkC(A:VA)(s0:VS)(bad:List Nat)(P B Q:List Bk)(fb:Nat)(C:List Bk)(st:List (Ptr×Nat×List Nat))(m:Nat)(o:Nat->Nat)(s:VS)(w:World):Prop where
 vm:VM A o s w
 fm:∃R,g_O o w fb R/\a_b A.n (uA A) ((P++B)++(Q++C)) R/\R.length<=200
 ev:Evo A ((P++B)++Q) m s0 s
 en:h_2 (P++B) (Q++C)
 kt:∀(i:Nat) x,st[i]?=some x->d_O A s bad x.1 x.2.1 x.2.2/\∃u,C[i]?=some u/\PtU A x.1 u/\x.1.birth=s0.time
 cl:C.length=st.length
 c0:∀b,b∈C->0<b.2
 un:a_6 C<=m
 fu:∀b,w.heap.size<=b->o b=0
section
variable {A:VA}{s0:VS}{bad:List Nat}{P B Q:List Bk}{fb:Nat}{C:List Bk}{st:List (Ptr×Nat×List Nat)}{m:Nat}{o:Nat->Nat}{s:VS}{w w':World}
theorem g_O.altT{R:Rs}(h:g_O o w fb R){K:Nat->Prop}(ha:Alt K w w')(hK:∀b,b<w.heap.size->K b->b≠fb/\∀cs,¬Blk w b 102 cs):g_O o w' fb R:=by
 obtain⟨h1,v,h2,h3,h4⟩:=h;refine⟨h1,v,ha.blk h2 (fun hk=>(hK _ h2.lt hk).1 rfl),ha.own h3 fun k hk hk'=>?_,h4⟩;rcases h3.2 with⟨h0,_⟩|⟨g',cap,cur,h0,_,hg,_⟩
 ·rw[h0]at hk;cases hk
 ·rw[h0]at hk
  have:g'=k:=by simpa [Value.ownBlock]using hk
  subst this;exact(hK g' (show Blk w g' 102 cur from hg).lt hk').2 cur hg
theorem BkC.loc(h:BkC A s0 bad P B Q fb C st m o s w){K:Nat->Prop}(ha:Alt K w w')(hK:∀b,b<w.heap.size->K b->o b=0/\b≠fb/\∀cs,¬Blk w b 102 cs):BkC A s0 bad P B Q fb C st m o s w':=by
 obtain⟨R,h1,h2⟩:=h.fm;exact⟨h.vm.keep ha (fun b hb hk=>by have:=(hK b hb hk).1;omega) (s_.refl o w),⟨R,h1.altT ha fun b hb hk=>(hK b hb hk).2,h2⟩,h.ev,h.en,h.kt,h.cl,h.c0,h.un,fun b hb=>h.fu b (Nat.le_trans ha.size hb)⟩
theorem BkC.new(h:BkC A s0 bad P B Q fb C st m o s w)(hn:New w w'):BkC A s0 bad P B Q fb C st m o s w':=h.loc (K:=fun _=>False) (Alt.of_new hn) fun _ _ f=>f.elim
theorem BkC.store(hA:VOk A)(h:BkC A s0 bad P B Q fb C st m o s w)(hbad:∀d,d<A.n->((s0.ds d).dead=true\/s0.fresh d=true)->d∈bad)(hL:∀b,b∈(P++B)++Q->0<b.2)(ht:BdI s0.time){lv:Nat}{l:List Nat}(hl:∀b∈l,b<256){y ct:Nat}(hct:ct=(16+l.length+127)/128)(h2:16+l.length<=4096)(hy:y+cU A ct<=508){e:Ending}
  (hs:e_S A o s fb ((P++B)++(Q++C)) (pgX lv l) (16+l.length) y w e w') :
  ∃q u o' s',e=.returned (.tuple #[.agg (x_ q),.int .i64 0])/\BkC A s0 bad P B Q fb (C++[u]) (st++[(q,lv,l)]) (m+ct) o' s' w'/\s_ o o' w/\Alt (fun b=>16<=o b\/b=fb) w w'/\(∀x∈a_J q,BdI x):=by
 obtain⟨x,R',o',rfl,hxy,hrun,hx0,hfr,hRl,hsm,hvm,hfm,hal⟩:=hs;rw[<-hct]at hrun hfr hvm;have h1:1<=16+l.length:=by omega
 have hX:=p_f (lv:=lv) hl;have hst:s.time=s0.time:=by rw[h.ev.eq]
 obtain⟨hu,hpb,hbd⟩:=f_N hA (s:=s) hX h1 h2 (x:=x) (by rw[<-hct];omega) (by rw[hst];exact ht)
 rw[<-hct]at hu;have hL2:∀b,b∈(P++B)++(Q++C)->0<b.2:=fun b hb=>by
  rw[<-List.append_assoc]at hb;rcases List.mem_append.1 hb with hb|hb
  ·exact hL b hb
  ·exact h.c0 b hb
 have hlay:=Evo.lay hA (s:=s) (L:=(P++B)++(Q++C)) hX h1 h2 (by rw[<-hct];exact hrun) hL2
 rw[<-hct]at hlay;have hc1:1<=ct:=by omega
 have hcp:=i_K hA hc1;have hcl:=k_7 hA hc1;refine⟨a_r A s (pgX lv l) (16+l.length) x,(x,cU A ct),tag0 o' w',_,rfl,⟨hvm.tag0 (New.refl _),⟨R',?_,?_,hRl⟩,h.ev.trans hlay fun b hb=>by rw[<-List.append_assoc];exact List.mem_append_left _ hb,?_,fun i z hz=>?_,by rw[List.length_append,List.length_append,h.cl];rfl,fun b hb=>?_,?_,fun b hb=>z_ o' w' hb⟩,hsm.trans (f_ o' w') hal.size,hal,hbd⟩
 ·obtain⟨f1,v,f2,f3,f4⟩:=hfm
  exact⟨(f_ o' w' _ f2.lt).trans f1,v,f2,f3,fun k hk=>by rw[f_ o' w' _ (f3.lt k hk).2];exact f4 k hk⟩
 ·have e:(P++B)++(Q++(C++[(x,cU A ct)]))=(P++B)++(Q++C)++[(x,cU A ct)]:=by simp only[List.append_assoc]
  rw[e];exact hfr
 ·rw[<-List.append_assoc]
  exact h.en.next x _ hx0
 ·by_cases hi:i<st.length
  ·rw[List.getElem?_append_left hi]at hz
   obtain⟨k1,u,k2,k3,k4⟩:=h.kt i z hz;refine⟨k1.evo hA hlay k3 (List.mem_append_right _ (List.mem_append_right _ (List.mem_of_getElem? k2))),u,?_,k3,k4⟩;rw[List.getElem?_append_left (by rw[h.cl];exact hi)]
   exact k2
  ·rw[List.getElem?_append_right (by omega)]at hz
   have hi0:i-st.length=0:=by
    have:=(List.getElem?_eq_some_iff.1 hz).1;simp at this;omega
   rw[hi0]at hz;cases hz;refine⟨⟨hpb,rfl,?_⟩,(x,cU A ct),?_,hu,hst⟩
   ·have:=h_w hA (a_r A s (pgX lv l) (16+l.length) x) (pgX lv l) s bad hu.c1 (fun d hd hh=>hbad d hd (by rw[h.ev.dead,h.ev.fresh]at hh;exact hh))
    rw[show(a_r A s (pgX lv l) (16+l.length) x).ct=ct from hct.symm]at this
    exact this
   ·rw[List.getElem?_append_right (by rw[h.cl];omega),h.cl,hi0]
    rfl
 ·rcases List.mem_append.1 hb with hb|hb
  ·exact h.c0 b hb
  ·rw[List.mem_singleton.1 hb]
   exact hcp
 ·rw[b_s]
  show _+(cU A ct+0)<=_;have:=h.un;omega
theorem BkC.room(h:BkC A s0 bad P B Q fb C st m o s w)(hp:∀b,b∈P->b.1+b.2<=372/\0<b.2)(hq:∀b,b∈Q->b.1+b.2<=372)(hb:a_6 B<=45)(hl:B.length<=7){c:Nat}(hc:1<=c)(hm:m+8*(c-1)<=90):∃y,y+c<=508/\c_z ((P++B)++(Q++C)) c y:=
 n_o hc h.en hp hq hb hl (by have:=h.un;omega)
end
structure BkO(A:VA)(s:VS)(bad:List Nat)(P B Q:List Bk)(fb g r0:Nat)(acc0:List Nat)(o:Nat->Nat)(w:World)(lv:Nat)(vr:Value)(acc:List Nat)(rs:List Ptr)(C:List Bk)(st:List (Ptr×Nat×List Nat))(m:Nat)(o':Nat->Nat)(s':VS)(wr:World):Prop where
 c:BkC A s bad P B Q fb C st m o' s' wr
 al:Alt (fun b=>16<=o b\/b=fb) w wr
 sm:s_ o o' w
 pn:∃v,Pen w.heap.size g v acc wr/\∀k,v.ownBlock=some k->o' k=0
 og:o' g=0
 rz:Blk wr r0 107 #[.int .i64 0,.int .i64 0,.int .i64 0,.int .i64 0,.int .i64 0,.int .i64 0,.int .i64 0,.int .i64 0]
 oz:o' r0=0
 rr:wr.ownsRow (w.heap.size+1) 107 8 vr rs.length (q_ rs)
 ot:∀k,vr.ownBlock=some k->o' k=0
 a8:∀b∈acc,b<256
 lo:(lv=0/\acc=acc0/\rs=[]/\st=[]/\m=0/\vr=.slice none 0 0)\/(lv=1/\acc=n_ (rs.length:Nat)++rs.flatMap b_1/\2<=rs.length/\rs.length<=6/\m<=41/\1008<acc0.length/\∃ps:List (List Nat),ps.flatten=acc0/\ps.length=rs.length/\st=List.zipWith (fun q p=>(q,0,p)) rs ps)
structure BkI(A:VA)(s:VS)(bad:List Nat)(P B Q:List Bk)(fb gn gp n cnt rb:Nat)(vp:Value)(acc:List Nat)(rs:List Ptr)(st:List (Ptr×Nat×List Nat))(m:Nat)(o2:Nat->Nat)(w2:World)(lv i:Nat)(vr:Value)(qs:List Ptr)(C':List Bk)(m':Nat)(o':Nat->Nat)(s':VS)(wr:World):Prop where
 c:BkC A s bad P B Q fb C' (st++List.zipWith (fun q p=>(q,0,p)) qs ((List.range i).map (a_N acc 1008))) m' o' s' wr
 al:Alt (fun b=>16<=o2 b\/b=fb) w2 wr
 sm:s_ o2 o' w2
 nx:∃v,Pen w2.heap.size gn v (n_ (cnt:Nat)++qs.flatMap b_1) wr/\∀k,v.ownBlock=some k->o' k=0
 on:o' gn=0
 pr:wr.ownsRow w2.heap.size 35 1 vp cnt (chL gp 0 n 1008 (List.range cnt))
 op:∀k,vp.ownBlock=some k->o' k=0
 rr:wr.ownsRow rb 107 8 vr (rs++qs).length (q_ (rs++qs))
 ot:∀k,vr.ownBlock=some k->o' k=0
 ql:qs.length=i
 mi:m'<=m+8*i/\(lv=0->m'<=41)
 lv0:0<i->lv=0/\2<=cnt
def s_F(A:VA)(s:VS)(bad:List Nat)(P B Q:List Bk)(fb:Nat)(acc:List Nat)(o:Nat->Nat)(w:World)(e:Ending)(w':World):Prop:=
 ∃root rs vr C st o' s',e=.returned (.tuple #[.agg (x_ root),vr,.int .i64 0])/\w'.ownsRow w.heap.size 107 8 vr rs.length (q_ rs)/\(∀k,vr.ownBlock=some k->o' k=0)/\st.map (·.1)=rs++[root]/\BkC A s bad P B Q fb C st 45 o' s' w'/\c_r A s' bad acc root rs/\rs.length<=6/\s_ o o' w/\Alt (fun b=>16<=o b\/b=fb) w w'
theorem d_i{α:Type}(f:α->List Nat)(hf:∀x,∀b∈f x,b<256)(l:List α):∀b∈l.flatMap f,b<256:=fun b hb=>by
 obtain⟨x,_,h⟩:=List.mem_flatMap.1 hb;exact hf x b h
theorem b_U{a b:List Nat}(ha:∀x∈a,x<256)(hb:∀x∈b,x<256):∀x∈a++b,x<256:=fun x hx=>(List.mem_append.1 hx).elim (ha x) (hb x)
theorem m_8(q:Ptr):∀b∈b_1 q,b<256:=d_i n_ Y_ _
theorem l_P(x:Nm):∀b∈c_i x,b<256:=b_U (Y_ _) fun b hb=>by
 obtain⟨c,_,rfl⟩:=List.mem_map.1 hb;exact c.toNat_lt
theorem m_j(num:Nat->Nat)(l:GT):∀b∈objB num l,b<256:=b_U (Y_ _) (d_i _ (fun p=>b_U (l_P _) (b_U (Y_ _) (d_i _ (fun b=>Y_ _) _))) _)
theorem t_D(U:List Nat)(pt:Nat->Ptr)(g:GS):∀b∈bkB U pt g,b<256:=
 b_U (b_U (b_U (b_U (Y_ _) (d_i _ (fun b=>m_8 _) _)) (m_j _ _)) (Y_ _)) (d_i _ (fun p=>b_U (l_P _) (m_j _ _)) _)
theorem o_p{qs:List Ptr}{i:Nat}(h:qs.length=i)(q:Ptr)(acc:List Nat):List.zipWith (fun(q:Ptr) (p:List Nat)=>(q,0,p)) (qs++[q]) ((List.range (i+1)).map (a_N acc 1008))=List.zipWith (fun q p=>(q,0,p)) qs ((List.range i).map (a_N acc 1008))++[(q,0,a_N acc 1008 i)]:=by
 rw[List.range_succ,List.map_append,List.zipWith_append (by simp[h])]
 rfl
theorem l_6:(prog.info? 107).map (fun i=>(i.zero,i.size,i.bytes))=some (some (.agg #[.int .i64 0,.int .i64 0,.int .i64 0,.int .i64 0,.int .i64 0,.int .i64 0,.int .i64 0,.int .i64 0]),8,64):=by kernel_rfl
theorem o_9{A:VA}{s':VS}{bad:List Nat}{acc0 acc:List Nat}{rs:List Ptr}{st:List (Ptr×Nat×List Nat)}{lv m:Nat}{vr:Value}{q:Ptr}(hl:acc.length<=1008)
  (lo:(lv=0/\acc=acc0/\rs=[]/\st=[]/\m=0/\vr=.slice none 0 0)\/(lv=1/\acc=n_ (rs.length:Nat)++rs.flatMap b_1/\2<=rs.length/\rs.length<=6/\m<=41/\1008<acc0.length/\∃ps:List (List Nat),ps.flatten=acc0/\ps.length=rs.length/\st=List.zipWith (fun q p=>(q,0,p)) rs ps))
  (kt:∀(i:Nat) x,(st++[(q,lv,a_N acc 1008 0)])[i]?=some x->d_O A s' bad x.1 x.2.1 x.2.2):c_r A s' bad acc0 q rs/\(st++[(q,lv,a_N acc 1008 0)]).map (·.1)=rs++[q]/\rs.length<=6:=by
 have hp:a_N acc 1008 0=acc:=by
  unfold a_N;rw[Nat.mul_zero,List.drop_zero,List.take_of_length_le hl]
 rw[hp]at kt ⊢;rcases lo with⟨rfl,rfl,rfl,rfl,_,_⟩|⟨rfl,rfl,h2,h6,_,hln,ps,hf,hpl,rfl⟩
 ·exact⟨.inl ⟨rfl,kt 0 _ rfl⟩,rfl,by decide⟩
 ·have hzl:(List.zipWith (fun(q:Ptr) (p:List Nat)=>(q,0,p)) rs ps).length=rs.length:=by rw[List.length_zipWith,hpl,Nat.min_self]
  have hroot:=kt rs.length (q,1,n_ (rs.length:Nat)++rs.flatMap b_1) (by rw[List.getElem?_append_right (by omega),hzl,Nat.sub_self];rfl)
  refine⟨.inr ⟨ps,hf,hpl,h2,h6,hln,fun i a p ha hpp=>?_,hroot⟩,?_,h6⟩
  ·have hi:=(List.getElem?_eq_some_iff.1 ha).1
   exact kt i (a,0,p) (by rw[List.getElem?_append_left (by omega),List.getElem?_zipWith,ha,hpp])
  ·rw[List.map_append,List.map_zipWith]
   congr 1;apply List.ext_getElem
   ·rw[List.length_zipWith,hpl,Nat.min_self]
   ·intro i h1 h2
    simp
theorem p_a{l:List Ptr}{i k:Nat}{q:Ptr}(h:l[i]?=some q)(hk:k<8):(q_ l)[i*8+k]?=(x_ q)[k]?:=by
 induction l generalizing i with
 |nil=>cases h
 |cons a l ih=>
  show((x_ a).toList++q_ l)[i*8+k]?=_;cases i with
  |zero=>
   cases h;rw[List.getElem?_append_left (by show 0*8+k<8;omega),Nat.zero_mul,Nat.zero_add]
   simp
  |succ i=>
   rw[List.getElem?_append_right (by show 8<=_;omega),show(i+1)*8+k-(x_ a).toList.length=i*8+k by show(i+1)*8+k-8=_;omega]
   exact ih (by simpa using h)
structure l_D(o:Nat->Nat)(s:VS)(w:World)(l:List Ptr):Prop where
 rw:w.ownsRow 0 107 8 s.syn l.length (q_ l)
 tg:∀k,s.syn.ownBlock=some k->o k=1
structure Reg(A:VA)(s:VS)(pp pb:List Ptr):Prop where
 pu:∀(i:Nat) q,pp[i]?=some q->∃u,s.pg[i]?=some u/\PtU A q u
 pl:s.pg.length=pp.length
 bu:∀(i:Nat) q,pb[i]?=some q->∃u,s.bo[i]?=some u/\PtU A q u
 bl:s.bo.length=pb.length
 p2:∀u,u∈s.pg->u.2=2/\u.1+u.2<=372
 b0:∀u,u∈s.bo->0<u.2
 n64:s.pg.length<=64
 n7:s.bo.length<=7
 u45:a_6 s.bo<=45
theorem Reg.at{A:VA}{s:VS}{pp pb:List Ptr}(h:Reg A s pp pb){i:Nat}{q:Ptr}(hq:(pp++pb)[i]?=some q):∃u,(s.pg++s.bo)[i]?=some u/\PtU A q u:=by
 by_cases hi:i<pp.length
 ·rw[List.getElem?_append_left hi]at hq
  obtain⟨u,h1,h2⟩:=h.pu i q hq;exact⟨u,by rw[List.getElem?_append_left (by rw[h.pl];exact hi)];exact h1,h2⟩
 ·rw[List.getElem?_append_right (by omega)]at hq
  obtain⟨u,h1,h2⟩:=h.bu _ q hq;exact⟨u,by rw[List.getElem?_append_right (by rw[h.pl];omega),h.pl];exact h1,h2⟩
theorem Reg.pos{A:VA}{s:VS}{pp pb:List Ptr}(h:Reg A s pp pb):∀u,u∈s.pg++s.bo->0<u.2:=fun u hu=>by
 rcases List.mem_append.1 hu with hu|hu
 ·have:=(h.p2 u hu).1;omega
 ·exact h.b0 u hu
theorem e_m:∀{l:List Bk},(∀u,u∈l->u.2=2)->a_6 l=2*l.length
 |[],_=>rfl
 |u::l,h=>by
  show u.2+a_6 l=_;rw[e_m fun v hv=>h v (List.mem_cons_of_mem _ hv),h u (List.mem_cons_self ..),List.length_cons];omega
theorem VM.vset{A:VA}{o:Nat->Nat}{s s':VS}{w:World}(h:VM A o s w)(k:Nat)(u:Value)(hv:(i_3 A s).setIfInBounds k u=i_3 A s')(h1:s'.ds=s.ds)(h2:s'.dead=s.dead)(h3:s'.fresh=s.fresh):VM A o s' (w.setCell ⟨A.v,k,none⟩ u):=by
 have ha:Alt (fun b=>b=A.v) w (w.setCell ⟨A.v,k,none⟩ u):=Alt.set (K:=fun b=>b=A.v) (Alt.refl w) (.inl rfl) u;obtain⟨cs,hc,hc2⟩:=h.db;obtain⟨ce,he,_⟩:=O_ h.eb;obtain⟨cf,hf,_⟩:=O_ h.fb;refine⟨by rw[<-hv];exact h.bk.put k u,⟨cs,ha.blk hc (e_ hc h.bk (by decide)),hc2⟩,?_,?_,fun i hi=>?_,h.ov,h.od,h.oe,h.of⟩
 ·rw[h2]
  exact ha.row_is h.eb (e_ he h.bk (by decide))
 ·rw[h3]
  exact ha.row_is h.fb (e_ hf h.bk (by decide))
 ·rw[h1]
  exact(h.dr i hi).keep ha (fun b hb hp e=>by have:=h.ov;rw[e]at hp;omega) fun b hb hp=>hp
structure FrS(A:VA)(w0:World)(fb:Nat)(L:List Bk)(w:World):Prop where
 fr:∃v R,Blk w fb 103 #[v]/\w.ownsRow w0.heap.size 102 2 v R.length (V_ R)/\a_b A.n (uA A) L R/\R.length<=200
 nw:New w0 w
 fl:w0.heap.size<=fb
theorem FrS.new{A:VA}{w0:World}{fb:Nat}{L:List Bk}{w w':World}(h:FrS A w0 fb L w)(hn:New w w'):FrS A w0 fb L w':=by
 obtain⟨v,R,h1,h2,h3⟩:=h.fr;exact⟨⟨v,R,h1.new hn,c_ h2 hn,h3⟩,h.nw.next hn,h.fl⟩
theorem FrS.alt{A:VA}{w0:World}{fb:Nat}{L:List Bk}{w w':World}(h:FrS A w0 fb L w){K:Nat->Prop}(ha:Alt K w w')(hK:∀b,K b->w0.heap.size<=b/\(∀cs,¬Blk w b 103 cs)/\∀cs,¬Blk w b 102 cs):FrS A w0 fb L w':=by
 obtain⟨v,R,h1,h2,h3⟩:=h.fr;refine⟨⟨v,R,ha.blk h1 fun hk=>(hK _ hk).2.1 _ h1,ha.own h2 fun k hk hk'=>?_,h3⟩,h.nw.trans (ha.below h.nw.size fun k hk=>(hK k hk).1),h.fl⟩;rcases h2.2 with⟨h0,_⟩|⟨g',cap,cur,h0,_,hg,_⟩
 ·rw[h0]at hk;cases hk
 ·rw[h0]at hk
  have:g'=k:=by simpa [Value.ownBlock]using hk
  subst this;exact(hK g' hk').2.2 cur hg
theorem FrS.same{A:VA}{w0:World}{fb:Nat}{L L':List Bk}{w:World}(h:FrS A w0 fb L w)(h1:∀b,b∈L->b∈L')(h2:∀b,b∈L'->b∈L):FrS A w0 fb L' w:=by
 obtain⟨v,R,k1,k2,k3,k4⟩:=h.fr;exact⟨⟨v,R,k1,k2,k3.same h1 h2,k4⟩,h.nw,h.fl⟩
theorem g_r{A:VA}(hA:VOk A):a_b A.n (uA A) [] [(((4*A.n:Nat):Int),((512*A.n:Nat):Int))]:=a_b.start (by have:=hA.n2;omega)
theorem encE_one(a b:Int):V_ [(a,b)]=[.int .i64 a,.int .i64 b]:=rfl
theorem FrS.start1{A:VA}(hA:VOk A)(W:World):FrS A W (W.heap.size+1) [] ((W.alloc (.cells #[.int .i64 (4*(A.n:Int)),.int .i64 (512*(A.n:Int))] 102)).alloc (.cells #[.slice (some ⟨W.heap.size,0,none⟩) 1 1] 103)).drew:=by
 have h1:=Blk.fresh (W.alloc (.cells #[.int .i64 (4*(A.n:Int)),.int .i64 (512*(A.n:Int))] 102)) 103 #[.slice (some ⟨W.heap.size,0,none⟩) 1 1];rw[World.size_alloc]at h1;have h2:=(Blk.fresh W 102 #[.int .i64 (4*(A.n:Int)),.int .i64 (512*(A.n:Int))]).alloc (.cells #[.slice (some ⟨W.heap.size,0,none⟩) 1 1] 103);refine⟨⟨_,[(((4*A.n:Nat):Int),((512*A.n:Nat):Int))],h1.drew,⟨rfl,.inr ⟨W.heap.size,1,_,rfl,Nat.le_refl _,h2.drew,Nat.le_refl _,by unfold maxLen;omega,rfl,?_⟩⟩,g_r hA,by simp⟩,(((New.refl W).alloc _).alloc _).drew,Nat.le_succ _⟩
 rw[encE_one];push_cast;rfl
theorem FrS.start2{A:VA}(hA:VOk A)(W:World):FrS A W W.heap.size [] ((W.alloc (.cells #[.slice (some ⟨W.heap.size+1,0,none⟩) 1 1] 103)).alloc (.cells #[.int .i64 (4*(A.n:Int)),.int .i64 (512*(A.n:Int))] 102)).drew:=by
 have h2:=Blk.fresh (W.alloc (.cells #[.slice (some ⟨W.heap.size+1,0,none⟩) 1 1] 103)) 102 #[.int .i64 (4*(A.n:Int)),.int .i64 (512*(A.n:Int))];rw[World.size_alloc]at h2;have h1:=(Blk.fresh W 103 #[.slice (some ⟨W.heap.size+1,0,none⟩) 1 1]).alloc (.cells #[.int .i64 (4*(A.n:Int)),.int .i64 (512*(A.n:Int))] 102);refine⟨⟨_,[(((4*A.n:Nat):Int),((512*A.n:Nat):Int))],h1.drew,⟨rfl,.inr ⟨W.heap.size+1,1,_,rfl,Nat.le_succ _,h2.drew,Nat.le_refl _,by unfold maxLen;omega,rfl,?_⟩⟩,g_r hA,by simp⟩,(((New.refl W).alloc _).alloc _).drew,Nat.le_refl _⟩
 rw[encE_one];push_cast;rfl
theorem FrS.cut{A:VA}{w0:World}{fb:Nat}{L:List Bk}{w w':World}{u:Bk}{v':Value}{R':Rs}(h:FrS A w0 fb L w)(hn:New w w')(ho:w'.ownsRow w.heap.size 102 2 v' R'.length (V_ R'))(hF:a_b A.n (uA A) (L++[u]) R')(hl:R'.length<=200):FrS A w0 fb (L++[u]) (w'.setCell ⟨fb,0,none⟩ v'):=by
 obtain⟨v,R,h1,h2,h3⟩:=h.fr;have h4:=(h1.new hn).put 0 v';have hnb:v'.ownBlock≠some fb:=fun e=>by have:=(ho.lt fb e).1;have:=h1.lt;omega
 exact⟨⟨v',R',by simpa using h4,ownsRow_setCell_other (ho.mono h.nw.size) (a:=⟨fb,0,none⟩) hnb _,hF,hl⟩,(h.nw.next hn).set (p:=⟨fb,0,none⟩) h.fl _,h.fl⟩
structure SgS(A:VA)(W1 W6:World)(fb:Nat)(LL:List Bk)(ats:Nat->Option Ptr)(U:List Nat)(vU:Value)(l:List Nat)(x y:Value)(w:World):Prop where
 f:FrS A W1 fb LL w
 mi:w.ownsRow W1.heap.size 107 8 x (l.filterMap ats).length (q_ (l.filterMap ats))
 md:w.ownsRow W6.heap.size 112 1 y (l.filter fun b=>(ats b).isNone).length (a_2 (l.filter fun b=>(ats b).isNone))
 ru:w.ownsRow W1.heap.size 112 1 vU U.length (a_2 U)
 ge:W6.heap.size<=w.heap.size
theorem SgS.new{A:VA}{W1 W6:World}{fb:Nat}{LL:List Bk}{ats:Nat->Option Ptr}{U:List Nat}{vU:Value}{l:List Nat}{x y:Value}{w w':World}(h:SgS A W1 W6 fb LL ats U vU l x y w)(hn:New w w'):SgS A W1 W6 fb LL ats U vU l x y w':=⟨h.f.new hn,c_ h.mi hn,c_ h.md hn,c_ h.ru hn,Nat.le_trans h.ge hn.size⟩
theorem SgS.free{A:VA}{W1 W6:World}{fb:Nat}{LL:List Bk}{ats:Nat->Option Ptr}{U:List Nat}{vU:Value}{l:List Nat}{x y:Value}{w w':World}{u:Bk}{v':Value}{R':Rs}(h:SgS A W1 W6 fb LL ats U vU l x y w)(hu:u∈LL)(hn:New w w')(ho:w'.ownsRow w.heap.size 102 2 v' R'.length (V_ R'))(hF:a_b A.n (uA A) (LL++[u]) R')(hl:R'.length<=200):SgS A W1 W6 fb LL ats U vU l x y (w'.setCell ⟨fb,0,none⟩ v'):=by
 obtain⟨v,R,h1,_⟩:=h.f.fr;have hb:=h1.new hn;have k1:∀{e:TypeId} {z n:Nat} {v:Value} {xs:List Value} {base:Nat},w'.ownsRow base e z v n xs->e≠103->(w'.setCell ⟨fb,0,none⟩ v').ownsRow base e z v n xs:=fun ho he=>ownsRow_setCell_other ho (a:=⟨fb,0,none⟩) (b_ ho hb he) _;refine⟨(h.f.cut hn ho hF hl).same (fun b hb=>?_) fun b hb=>List.mem_append_left _ hb,k1 (c_ h.mi hn) (by decide),k1 (c_ h.md hn) (by decide),k1 (c_ h.ru hn) (by decide),Nat.le_trans h.ge (Nat.le_trans hn.size (k_ w' fb 0 v').size)⟩
 rcases List.mem_append.1 hb with hb|hb
 ·exact hb
 ·rw[List.mem_singleton.1 hb];exact hu
theorem SgS.made{A:VA}{W1 W6:World}{fb:Nat}{LL:List Bk}{ats:Nat->Option Ptr}{U:List Nat}{vU:Value}{l:List Nat}{x y v':Value}{w w':World}{b:Nat}(h:SgS A W1 W6 fb LL ats U vU l x y w)(hb:ats b=none)(h6:W1.heap.size<=W6.heap.size)(hvU:∀k,vU.ownBlock=some k->k<W6.heap.size)(o:Obj)(ho:w'.ownsRow W6.heap.size 112 1 v' ((l.filter fun b=>(ats b).isNone).length+1) (a_2 (l.filter fun b=>(ats b).isNone)++[ptr b]))(hg:(w.alloc o).grownBy w' y.ownBlock):SgS A W1 W6 fb LL ats U vU (l++[b]) x v' w':=by
 have hn:=(New.refl w).alloc o;have ha:Alt (fun k=>y.ownBlock=some k) (w.alloc o) w':=Alt.grown (Alt.refl _) hg fun r e=>.inl e;have hmd:=c_ h.md hn;refine⟨(h.f.new hn).alt ha fun k hk=>⟨by have:=(hmd.lt k hk).1;omega,fun cs hcs=>b_ hmd hcs (by decide) hk,fun cs hcs=>b_ hmd hcs (by decide) hk⟩,?_,?_,?_,Nat.le_trans h.ge (Nat.le_trans hn.size hg.size)⟩
 ·have e:(l++[b]).filterMap ats=l.filterMap ats:=by rw[List.filterMap_append];simp[hb]
  rw[e];exact ha.own (c_ h.mi hn) fun k hk e=>comb.b_Q (c_ h.mi hn) hmd (by decide) (fun h0=>by rw[h0]at hk;cases hk) (by rw[hk,e])
 ·have e:(l++[b]).filter (fun b=>(ats b).isNone)=l.filter (fun b=>(ats b).isNone)++[b]:=by rw[List.filter_append];simp[hb]
  rw[e,List.length_append,a_2,List.map_append];exact ho
 ·exact ha.own (c_ h.ru hn) fun k hk e=>by
   have:=(hmd.lt k e).1;have:=hvU k hk;omega
theorem SgS.old{A:VA}{W1 W6:World}{fb:Nat}{LL:List Bk}{ats:Nat->Option Ptr}{U:List Nat}{vU:Value}{l:List Nat}{x y v':Value}{w w':World}{b:Nat}{q:Ptr}(h:SgS A W1 W6 fb LL ats U vU l x y w)(hb:ats b=some q)(o:Obj)(ho:w'.ownsRow W1.heap.size 107 8 v' ((l.filterMap ats).length+1) (q_ (l.filterMap ats)++(x_ q).toList))(hg:(w.alloc o).grownBy w' x.ownBlock):SgS A W1 W6 fb LL ats U vU (l++[b]) v' y w':=by
 have hn:=(New.refl w).alloc o;have ha:Alt (fun k=>x.ownBlock=some k) (w.alloc o) w':=Alt.grown (Alt.refl _) hg fun r e=>.inl e;have hmi:=c_ h.mi hn;refine⟨(h.f.new hn).alt ha fun k hk=>⟨(hmi.lt k hk).1,fun cs hcs=>b_ hmi hcs (by decide) hk,fun cs hcs=>b_ hmi hcs (by decide) hk⟩,?_,?_,?_,Nat.le_trans h.ge (Nat.le_trans hn.size hg.size)⟩
 ·have e:(l++[b]).filterMap ats=l.filterMap ats++[q]:=by rw[List.filterMap_append];simp[hb]
  rw[e,List.length_append,c_5];have e2:q_ [q]=(x_ q).toList:=by simp[q_]
  rw[e2];exact ho
 ·have e:(l++[b]).filter (fun b=>(ats b).isNone)=l.filter (fun b=>(ats b).isNone):=by rw[List.filter_append];simp[hb]
  rw[e];exact ha.own (c_ h.md hn) fun k hk e=>comb.b_Q (c_ h.md hn) hmi (by decide) (fun h0=>by rw[h0]at hk;cases hk) (by rw[hk,e])
 ·exact ha.own (c_ h.ru hn) fun k hk e=>comb.b_Q (c_ h.ru hn) hmi (by decide) (fun h0=>by rw[h0]at hk;cases hk) (by rw[hk,e])
structure PaC(A:VA)(s0:VS)(bad:List Nat)(L:List Bk)(fb:Nat)(Xs:List (Nat->Nat))(N:List Bk)(qs:List Ptr)(o:Nat->Nat)(s:VS)(w:World):Prop where
 vm:VM A o s w
 fm:∃R,g_O o w fb R/\a_b A.n (uA A) (L++N) R/\R.length<=200
 ev:Evo A L (2*qs.length) s0 s
 en:h_2 L N
 kt:∀(i:Nat) q,qs[i]?=some q->∃u X,N[i]?=some u/\Xs[i]?=some X/\PtU A q u/\u.2=2/\u.1+u.2<=372/\i_R A q X/\q.by_=256/\b_F A s bad q X
 cl:N.length=qs.length
 n2:∀u,u∈N->u.2=2/\u.1+u.2<=372
 fu:∀b,w.heap.size<=b->o b=0
section
variable {A:VA}{s0:VS}{bad:List Nat}{L:List Bk}{fb:Nat}{Xs:List (Nat->Nat)}{N:List Bk}{qs:List Ptr}{o:Nat->Nat}{s:VS}{w w':World}
theorem PaC.loc(h:PaC A s0 bad L fb Xs N qs o s w){K:Nat->Prop}(ha:Alt K w w')(hK:∀b,b<w.heap.size->K b->o b=0/\b≠fb/\∀cs,¬Blk w b 102 cs):PaC A s0 bad L fb Xs N qs o s w':=by
 obtain⟨R,h1,h2⟩:=h.fm;exact⟨h.vm.keep ha (fun b hb hk=>by have:=(hK b hb hk).1;omega) (s_.refl o w),⟨R,h1.altT ha fun b hb hk=>(hK b hb hk).2,h2⟩,h.ev,h.en,h.kt,h.cl,h.n2,fun b hb=>h.fu b (Nat.le_trans ha.size hb)⟩
theorem PaC.room(h:PaC A s0 bad L fb Xs N qs o s w)(hu:a_6 L<=173)(hl:L.length<=71)(hq:qs.length<=63):∃y,y<=370/\c_z (L++N) 2 y:=
 n_n h.en hu hl (by rw[e_m fun u hu=>(h.n2 u hu).1,h.cl];omega)
theorem PaC.store(hA:VOk A)(h:PaC A s0 bad L fb Xs N qs o s w)(hbad:∀d,d<A.n->((s0.ds d).dead=true\/s0.fresh d=true)->d∈bad)(hL:∀b,b∈L->0<b.2)(ht:BdI s0.time){X:Nat->Nat}(hX:∀k,X k<256)(hXs:Xs[qs.length]?=some X){y:Nat}(hy:y<=370){e:Ending}(hs:e_S A o s fb (L++N) X 256 y w e w') :
  ∃q u o' s',e=.returned (.tuple #[.agg (x_ q),.int .i64 0])/\PaC A s0 bad L fb Xs (N++[u]) (qs++[q]) o' s' w'/\s_ o o' w/\Alt (fun b=>16<=o b\/b=fb) w w'/\(∀x∈a_J q,BdI x):=by
 obtain⟨x,R',o',rfl,hxy,hrun,hx0,hfr,hRl,hsm,hvm,hfm,hal⟩:=hs;rw[show(256+127)/128=2 from rfl,d_j hA]at hrun hfr
 rw[show(256+127)/128=2 from rfl]at hvm
 have hst:s.time=s0.time:=by rw[h.ev.eq]
 obtain⟨hu,hpb,hbd⟩:=f_N hA (s:=s) hX (len:=256) (by decide) (by decide) (x:=x) (by rw[show(256+127)/128=2 from rfl,d_j hA];omega) (by rw[hst];exact ht)
 rw[show(256+127)/128=2 from rfl,d_j hA]at hu
 have hL2:∀b,b∈L++N->0<b.2:=fun b hb=>by
  rcases List.mem_append.1 hb with hb|hb
  ·exact hL b hb
  ·have:=(h.n2 b hb).1;omega
 have hlay:=Evo.lay hA (s:=s) (L:=L++N) (len:=256) hX (by decide) (by decide) (by rw[show(256+127)/128=2 from rfl,d_j hA];exact hrun) hL2
 rw[show(256+127)/128=2 from rfl]at hlay
 refine⟨a_r A s X 256 x,(x,2),tag0 o' w',_,rfl,⟨hvm.tag0 (New.refl _),⟨R',?_,by rw[<-List.append_assoc];exact hfr,hRl⟩,?_,h.en.next x _ hx0,fun i z hz=>?_,by rw[List.length_append,List.length_append,h.cl];rfl,fun u hu2=>?_,fun b hb=>z_ o' w' hb⟩,hsm.trans (f_ o' w') hal.size,hal,hbd⟩
 ·obtain⟨f1,v,f2,f3,f4⟩:=hfm
  exact⟨(f_ o' w' _ f2.lt).trans f1,v,f2,f3,fun k hk=>by rw[f_ o' w' _ (f3.lt k hk).2];exact f4 k hk⟩
 ·have h1:=h.ev.trans hlay fun b hb=>List.mem_append_left _ hb
  rw[List.length_append];exact h1.mono (fun b hb=>hb) (by show 2*qs.length+2<=2*(qs.length+1);omega)
 ·by_cases hi:i<qs.length
  ·rw[List.getElem?_append_left hi]at hz
   obtain⟨u,X',k1,k2,k3,k4,k5,k6,k7,k8⟩:=h.kt i z hz;exact⟨u,X',by rw[List.getElem?_append_left (by rw[h.cl];exact hi)];exact k1,k2,k3,k4,k5,k6,k7,hlay.kept hA k3 (List.mem_append_right _ (List.mem_of_getElem? k1)) k8⟩
  ·rw[List.getElem?_append_right (by omega)]at hz
   have hi0:i=qs.length:=by
    have:=(List.getElem?_eq_some_iff.1 hz).1;simp at this;omega
   rw[hi0,Nat.sub_self]at hz;cases hz;refine⟨(x,2),X,by rw[hi0,List.getElem?_append_right (by rw[h.cl];omega),h.cl,Nat.sub_self];rfl,by rw[hi0];exact hXs,hu,rfl,by show x+2<=372;omega,hpb,rfl,?_⟩
   exact h_w hA (a_r A s X 256 x) X s bad hu.c1 (fun d hd hh=>hbad d hd (by rw[h.ev.dead,h.ev.fresh]at hh;exact hh))
 ·rcases List.mem_append.1 hu2 with hu2|hu2
  ·exact h.n2 u hu2
  ·rw[List.mem_singleton.1 hu2]
   exact⟨rfl,by show x+2<=372;omega⟩
end
end vault
namespace vault
set_option maxRecDepth 100000
open Go.ChangeShapes Go.WideShapes Go.ChangeAt kit pool drive Go.Deep Go.Maps
theorem r_I:(prog.info? 63).map (fun i=>(i.zero,i.size,i.bytes))=some (some (.pointer none),1,8):=by kernel_rfl
theorem j_E:(prog.info? 4).map (fun i=>(i.zero,i.size,i.bytes))=some (some (.bool false),1,1):=by kernel_rfl
def drL(dr:Nat->Nat)(i:Nat):List Value:=(List.range i).map fun k=>ptr (dr k)
theorem q_b(dr:Nat->Nat)(i d:Nat):drL (fun k=>if k=i then d else dr k) (i+1)=drL dr i++[ptr d]:=by
 unfold drL;rw[List.range_succ,List.map_append];congr 1
 ·apply List.map_congr_left
  intro k hk;have hk:=List.mem_range.1 hk;simp[show k≠i by omega]
 ·simp
structure MkI(n p v eb fb:Nat)(dr:Nat->Nat)(o:Nat->Nat)(w0:World)(i:Nat)(dv:Value)(w:World):Prop where
 bk:Blk w v 62 #[.int .i64 n,.int .i64 p,dv,.slice (some ⟨eb,0,none⟩) n n,.slice (some ⟨fb,0,none⟩) n n,.int .i64 0,.int .i64 (-1),.bool false,.slice none 0 0,.pointer none]
 rE:w.rowIs eb 4 n fun _=>.bool false
 rF:w.rowIs fb 4 n fun _=>.bool false
 rw:w.ownsRow w0.heap.size 63 1 dv i (drL dr i)
 tg:∀k,dv.ownBlock=some k->o k=1
 dP:∀k,k<i->DrP (fun b=>o b=16+k) (dr k) DS.fresh w
 ov:o v=1
 oe:o eb=1
 of:o fb=1
 nw:New w0 w
 ob:∀b,b<w0.heap.size->o b=0
 ge:w0.heap.size<=v
 ef:eb≠fb
theorem MkI.new{n p v eb fb:Nat}{dr:Nat->Nat}{o:Nat->Nat}{w0:World}{i:Nat}{dv:Value}{w w':World}(h:MkI n p v eb fb dr o w0 i dv w)(hn:New w w'):MkI n p v eb fb dr o w0 i dv w':=
 ⟨h.bk.new hn,(Alt.of_new (K:=fun _=>False) hn).row_is h.rE (fun f=>f),(Alt.of_new (K:=fun _=>False) hn).row_is h.rF (fun f=>f),c_ h.rw hn,h.tg,fun k hk=>(h.dP k hk).new hn,h.ov,h.oe,h.of,h.nw.next hn,h.ob,h.ge,h.ef⟩
theorem t_t{P:Nat->Prop}{base d g:Nat}{pv:Nat->Value}{wv:Value}{dv:Nat->Value}{w:World}(h:Dr P base d g 512 (fun _=>none) (fun _=>false) [] false pv wv dv w):DrP P d DS.fresh w:=
 ⟨g,pv,wv,dv,h.bk,h.pt,h.pd,h.wo.mono (Nat.zero_le _),h.wd,h.wi,⟨Nat.zero_le _,Nat.zero_le _⟩,h.ft⟩
theorem MkI.step{n p v eb fb:Nat}{dr:Nat->Nat}{o:Nat->Nat}{w0:World}{i:Nat}{dv:Value}{w w1 w2:World}{d g c:Nat}{ob:Obj}(h:MkI n p v eb fb dr o w0 i dv w)(hn1:New w w1)(hD:DrP (fun b=>w.heap.size<=b) d DS.fresh w1)(hg:(w1.alloc ob).grownBy w2 dv.ownBlock)(ho:w2.ownsRow w0.heap.size 63 1 (.slice (some ⟨g,0,none⟩) (i+1) c) (i+1) (drL dr i++[ptr d]))(hgx:dv.ownBlock=some g\/g=(w1.alloc ob).heap.size) :
  ∃dr' o',MkI n p v eb fb dr' o' w0 (i+1) (.slice (some ⟨g,0,none⟩) (i+1) c) (w2.setCell ⟨v,2,none⟩ (.slice (some ⟨g,0,none⟩) (i+1) c)):=by
 have hs1:=hn1.size;have hbk1:=h.bk.new hn1;have hrw1:=c_ h.rw hn1;have hA:Alt (fun b=>dv.ownBlock=some b) w1 w2:=Alt.grown ((Alt.refl w1).alloc _) hg fun r e=>.inl e;have hlt:∀k,dv.ownBlock=some k->k<w.heap.size:=fun k hk=>(h.rw.lt k hk).2;have hbk2:=hA.blk hbk1 (b_ hrw1 hbk1 (by decide))
 have hset:Alt (fun b=>b=v) w2 (w2.setCell ⟨v,2,none⟩ (.slice (some ⟨g,0,none⟩) (i+1) c)):=Alt.set (K:=fun b=>b=v) (Alt.refl w2) (.inl rfl) _;have hall:Alt (fun b=>dv.ownBlock=some b\/b=v) w1 (w2.setCell ⟨v,2,none⟩ (.slice (some ⟨g,0,none⟩) (i+1) c)):=(hA.weak fun b hb=>.inl hb).trans (hset.weak fun b hb=>.inr hb);have hall0:Alt (fun b=>dv.ownBlock=some b\/b=v) w (w2.setCell ⟨v,2,none⟩ (.slice (some ⟨g,0,none⟩) (i+1) c)):=(Alt.of_new hn1).trans hall;have hvl:=h.bk.lt;obtain⟨ce,he,_⟩:=O_ h.rE;obtain⟨cf,hf,_⟩:=O_ h.rF;have hrowB:∀b cs,Blk w b 4 cs->¬(dv.ownBlock=some b\/b=v):=fun b cs hb hk=>by
  rcases hk with hk|hk
  ·exact b_ h.rw hb (by decide) hk
  ·exact e_ hb h.bk (by decide) hk
 obtain⟨o',ho'⟩:∃o':Nat->Nat,o'=fun b=>if b<w.heap.size then o b else if b<w1.heap.size then 16+i else if b=g then 1 else 0:=⟨_,rfl⟩;have c1:∀b,b<w.heap.size->o' b=o b:=fun b hb=>by rw[ho'];exact if_pos hb
 have c2:∀b,w.heap.size<=b->b<w1.heap.size->o' b=16+i:=fun b hb hb2=>by
  rw[ho'];show(if b<w.heap.size then o b else if b<w1.heap.size then 16+i else if b=g then 1 else 0)=_;rw[if_neg (by omega),if_pos hb2]
 refine⟨fun k=>if k=i then d else dr k,o',?_,hall0.row_is h.rE (hrowB _ _ he),hall0.row_is h.rF (hrowB _ _ hf),?_,fun k hk=>?_,fun k hk=>?_,by rw[c1 _ hvl,h.ov],by rw[c1 _ he.lt,h.oe],by rw[c1 _ hf.lt,h.of],?_,fun b hb=>by rw[c1 b (Nat.lt_of_lt_of_le hb h.nw.size),h.ob b hb],h.ge,h.ef⟩
 ·simpa using hbk2.put 2 (.slice (some ⟨g,0,none⟩) (i+1) c)
 ·rw[q_b]
  exact ownsRow_setCell_other ho (a:=⟨v,2,none⟩) (b_ ho hbk2 (by decide)) _
 ·have hk:g=k:=by simpa [Value.ownBlock]using hk
  subst hk;rcases hgx with hx|hx
  ·rw[c1 _ (hlt _ hx),h.tg _ hx]
  ·rw[World.size_alloc]at hx
   rw[ho'];show(if g<w.heap.size then o g else if g<w1.heap.size then 16+i else if g=g then 1 else 0)=1;rw[if_neg (by omega),if_neg (by omega),if_pos rfl]
 ·by_cases e:k=i
  ·subst e
   rw[if_pos rfl];exact hD.keep hall (fun b hb hp hk=>by
    rcases hk with hk|hk
    ·have:=hlt b hk;omega
    ·omega) fun b hb hp=>c2 b hp hb
  ·rw[if_neg e]
   exact(h.dP k (by omega)).keep hall0 (fun b hb hp hk=>by
    rcases hk with hk|hk
    ·have:=h.tg b hk;omega
    ·rw[hk]at hp;have:=h.ov;omega) fun b hb hp=>(c1 b hb).trans hp
 ·exact((h.nw.next hn1).append' hg fun k hk=>(h.rw.lt k hk).1).set (p:=⟨v,2,none⟩) h.ge _
def vs0(st:Nat):VS:=⟨fun _=>DS.fresh,fun _=>false,fun _=>false,0,-1,false,.slice none 0 0,st,[],[]⟩
structure u_3(A:VA)(n p:Nat)(o:Nat->Nat)(st xb yb:Nat)(w0 w:World):Prop where
 an:A.n=n
 ap:A.p=p
 ok:VOk A
 vs:VSt A (vs0 st) [] o (fun _ _=>0) xb yb 0 ⟨[],[]⟩ w
 sy:l_D o (vs0 st) w []
 rg:Reg A (vs0 st) [] []
 nw:New w0 w
 ob:∀b,b<w0.heap.size->o b=0
theorem t_8{n p v eb fb:Nat}{dr:Nat->Nat}{o:Nat->Nat}{w0 w9 w:World}{dv:Value}{st xb yb:Nat}(h:MkI n p v eb fb dr o w0 n dv w9)(hn:New w9 w)(hpl:PlM v st xb yb 0 (tag2 o w9) ⟨[],[]⟩ w)(n2:2<=n)(n8:n<=8)(p1:1<=p)(p3:p<=3)(pn:p<n) :
  ∃A,A.v=v/\u_3 A n p (tag2 o w9) st xb yb w0 (w.setCell ⟨v,9,none⟩ (ptr st)):=by
 have hw:=h.new hn;have c1:∀b,b<w9.heap.size->tag2 o w9 b=o b:=a_w o w9;have hset:Alt (fun b=>b=v) w (w.setCell ⟨v,9,none⟩ (ptr st)):=Alt.set (K:=fun b=>b=v) (Alt.refl w) (.inl rfl) _;obtain⟨ce,he,_⟩:=O_ hw.rE;obtain⟨cf,hf,_⟩:=O_ hw.rF;obtain⟨ce9,he9,_⟩:=O_ h.rE;obtain⟨cf9,hf9,_⟩:=O_ h.rF;rcases hw.rw.2 with⟨_,h0⟩|⟨db,dc,cur,rfl,hb,hg,k1,k2,k3,k4⟩
 ·omega
 have hdb9:db<w9.heap.size:=(h.rw.lt db rfl).2;have hvl:=h.bk.lt;have hov:tag2 o w9 v=1:=by rw[c1 v hvl];exact h.ov
 refine⟨⟨n,p,v,db,dc,eb,fb,dr⟩,rfl,rfl,rfl,⟨n2,n8,p1,p3,pn,⟨k1,k2⟩,h.ef⟩,⟨⟨?_,⟨cur,hset.blk hg (e_ hg hw.bk (by decide)),fun i hi=>?_⟩,hset.row_is hw.rE (e_ he hw.bk (by decide)),hset.row_is hw.rF (e_ hf hw.bk (by decide)),fun i hi=>?_,hov,?_,?_,?_⟩,hpl.alt hset (fun b hb e=>by rw[e]at hb;omega) (s_.refl _ _),fun b hb=>absurd hb (by simp[GS.all,gBl]),fun G hG=>?_⟩,⟨World.ownsRow_nil _ _ _ _,fun k hk=>(by cases hk)⟩,⟨fun i q hq=>(by cases hq),rfl,fun i q hq=>(by cases hq),rfl,fun u hu=>(by cases hu),fun u hu=>(by cases hu),Nat.zero_le _,Nat.zero_le _,Nat.zero_le _⟩,(h.nw.next hn).set (p:=⟨v,9,none⟩) h.ge _,fun b hb=>?_⟩
 ·exact hw.bk.put 9 (ptr st)
 ·have h5:=congrArg (fun l:List Value=>l[i]?) k4
  simp only[List.getElem?_take,Nat.mul_one]at h5;rw[if_pos (show i<n from hi)]at h5
  rw[<-Array.getElem?_toList,h5,drL,List.getElem?_map,List.getElem?_range (show i<n from hi)]
  rfl
 ·exact((h.dP i hi).keep (P':=fun b=>tag2 o w9 b=16+i) (K:=fun b=>b=v) ((Alt.of_new hn).trans hset) (fun b hb hp e=>by rw[e]at hp;have:=h.ov;omega) fun b hb hp=>(c1 b hb).trans hp)
 ·show tag2 o w9 db=1
  rw[c1 db hdb9];exact h.tg db rfl
 ·show tag2 o w9 eb=1
  rw[c1 eb he9.lt];exact h.oe
 ·show tag2 o w9 fb=1
  rw[c1 fb hf9.lt];exact h.of
 ·rcases hG with⟨x,hG⟩|⟨q,hq,_⟩
  ·cases hG
  ·cases hq
 ·rw[c1 b (Nat.lt_of_lt_of_le hb h.nw.size)]
  exact h.ob b hb
theorem p_z(n p:Nat)(w:World):MkI n p (w.heap.size+1+1) (w.heap.size) (w.heap.size+1) (fun _=>0) (fun b=>if b<w.heap.size then 0 else 1) w 0 (.slice none 0 0) (((w.alloc (.cells (madeCells #[.bool false] n) 4)).alloc (.cells (madeCells #[.bool false] n) 4)).alloc (.cells #[.int .i64 n,.int .i64 p,.slice none 0 0,.slice (some ⟨w.heap.size,0,none⟩) n n,.slice (some ⟨w.heap.size+1,0,none⟩) n n,.int .i64 0,.int .i64 (-1),.bool false,.slice none 0 0,.pointer none] 62)):=by
 have h1:(((w.alloc (.cells (madeCells #[.bool false] n) 4)).alloc (.cells (madeCells #[.bool false] n) 4)).alloc (.cells #[.int .i64 n,.int .i64 p,.slice none 0 0,.slice (some ⟨w.heap.size,0,none⟩) n n,.slice (some ⟨w.heap.size+1,0,none⟩) n n,.int .i64 0,.int .i64 (-1),.bool false,.slice none 0 0,.pointer none] 62)).rowIs (w.heap.size) 4 n fun _=>.bool false:=(((World.rowIs_made w (.bool false) n 4).alloc (.cells (madeCells #[.bool false] n) 4)).alloc (.cells #[.int .i64 n,.int .i64 p,.slice none 0 0,.slice (some ⟨w.heap.size,0,none⟩) n n,.slice (some ⟨w.heap.size+1,0,none⟩) n n,.int .i64 0,.int .i64 (-1),.bool false,.slice none 0 0,.pointer none] 62));have h2:(((w.alloc (.cells (madeCells #[.bool false] n) 4)).alloc (.cells (madeCells #[.bool false] n) 4)).alloc (.cells #[.int .i64 n,.int .i64 p,.slice none 0 0,.slice (some ⟨w.heap.size,0,none⟩) n n,.slice (some ⟨w.heap.size+1,0,none⟩) n n,.int .i64 0,.int .i64 (-1),.bool false,.slice none 0 0,.pointer none] 62)).rowIs (w.heap.size+1) 4 n fun _=>.bool false:=by
  have h:=((World.rowIs_made (w.alloc (.cells (madeCells #[.bool false] n) 4)) (.bool false) n 4).alloc (.cells #[.int .i64 n,.int .i64 p,.slice none 0 0,.slice (some ⟨w.heap.size,0,none⟩) n n,.slice (some ⟨w.heap.size+1,0,none⟩) n n,.int .i64 0,.int .i64 (-1),.bool false,.slice none 0 0,.pointer none] 62));rw[World.size_alloc]at h;exact h
 refine⟨?_,h1,h2,World.ownsRow_nil _ _ _ _,fun k hk=>(by cases hk),fun k hk=>absurd hk (Nat.not_lt_zero k),if_neg (by omega),if_neg (by omega),if_neg (by omega),(((New.refl w).alloc _).alloc _).alloc _,fun b hb=>if_pos hb,by omega,by omega⟩
 have h:=Blk.fresh ((w.alloc (.cells (madeCells #[.bool false] n) 4)).alloc (.cells (madeCells #[.bool false] n) 4)) 62 #[.int .i64 n,.int .i64 p,.slice none 0 0,.slice (some ⟨w.heap.size,0,none⟩) n n,.slice (some ⟨w.heap.size+1,0,none⟩) n n,.int .i64 0,.int .i64 (-1),.bool false,.slice none 0 0,.pointer none];rw[World.size_alloc,World.size_alloc]at h;exact h
theorem n_K(n p:Nat)(w:World):MkI n p (w.heap.size+1+1) (w.heap.size+1) (w.heap.size) (fun _=>0) (fun b=>if b<w.heap.size then 0 else 1) w 0 (.slice none 0 0) (((w.alloc (.cells (madeCells #[.bool false] n) 4)).alloc (.cells (madeCells #[.bool false] n) 4)).alloc (.cells #[.int .i64 n,.int .i64 p,.slice none 0 0,.slice (some ⟨w.heap.size+1,0,none⟩) n n,.slice (some ⟨w.heap.size,0,none⟩) n n,.int .i64 0,.int .i64 (-1),.bool false,.slice none 0 0,.pointer none] 62)):=by
 have h1:(((w.alloc (.cells (madeCells #[.bool false] n) 4)).alloc (.cells (madeCells #[.bool false] n) 4)).alloc (.cells #[.int .i64 n,.int .i64 p,.slice none 0 0,.slice (some ⟨w.heap.size+1,0,none⟩) n n,.slice (some ⟨w.heap.size,0,none⟩) n n,.int .i64 0,.int .i64 (-1),.bool false,.slice none 0 0,.pointer none] 62)).rowIs (w.heap.size) 4 n fun _=>.bool false:=(((World.rowIs_made w (.bool false) n 4).alloc (.cells (madeCells #[.bool false] n) 4)).alloc (.cells #[.int .i64 n,.int .i64 p,.slice none 0 0,.slice (some ⟨w.heap.size+1,0,none⟩) n n,.slice (some ⟨w.heap.size,0,none⟩) n n,.int .i64 0,.int .i64 (-1),.bool false,.slice none 0 0,.pointer none] 62));have h2:(((w.alloc (.cells (madeCells #[.bool false] n) 4)).alloc (.cells (madeCells #[.bool false] n) 4)).alloc (.cells #[.int .i64 n,.int .i64 p,.slice none 0 0,.slice (some ⟨w.heap.size+1,0,none⟩) n n,.slice (some ⟨w.heap.size,0,none⟩) n n,.int .i64 0,.int .i64 (-1),.bool false,.slice none 0 0,.pointer none] 62)).rowIs (w.heap.size+1) 4 n fun _=>.bool false:=by
  have h:=((World.rowIs_made (w.alloc (.cells (madeCells #[.bool false] n) 4)) (.bool false) n 4).alloc (.cells #[.int .i64 n,.int .i64 p,.slice none 0 0,.slice (some ⟨w.heap.size+1,0,none⟩) n n,.slice (some ⟨w.heap.size,0,none⟩) n n,.int .i64 0,.int .i64 (-1),.bool false,.slice none 0 0,.pointer none] 62));rw[World.size_alloc]at h;exact h
 refine⟨?_,h2,h1,World.ownsRow_nil _ _ _ _,fun k hk=>(by cases hk),fun k hk=>absurd hk (Nat.not_lt_zero k),if_neg (by omega),if_neg (by omega),if_neg (by omega),(((New.refl w).alloc _).alloc _).alloc _,fun b hb=>if_pos hb,by omega,by omega⟩
 have h:=Blk.fresh ((w.alloc (.cells (madeCells #[.bool false] n) 4)).alloc (.cells (madeCells #[.bool false] n) 4)) 62 #[.int .i64 n,.int .i64 p,.slice none 0 0,.slice (some ⟨w.heap.size+1,0,none⟩) n n,.slice (some ⟨w.heap.size,0,none⟩) n n,.int .i64 0,.int .i64 (-1),.bool false,.slice none 0 0,.pointer none];rw[World.size_alloc,World.size_alloc]at h;exact h
end vault
end Go.Proofs.YtojcoaekhiadcaaGreat
