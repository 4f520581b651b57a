import Derived.Test.YtojcoaekhiadcaaGreatA01
import Derived.Test.YtojcoaekhiadcaaGreatProg
import Derived.Handy
import Derived.Deep.OwnRows
import Derived.Deep.AppendLies
import Derived.Deep.Onto
import Derived.Deep.RegionHeld3
import Derived.OwnWalk
import Derived.Laws.AppendOwnNone
import Derived.Lib.SmallJoins
import Derived.Test.YtojcoaekhiadcaaGreatA03
import Derived.RangeFuncNested
import Derived.RangeFuncBound
import Derived.RangeFuncCalls
import Derived.RangeFuncLeaves
import Derived.Shelf.Abstract
import Derived.Shelf.RegionOpen
import Derived.OwnWalkIn
import Derived.TacticsInMore
import Derived.LoopNIn
import Derived.LoopIn
import Derived.Lib.JoinLaws
import Derived.Laws.EntriesVeiled
set_option linter.unusedVariables false
set_option linter.unusedSimpArgs false
namespace Go.Proofs.YtojcoaekhiadcaaGreat
open Tryz Go.RowKit
namespace comb
open Go.ChangeShapes Go.WideShapes Go.ChangeAt kit Go.Deep
theorem infoInt:(prog.info? 3).map (fun i=>(i.zero,i.size,i.bytes))=some (some (.int .i64 0),1,8):=by kernel_rfl
end comb
namespace comb
set_option maxRecDepth 100000
open Go.ChangeShapes Go.WideShapes Go.ChangeAt kit Go.Deep
def c_v:Nat->Nat->Nat->List (List Nat)
 |_,_,0=>[[]]
 |0,_,_+1=>[]
 |d+1,f,k+1=>(c_v d (f+1) k).map (fun l=>f::l)++c_v d (f+1) (k+1)
theorem d_A(d f:Nat):c_v d f 0=[[]]:=by cases d<;>rfl
theorem e_v:∀(d f k:Nat),∀l∈c_v d f k,l.length=k
 |d,f,0,l,h=>by rw[d_A]at h;simp at h;subst h;rfl
 |0,f,k+1,l,h=>by simp[c_v]at h
 |d+1,f,k+1,l,h=>by
  simp only[c_v,List.mem_append,List.mem_map]at h;rcases h with⟨q,hq,rfl⟩|h
  ·simp[e_v d (f+1) k q hq]
  ·exact e_v d (f+1) (k+1) l h
def b_9(x:Nat):Value:=.int .i64 (x:Int)
theorem b_Q{w:World}{b b':Nat}{e e':TypeId}{s s' n n':Nat}{v v':Value}{xs xs':List Value}(h:w.ownsRow b e s v n xs)(h':w.ownsRow b' e' s' v' n' xs')(hne:e≠e')(hs:v.ownBlock≠none):v.ownBlock≠v'.ownBlock:=by
 rcases h.2 with⟨rfl,_⟩|⟨g,cap,cur,rfl,_,hg,_⟩
 ·exact absurd rfl hs
 ·rcases h'.2 with⟨rfl,_⟩|⟨g',cap',cur',rfl,_,hg',_⟩
  ·simp[Value.ownBlock]
  ·intro he
   have hgg:g=g':=by simpa [Value.ownBlock]using he
   subst hgg;rw[hg]at hg';injection hg' with hg';injection hg' with _ hg' _;exact hne hg'
theorem i_i(l:List Nat):∀u∈l.map b_9,u.oneCell'=true:=by
 intro u hu;obtain⟨x,_,rfl⟩:=List.mem_map.1 hu;rfl
open each2
theorem g_Q(b off n c:Nat)(l:List Nat)(w:World)(h:∀j u,(l.map b_9)[j]?=some u->w.cell? ⟨b,off+j,none⟩=some u)(hn:l.length=n)(hn2:n<=8192)(hb:b<w.heap.size) :
  Calls prog 176 #[.slice (some ⟨b,off,none⟩) n c] w fun e w'=>∃v,e=.returned v/\w'.ownsRow w.heap.size 3 1 v n (l.map b_9)/\New w w':=by
 obtain⟨i0,hi0,hz0,hz1,hz2⟩:=info_parts infoInt;have hsrc:Hid (∀j u,(l.map b_9)[j]?=some u->(w.alloc (.cells #[] 3)).cell? ((⟨b,off,none⟩:Addr).add j)=some u):=fun j u hu=>by
  rw[i_];exact(((New.refl w).alloc _).cell (p:=⟨b,off+j,none⟩) hb).trans (h j u hu)
 have hone:=Hd (i_i l);have hlen:Hid ((l.map b_9).length=n):=by show _=_;simp[hn]
 have hlit:=World.ownsRow_lit (e:=3) (size:=1) w #[] 0 (Nat.le_refl _) (by unfold maxLen;omega) rfl
 have hnb:=fun w=>Lib.run_eql_slice_nil (P:=prog) w 27 3 (some ⟨b,off,none⟩) n c 0 0 underlying27;clear h hn;go_enter func176,ntmps176;go_wp2_with (at_builtin;refine wpList_append_own _ rfl _ _ 27 rfl w.heap.size 3 i0 _ 1 8 underlying27 hi0 hz0 hz1 hz2 rfl (by decide) (Value.slice (some ⟨w.heap.size,0,none⟩) 0 0) 0 [] rfl hlit ⟨b,off,none⟩ n c (l.map b_9) rfl (by rw[hlen.o];omega) hsrc.o hone.o (by unfold maxLen;omega) (by omega) (by simp) ?_;intro v3 w3 hown3 hgrow hnil)
 have hgA:(w.alloc (.cells #[] 3)).grownBy w3 (some w.heap.size):=hgrow;have hN:New w w3:=(New.refl w).append' hgA (fun g hg=>by cases hg;exact Nat.le_refl _)
 rw[List.nil_append,Nat.zero_add]at hown3;have hfin:=Hd (And.intro hown3 hN);clear hgrow hnil hown3;go_wp2;go_ret;exact⟨v3,rfl,hfin.o.1,hfin.o.2⟩
structure g_M(B bn bk l k n:Nat)(q:List Nat)(W:World):Prop where
 yb:Boxed W B 346 (.func (.yield l) #[] #[])
 row:W.ownsRow (B+1) 3 1 (.slice (some ⟨B+1,0,none⟩) q.length k) q.length (q.map b_9)
 pick:Boxed W (B+2) 27 (.slice (some ⟨B+1,0,none⟩) q.length k)
 walk:Boxed W (B+3) 160 (.func (.func 219) #[] #[.pointer (some ⟨B+2,0,none⟩),.pointer (some ⟨bk,0,none⟩),.pointer (some ⟨B,0,none⟩),.pointer (some ⟨bn,0,none⟩),.pointer (some ⟨B+3,0,none⟩)])
 nb:Boxed W bn 3 (.int .i64 n)
 kb:Boxed W bk 3 (.int .i64 k)
 nlt:bn<B
 klt:bk<B
abbrev Kn(bn bk:Nat):Nat->Prop:=fun i=>i=bn\/i=bk
theorem Boxed.held{Kx:Nat->Prop}{lo hi b:Nat}{t:TypeId}{v:Value}{W W':World}(h:Boxed W b t v)(hh:Held Kx lo hi W W')(hb:Kx b\/lo<=b/\b<hi):Boxed W' b t v:=hh.at hb h
theorem p_i{Kx:Nat->Prop}{lo hi g n c m base s:Nat}{e:TypeId}{xs:List Value}{W W':World}(h:W.ownsRow base e s (.slice (some ⟨g,0,none⟩) n c) m xs)(hh:Held Kx lo hi W W')(hb:lo<=g/\g<hi):W'.ownsRow base e s (.slice (some ⟨g,0,none⟩) n c) m xs:=by
 refine⟨h.1,?_⟩;rcases h.2 with h0|⟨g',cap,cur,he,hb',hg,hr⟩
 ·exact .inl h0
 ·cases he
  exact .inr ⟨g,c,cur,rfl,hb',hh.at (.inr hb) hg,hr⟩
theorem g_M.held{B bn bk l k n:Nat}{q:List Nat}{W W':World}(h:g_M B bn bk l k n q W)(hh:Held (Kn bn bk) B (B+4) W W'):g_M B bn bk l k n q W':=
 ⟨Boxed.held h.yb hh (.inr (by omega)),p_i h.row hh (by omega),Boxed.held h.pick hh (.inr (by omega)),Boxed.held h.walk hh (.inr (by omega)),Boxed.held h.nb hh (.inl (.inl rfl)),Boxed.held h.kb hh (.inl (.inr rfl)),h.nlt,h.klt⟩
def k_m(B:Nat)(x:List Nat)(v:Value)(W:World):Prop:=W.ownsRow B 3 1 v x.length (x.map b_9)
theorem t_P(p:Tmp)(a:Value)(arr:Array Value):(#[p].zip #[a]).foldl (fun t (x:Tmp×Value)=>t.setIfInBounds x.1 x.2) arr=arr.setIfInBounds p a:=by simp
def u_f(B:Nat)(x:List Nat)(vs:Array Value)(W:World):Prop:=∃v,vs=#[v]/\k_m B x v W
theorem k_m.kept(m:Nat):∀B x v W W' row,k_m B x v W->W.grownBy W' row->(∀r,row=some r->r+m<B)->k_m B x v W':=by
 intro B x v W W' row h hg hr;refine World.ownsRow.kept h hg ?_
 by_cases hv:v.ownBlock=none
 ·exact .inl hv
 ·refine .inr fun e=>?_
  obtain⟨g,hg⟩:=Option.ne_none_iff_exists'.1 hv;have h1:=(h.lt g hg).1;have h2:=hr g (by rw[<-e,hg])
  omega
theorem g_M.grown{B bn bk l k n:Nat}{q:List Nat}{W W':World}(h:g_M B bn bk l k n q W)(hg:W.grownBy W' none):g_M B bn bk l k n q W':=h.held (Held.grown hg fun r e=>by cases e)
theorem n_m(k:Nat):Fence.wide.room k:=fun d h=>by rw[a_Y]at h;cases h
theorem yieldAny{m m':Nat}{P:Program}{l:Nat}{args:Array Value}{W:World}{R:Ending->World->Prop}(h:YieldAt Fence.wide m P l args W R):YieldAt Fence.wide m' P l args W R:=by
 obtain⟨fn,tmps,assign,body,hy,hR⟩:=h;exact⟨fn,tmps,assign,body,hy,hR.1,fun c cs _=>hR.2 c cs (n_m _)⟩
def q_M(J Jx:List (List Nat)->World->Prop)(pre that:List (List Nat))(Pv:World->Prop)(b:Bool)(W':World):Prop:=
 match b with
 |true=>J (pre++that) W'/\Pv W'
 |false=>∃z,z <+: that/\Jx (pre++z) W'
attribute [local go_sem] Oper.semAt_some
def s_E(P:Bool->World->Prop)(e:Ending)(w:World):Prop:=∃b:Bool,e=.returned (.bool b)/\P b w
def q_N(m l B bn bk:Nat)(S:List (List Nat))(J Jx:List (List Nat)->World->Prop):Prop:=
 ∀pre x v W1,J pre W1->pre++[x] <+: S->k_m (B+4) x v W1->B+4<=W1.heap.size->YieldAt Fence.wide m prog l #[v] W1 fun e W'=>
  ∃b:Bool,e=.returned (.bool b)/\(match b with|true=>J (pre++[x]) W'/\Held (Kn bn bk) B (B+4) W1 W'|false=>Jx (pre++[x]) W')
abbrev caps(B bn bk:Nat)(f:Value):Array Value:=#[f,.pointer (some ⟨B+2,0,none⟩),.pointer (some ⟨bk,0,none⟩),.pointer (some ⟨B,0,none⟩),.pointer (some ⟨bn,0,none⟩),.pointer (some ⟨B+3,0,none⟩)]
theorem New.grow{a b:World}(h:New a b):a.grownBy b none:=⟨h.os,h.tape,h.output,h.size,fun k hk _=>h.block k hk⟩
set_option maxHeartbeats 1000000 in
theorem o_x{m l B bn bk n k:Nat}{S:List (List Nat)}{J Jx:List (List Nat)->World->Prop}(hk:k<=12)(hJ:f_b B (B+4) J)(hY:q_N m l B bn bk S J Jx)(q:List Nat)(hq:q.length=k)(f:Nat)(pre:List (List Nat))(W:World)
  (hP:g_M B bn bk l k n q W) (h0:J pre W) (hpre:pre++[q] <+: S) :
  CallsIn Fence.wide m prog 219 (caps B bn bk (.int .i64 f)) W (s_E (q_M J Jx pre [q] (g_M B bn bk l k n q))):=by
 have hmix:prog.follows .mixedOrders=true:=by kernel_rfl
 have hdd:∀k:Nat,(Fence.wide.depth.isSome=true->1<=k):=fun k h=>by rw[a_Y]at h;cases h
 have hpc:=hP.pick.cell;have hkc:=hP.kb.cell;have hyc:=hP.yb.cell;rw[hq]at hpc;have hlt:B+3<W.heap.size:=hP.walk.lt;have hrow:=hP.row;rw[hq]at hrow;have hcl:=Hd (fun(w':World) (hn:New W w')=>g_Q (B+1) 0 k k q w' (fun j u hu=>by
   rw[Nat.zero_add];refine(hn.cell (p:=⟨B+1,j,none⟩) (by show B+1<_;omega)).trans ?_
   have:=hrow.cells rfl j u hu;rw[i_]at this;simpa using this) hq (by omega) (by have:=hn.size;omega))
 have hPH:=Hd hP;have hJH:=Hd h0;clear hP hrow h0;refine callsIn_of_wp func219 rfl trivial ?_ rfl;simp only[ntmps219,List.size_toArray,List.length_cons,List.length_nil,Nat.reduceAdd,Nat.reduceSub,Array.replicate_succ,Array.replicate_zero,List.push_toArray,List.append_toArray,List.nil_append,List.cons_append];gi_wp2;gi_region_with (first
  |(refine⟨trivial,hdd _,?_⟩;gi_at_call 176;refine(callsIn_wide.2 (hcl.o _ (by exact(New.refl W).drew))).mono ?_
    rintro e w1 ⟨v1,rfl,hown1,hn1⟩;have hy1:=(hn1.cell (p:=⟨B,0,none⟩) (by show B<_;simp;omega)).trans hyc
    have hg1:W.grownBy w1 none:=(New.grow (New.next (New.drew (New.refl W)) hn1));obtain⟨fn,tmps,assign,body,hy,hR⟩:=yieldAny (m':=m-1) (hY pre q v1 w1 (hJ _ _ _ _ hJH.o hg1 (fun r e=>by cases e)) hpre (by show World.ownsRow _ _ _ _ _ _ _;rw[hq];exact hown1.mono (by simp;omega)) (by have:=hg1.size;omega)))
  |(refine⟨hdd _,?_⟩;refine hR.mono ?_;clear hR;rintro e W2 ⟨b,rfl,hb⟩))
 all_goals
  have hfin:Hid (q_M J Jx pre [q] (g_M B bn bk l k n q) b W2):=by
   cases b with
   |true=>exact⟨hb.1,(hPH.o.grown hg1).held hb.2⟩
   |false=>exact⟨[q],List.prefix_refl _,hb⟩
  clear hb;gi_wp2;go_ret;exact⟨b,rfl,hfin.o⟩
abbrev i_E(bn bk:Nat):Array Value:=#[.pointer (some ⟨bk,0,none⟩),.pointer (some ⟨bn,0,none⟩)]
set_option maxHeartbeats 1000000 in
theorem l_h{m:Nat}(n k bn bk:Nat)(w:World)(hn:n<=12)(hk:k<=n)(hk0:k=0)(hbn:Boxed w bn 3 (.int .i64 n))(hbk:Boxed w bk 3 (.int .i64 k)) :
  n_a m prog 218 (i_E bn bk) 4 (Kn bn bk) (c_v n 0 k) u_f w:=by
 intro l J Jx W hW hJ hJx hY h0;have hdd:∀k:Nat,(Fence.wide.depth.isSome=true->1<=k):=fun k h=>by rw[a_Y]at h;cases h
 have h1:Boxed W bn 3 (.int .i64 n):=(hW.block bn hbn.lt).trans hbn;have h2:Boxed W bk 3 (.int .i64 k):=(hW.block bk hbk.lt).trans hbk;have hbn0:=h1.lt;have hbk0:=h2.lt;have hmk:=run_make_room (P:=prog) 27 3 (.int .i64 0) 8 underlying27 infoInt rfl .i64 .i64 k (by omega) (by omega)
 have c2:=h2.cell;have hY':∀m,q_N m l W.heap.size bn bk (c_v n 0 k) J Jx:=fun m' pre x v W1 hj hp ha hs=>yieldAny ((hY pre x #[v] W1 hj hp ⟨v,rfl,ha⟩ hs).mono fun e W' h=>by
  rcases h with⟨rfl,hj,hh⟩|⟨rfl,hx⟩
  ·exact⟨true,rfl,hj,hh⟩
  ·exact⟨false,rfl,hx⟩)
 replace hk0:=Hd hk0;have hpk:Hid (c_v n 0 k=[[]]):=by rw[hk0.o];exact d_A _ _
 have hwk:Hid (∀W',g_M W.heap.size bn bk l k n [] W'->J [] W'->CallsIn Fence.wide (m-1) prog 219 (caps W.heap.size bn bk (.int .i64 0)) W' (s_E (q_M J Jx [] [[]] (g_M W.heap.size bn bk l k n [])))):=fun W' hp hj=>
  o_x (by omega) hJ (hY' (m-1)) [] hk0.o.symm 0 [] W' hp hj (by rw[hpk.o];exact List.prefix_refl _)
 have hJH:=Hd h0;clear h0 hY hY';show CallsIn Fence.wide m prog 218 #[.func (.yield l) #[] #[],.pointer (some ⟨bk,0,none⟩),.pointer (some ⟨bn,0,none⟩)] W _;refine callsIn_of_wp func218 rfl trivial ?_ rfl;simp only[ntmps218,List.size_toArray,List.length_cons,List.length_nil,Nat.reduceAdd,Nat.reduceSub,Array.replicate_succ,Array.replicate_zero,List.push_toArray,List.append_toArray,List.nil_append,List.cons_append];gi_wp2_with fail;refine⟨trivial,hdd _,?_⟩;refine(hwk.o _ ?_ ?_).mono ?_
 ·refine⟨(((Boxed.new W _ _).alloc _).alloc _).alloc _,?_,?_,?_,(((h1.alloc _).alloc _).alloc _).alloc _,(((h2.alloc _).alloc _).alloc _).alloc _,hbn0,hbk0⟩
  ·have hr:=World.ownsRow_made (base:=W.heap.size+1) (e:=3) (size:=1) (W.alloc (.cells #[.func (.yield l) #[] #[]] 346)) (madeCells #[.int .i64 0] k) k (by simp) (by unfold maxLen;omega) (by rw[size_madeCells];omega)
   simp only[World.size_alloc]at hr;exact(hr.alloc _).alloc _
  ·have hr:=Boxed.new ((W.alloc (.cells #[.func (.yield l) #[] #[]] 346)).alloc (.cells (madeCells #[.int .i64 0] k) 3)) 27 (.slice (some ⟨W.heap.size+1,0,none⟩) 0 k)
   simp only[World.size_alloc]at hr;exact hr.alloc _
  ·have hr:=Boxed.new (((W.alloc (.cells #[.func (.yield l) #[] #[]] 346)).alloc (.cells (madeCells #[.int .i64 0] k) 3)).alloc (.cells #[.slice (some ⟨W.heap.size+1,0,none⟩) 0 k] 27)) 160 (.func (.func 219) #[] #[.pointer (some ⟨W.heap.size+1+1,0,none⟩),.pointer (some ⟨bk,0,none⟩),.pointer (some ⟨W.heap.size,0,none⟩),.pointer (some ⟨bn,0,none⟩),.pointer (some ⟨W.heap.size+1+1+1,0,none⟩)])
   simp only[World.size_alloc]at hr;exact hr
 ·exact hJ.alloc _ (hJ.alloc _ (hJ.alloc _ (hJ.alloc _ hJH.o)))
 rintro e w2 ⟨b,rfl,hb⟩;have hfin:Hid (J (c_v n 0 k) w2\/∃pre,pre <+: c_v n 0 k/\Jx pre w2):=by
  rw[hpk.o];cases b with
  |true=>exact .inl (by simpa using hb.1)
  |false=>obtain⟨z,hz,hx⟩:=hb;exact .inr ⟨z,hz,by simpa using hx⟩
 clear hb;gi_wp2;go_end0;exact⟨⟨_,rfl⟩,hfin.o⟩
theorem q_R(n k:Int)(w:World) :
  Calls prog 174 #[.int .i64 n,.int .i64 k] w fun e w'=>e=.returned (.func (.func 218) #[] (i_E w.heap.size (w.heap.size+1)))/\w'=(w.alloc (.cells #[.int .i64 n] 3)).alloc (.cells #[.int .i64 k] 3):=by
 go_enter func174,ntmps174;go_wp2;go_ret;exact⟨rfl,rfl⟩
end comb
end Go.Proofs.YtojcoaekhiadcaaGreat
