import Derived.Test.YtojcoaekhiadcaaGreatA01
import Derived.Test.YtojcoaekhiadcaaGreatProg
import Derived.Test.YtojcoaekhiadcaaGreatA06
import Derived.Deep.OwnRows
import Derived.Deep.AppendLies
import Derived.OwnWalk
import Derived.BigRegion
import Derived.Test.YtojcoaekhiadcaaGreatA02
set_option linter.unusedVariables false
set_option linter.unusedSimpArgs false
namespace Go.Proofs.YtojcoaekhiadcaaGreat
open Tryz Go.RowKit
namespace mat
open Go.ChangeShapes Go.WideShapes Go.ChangeAt kit gf
theorem g_o{a:Nat}(ha:a<256):isB (a:Int):=by unfold isB;omega
theorem o_E(a b:Nat)(ha:a<256)(hb:b<256)(w:World) :
  Calls prog 261 #[.int .i64 a,.int .i64 b] w fun e w'=>e=.returned (.int .i64 (mul a b:Nat))/\New w w':=by
 go_enter func261,ntmps261;go_wp2_with fail;refine(n_7 a b _ (by omega) (by omega) (by omega) (by omega)).mono ?_
 have hv:p_v a b=(mul a b:Nat):=by unfold p_v;rw[if_pos ⟨g_o ha,g_o hb⟩];simp
 have he:p_w a b=0:=by unfold p_w;rw[if_pos ⟨g_o ha,g_o hb⟩]
 rw[hv,he];clear hv he;rintro e w1 ⟨rfl,hn1⟩;go_wp2;go_ret;exact⟨rfl,hn1⟩
open Go.Deep
theorem infoInt:(prog.info? 3).map (fun i=>(i.zero,i.size,i.bytes))=some (some (.int .i64 0),1,8):=by kernel_rfl
def f_W(f:Nat->Nat)(k:Nat):List Value:=(List.range k).map fun j=>.int .i64 (f j:Nat)
theorem o_X(f:Nat->Nat)(k:Nat):(f_W f k).length=k:=by simp[f_W]
def elN(M:Nat->Nat->Int)(i k:Nat):Nat:=(M i k).toNat
theorem p_Q:(prog.info? 27).map (fun i=>(i.zero,i.size,i.bytes))=some (some (.slice none 0 0),1,24):=by kernel_rfl
structure Mx(w:World)(B H o n m:Nat)(G C:Nat->Nat)(Z:Nat->Nat->Nat):Prop where
 ob:B<=o/\o<H
 gb:∀i,i<n->B<=G i/\G i<H
 ne:∀i,i<n->G i≠o
 inj:∀i j,i<n->j<n->G i=G j->i=j
 cp:∀i,i<n->m<=C i/\C i<=maxLen
 o:∃cs:Array Value,w.heap[o]?=some (.cells cs 27 (0,0))/\∀i,i<n->cs[i]?=some (.slice (some ⟨G i,0,none⟩) m (C i))
 row:∀i,i<n->∃cs:Array Value,w.heap[G i]?=some (.cells cs 3 (0,0))/\∀k,k<m->cs[k]?=some (.int .i64 (Z i k:Nat))
section
variable {w w':World}{B H o n m:Nat}{G C:Nat->Nat}{Z Y:Nat->Nat->Nat}
theorem Mx.cellO(h:Mx w B H o n m G C Z){i:Nat}(hi:i<n):w.cell? ⟨o,i,none⟩=some (.slice (some ⟨G i,0,none⟩) m (C i)):=by
 obtain⟨cs,h1,h2⟩:=h.o;rw[cell_of_row w o i cs _ _ h1,h2 i hi]
theorem Mx.cell(h:Mx w B H o n m G C Z){i k:Nat}(hi:i<n)(hk:k<m):w.cell? ⟨G i,k,none⟩=some (.int .i64 (Z i k:Nat)):=by
 obtain⟨cs,h1,h2⟩:=h.row i hi;rw[cell_of_row w (G i) k cs _ _ h1,h2 k hk]
end
def b_j(w:World)(g m:Nat)(f:Nat->Nat):Prop:=∃cs:Array Value,w.heap[g]?=some (.cells cs 3 (0,0))/\∀k,k<m->cs[k]?=some (.int .i64 (f k:Nat))
section
variable {w w':World}{g m:Nat}{f f':Nat->Nat}
theorem b_j.lt(h:b_j w g m f):g<w.heap.size:=by obtain⟨cs,h1,_⟩:=h;exact Blk.lt (t:=3) h1
theorem b_j.block(h:b_j w g m f)(hb:w'.heap[g]?=w.heap[g]?):b_j w' g m f:=by obtain⟨cs,h1,h2⟩:=h;exact⟨cs,hb.trans h1,h2⟩
theorem b_j.new(h:b_j w g m f)(hn:New w w'):b_j w' g m f:=h.block (hn.block g h.lt)
theorem b_j.grown(h:b_j w g m f){row:Option Nat}(hg:w.grownBy w' row)(hr:row≠some g):b_j w' g m f:=h.block (hg.block g h.lt (Ne.symm hr))
theorem b_j.ne_own(h:b_j w g m f){base:Nat}{size:Nat}{v:Value}{n:Nat}{xs:List Value}(ho:w.ownsRow base 27 size v n xs):v.ownBlock≠some g:=by
 intro he;obtain⟨cs,h1,_⟩:=h;rcases ho.2 with⟨rfl,_⟩|⟨g',cap,cur,rfl,_,hg,_⟩
 ·cases he
 ·have hgb:g'=g:=by simpa [Value.ownBlock]using he
  subst hgb;rw[hg]at h1;injection h1 with h1;injection h1 with _ h1 _;exact absurd h1 (by decide)
theorem b_j.of_own{base:Nat}{c:Nat}(h:w.ownsRow base 3 1 (.slice (some ⟨g,0,none⟩) m c) m (f_W f m)):b_j w g m f:=by
 rcases h.2 with⟨h0,_⟩|⟨g',cap,cur,hv,hb,hg,h1,h2,h3,h4⟩
 ·cases h0
 ·cases hv
  refine⟨cur,hg,fun k hk=>?_⟩;have h5:(cur.toList.take (m*1))[k]?=some (.int .i64 (f k:Nat)):=by rw[h4];simp[f_W,hk]
  rw[List.getElem?_take,if_pos (by omega)]at h5
  simpa using h5
end
def rowsC(G C:Nat->Nat)(m k:Nat):List Value:=(List.range k).map fun i=>.slice (some ⟨G i,0,none⟩) m (C i)
theorem rowsC_succ(G C:Nat->Nat)(m k g c:Nat):rowsC (fun i=>if i=k then g else G i) (fun i=>if i=k then c else C i) m (k+1)=rowsC G C m k++[.slice (some ⟨g,0,none⟩) m c]:=by
 unfold rowsC;rw[List.range_succ,List.map_append];congr 1
 ·apply List.map_congr_left
  intro i hi;have:i≠k:=by have:=List.mem_range.1 hi;omega
  simp[this]
 ·simp
structure b_E(w0:World)(k m:Nat)(G C:Nat->Nat)(Z:Nat->Nat->Nat)(w:World)(v:Value):Prop where
 own:w.ownsRow w0.heap.size 27 1 v k (rowsC G C m k)
 row:∀i,i<k->b_j w (G i) m (Z i)/\w0.heap.size<=G i
 inj:∀i j,i<k->j<k->G i=G j->i=j
 cp:∀i,i<k->m<=C i/\C i<=maxLen
 nw:New w0 w
theorem b_E.mx{w0 w:World}{n m:Nat}{G C:Nat->Nat}{Z:Nat->Nat->Nat}{v:Value}(h:b_E w0 n m G C Z w v)(hn:0<n) :
  ∃o cap,v=.slice (some ⟨o,0,none⟩) n cap/\n<=cap/\Mx w w0.heap.size w.heap.size o n m G C Z:=by
 have hown:=h.own;rcases hown.2 with⟨_,h0⟩|⟨o,cap,cur,rfl,hb,hg,h1,h2,h3,h4⟩
 ·omega
 ·refine⟨o,cap,rfl,h1,⟨⟨hb,Blk.lt (t:=27) hg⟩,fun i hi=>⟨(h.row i hi).2,(h.row i hi).1.lt⟩,fun i hi he=>?_,h.inj,h.cp,⟨cur,hg,fun i hi=>?_⟩,fun i hi=>(h.row i hi).1⟩⟩
  ·exact(h.row i hi).1.ne_own hown (by rw[he];rfl)
  ·have h5:(cur.toList.take (n*1))[i]?=some (.slice (some ⟨G i,0,none⟩) m (C i)):=by rw[h4];simp[rowsC,hi]
   rw[List.getElem?_take,if_pos (by omega)]at h5
   simpa using h5
theorem b_E.start(w0:World){m:Nat}{G C:Nat->Nat}{Z:Nat->Nat->Nat}:b_E w0 0 m G C Z w0 (.slice none 0 0):=
 ⟨World.ownsRow_nil _ _ _ _,fun i hi=>absurd hi (Nat.not_lt_zero i),fun i j hi=>absurd hi (Nat.not_lt_zero i),fun i hi=>absurd hi (Nat.not_lt_zero i),New.refl _⟩
theorem b_E.more{w0 w w1 w2:World}{k m g c:Nat}{G C:Nat->Nat}{Z:Nat->Nat->Nat}{v v2:Value}{o:Obj}(h:b_E w0 k m G C Z w v)(hn:New w w1)(hg:w.heap.size<=g)(hr:b_j w1 g m (Z k))
  (hown:w2.ownsRow w0.heap.size 27 1 v2 (k+1) (rowsC G C m k++[.slice (some ⟨g,0,none⟩) m c])) (hgr:(w1.alloc o).grownBy w2 v.ownBlock) (hc:m<=c/\c<=maxLen) :
  b_E w0 (k+1) m (fun i=>if i=k then g else G i) (fun i=>if i=k then c else C i) Z w2 v2:=by
 have ho1:=(c_ h.own hn).alloc o;have hk:∀(g':Nat) (f:Nat->Nat),b_j w1 g' m f->b_j w2 g' m f:=fun g' f hr'=>(hr'.new ((New.refl _).alloc o)).grown hgr ((hr'.new ((New.refl _).alloc o)).ne_own ho1);refine⟨by rw[rowsC_succ];exact hown,fun i hi=>?_,fun i j hi hj he=>?_,fun i hi=>(by by_cases e:i=k;(rw[if_pos e];exact hc);(rw[if_neg e];exact h.cp i (by omega))),(h.nw.next hn).append' hgr fun g' hg'=>(h.own.lt _ hg').1⟩
 ·by_cases e:i=k
  ·subst e
   rw[if_pos rfl];exact⟨hk _ _ hr,Nat.le_trans h.nw.size hg⟩
  ·rw[if_neg e]
   have:=h.row i (by omega)
   exact⟨hk _ _ (this.1.new hn),this.2⟩
 ·by_cases e1:i=k<;>by_cases e2:j=k
  ·omega
  ·subst e1
   rw[if_pos rfl,if_neg e2]at he;have:=(h.row j (by omega)).1.lt
   omega
  ·subst e2
   rw[if_neg e1,if_pos rfl]at he;have:=(h.row i (by omega)).1.lt
   omega
  ·rw[if_neg e1,if_neg e2]at he
   exact h.inj i j (by omega) (by omega) he
def n_5(n m:Nat)(Z:Nat->Nat->Nat)(w:World)(e:Ending)(w':World):Prop:=
 ∃o cap G C,e=.returned (.slice (some ⟨o,0,none⟩) n cap)/\n<=cap/\Mx w' w.heap.size w'.heap.size o n m G C Z/\New w w'
theorem o_W(f:Nat->Nat)(k:Nat):∀u∈f_W f k,u.oneCell'=true:=fun u hu=>by
 obtain⟨j,_,rfl⟩:=List.mem_map.1 hu;simp[Value.oneCell']
theorem o_Z{w:World}{A:Option Addr}{m b off:Nat}{f:Nat->Nat}(hb:∀j,j<m->w.cell? ⟨b,off+j,none⟩=some (.int .i64 (f j:Nat))):∀j u,(f_W f m)[j]?=some u->w.cell? ((⟨b,off,none⟩:Addr).add j)=some u:=fun j u hu=>by
 have hj:j<m:=by
  have:=(List.getElem?_eq_some_iff.1 hu).1;simpa [f_W]using this
 rw[i_,hb j hj];simpa [f_W,hj]using hu
theorem b_j.of_rowIs{w:World}{g m:Nat}{F:Nat->Value}{f:Nat->Nat}(h:w.rowIs g 3 m F)(hf:∀k,k<m->F k=.int .i64 (f k:Nat)):b_j w g m f:=by
 obtain⟨cs,h1,_,h3⟩:=h;exact⟨cs,h1,fun k hk=>by rw[h3 k hk,hf k hk]⟩
def l_v(M:Nat->Nat->Int)(m more:Nat):Nat->Nat->Nat:=fun i k=>if k<m then elN M i k else if 0<more/\k=m+i then 1 else 0
set_option maxRecDepth 100000 in
set_option maxHeartbeats 1000000 in
theorem l_u(A:Option Addr)(n c m more:Nat)(R:Nat->Option Addr)(L C:Nat->Nat)(M:Nat->Nat->Int)(w:World)(h:RdM .i64 w A n R L C M)(hm:f_g n L M=true)(hL:L 0=m)(hmore:more=n/\n<=8) :
  Calls prog 255 #[.slice A n c,.int .i64 more] w (n_5 n (m+more) (l_v M m more) w):=by
 obtain⟨hn1,hn8,hrow⟩:=p_A hm;have h0:=Hd h;have hrow0:=Hd hrow;have hm1:1<=m:=by have:=(hrow 0 (by omega)).2.1;omega
 have hm8:m<=8:=by have:=(hrow 0 (by omega)).2.2.1;omega
 have hLr:Hid (∀i,i<n->L i=m):=fun i hi=>by rw[(hrow i hi).1,hL]
 obtain⟨i1,hj0,hy0,hy1,hy2⟩:=info_parts p_Q;obtain⟨N,hN⟩:∃N,N=m+more:=⟨_,rfl⟩;have hN16:N<=16:=by omega
 have hNm:m<=N:=by omega
 obtain⟨mr,hmr⟩:∃mr:Int,mr=(more:Int):=⟨_,rfl⟩;rw[<-hmr];have hsum:(m:Int)+mr=(N:Int):=by omega
 have hmr0:0<=mr:=by omega
 have hmr8':mr<=8:=by omega
 have hmk:=run_make_row' (P:=prog) 27 3 (.int .i64 0) 8 underlying27 infoInt rfl .i64 .i64 N (by omega) (by omega)
 have hNn:0<more/\m+n<=N:=by omega
 have hmr8:more<=8:=by omega
 rw[<-hN];have hN0:=Hd hN;replace hmr:=Hd hmr;clear h hrow hm hL hmore hN;go_enter func255,ntmps255;go_wp2;go_loopw [11,5] (fun x s wr=>∃(i:Nat) (sv:Value) (G C':Nat->Nat),sv=s/\x=.int .i64 i/\i<=n/\Hid (b_E w i N G C' (l_v M m more) wr sv)) (fun x _ _=>n-(intOf x).toNat);case atStart=>exact⟨0,_,fun _=>0,fun _=>0,rfl,rfl,by omega,b_E.start w⟩
 case round=>
  obtain⟨i,sv,G,C',rfl,rfl,hi,hrs⟩:=hrel
  by_cases hlt:i<n
  ·have hnw:=hrs.o.nw
   obtain⟨b,off,rfl,hb,hcs⟩:=h0.o.2.1 (by omega)
   have ci:=(hnw.cell hb).trans (hcs i hlt);obtain⟨hri,_,_⟩:=h0.o.2.2 i hlt;obtain⟨br,offr,hRe,hbr,hcr⟩:=hri.2 (by have:=hLr.o i hlt;omega)
   rw[hRe,hLr.o i hlt]at ci;obtain⟨f,hf⟩:∃f:Nat->Nat,Hid (f=fun k=>elN M i k):=⟨_,rfl⟩;have hcr2:∀j,j<m->(wr.alloc (.cells (madeCells #[.int .i64 0] N) 3)).cell? ⟨br,offr+j,none⟩=some (.int .i64 (f j:Nat)):=fun j hj=>by
    rw[(((New.refl wr).alloc _).cell (show br<wr.heap.size by have:=hnw.size;omega)),(hnw.cell hbr).trans (hcr j (by have:=hLr.o i hlt;omega)),hf.o]
    have:=q_H (hrow0.o i hlt).2.2.2 j (by have:=hLr.o i hlt;omega)
    unfold elP at this;congr 2;show M i j=((M i j).toNat:Int);omega
   have hmade:=Hd (World.rowIs_made wr (.int .i64 0) N 3);have hown:=hrs.o.own;have hii:(i:Int)<(n:Int):=by omega
   replace hcr2:=Hd hcr2;have hszI:Hid ((prog.info? 3).map (·.size)=some 1):=by
    show _=_
    kernel_rfl
   have hmin:Hid (m=Nat.min m N):=(Nat.min_eq_left hNm).symm;clear hcs hcr hri hRe hbr;obtain⟨hmp,hmn⟩:=hNn;have hmi:(0:Int)<mr:=by have:=hmr.o;omega
   have j0:(0:Int)<=(m:Int)+(i:Int):=by omega
   have j1:(m:Int)+(i:Int)<(N:Int):=by omega
   have j2:((m:Int)+(i:Int)).toNat=m+i:=by omega
   go_wp2_with (first|(with_reducible refine T_ rfl (.tmp 21) (.tmp 22) 27 27 rfl 3 underlying27 hszI.o wr.heap.size 0 N 3 _ hmade.o (some ⟨wr.heap.size,0,none⟩) (some ⟨br,offr,none⟩) N N m (C i) m (fun j=>.int .i64 (f j:Nat)) rfl rfl hmin.o (fun _=>⟨rfl,br,offr,rfl,hcr2.o⟩) (by omega) (fun j _=>rfl) ?_;intro w2 hr2 hg2;have hN2:New wr w2:=((New.refl wr).alloc _).grown1 hg2 (Nat.le_refl _);have hc2:=hr2.o.cell (i:=m+i) (by omega);have hf2:=hr2.o.frozen (m+i))|(at_builtin;refine wpList_append_own _ rfl _ _ 379 rfl w.heap.size 27 i1 _ 1 24 underlying379 hj0 hy0 hy1 hy2 rfl (by decide) _ i (rowsC G C' N i) rfl ((c_ hown (hN2.set (p:=⟨wr.heap.size,m+i,none⟩) (Nat.le_refl _) (.int .i64 1))).alloc _) ⟨w2.heap.size,0,none⟩ 1 1 [.slice (some ⟨wr.heap.size,0,none⟩) N N] rfl rfl (World.news_of_block (cs:=#[.slice _ _ _]) (t:=27) (fr:=(0,0)) (by have:=heap_alloc_new (w2.setCell ⟨wr.heap.size,m+i,none⟩ (.int .i64 1)) (.cells #[.slice (some ⟨wr.heap.size,0,none⟩) N N] 27);simpa using this)) (by simp[Value.oneCell']) (by unfold maxLen;omega) (by omega) (by have:=hnw.size;have:=hN2.size;simp;omega) ?_;intro v4 w4 hown4 hgrow4 hnil4))
   have hrv:b_j (w2.setCell ⟨wr.heap.size,m+i,none⟩ (.int .i64 1)) wr.heap.size N (l_v M m more i):=b_j.of_rowIs (hr2.o.set (m+i) (.int .i64 1)) fun k hk=>by
    unfold cpF l_v
    by_cases e:k=m+i
    ·rw[if_pos e,if_neg (by omega),if_pos ⟨hmp,e⟩]
     rfl
    ·rw[if_neg e]
     by_cases e2:k<m
     ·rw[if_pos ⟨Nat.zero_le _,by omega⟩,if_pos e2,hf.o]
      rfl
     ·rw[if_neg (by omega),if_neg e2,if_neg (by omega)]
      rfl
   have hrs2:=Hd (hrs.o.more (hN2.set (p:=⟨wr.heap.size,m+i,none⟩) (Nat.le_refl _) (.int .i64 1)) (Nat.le_refl _) hrv hown4 hgrow4 ⟨Nat.le_refl _,by unfold maxLen;omega⟩)
   go_roundw;case rel=>exact⟨i+1,_,_,_,rfl,by go_num,by omega,hrs2.o⟩
   case measure=>simp[intOf];omega
  ·have hin:i=n:=by omega
   subst hin;have hii:¬(i:Int)<(i:Int):=by omega
   obtain⟨o,cap,rfl,hcap,hmx⟩:=hrs.o.mx (by omega)
   have hpost:Hid (n_5 i N (l_v M m more) w (.returned (.slice (some ⟨o,0,none⟩) i cap)) wr):=⟨o,cap,G,C',rfl,hcap,hmx,hrs.o.nw⟩;clear hmx;go_wp2;go_ret;exact hpost.o
end mat
namespace mat
set_option maxRecDepth 100000
open Go.ChangeShapes Go.WideShapes Go.ChangeAt kit gf Go.Deep
theorem j_8(g m C gc c:Nat)(z:Nat)(w:World)(h1:w.cell? ⟨gc,0,none⟩=some (.int .i64 c))(h2:w.cell? ⟨g,c,none⟩=some (.int .i64 (z:Nat)))(hc:c<m) :
  Calls prog 259 #[.slice (some ⟨g,0,none⟩) m C,.pointer (some ⟨gc,0,none⟩)] w fun e w'=>e=.returned (.bool (decide (z≠0)))/\w=w':=by
 go_enter func259,ntmps259;go_wp2;go_ret;refine⟨b_t ?_,rfl⟩
 by_cases hz:z=0
 ·subst hz;rfl
 ·have:(z:Int)≠0:=by omega
  simp[hz]
theorem t_h(a:Nat)(ha:a<256)(a0:a≠0)(w:World) :
  Calls prog 260 #[.int .i64 a] w fun e w'=>e=.returned (.tuple #[.int .i64 (f_h 1 a:Nat),.int .i64 0])/\New w w':=by
 have h:=s_n a w (by omega) (by omega)
 have hb:isB (1:Int)/\isB (a:Int):=⟨by unfold isB;omega,g_o ha⟩
 have h1:j_W 1 a=(f_h 1 a:Nat):=by unfold j_W;rw[if_pos hb,if_neg (by omega)];simp
 have h2:j_X 1 a=0:=by unfold j_X;rw[if_pos hb,if_neg (by omega)]
 rw[h1,h2]at h;exact h
theorem Clone_any(b off n c:Nat)(f:Nat->Nat)(w:World)(h:∀j,j<n->w.cell? ⟨b,off+j,none⟩=some (.int .i64 (f j:Nat)))(hn:0<n)(hn2:n<=8192)(hb:b<w.heap.size) :
  Calls prog 176 #[.slice (some ⟨b,off,none⟩) n c] w fun e w'=>(∃g cap,e=.returned (.slice (some ⟨g,0,none⟩) n cap)/\(n<=cap/\cap<=maxLen)/\b_j w' g n f/\w.heap.size<=g)/\New w w':=by
 obtain⟨i0,hi0,hz0,hz1,hz2⟩:=info_parts infoInt;have hsrc:Hid (∀j u,(f_W f n)[j]?=some u->(w.alloc (.cells #[] 3)).cell? ((⟨b,off,none⟩:Addr).add j)=some u):=fun j u hu=>by
  have:=o_Z (A:=none) h j u hu;rw[i_]at this ⊢;exact(((New.refl w).alloc _).cell (p:=⟨b,off+j,none⟩) hb).trans this
 have hone:=Hd (o_W f n);have hlen:Hid ((f_W f n).length=n):=o_X f n;have hlit:=World.ownsRow_lit (e:=3) (size:=1) w #[] 0 (Nat.le_refl _) (by unfold maxLen;omega) rfl
 have hnb:=fun w=>Lib.run_eql_slice_nil (P:=prog) w 27 3 (some ⟨b,off,none⟩) n c 0 0 underlying27;clear h;go_enter func176,ntmps176;go_wp2_with (at_builtin;refine wpList_append_own _ rfl _ _ 27 rfl w.heap.size 3 i0 _ 1 8 underlying27 hi0 hz0 hz1 hz2 rfl (by decide) (Value.slice (some ⟨w.heap.size,0,none⟩) 0 0) 0 [] rfl hlit ⟨b,off,none⟩ n c (f_W f n) rfl (by rw[hlen.o];omega) hsrc.o hone.o (by unfold maxLen;omega) (by omega) (by simp) ?_;intro v3 w3 hown3 hgrow hnil;obtain⟨g3,c3,rfl,hg3a,hg3b⟩:=hown3.form (by omega))
 have hgA:(w.alloc (.cells #[] 3)).grownBy w3 (some w.heap.size):=hgrow;have hN:New w w3:=(New.refl w).append' hgA (fun g hg=>by cases hg;exact Nat.le_refl _)
 rw[List.nil_append,Nat.zero_add]at hown3;have hr:=b_j.of_own hown3;have hcap:=(h_ hown3);obtain⟨_,_,he,hle,hlm,_⟩:=hcap;cases he;have hfin:Hid (b_j w3 g3 n f/\w.heap.size<=g3/\(n<=c3/\c3<=maxLen)/\New w w3):=⟨hr,hg3a,⟨hle,hlm⟩,hN⟩;clear hgrow hnil hown3 hr;go_ret;exact⟨⟨g3,c3,rfl,hfin.o.2.2.1,hfin.o.1,hfin.o.2.1⟩,hfin.o.2.2.2⟩
theorem m_1{w:World}{b i:Nat}{v:Value}{cs:Array Value}{t:TypeId}{fr:Nat×Nat}(h:w.heap[b]?=some (.cells cs t fr))(hi:cs[i]?=some v):w.setCell ⟨b,i,none⟩ v=w:=by
 have hc:cs.setIfInBounds i v=cs:=by
  apply Array.ext_getElem?;intro k;rw[Array.getElem?_setIfInBounds]
  by_cases e:i=k
  ·subst e
   obtain⟨h1,h2⟩:=Array.getElem?_eq_some_iff.1 hi;simp[h1,h2]
  ·simp[e]
 have hh:w.heap.modify b (fun x=>match x with | .cells c elem frozen=>.cells (if(none:Option (Nat×Nat)).isSome then c else c.setIfInBounds i v) elem frozen|o=>o)=w.heap:=by
  apply Array.ext_getElem?;intro k;rw[Array.getElem?_modify]
  by_cases e:b=k
  ·subst e
   rw[if_pos rfl,h];simp[hc]
  ·rw[if_neg e]
 show({w with heap:=_}:World)=w;have:({w with heap:=w.heap}:World)=w:=rfl;rw[<-this];congr 1
structure One(w:World)(o g C:Nat):Prop where
 o1:∃cs:Array Value,w.heap[o]?=some (.cells cs 27 (0,0))/\cs[0]?=some (.slice (some ⟨g,0,none⟩) 2 C)
 g1:∃cs:Array Value,w.heap[g]?=some (.cells cs 3 (0,0))/\∀k,k<2->cs[k]?=some (.int .i64 1)
 c2:2<=C/\C<=maxLen
section
variable {w w':World}{o g C:Nat}
theorem One.new(h:One w o g C)(hn:New w w'):One w' o g C:=by
 obtain⟨⟨cs,h1,h2⟩,⟨ds,h3,h4⟩,h5⟩:=h;exact⟨⟨cs,(hn.block _ (Blk.lt (t:=27) h1)).trans h1,h2⟩,⟨ds,(hn.block _ (Blk.lt (t:=3) h3)).trans h3,h4⟩,h5⟩
theorem One.facts(h:One w o g C):w.cell? ⟨o,0,none⟩=some (.slice (some ⟨g,0,none⟩) 2 C)/\w.frozen? ⟨o,0,none⟩=false/\w.setCell ⟨o,0,none⟩ (.slice (some ⟨g,0,none⟩) 2 C)=w/\w.cell? ⟨g,0,none⟩=some (.int .i64 1):=by
 obtain⟨⟨cs,h1,h2⟩,⟨ds,h3,h4⟩,_⟩:=h;exact⟨by rw[cell_of_row w o 0 cs _ _ h1,h2],Blk.frozen (t:=27) h1 0,m_1 h1 h2,by rw[cell_of_row w g 0 ds _ _ h3,h4 0 (by decide)]⟩
theorem One.top(h:One w o g C){k:Nat}(hk:k<2):w.cell? ⟨g,k,none⟩=some (.int .i64 1)/\w.frozen? ⟨g,k,none⟩=false/\w.setCell ⟨g,k,none⟩ (.int .i64 1)=w:=by
 obtain⟨_,⟨ds,h3,h4⟩,_⟩:=h;exact⟨by rw[cell_of_row w g k ds _ _ h3,h4 k hk],Blk.frozen (t:=3) h3 k,m_1 h3 (h4 k hk)⟩
end
theorem n_Q(o g C cap gc:Nat)(w:World)(h:One w o g C)(h1:w.cell? ⟨gc,0,none⟩=some (.int .i64 0)) :
  Calls prog 258 #[.slice (some ⟨o,0,none⟩) 1 cap,.func (.func 259) #[] #[.pointer (some ⟨gc,0,none⟩)]] w fun e w'=>e=.returned (.int .i64 0)/\w=w':=by
 obtain⟨c0,_,_,c1⟩:=h.facts;have hr:=Hd (j_8 g 2 C gc 0 1 w h1 c1 (by decide))
 clear h h1 c1;go_enter func258,ntmps258;go_wp2;go_loop [8] (fun x=>x=.int .i64 0) (fun x=>0);case atStart=>rfl
 case round=>
  subst hrel;go_wp2_with fail;refine hr.o.mono ?_;rintro e w1 ⟨rfl,rfl⟩;go_wp2;go_ret;exact⟨rfl,rfl⟩
set_option maxHeartbeats 1000000 in
theorem k_H(o g C cap:Nat)(w:World)(h:One w o g C)(hcap:1<=cap) :
  Calls prog 256 #[.slice (some ⟨o,0,none⟩) 1 cap,.int .i64 1] w fun e w'=>e=.returned (.int .i64 1)/\New w w':=by
 have h0:=Hd h;clear h;go_enter func256,ntmps256;go_wp2;go_loopg [5,6] 1 (fun gk r p wr=>∃(gc:Nat),p=.pointer (some ⟨gc,0,none⟩)/\(gk=1/\r=.int .i64 0/\Hid (Blk wr gc 3 #[.int .i64 0])\/gk=0/\r=.int .i64 1/\Hid (Blk wr gc 3 #[.int .i64 1]))/\Hid (New w wr));case atStart=>exact⟨w.heap.size,rfl,.inl ⟨rfl,rfl,Blk.fresh w _ _⟩,(New.refl w).alloc _⟩
 case round=>
  obtain⟨gc,rfl,hc,hn⟩:=hrel;rcases hc with⟨rfl,rfl,hb⟩|⟨rfl,rfl,hb⟩
  ·have hcc:wr.cell? ⟨gc,0,none⟩=some (.int .i64 0):=by have:=hb.o.cell 0;simpa using this
   have hcf:=hb.o.frozen 0;obtain⟨c0,f0,s0,c1⟩:=(h0.o.new hn.o).facts;have hte:¬cap=0:=by omega
   have hix:=Hd (n_Q o g C cap gc wr (h0.o.new hn.o) hcc);go_wp2_with fail;refine hix.o.mono ?_;rintro e w1 ⟨rfl,rfl⟩;go_wp2_with fail;go_region;go_wp2_with fail;refine(t_h 1 (by decide) (by decide) _).mono ?_
   rintro e w2 ⟨rfl,hn2⟩;have hd1:((f_h 1 1:Nat):Int)=1:=by decide
   rw[hd1];have hN2:Hid (New w w2):=hn.o.drew.next hn2;have hb2:=Hd (hb.o.drew.new hn2);clear hb hcc hcf c0 f0 s0 c1 hix hn2 hn hd1;go_wp2_with fail;go_loopw [66] (fun x wr=>∃k:Nat,x=.int .i64 k/\k<=2/\Hid (New w2 wr)) (fun x _=>2-(intOf x).toNat);case atStart=>exact⟨0,rfl,by decide,New.refl _⟩
   case round=>
    obtain⟨k,rfl,hk,hn3⟩:=hrel
    by_cases hkl:k<2
    ·obtain⟨t0,t1,t2⟩:=(h0.o.new (hN2.o.next hn3.o)).top hkl
     have hki:(k:Int)<2:=by omega
     have hk0:(0:Int)<=(k:Int):=by omega
     have htm:=Hd (o_E 1 1 (by decide) (by decide) wr)
     go_wp2_with fail;refine htm.o.mono ?_;rintro e w3 ⟨rfl,hn4⟩;have hN3:Hid (New w2 w3):=hn3.o.next hn4;obtain⟨t0,t1,t2⟩:=(h0.o.new (hN2.o.next hN3.o)).top hkl;have hm1:((mul 1 1:Nat):Int)=1:=by decide
     rw[hm1];clear htm hn4 hn3 hm1;go_wp2_with fail;go_roundw;case rel=>exact⟨k+1,by go_num,by omega,hN3.o⟩
     case measure=>simp[intOf];omega
    ·have hki:¬(k:Int)<2:=by omega
     have hN4:Hid (New w wr):=hN2.o.next hn3.o;have hb4:=Hd (hb2.o.new hn3.o);clear hN2 hb2 hn3 hk;go_wp2_with fail;go_loopw [81] (fun x w5=>(x=.int .i64 0\/x=.int .i64 1)/\w5=wr) (fun x _=>1-(intOf x).toNat);case atStart=>exact⟨.inl rfl,rfl⟩
     case round=>
      obtain⟨hx,rfl⟩:=hrel;obtain⟨c0,f0,s0,c1⟩:=(h0.o.new hN4.o).facts;have hcc:wr.cell? ⟨gc,0,none⟩=some (.int .i64 0):=by have:=hb4.o.cell 0;simpa using this
      have hcf:=hb4.o.frozen 0;rcases hx with rfl|rfl
      ·go_wp2_with fail
       go_roundw;case rel=>exact⟨.inr rfl,trivial⟩
       case measure=>decide
      ·go_wp2_with fail
       go_roundg 0;case measure=>decide
       case rel=>exact⟨wr.heap.size,rfl,.inr ⟨rfl,rfl,Blk.fresh wr _ _⟩,hN4.o.alloc _⟩
  ·have hcc:wr.cell? ⟨gc,0,none⟩=some (.int .i64 1):=by have:=hb.o.cell 0;simpa using this
   clear hb;go_wp2;go_ret;exact⟨rfl,hn.o⟩
theorem Mx.rd{w:World}{B H o n m:Nat}{G C:Nat->Nat}{Z:Nat->Nat->Nat}(h:Mx w B H o n m G C Z)(hc:∀i,i<n->m<=C i/\C i<=maxLen)(hn:n<=8)(hm:m<=16) :
  RdM .i64 w (some ⟨o,0,none⟩) n (fun i=>some ⟨G i,0,none⟩) (fun _=>m) C (fun i k=>(Z i k:Nat)):=by
 refine⟨by unfold maxLen;omega,fun h0=>⟨o,0,rfl,?_,fun i hi=>by rw[Nat.zero_add];exact h.cellO hi⟩,fun i hi=>⟨⟨(by unfold maxLen;omega:m<=maxLen),fun h0=>⟨G i,0,rfl,?_,fun k hk=>by rw[Nat.zero_add];exact h.cell hi hk⟩⟩,(hc i hi).1,(hc i hi).2⟩⟩
 ·obtain⟨cs,h1,_⟩:=h.o
  exact Blk.lt (t:=27) h1
 ·obtain⟨cs,h1,_⟩:=h.row i hi
  exact Blk.lt (t:=3) h1
set_option maxHeartbeats 1000000 in
theorem l_F(gm cm:Nat)(R:Nat->Option Addr)(C:Nat->Nat)(M:Nat->Nat->Int)(w:World)(h:RdM .i64 w (some ⟨gm,0,none⟩) 1 R (fun _=>1) C M)(h1:M 0 0=1) :
  Calls prog 250 #[.slice (some ⟨gm,0,none⟩) 1 cm] w fun e w'=>∃B1 d1 R1 C1,e=.returned (.tuple #[.slice B1 1 d1,.int .i64 0])/\RdM .i64 w' B1 1 R1 (fun _=>1) C1 (fun _ _=>1)/\New w w':=by
 have hm:f_g 1 (fun _=>1) M=true:=h_s (by decide) (by decide) fun i hi=>by
  obtain rfl:i=0:=by omega
  exact⟨rfl,by decide,by decide,h_S fun q hq=>by
   obtain rfl:q=0:=by have:q<1:=hq;omega
   rw[h1];decide⟩
 have h0:=Hd h;have hbes:=Hd (l_u (some ⟨gm,0,none⟩) 1 cm 1 1 R (fun _=>1) C M w h hm rfl ⟨rfl,by decide⟩)
 have hmay:=Hd (May_any (some ⟨gm,0,none⟩) 1 cm R (fun _=>1) C M w h);rw[hm]at hmay;obtain⟨b,off,hbe,hb,hcs⟩:=h.2.1 (by decide)
 have z0:=hcs 0 (by decide)
 cases hbe;simp only[Nat.add_zero]at z0;have hone:Hid (∀k,k<2->l_v M 1 1 0 k=1):=fun k hk=>by
  unfold l_v elN
  by_cases e:k<1
  ·rw[if_pos e,show k=0 by omega,h1];rfl
  ·rw[if_neg e,if_pos ⟨by decide,by omega⟩]
 obtain⟨i1,hj0,hy0,hy1,hy2⟩:=info_parts p_Q;clear h hm hcs hb;go_enter func250,ntmps250;go_wp2_with fail;refine hmay.o.mono ?_;rintro e w1 ⟨rfl,rfl⟩;go_wp2_with fail;refine hbes.o.mono ?_;rintro e w2 ⟨o,cap,G0,C0,rfl,hcap,hmx,hn2⟩;have hO:Hid (One w2 o (G0 0) (C0 0)):=by
  obtain⟨cs,c1,c2⟩:=hmx.o;obtain⟨ds,d1,d2⟩:=hmx.row 0 (by decide)
  exact⟨⟨cs,c1,c2 0 (by decide)⟩,⟨ds,d1,fun k hk=>by rw[d2 k hk,hone.o k hk];rfl⟩,hmx.cp 0 (by decide)⟩
 have hred:=Hd (k_H o (G0 0) (C0 0) cap w2 hO.o hcap);have hgl:G0 0<w2.heap.size:=(hmx.gb 0 (by decide)).2
 obtain⟨g,hg⟩:∃g,Hid (g=G0 0):=⟨_,rfl⟩;obtain⟨cg,hcg⟩:∃cg,Hid (cg=C0 0):=⟨_,rfl⟩;rw[<-hg.o,<-hcg.o]at hO;rw[<-hg.o]at hgl;replace hn2:=Hd hn2;clear hmx hbes hone;go_wp2_with fail;refine hred.o.mono ?_;rintro e w3 ⟨rfl,hn3⟩;have hO3:=Hd (hO.o.new hn3);have hN3:Hid (New w w3):=hn2.o.next hn3;have hgl3:g<w3.heap.size:=Nat.lt_of_lt_of_le hgl hn3.size;clear hO hn3 hn2 hred hgl;go_wp2_with fail;go_loopw [30,6] (fun x s wr=>∃(i:Nat) (sv:Value) (G' C':Nat->Nat),sv=s/\x=.int .i64 i/\i<=1/\Hid (b_E w3 i 1 G' C' (fun _ _=>1) wr sv)) (fun x _ _=>1-(intOf x).toNat);case atStart=>exact⟨0,_,fun _=>0,fun _=>0,rfl,rfl,by omega,b_E.start w3⟩
 case round=>
  obtain⟨i,sv,G',C',rfl,rfl,hi,hrs⟩:=hrel
  by_cases hlt:i<1
  ·obtain rfl:i=0:=by omega
   have hnw:=hrs.o.nw;obtain⟨c0,_,_,_⟩:=(hO3.o.new hnw).facts;have hcl:=Hd (Clone_any g 1 1 (cg-1) (fun _=>1) wr (fun j hj=>by rw[((hO3.o.new hnw).top (show 1+j<2 by omega)).1];rfl) (by decide) (by decide) (Nat.lt_of_lt_of_le hgl3 hnw.size))
   have hc2:=hO3.o.c2.1;go_wp2_with fail;refine hcl.o.mono ?_;rintro e wC ⟨⟨g',cg',rfl,hcg',hrv,hgC⟩,hnC⟩;have hown:=hrs.o.own;have hsz3:=hnw.size;have hszC:=hnC.size;go_wp2_with (at_builtin;refine wpList_append_own _ rfl _ _ 374 rfl w3.heap.size 27 i1 _ 1 24 underlying374 hj0 hy0 hy1 hy2 rfl (by decide) _ 0 (rowsC G' C' 1 0) rfl ((c_ hown hnC).alloc _) ⟨wC.heap.size,0,none⟩ 1 1 [.slice (some ⟨g',0,none⟩) 1 cg'] rfl rfl (World.news_of_block (cs:=#[.slice _ _ _]) (t:=27) (fr:=(0,0)) (heap_alloc_new wC _)) (by simp[Value.oneCell']) (by unfold maxLen;omega) (by omega) (by simp;omega) ?_;intro v4 w4 hown4 hgrow4 hnil4)
   have hrs2:=Hd (hrs.o.more hnC hgC hrv hown4 hgrow4 hcg');clear hrs hown hown4 hgrow4 hnil4;go_roundw;case rel=>exact⟨1,_,_,_,rfl,by go_num,by omega,hrs2.o⟩
   case measure=>simp[intOf]
  ·obtain rfl:i=1:=by omega
   obtain⟨o2,cap2,rfl,hcap2,hmx2⟩:=hrs.o.mx (by decide)
   have hR:=Hd (hmx2.rd hmx2.cp (by decide) (by decide))
   have hnf:Hid (New w wr):=hN3.o.next hrs.o.nw;clear hmx2 hrs;go_wp2;go_ret2;exact⟨_,_,_,_,rfl,hR.o,hnf.o⟩
end mat
end Go.Proofs.YtojcoaekhiadcaaGreat
