import Derived.Test.YtojcoaekhiadcaaGreatA01
import Derived.Test.YtojcoaekhiadcaaGreatA05
import Derived.Test.YtojcoaekhiadcaaGreatA09
import Derived.Test.YtojcoaekhiadcaaGreatA10
import Derived.Test.YtojcoaekhiadcaaGreatA08
import Derived.Test.YtojcoaekhiadcaaGreatA02
import Derived.Laws.AppendOwnNone
set_option linter.unusedVariables false
set_option linter.unusedSimpArgs false
namespace Go.Proofs.YtojcoaekhiadcaaGreat
open Tryz Go.RowKit
namespace stripe
open geom par kit
def d_L(F:Nat->Nat->Nat)(sz:Nat->Nat):Nat->List Nat
 |0=>[]
 |j+1=>d_L F sz j++(List.range (sz j)).map (F j)
def i_5(sz:Nat->Nat):Nat->Nat
 |0=>0
 |j+1=>i_5 sz j+sz j
theorem k_6(F:Nat->Nat->Nat)(sz:Nat->Nat):∀j,(d_L F sz j).length=i_5 sz j
 |0=>rfl
 |j+1=>by simp[d_L,i_5,k_6 F sz j]
theorem m_Y{F:Nat->Nat->Nat}(h:∀i k,F i k<256)(sz:Nat->Nat):∀j,∀x∈d_L F sz j,x<256
 |0,x,hx=>by simp[d_L]at hx
 |j+1,x,hx=>by
  unfold d_L at hx;rcases List.mem_append.1 hx with h1|h1
  ·exact m_Y h sz j x h1
  ·obtain⟨k,_,rfl⟩:=List.mem_map.1 h1
   exact h j k
theorem l_V{pa ct wd:Nat}(hw:1<=wd)(hc:1<=ct):∀j,i_5 (fun i=>128*G_ pa ct wd (pa+i)) j=atS ct wd j
 |0=>by rw[i_M];rfl
 |j+1=>by rw[d_k (pa:=pa) hw hc j,<-l_V hw hc j];rfl
def goG(num pa:Nat)(g:List Nat):Nat->Bool:=fun i=>decide (i<num)&&g.contains ((i+pa)%num)
theorem l_W{c num pa:Nat}(hc:c<num)(hp:pa<=num):(c+num-pa)%num=if pa<=c then c-pa else c+num-pa:=by
 split
 ·rename_i h
  rw[show c+num-pa=c-pa+num by omega,Nat.add_mod_right,Nat.mod_eq_of_lt (by omega)]
 ·exact Nat.mod_eq_of_lt (by omega)
theorem i_O{k num pa:Nat}(hk:k<num)(hp:pa<=num):(k+pa)%num=if k+pa<num then k+pa else k+pa-num:=by
 split
 ·exact Nat.mod_eq_of_lt (by omega)
 ·rw[show k+pa=k+pa-num+num by omega,Nat.add_mod_right,Nat.mod_eq_of_lt (by omega)]
  omega
theorem e_2{c num pa:Nat}(hc:c<num)(hp:pa<=num):((c+num-pa)%num+pa)%num=c:=by
 have h1:(c+num-pa)%num<num:=Nat.mod_lt _ (by omega)
 rw[i_O h1 hp,l_W hc hp];split<;>split<;>omega
theorem n_J{k num pa:Nat}(hk:k<num)(hp:pa<=num):((k+pa)%num+num-pa)%num=k:=by
 have h1:(k+pa)%num<num:=Nat.mod_lt _ (by omega)
 rw[l_W h1 hp,i_O hk hp];split<;>split<;>omega
def plP(num pa:Nat)(g:List Nat)(t:Nat):Nat:=(g.getD t 0+num-pa)%num
theorem t_l{num pa:Nat}{g:List Nat}(hg:∀c∈g,c<num)(hp:pa<=num)(hn:0<num):gn (fun t=>(plP num pa g t:Nat)) g.length=goG num pa g:=by
 funext k;unfold gn goG;rw[Bool.eq_iff_iff,j_H];simp only[Bool.and_eq_true,decide_eq_true_eq,List.contains_iff_mem];constructor
 ·rintro⟨t,ht,he⟩
  have he:plP num pa g t=k:=by exact_mod_cast he
  have hc:g[t]<num:=hg _ (List.getElem_mem ht);have hgd:g.getD t 0=g[t]:=by simp[List.getD,ht]
  unfold plP at he;rw[hgd]at he;subst he;refine⟨Nat.mod_lt _ hn,?_⟩;rw[e_2 hc hp];exact List.getElem_mem ht
 ·rintro⟨hk,hm⟩
  obtain⟨t,ht,he⟩:=List.getElem_of_mem hm;refine⟨t,ht,?_⟩;unfold plP;rw[show g.getD t 0=g[t] by simp[List.getD,ht],he,n_J hk hp]
theorem r_m{num pa:Nat}{g:List Nat}(hn:0<num):r_n num (fun t=>(plP num pa g t:Nat)) g.length=false:=by
 rw[g_7];intro t _;have:=Nat.mod_lt (g.getD t 0+num-pa) hn;simp only[n_C,plP];omega
theorem r_T{num pa:Nat}{g:List Nat}(hg:∀c∈g,c<num)(hp:pa<=num)(hd:g.Nodup):r_U (fun t=>(plP num pa g t:Nat)) g.length=false:=by
 rw[g_C];intro t ht;rw[l_9];intro s hs he;have he:plP num pa g s=plP num pa g t:=by exact_mod_cast he
 have h1:g.getD s 0=g[s]:=by simp[List.getD,show s<g.length by omega]
 have h2:g.getD t 0=g[t]:=by simp[List.getD,ht]
 unfold plP at he;rw[h1,h2]at he;have c1:=hg _ (List.getElem_mem (show s<g.length by omega))
 have c2:=hg _ (List.getElem_mem ht);have e2:=e_2 c1 hp;rw[he,e_2 c2 hp]at e2;exact List.pairwise_iff_getElem.1 hd s t (by omega) ht hs e2.symm
abbrev atZ(l:List Nat):Nat->Int:=fun t=>(l.getD t 0:Nat)
end stripe
namespace stripe
set_option maxRecDepth 100000
open Go.ChangeShapes Go.WideShapes Go.ChangeAt kit geom par Go.Deep
def RdP(w:World)(A:Option Addr)(n:Nat)(Ls:Nat->Bool)(R:Nat->Option Addr)(L C:Nat->Nat)(D:Nat->Nat->Nat):Prop:=
 n<=maxLen/\(0<n->∃b off,A=some ⟨b,off,none⟩/\b<w.heap.size/\∀i,i<n->w.cell? ⟨b,off+i*2,none⟩=some (.bool (Ls i))/\w.cell? ⟨b,off+i*2+1,none⟩=some (.slice (R i) (L i) (C i))) /\
 ∀i,i<n->RdI .u8 w (R i) (L i) (fun k=>(D i k:Nat))/\L i<=C i/\C i<=maxLen/\∀k,D i k<256
theorem RdP.new{w w':World}{A:Option Addr}{n:Nat}{Ls:Nat->Bool}{R:Nat->Option Addr}{L C:Nat->Nat}{D:Nat->Nat->Nat}(h:RdP w A n Ls R L C D)(hn:New w w'):RdP w' A n Ls R L C D:=
 ⟨h.1,fun h0=>by
  obtain⟨b,off,hA,hb,hc⟩:=h.2.1 h0;exact⟨b,off,hA,Nat.lt_of_lt_of_le hb hn.size,fun i hi=>⟨(hn.cell hb).trans (hc i hi).1,(hn.cell hb).trans (hc i hi).2⟩⟩,fun i hi=>⟨(h.2.2 i hi).1.new hn,(h.2.2 i hi).2⟩⟩
def pcF(L:Nat->Nat)(D:Nat->Nat->Nat)(c k:Nat):Nat:=if k<L c then D c k else 0
def mxF(num pa:Nat)(L:Nat->Nat)(D:Nat->Nat->Nat)(i:Nat):Nat->Nat:=pcF L D ((i+pa)%num)
theorem f_6(LA R:Option Addr)(num cl p Lg n c:Nat)(D:Nat->Nat)(w:World)(h:RdI .u8 w R n (fun k=>(D k:Nat)))(hL:Lg<=4096) :
  Calls prog 169 #[.agg #[.slice LA num cl,.int .i64 p,.int .i64 Lg],.slice R n c] w fun e w'=>(∃g,e=.returned (.slice (some ⟨g,0,none⟩) Lg Lg)/\m_ 5 .u8 w' g Lg (fun k=>if k<n then D k else 0)/\w.heap.size<=g)/\New w w':=by
 have hmk:=run_make_row' (P:=prog) 35 5 (.int .u8 0) 1 underlying35 infoU8 rfl .i64 .i64 Lg (by omega) (by omega)
 obtain⟨bx,hbx⟩:∃bx:Obj,bx=.cells #[.slice LA num cl,.int .i64 p,.int .i64 Lg] 297:=⟨_,rfl⟩;have hN1:New w (w.alloc bx):=(New.refl w).alloc _;obtain⟨m,hm⟩:∃m,Hid (m=Nat.min n Lg):=⟨_,rfl⟩;have hmn:m<=n:=by rw[hm.o];exact Nat.min_le_left _ _
 have hmL:m<=Lg:=by rw[hm.o];exact Nat.min_le_right _ _
 have hr2:0<m->∃b o,R=some ⟨b,o,none⟩/\∀j,j<m->((w.alloc bx).alloc (.cells (madeCells #[.int .u8 0] Lg) 5)).cell? ⟨b,o+j,none⟩=some (.int .u8 (D j:Nat)):=fun h0=>by
  obtain⟨b,o,hR,hb,hc⟩:=(h.new (hN1.alloc _)).2 (by omega)
  exact⟨b,o,hR,fun j hj=>hc j (by omega)⟩
 have hmade:((w.alloc bx).alloc (.cells (madeCells #[.int .u8 0] Lg) 5)).rowIs (w.heap.size+1) 5 Lg (fun _=>.int .u8 0):=by
  have:=World.rowIs_made (w.alloc bx) (.int .u8 0) Lg 5;simpa using this
 rw[hbx]at hmade hr2 hN1;replace hmade:=Hd hmade;replace hr2:=Hd hr2;have hszI:Hid ((prog.info? 5).map (·.size)=some 1):=by
  show _=_
  kernel_rfl
 clear h hbx bx;go_enter func169,ntmps169;go_wp2_with (with_reducible refine T_ rfl (.tmp 9) (.tmp 10) 35 35 rfl 5 underlying35 hszI.o (w.heap.size+1) 0 Lg 5 _ hmade.o (some ⟨w.heap.size+1,0,none⟩) R Lg Lg n c m (fun j=>.int .u8 (D j:Nat)) rfl rfl hm.o (fun h0=>⟨rfl,hr2.o h0⟩) (by omega) (fun j _=>rfl) ?_;intro w2 hr3 hg2)
 have hN2:New w w2:=(hN1.alloc _).grown1 hg2 (by omega)
 have hrow:Hid (m_ 5 .u8 w2 (w.heap.size+1) Lg (fun k=>if k<n then D k else 0)):=m_.of_rowIs hr3.o (Nat.le_refl _) fun j hj=>by
  unfold cpF;have hmm:=hm.o
  by_cases e:j<n
  ·have:j<m:=by rw[hmm];exact Nat.lt_min.2 ⟨e,hj⟩
   rw[if_pos ⟨Nat.zero_le _,by omega⟩,if_pos e];rfl
  ·rw[if_neg (by omega),if_neg e];rfl
 go_ret;exact⟨⟨_,rfl,hrow.o,by omega⟩,hN2⟩
structure ASt(w0:World)(bb:Nat)(bcs:Array Value)(Lg:Nat)(MX:Nat->Nat->Nat)(j:Nat)(Gw:Nat->Nat)(sv:Value)(w:World):Prop where
 nw:New w0 w
 bk:Blk w bb 297 bcs
 own:w.ownsRow w0.heap.size 35 1 sv j (rowsC Gw (fun _=>Lg) Lg j)
 long:∀i,i<j->m_ 5 .u8 w (Gw i) Lg (MX i)
theorem m_i{w:World}{base s n bb:Nat}{e t:TypeId}{v:Value}{xs:List Value}{cs:Array Value}(h:w.ownsRow base e s v n xs)(hb:Blk w bb t cs)(hne:e≠t):v.ownBlock≠some bb:=by
 intro he;rcases h.2 with⟨h0,_⟩|⟨g',cap,cur,h0,_,hg0,_⟩
 ·rw[h0]at he;cases he
 ·rw[h0]at he
  have:g'=bb:=by simpa [Value.ownBlock]using he
  subst this;unfold Blk at hb;rw[hb]at hg0;injection hg0 with hg0;injection hg0 with _ hg0 _;exact absurd hg0.symm hne
section
variable {w0 w w' w'':World}{bb:Nat}{bcs:Array Value}{Lg:Nat}{MX:Nat->Nat->Nat}{j:Nat}{Gw:Nat->Nat}{sv:Value}
theorem ASt.new(h:ASt w0 bb bcs Lg MX j Gw sv w)(hn:New w w'):ASt w0 bb bcs Lg MX j Gw sv w':=
 ⟨h.nw.next hn,h.bk.new hn,c_ h.own hn,fun i hi=>(h.long i hi).new hn⟩
theorem ASt.push(h:ASt w0 bb bcs Lg MX j Gw sv w)(hn:New w w'){g:Nat}{v2:Value}{o:Obj}(hr:m_ 5 .u8 w' g Lg (MX j))
  (hown:w''.ownsRow w0.heap.size 35 1 v2 (j+1) (rowsC Gw (fun _=>Lg) Lg j++[.slice (some ⟨g,0,none⟩) Lg Lg])) (hgr:(w'.alloc o).grownBy w'' sv.ownBlock) :
  ASt w0 bb bcs Lg MX (j+1) (fun i=>if i=j then g else Gw i) v2 w'':=by
 have h2:=h.new (hn.alloc o);have hr2:=hr.new ((New.refl w').alloc o);have hk:∀(g' m:Nat) (f:Nat->Nat),m_ 5 .u8 (w'.alloc o) g' m f->m_ 5 .u8 w'' g' m f:=fun g' m f hr'=>hr'.grown hgr (hr'.ne_own h2.own (by decide))
 refine⟨h2.nw.grown hgr fun g' hg'=>(h2.own.lt _ hg').1,h2.bk.grown hgr (m_i h2.own h2.bk (by decide)),?_,fun i hi=>?_⟩
 ·rw[show(fun _:Nat=>Lg)=(fun i=>if i=j then Lg else(fun _=>Lg) i) by funext i;split<;>rfl,rowsC_succ]
  exact hown
 ·by_cases e:i=j
  ·subst e
   simp only[if_true];exact hk _ _ _ hr2
  ·simp only[if_neg e]
   exact hk _ _ _ (h2.long i (by omega))
theorem ASt.rdM(h:ASt w0 bb bcs Lg MX j Gw sv w)(hL:Lg<=4096):∃A c,sv=.slice A j c/\RdM .u8 w A j (fun i=>some ⟨Gw i,0,none⟩) (fun _=>Lg) (fun _=>Lg) (fun i k=>(MX i k:Nat)):=by
 obtain⟨A,c,rfl,h1,h2,h3,h4⟩:=h_ h.own;have hLm:Lg<=maxLen:=by unfold maxLen;omega
 refine⟨A,c,rfl,Nat.le_trans h1 h2,fun h0=>?_,fun i hi=>⟨(h.long i hi).rdI hLm,Nat.le_refl _,hLm⟩⟩;obtain⟨g,rfl,_,hg⟩:=h3 h0;refine⟨g,0,rfl,hg,fun i hi=>?_⟩;have:=h4 g rfl i (.slice (some ⟨Gw i,0,none⟩) Lg Lg) (by simp[rowsC,hi])
 simpa using this
end
abbrev l_g(x:Nat):Value:=.int .u8 (x:Nat)
theorem p_o(f:Nat->Nat)(m:Nat):E_ .u8 f m=((List.range m).map f).map l_g:=by simp[E_,l_g]
theorem n_B{w:World}{base n:Nat}{t:TypeId}{v:Value}{l:List Nat}(h:w.ownsRow base t 1 v n (l.map l_g))(hn:l.length=n):∃A c,v=.slice A n c/\n<=c/\c<=maxLen/\RdI .u8 w A n (fun k=>(l.getD k 0:Nat))/\∀a,A=some a->base<=a.block:=by
 have hlt:=h.lt;obtain⟨A,c,rfl,h1,h2,h3,h4⟩:=h_ h;refine⟨A,c,rfl,h1,h2,⟨Nat.le_trans h1 h2,fun h0=>?_⟩,fun a ha=>by subst ha;exact(hlt _ rfl).1⟩
 obtain⟨g,rfl,_,hg⟩:=h3 h0;refine⟨g,0,rfl,hg,fun i hi=>?_⟩;have:=h4 g rfl i (.int .u8 (l.getD i 0:Nat)) (by simp[List.getD,show i<l.length by omega])
 simpa using this
theorem n_G(k:IntKind)(f:Nat->Nat)(m:Nat):E_ k f (m+1)=E_ k f m++[.int k (f m:Nat)]:=by unfold E_;rw[List.range_succ,List.map_append];rfl
theorem j_d{w:World}{base n:Nat}{t:TypeId}{k:IntKind}{v:Value}{f:Nat->Nat}(h:w.ownsRow base t 1 v n (E_ k f n)):∃A c,v=.slice A n c/\n<=c/\c<=maxLen/\RdI k w A n (fun j=>(f j:Nat)):=by
 obtain⟨A,c,rfl,h1,h2,h3,h4⟩:=h_ h;refine⟨A,c,rfl,h1,h2,Nat.le_trans h1 h2,fun h0=>?_⟩;obtain⟨g,rfl,_,hg⟩:=h3 h0;refine⟨g,0,rfl,hg,fun i hi=>?_⟩;have:=h4 g rfl i (.int k (f i:Nat)) (by simp[E_,hi])
 simpa using this
def dtP(ct:Nat)(X:List Nat)(w:World)(e:Ending)(w':World):Prop:=
 (∃A c,e=.returned (.slice A (128*ct) c)/\128*ct<=c/\c<=maxLen/\RdI .u8 w' A (128*ct) (fun k=>(X.getD k 0:Nat))/\∀a,A=some a->w.heap.size<=a.block)/\New w w'
def dtL(num pa ct wd:Nat)(L:Nat->Nat)(D:Nat->Nat->Nat)(g:List Nat):List Nat:=
 d_L (rbF (goG num pa g) (num-pa) pa (fun i k=>(mxF num pa L D i k:Nat))) (fun j=>128*G_ pa ct wd (pa+j)) (num-pa)
theorem t_6{num pa:Nat}{L:Nat->Nat}{D:Nat->Nat->Nat}(h:∀c k,c<num->D c k<256)(hn:0<num)(i k:Nat):mxF num pa L D i k<256:=by
 unfold mxF pcF;split
 ·exact h _ _ (Nat.mod_lt _ hn)
 ·omega
theorem l_7:(prog.info? 3).map (fun i=>(i.zero,i.size,i.bytes))=some (some (.int .i64 0),1,8):=by kernel_rfl
theorem RdP.dat{w:World}{A:Option Addr}{n:Nat}{Ls:Nat->Bool}{R:Nat->Option Addr}{L C:Nat->Nat}{D:Nat->Nat->Nat}(h:RdP w A n Ls R L C D){c:Nat}(hc:c<n):RdI .u8 w (R c) (L c) (fun k=>(D c k:Nat)):=(h.2.2 c hc).1
set_option maxHeartbeats 4000000 in
theorem q_n(LA PA GA:Option Addr)(num cl dr pa ad ct wd Lg pc gc base:Nat)(Ls:Nat->Bool)(R:Nat->Option Addr)(L C:Nat->Nat)(D:Nat->Nat->Nat)(g:List Nat)(w:World)
  (h3:1<=pa) (h4:pa<=3) (h5:num=pa+dcN ct wd) (h6:1<=wd) (hc1:1<=ct) (hc2:ct<=32) (h8:num<=8) (hd1:1<=dcN ct wd) (hLg:Lg=128*G_ pa ct wd 0)
  (hcol:w.ownsRow base 175 4 (.slice LA num cl) num (a_U dr pa ad (G_ pa ct wd) num)) (hP:RdP w PA num Ls R L C D) (hG:RdI .i64 w GA g.length (atZ g)) (hgn:∀c∈g,c<num) (hgd:g.Nodup) (hgl:g.length<=pa) (hsp:(hfL (goG num pa g) (dcN ct wd)).length=0\/dcN ct wd=1) :
  Calls prog 175 #[.agg #[.slice LA num cl,.int .i64 pa,.int .i64 Lg],.slice PA num pc,.slice GA g.length gc] w (dtP ct (dtL num pa ct wd L D g) w):=by
 obtain⟨i0,hi0,hz0,hz1,hz2⟩:=info_parts i_v;obtain⟨i1,hj0,hy0,hy1,hy2⟩:=info_parts l_7;obtain⟨i2,hk0,hx0,hx1,hx2⟩:=info_parts infoU8;have hc0:=e_g (pa:=pa) h6 hc1 hc2 h3;have hLg4:Lg<=4096:=by omega
 have hpn:pa<=num:=by omega
 have hnum0:0<num:=by omega
 have hmk:=run_make_room (P:=prog) 181 35 (.slice none 0 0) 24 underlying181 i_v rfl .i64 .i64 num (by omega) (by omega)
 obtain⟨bcs,hbcs⟩:∃bcs:Array Value,bcs=#[.slice LA num cl,.int .i64 pa,.int .i64 Lg]:=⟨_,rfl⟩;obtain⟨Wm,hWm⟩:∃Wm,Wm=(w.alloc (.cells #[.slice LA num cl,.int .i64 pa,.int .i64 Lg] 297)).alloc (.cells (madeCells #[.slice none 0 0] num) 35):=⟨_,rfl⟩;have hst:ASt w w.heap.size bcs Lg (mxF num pa L D) 0 (fun _=>0) (.slice (some ⟨w.heap.size+1,0,none⟩) 0 num) Wm:=by
  refine⟨by rw[hWm];exact((New.refl w).alloc _).alloc _,by rw[hWm,hbcs];exact(Blk.fresh w _ _).alloc _,?_,fun i hi=>absurd hi (Nat.not_lt_zero i)⟩
  have hr:=World.ownsRow_made (base:=w.heap.size) (e:=35) (size:=1) (w.alloc (.cells #[.slice LA num cl,.int .i64 pa,.int .i64 Lg] 297)) (madeCells #[.slice none 0 0] num) num (by simp) (by unfold maxLen;omega) (by rw[size_madeCells];omega)
  simp only[World.size_alloc]at hr;rw[hWm];exact hr
 replace hst:=Hd hst;obtain⟨pb,po,rfl,hpb,hpc⟩:=hP.2.1 hnum0;replace hpc:=Hd hpc;have hcol0:=Hd hcol;have hP0:=Hd hP;have hG0:=Hd hG;have h50:=Hd h5;have hLg0:=Hd hLg;have hgn0:=Hd hgn;have hgd0:=Hd hgd;have hbcs0:=Hd hbcs;obtain⟨m,hm⟩:∃m,Hid (m=g.length):=⟨_,rfl⟩;obtain⟨dc,hdc⟩:∃dc,Hid (dc=dcN ct wd):=⟨_,rfl⟩;have hpd:num=pa+dc:=by rw[hdc.o];exact h5
 rw[<-hdc.o]at hsp;replace hsp:=Hd hsp;rw[<-hdc.o]at hd1;rw[<-hm.o]at hG0 hgl ⊢;replace hpd:=Hd hpd;have hpd1:dc+pa<=8:=by have:=hpd.o;omega
 clear hcol hP hG h5 hLg hgn hgd hbcs;go_enter func175,ntmps175;go_wp2_with fail;rw[<-hWm];clear hWm hmk;go_loopw [8,7] (fun x s wr=>∃(c j:Nat) (Gw:Nat->Nat) (sv:Value),sv=s/\x=.int .i64 c/\Hid (c=pa+j)/\c<=num/\Hid (ASt w w.heap.size bcs Lg (mxF num pa L D) j Gw sv wr)) (fun x _ _=>num-(intOf x).toNat);case atStart=>exact⟨pa,0,_,_,rfl,rfl,rfl,hpn,hst⟩
 case round=>
  obtain⟨c,j,Gw,sv,rfl,rfl,hcj,hcn,hs⟩:=hrel
  by_cases hlt:c<num
  ·have hjc:=hcj.o
   have hcn8:c<=8:=by omega
   have hpdat:wr.cell? ⟨pb,po+c*2+1,none⟩=some (.slice (R c) (L c) (C c)):=(hs.o.nw.cell hpb).trans (hpc.o c hlt).2;have hcells:Hid (∀{jj Gg vv} (W':World),ASt w w.heap.size bcs Lg (mxF num pa L D) jj Gg vv W'->W'.cell? ⟨w.heap.size,0,none⟩=some (.slice LA num cl)/\W'.cell? ⟨w.heap.size,1,none⟩=some (.int .i64 pa)/\W'.cell? ⟨w.heap.size,2,none⟩=some (.int .i64 Lg)/\W'.cell? ⟨pb,po+c*2+1,none⟩=some (.slice (R c) (L c) (C c))):=fun {jj Gg vv} W' h=>by
    have h0:=h.bk.cell 0;have h1:=h.bk.cell 1;have h2:=h.bk.cell 2;rw[hbcs0.o]at h0 h1 h2;simp at h0 h1 h2;exact⟨h0,h1,h2,(h.nw.cell hpb).trans (hpc.o c hlt).2⟩
   have hkeep:Hid (∀w',New wr w'->w'.cell? ⟨w.heap.size,0,none⟩=some (.slice LA num cl)/\w'.cell? ⟨w.heap.size,1,none⟩=some (.int .i64 pa)/\w'.cell? ⟨w.heap.size,2,none⟩=some (.int .i64 Lg)/\w'.cell? ⟨pb,po+c*2+1,none⟩=some (.slice (R c) (L c) (C c))):=fun w' hn=>hcells.o w' (hs.o.new hn);obtain⟨d0,d1,d2,_⟩:=hcells.o wr hs.o;have hrd:Hid (RdI .u8 wr (R c) (L c) (fun k=>(D c k:Nat))):=(hP0.o.new hs.o.nw).dat hlt;have hci:(c:Int)<(num:Int):=by omega
   have hc0i:(0:Int)<=(c:Int):=by omega
   have hj8:j<=8:=by omega
   have hbase:w.heap.size<=wr.heap.size:=hs.o.nw.size;have hmx:Hid (∀k,(if k<L c then D c k else 0)=mxF num pa L D j k):=fun k=>by
    have he:(j+pa)%num=c:=by rw[Nat.mod_eq_of_lt (by omega)];omega
    unfold mxF pcF;rw[he]
   clear hjc;go_wp2_with fail;go_region_held3 (fun w'=>w'.cell? ⟨w.heap.size,0,none⟩=some (.slice LA num cl)/\w'.cell? ⟨w.heap.size,1,none⟩=some (.int .i64 pa)/\w'.cell? ⟨w.heap.size,2,none⟩=some (.int .i64 Lg)/\w'.cell? ⟨pb,po+c*2+1,none⟩=some (.slice (R c) (L c) (C c)))
    (first
     |exact hkeep.o _ (New.refl _).drew
     |assumption
     |exact hS7
     |exact hkeep.o _ (New.alloc hN6 _)
     |exact hkeep.o _ hN6)
    (first
     |(go_at_call 169;refine(f_6 LA (R c) num cl pa Lg (L c) (C c) (D c) _ (hrd.o.new (New.refl _).drew) hLg4).mono ?_;rintro e W6 ⟨⟨g6,rfl,hr6,hg6⟩,hn6⟩;have hN6:New wr W6:=New.next (New.refl wr).drew hn6;have hs6:=hs.o.new hN6;have hown6:=hs6.own;have hbase6:=hs6.nw.size;replace hs6:=Hd hs6)
     |(refine step_append_lies _ (by rfl) _ _ 181 (by rfl) w.heap.size 35 i0 _ 1 24 underlying181 hi0 hz0 hz1 hz2 rfl (by decide) sv j (rowsC Gw (fun _=>Lg) Lg j) (by rfl) (hown6.alloc _) ⟨W6.heap.size,0,none⟩ 1 1 [.slice (some ⟨g6,0,none⟩) Lg Lg] (by rfl) (by rfl) (World.news_of_block (cs:=#[.slice _ _ _]) (t:=35) (fr:=(0,0)) (heap_alloc_new W6 _)) (by simp[Value.oneCell']) (by omega) (by unfold maxLen;omega) (by omega) (by simp;omega) (W6.heap.size+1) (by simp) ?_;intro g7 c7 w7 hown7 hgrow7 hat7 hlt7;have hs7:=hs6.o.push (New.refl _) (hr6.congr (fun k _=>hmx.o k)) hown7 hgrow7;have hS7:=hcells.o w7 hs7;replace hs7:=Hd hs7;clear hown7 hgrow7 hat7))
   all_goals clear hkeep hrd
   all_goals go_wp2
   all_goals go_roundw
   case rel=>exact⟨c+1,j+1,_,_,rfl,by go_num,(by show _=_;rw[hcj.o];rfl),by omega,hs7⟩
   case measure=>simp[intOf];omega
  ·have hcn2:c=num:=by omega
   have hjd:Hid (j=dc):=by have:=hcj.o;have:=hpd.o;show _=_;omega
   obtain⟨d0,d1,d2⟩:wr.cell? ⟨w.heap.size,0,none⟩=some (.slice LA num cl)/\wr.cell? ⟨w.heap.size,1,none⟩=some (.int .i64 pa)/\wr.cell? ⟨w.heap.size,2,none⟩=some (.int .i64 Lg):=by
    have h0:=hs.o.bk.cell 0;have h1:=hs.o.bk.cell 1;have h2:=hs.o.bk.cell 2;rw[hbcs0.o]at h0 h1 h2;simp at h0 h1 h2;exact⟨h0,h1,h2⟩
   have hci:¬(c:Int)<(num:Int):=by omega
   go_wp2_with fail;clear d0 d1 d2 hst hcj hci hlt;go_loopw [40,7] (fun x s wr=>∃(c j:Nat) (Gw:Nat->Nat) (sv:Value),sv=s/\x=.int .i64 c/\Hid (j=dc+c)/\c<=pa/\Hid (ASt w w.heap.size bcs Lg (mxF num pa L D) j Gw sv wr)) (fun x _ _=>pa-(intOf x).toNat);case atStart=>exact⟨0,j,_,_,rfl,rfl,hjd,by omega,hs⟩
   case round=>
    clear hs hjd;obtain⟨c,j,Gw,sv,rfl,rfl,hjc,hcp,hs⟩:=hrel
    by_cases hlp:c<pa
    ·have hlt:c<num:=by omega
     have hjn:j=dc+c:=hjc.o;have hcn8:c<=8:=by omega
     have hpdat:wr.cell? ⟨pb,po+c*2+1,none⟩=some (.slice (R c) (L c) (C c)):=(hs.o.nw.cell hpb).trans (hpc.o c hlt).2;have hcells:Hid (∀{jj Gg vv} (W':World),ASt w w.heap.size bcs Lg (mxF num pa L D) jj Gg vv W'->W'.cell? ⟨w.heap.size,0,none⟩=some (.slice LA num cl)/\W'.cell? ⟨w.heap.size,1,none⟩=some (.int .i64 pa)/\W'.cell? ⟨w.heap.size,2,none⟩=some (.int .i64 Lg)/\W'.cell? ⟨pb,po+c*2+1,none⟩=some (.slice (R c) (L c) (C c))):=fun {jj Gg vv} W' h=>by
      have h0:=h.bk.cell 0;have h1:=h.bk.cell 1;have h2:=h.bk.cell 2;rw[hbcs0.o]at h0 h1 h2;simp at h0 h1 h2;exact⟨h0,h1,h2,(h.nw.cell hpb).trans (hpc.o c hlt).2⟩
     have hkeep:Hid (∀w',New wr w'->w'.cell? ⟨w.heap.size,0,none⟩=some (.slice LA num cl)/\w'.cell? ⟨w.heap.size,1,none⟩=some (.int .i64 pa)/\w'.cell? ⟨w.heap.size,2,none⟩=some (.int .i64 Lg)/\w'.cell? ⟨pb,po+c*2+1,none⟩=some (.slice (R c) (L c) (C c))):=fun w' hn=>hcells.o w' (hs.o.new hn);obtain⟨d0,d1,d2,_⟩:=hcells.o wr hs.o;have hrd:Hid (RdI .u8 wr (R c) (L c) (fun k=>(D c k:Nat))):=(hP0.o.new hs.o.nw).dat hlt;have hci:(c:Int)<(num:Int):=by omega
     have hc0i:(0:Int)<=(c:Int):=by omega
     have hj8:j<=8:=by omega
     have hbase:w.heap.size<=wr.heap.size:=hs.o.nw.size;have hmx:Hid (∀k,(if k<L c then D c k else 0)=mxF num pa L D j k):=fun k=>by
      have he:(j+pa)%num=c:=by
       have:=hpd.o;rw[show j+pa=c+num by omega,Nat.add_mod_right,Nat.mod_eq_of_lt (by omega)]
      unfold mxF pcF;rw[he]
     clear hjn;go_wp2_with fail;go_region_held3 (fun w'=>w'.cell? ⟨w.heap.size,0,none⟩=some (.slice LA num cl)/\w'.cell? ⟨w.heap.size,1,none⟩=some (.int .i64 pa)/\w'.cell? ⟨w.heap.size,2,none⟩=some (.int .i64 Lg)/\w'.cell? ⟨pb,po+c*2+1,none⟩=some (.slice (R c) (L c) (C c)))
      (first
       |exact hkeep.o _ (New.refl _).drew
       |assumption
       |exact hS7
       |exact hkeep.o _ (New.alloc hN6 _)
       |exact hkeep.o _ hN6)
      (first
       |(go_at_call 169;refine(f_6 LA (R c) num cl pa Lg (L c) (C c) (D c) _ (hrd.o.new (New.refl _).drew) hLg4).mono ?_;rintro e W6 ⟨⟨g6,rfl,hr6,hg6⟩,hn6⟩;have hN6:New wr W6:=New.next (New.refl wr).drew hn6;have hs6:=hs.o.new hN6;have hown6:=hs6.own;have hbase6:=hs6.nw.size;replace hs6:=Hd hs6)
       |(refine step_append_lies _ (by rfl) _ _ 181 (by rfl) w.heap.size 35 i0 _ 1 24 underlying181 hi0 hz0 hz1 hz2 rfl (by decide) sv j (rowsC Gw (fun _=>Lg) Lg j) (by rfl) (hown6.alloc _) ⟨W6.heap.size,0,none⟩ 1 1 [.slice (some ⟨g6,0,none⟩) Lg Lg] (by rfl) (by rfl) (World.news_of_block (cs:=#[.slice _ _ _]) (t:=35) (fr:=(0,0)) (heap_alloc_new W6 _)) (by simp[Value.oneCell']) (by omega) (by unfold maxLen;omega) (by omega) (by simp;omega) (W6.heap.size+1) (by simp) ?_;intro g7 c7 w7 hown7 hgrow7 hat7 hlt7;have hs7:=hs6.o.push (New.refl _) (hr6.congr (fun k _=>hmx.o k)) hown7 hgrow7;have hS7:=hcells.o w7 hs7;replace hs7:=Hd hs7;clear hown7 hgrow7 hat7))
     all_goals clear hkeep hrd
     all_goals go_wp2
     all_goals go_roundw
     case rel=>exact⟨c+1,j+1,_,_,rfl,by go_num,(by show _=_;rw[hjc.o];rfl),by omega,hs7⟩
     case measure=>simp[intOf];omega
    ·have hjn:j=num:=by have:=hjc.o;have:=hpd.o;omega
     subst hjn;have hci:¬(c:Int)<(pa:Int):=by omega
     obtain⟨W1,hW1⟩:∃W1,W1=wr:=⟨_,rfl⟩;subst hW1;have hG1:=Hd (hG0.o.new hs.o.nw);go_wp2_with fail;go_loopw [56,10] (fun x s wr=>∃(t:Nat) (pv:Value),pv=s/\x=.int .i64 t/\t<=m/\wr.ownsRow W1.heap.size 3 1 pv t (E_ .i64 (plP j pa g) t)/\Hid (New W1 wr)) (fun x _ _=>m-(intOf x).toNat);case atStart=>exact⟨0,_,rfl,rfl,by omega,World.ownsRow_nil _ _ _ _,New.refl _⟩
     case round=>
      obtain⟨t,pv,rfl,rfl,htm,hown,hnw⟩:=hrel;have hs1:=Hd (hs.o.new hnw.o);have d1:wr.cell? ⟨w.heap.size,1,none⟩=some (.int .i64 pa):=by
       have h1:=hs1.o.bk.cell 1;rw[hbcs0.o]at h1;simp at h1;exact h1
      by_cases htl:t<m
      ·obtain⟨gb,go,rfl,hgb,hgcs⟩:=hG1.o.2 (by omega)
       obtain⟨cv,hcv⟩:∃cv,Hid (cv=g.getD t 0):=⟨_,rfl⟩;have hcvj:cv<j:=by
        rw[hcv.o];have hl:t<g.length:=by rw[<-hm.o];exact htl
        rw[show g.getD t 0=g[t] by simp[List.getD,hl]]
        exact hgn0.o _ (List.getElem_mem hl)
       have c0:wr.cell? ⟨gb,go+t,none⟩=some (.int .i64 (cv:Int)):=by rw[hcv.o];exact(hnw.o.cell hgb).trans (hgcs t htl)
       have a0:(0:Int)<=(t:Int):=by omega
       have a1:(t:Int)<(m:Int):=by omega
       have hz:((j:Int)==0)=false:=by simp;omega
       have hval:((cv:Int)-(pa:Int)+(j:Int))%(j:Int)=((plP j pa g t:Nat):Int):=by
        unfold plP;rw[<-hcv.o,show(cv:Int)-(pa:Int)+(j:Int)=((cv+j-pa:Nat):Int) by omega]
        push_cast;rfl
       have hnx:=Hd (n_G .i64 (plP j pa g) t);have hpl:plP j pa g t<j:=Nat.mod_lt _ hnum0;generalize plP j pa g t=pl at hval hpl hnx;have hpl8:pl<=8:=by omega
       have hown0:=Hd hown;have hm3:m<=3:=by omega
       have hge:(0:Int)<=(cv:Int)-(pa:Int)+(j:Int):=by omega
       clear hgcs;go_wp2_with (at_builtin;refine wpList_append_own _ rfl _ _ 27 rfl W1.heap.size 3 i1 _ 1 8 underlying27 hj0 hy0 hy1 hy2 rfl (by decide) pv t (E_ .i64 (plP j pa g) t) rfl (hown0.o.alloc _) ⟨wr.heap.size,0,none⟩ 1 1 [.int .i64 pl] rfl rfl (World.news_of_block (cs:=#[.int .i64 _]) (t:=3) (fr:=(0,0)) (heap_alloc_new wr _)) (by simp[Value.oneCell']) (by unfold maxLen;omega) (by omega) (by have:=hnw.o.size;simp;omega) ?_;intro v6 w6 hown6 hgrow6 hnil6)
       rw[<-hnx.o]at hown6;have hN6:Hid (New W1 w6):=hnw.o.append' hgrow6 (fun g hg=>(hown.lt _ hg).1);have hown7:=Hd hown6;clear hown6 hgrow6 hnil6;go_wp2;go_roundw;case rel=>exact⟨t+1,_,rfl,by go_num,by omega,hown7.o,hN6⟩
       case measure=>simp[intOf];omega
      ·have htm2:t=m:=by omega
       subst htm2;obtain⟨A1,c1,rfl,_,_,hD1⟩:=j_d hown;obtain⟨A2,c2,hsv,hM2⟩:=hs1.o.rdM hLg4;subst hsv;have hreb:Hid (Calls prog 220 #[.slice A2 j c2,.int .i64 pa,.slice A1 t c1] wr fun e w'=>∃A c Ad Cp,e=.returned (.tuple #[.slice A j c,.int .i64 0])/\RdM .u8 w' A j Ad (fun _=>Lg) Cp (fun k t=>(rbF (goG j pa g) (j-pa) pa (fun i k=>(mxF j pa L D i k:Nat)) k t:Nat))/\New wr w'):=by
        have hgn:=t_l hgn0.o hpn hnum0;rw[<-hm.o]at hgn;have:=k_e j c2 t c1 pa dc Lg A2 A1 _ _ _ _ wr hM2 (fun i hi k hk=>?_) hD1 h3 h4 hd1 (by have:=hpd.o;omega) (by have:=hpd.o;omega) hLg4 (by rw[hm.o];exact r_m hnum0) (by rw[hm.o];exact r_T hgn0.o hpn hgd0.o) hgl (by rw[hgn];exact hsp.o)
        ·         refine this.mono ?_
                  rintro e w' ⟨A,c,Ad,Cp,he,hr,hn⟩;rw[hgn]at hr;have hjd:j-pa=dc:=by have:=hpd.o;omega
                  rw[hjd];exact⟨A,c,Ad,Cp,he,hr,hn⟩
        ·         have:=t_6 (pa:=pa) (L:=L) (fun c k hc=>(hP0.o.2.2 c hc).2.2.2 k) hnum0 i k
                  omega
       have hbk0:=Hd hs1.o.bk;have hnw0:=Hd (hs.o.nw.next hnw.o);clear hM2 hD1 hown hs1 hnw hs;go_wp2_with fail;refine hreb.o.mono ?_;rintro e w2 ⟨A3,c3,Ad,Cp,rfl,hR3,hn2⟩;have hR30:=Hd hR3;have hN2:=Hd (hnw0.o.next hn2);have d1:w2.cell? ⟨w.heap.size,1,none⟩=some (.int .i64 pa):=by
        have h1:=(hbk0.o.new hn2).cell 1;rw[hbcs0.o]at h1;simp at h1;exact h1
       have hbk2:=Hd (hbk0.o.new hn2);clear hR3 hn2 hreb hbk0 hnw0;go_wp2_with fail;clear d1;obtain⟨F,hF⟩:∃F,Hid (F=rbF (goG j pa g) (j-pa) pa (fun i k=>(mxF j pa L D i k:Nat))):=⟨_,rfl⟩;obtain⟨sz,hsz⟩:∃sz,Hid (sz=fun i=>128*G_ pa ct wd (pa+i)):=⟨_,rfl⟩;have hFlt:Hid (∀i k,F i k<256):=fun i k=>by rw[hF.o];exact k_I _ _ _ _ _ _
       have hdj:Hid (j=pa+dc):=hpd;have hsum:Hid (∀i,i_5 sz i=atS ct wd i):=fun i=>by rw[hsz.o];exact l_V h6 hc1 i
       rw[<-hF.o]at hR30;go_loopw [16,15] (fun x s wr=>∃(c i:Nat) (ov:Value),ov=s/\x=.int .i64 c/\Hid (c=pa+i)/\c<=j/\wr.ownsRow w2.heap.size 5 1 ov (i_5 sz i) ((d_L F sz i).map l_g)/\Hid (New w2 wr)) (fun x _ _=>j-(intOf x).toNat);case atStart=>exact⟨pa,0,_,rfl,rfl,rfl,hpn,World.ownsRow_nil _ _ _ _,New.refl _⟩
       case round=>
        obtain⟨c,i,ov,rfl,rfl,hci,hcj,hown,hnw⟩:=hrel;have hbk:=Hd (hbk2.o.new hnw.o)
        by_cases hlt:c<j
        ·         have hcv:=hci.o
                  have hid:i<dc:=by have:=hdj.o;omega
                  obtain⟨b3,o3,rfl,hb3,hcs3⟩:=hR30.o.2.1 hnum0;have hij:i<j:=by omega
                  have hc3:=(hnw.o.cell hb3).trans (hcs3 i hij);obtain⟨hrI,hrc,hrm⟩:=hR30.o.2.2 i hij;obtain⟨s,hs⟩:∃s,Hid (s=sz i):=⟨_,rfl⟩;have hs1:s=128*G_ pa ct wd (pa+i):=by rw[hs.o,hsz.o]
                  have hcle:=d_5 (pa:=pa) (ct:=ct) h6 hc1 h3 (pa+i);have hcpos:=f_C (pa:=pa) h6 hc1 i (by rw[<-hdc.o];exact hid)
                  have hsL:s<=Lg:=by rw[hs1,hLg0.o];omega
                  have hs0:0<s:=by omega
                  have hC32:G_ pa ct wd c<=32:=by rw[hcv];omega
                  obtain⟨a0,ha0⟩:∃a0,Hid (a0=i_5 sz i):=⟨_,rfl⟩;have ha1:a0+s<=4096:=by
                   have h1:=d_k (pa:=pa) h6 hc1 i;have h2:=q_D h6 hc1 (i+1) (by rw[<-hdc.o];omega)
                   rw[ha0.o,hsum.o,hs1];omega
                  have hnx:Hid (i_5 sz (i+1)=a0+s):=by show _=_;rw[ha0.o,hs.o];rfl
                  rw[<-ha0.o]at hown;have hrc:Lg<=Cp i:=hrc;obtain⟨ab,ao,had,hab,hacs⟩:=hrI.2 (by show 0<Lg;omega)
                  have hnews:Hid (∀w',New w2 w'->∀q u,(E_ .u8 (F i) s)[q]?=some u->w'.cell? ((⟨ab,ao,none⟩:Addr).add q)=some u):=fun w' hn=>c_R (fun q hq=>(hn.cell (p:=⟨ab,ao+q,none⟩) hab).trans (hacs q (show q<Lg by omega)))
                  have hone:=Hd (c_S .u8 (F i) s);have hlen:Hid ((E_ .u8 (F i) s).length=s):=b_y .u8 (F i) s;have hcat:Hid ((d_L F sz (i+1)).map l_g=(d_L F sz i).map l_g++E_ .u8 (F i) s):=by
                   show _=_;rw[p_o,hs.o];simp[d_L]
                  rw[had]at hc3;have hci0:(0:Int)<=(c:Int):=by omega
                  have hsub:(c:Int)-(pa:Int)=(i:Int):=by omega
                  have hi0:(0:Int)<=(i:Int):=by omega
                  have hi1:(i:Int)<(j:Int):=by omega
                  have hs0i:(0:Int)<=(s:Int):=by omega
                  have hs1i:(s:Int)<=(Cp i:Int):=by omega
                  have hs2i:s<=Cp i:=by omega
                  have hown0:=Hd hown;have hw2:=hnw.o.size;have hw0:=hN2.o.size;have hszc:Hid (∀w',New wr w'->Calls prog 168 #[.agg #[.slice LA j cl,.int .i64 pa,.int .i64 Lg],.int .i64 c] w' fun e w''=>e=.returned (.int .i64 (s:Nat))/\New w' w''):=fun w' hn=>by
                   rw[hs1,<-hcv];exact size_any LA j cl base dr pa ad c Lg pa _ w' (c_ hcol0.o (hN2.o.next (hnw.o.next hn))) hlt h8 hC32
                  have hc30:=hcs3 i hij;rw[had]at hc30;have hc3H:=Hd hc30;have hkeep:Hid (∀w',New w2 w'->w'.cell? ⟨w.heap.size,0,none⟩=some (.slice LA j cl)/\w'.cell? ⟨w.heap.size,1,none⟩=some (.int .i64 pa)/\w'.cell? ⟨w.heap.size,2,none⟩=some (.int .i64 Lg)/\w'.cell? ⟨b3,o3+i,none⟩=some (.slice (some ⟨ab,ao,none⟩) Lg (Cp i))):=fun w' hn=>by
                   have hb:=hbk2.o.new hn;have h0:=hb.cell 0;have h1:=hb.cell 1;have h2:=hb.cell 2;rw[hbcs0.o]at h0 h1 h2;simp at h0 h1 h2;exact⟨h0,h1,h2,(hn.cell (a_ hc3H.o)).trans hc3H.o⟩
                  clear hc30;obtain⟨d0,d1,d2,_⟩:=hkeep.o wr hnw.o;have hcn0:(c:Int)<(j:Int):=by omega
                  have hwi:IntKind.i64.wrap (i:Int)=(i:Int):=IntWalk.i64_in _ (by omega)
                  clear hs1 hcle hcpos hrI hacs hcs3 hown hcv;go_wp2_with fail;go_region_held3 (fun w'=>w'.cell? ⟨w.heap.size,0,none⟩=some (.slice LA j cl)/\w'.cell? ⟨w.heap.size,1,none⟩=some (.int .i64 pa)/\w'.cell? ⟨w.heap.size,2,none⟩=some (.int .i64 Lg)/\w'.cell? ⟨b3,o3+i,none⟩=some (.slice (some ⟨ab,ao,none⟩) Lg (Cp i)))
                   (first
                    |exact hkeep.o _ hnw.o.drew
                    |assumption
                    |exact hS7
                    |exact hkeep.o _ (hnw.o.next hN6))
                   (first
                    |(go_at_call 168;refine(hszc.o _ (New.refl _).drew).mono ?_;rintro e W6 ⟨rfl,hn6⟩;have hN6:New wr W6:=New.next (New.refl wr).drew hn6;have hown6:=c_ hown0.o hN6;have hsz6:=hN6.size)
                    |(refine step_append_lies _ (by rfl) _ _ 35 (by rfl) w2.heap.size 5 i2 _ 1 1 underlying35 hk0 hx0 hx1 hx2 rfl (by decide) ov a0 ((d_L F sz i).map l_g) (by rfl) hown6 ⟨ab,ao,none⟩ s (Cp i) (E_ .u8 (F i) s) (by rfl) (by rw[hlen.o];omega) (hnews.o _ (hnw.o.next hN6)) hone.o (by omega) (by unfold maxLen;omega) (by omega) (by omega) W6.heap.size rfl ?_;intro g7 c7 w7 hown7 hgrow7 hat7 hlt7;have hN7:Hid (New w2 w7):=(hnw.o.next hN6).grown hgrow7 (fun g hg=>(hown6.lt _ hg).1);have hS7:=hkeep.o w7 hN7.o;have hown8:=Hd hown7;clear hown7 hgrow7 hat7))
                  all_goals
                   rw[<-hcat.o,<-hnx.o]at hown8;clear hkeep d0 d1 d2 hc3;go_wp2;go_roundw
                  case rel=>exact⟨c+1,i+1,_,by rw[hnx.o],by go_num,(by show _=_;rw[hci.o];rfl),by omega,hown8.o,hN7⟩
                  case measure=>simp[intOf];omega
        ·         have hcj2:c=j:=by omega
                  have hid:i=dc:=by have:=hci.o;have:=hdj.o;omega
                  have hfin:Hid (∃A c,ov=.slice A (128*ct) c/\128*ct<=c/\c<=maxLen/\RdI .u8 wr A (128*ct) (fun k=>((dtL j pa ct wd L D g).getD k 0:Nat))/\∀a,A=some a->w.heap.size<=a.block):=by
                   have hdd:j-pa=dc:=by have:=hdj.o;omega
                   have hsz2:i_5 sz i=128*ct:=by rw[hsum.o,hid,hdc.o,l_y h6 hc1]
                   have hl:d_L F sz i=dtL j pa ct wd L D g:=by
                    unfold dtL;rw[hid,hF.o,hsz.o,hdd]
                   rw[hsz2,hl]at hown;obtain⟨A,c,h1,h2,h3,h4,h5⟩:=n_B hown (by rw[<-hl,k_6,hsz2])
                   exact⟨A,c,h1,h2,h3,h4,fun a ha=>Nat.le_trans hN2.o.size (h5 a ha)⟩
                  obtain⟨A,cc,rfl,hf1,hf2,hf3⟩:=hfin.o;have hf4:=Hd (And.intro hf1 (And.intro hf2 hf3));have hNf:=Hd (hN2.o.next hnw.o);clear hown hf1 hf2 hf3 hfin;go_wp2;go_ret;exact⟨⟨A,cc,rfl,hf4.o.1,hf4.o.2.1,hf4.o.2.2⟩,hNf.o⟩
end stripe
namespace stripe
open kit geom par comb
def S_(Ls:Nat->Bool)(n:Nat):List Nat:=(List.range n).filter fun c=>Ls c
def d_p(Ls:Nat->Bool)(n:Nat):List Nat:=(List.range n).filter fun c => !Ls c
section
variable {Ls:Nat->Bool}{n:Nat}
theorem j_r(h:Ls n=true):S_ Ls (n+1)=S_ Ls n++[n]/\d_p Ls (n+1)=d_p Ls n:=by
 unfold S_ d_p;rw[List.range_succ,List.filter_append,List.filter_append];simp[h]
theorem m_r(h:Ls n=false):S_ Ls (n+1)=S_ Ls n/\d_p Ls (n+1)=d_p Ls n++[n]:=by
 unfold S_ d_p;rw[List.range_succ,List.filter_append,List.filter_append];simp[h]
theorem k_X:∀n,(S_ Ls n).length+(d_p Ls n).length=n
 |0=>rfl
 |n+1=>by
  have ih:=k_X n;cases h:Ls n with
  |true=>obtain⟨h1,h2⟩:=j_r h;rw[h1,h2];simp;omega
  |false=>obtain⟨h1,h2⟩:=m_r h;rw[h1,h2];simp;omega
theorem e_4{c:Nat}:c∈S_ Ls n↔c<n/\Ls c=true:=by simp[S_]
theorem g_f:(S_ Ls n).Nodup:=List.Nodup.sublist List.filter_sublist List.nodup_range
end
end stripe
namespace stripe
set_option maxRecDepth 100000
open Go.ChangeShapes Go.WideShapes Go.ChangeAt kit geom par flet Go.Deep
def GaP(n:Nat)(X:List Nat)(l:List Nat)(cd:Int)(w:World)(e:Ending)(w':World):Prop:=
 (∃A B d,e=.returned (.tuple #[.slice A n n,.slice B l.length d,.int .i64 cd])/\RdI .u8 w' A n (fun k=>(X.getD k 0:Nat))/\RdI .i64 w' B l.length (atZ l))/\New w w'
structure G0(B:Nat)(n s0 s1 s2 s3:Int)(PA:Option Addr)(m c:Nat)(W:World):Prop where
 q0:Boxed W B 3 (.int .i64 n)
 q1:Boxed W (B+1) 201 (.slice PA m c)
 q2:Blk W (B+1+1) 105 #[.int .i64 s0,.int .i64 s1,.int .i64 s2,.int .i64 s3]
 q3:Boxed W (B+1+1+1) 35 (.slice none 0 0)
 q4:Boxed W (B+1+1+1+1) 27 (.slice none 0 0)
 q5:Boxed W (B+1+1+1+1+1) 30 (.int .i64 0)
theorem Boxed.later{W W':World}{b:Nat}{t:TypeId}{v:Value}(h:Boxed W b t v)(hn:New W W'):Boxed W' b t v:=(hn.block b h.lt).trans h
section
variable {B:Nat}{n s0 s1 s2 s3:Int}{PA:Option Addr}{m c:Nat}{W W':World}
theorem G0.new(h:G0 B n s0 s1 s2 s3 PA m c W)(hn:New W W'):G0 B n s0 s1 s2 s3 PA m c W':=
 ⟨Boxed.later h.q0 hn,Boxed.later h.q1 hn,h.q2.new hn,Boxed.later h.q3 hn,Boxed.later h.q4 hn,Boxed.later h.q5 hn⟩
theorem G0.start(w:World):G0 w.heap.size n s0 s1 s2 s3 PA m c ((((((w.alloc (.cells #[.int .i64 n] 3)).alloc (.cells #[.slice PA m c] 201)).alloc (.cells #[.int .i64 s0,.int .i64 s1,.int .i64 s2,.int .i64 s3] 105)).alloc (.cells #[.slice none 0 0] 35)).alloc (.cells #[.slice none 0 0] 27)).alloc (.cells #[.int .i64 0] 30)):=by
 refine⟨?_,?_,?_,?_,?_,?_⟩
 ·exact(((((Boxed.new w _ _).alloc _).alloc _).alloc _).alloc _).alloc _
 ·have:=Boxed.new (w.alloc (.cells #[.int .i64 n] 3)) 201 (.slice PA m c)
  simp only[World.size_alloc]at this;exact(((this.alloc _).alloc _).alloc _).alloc _
 ·have:=Blk.fresh ((w.alloc (.cells #[.int .i64 n] 3)).alloc (.cells #[.slice PA m c] 201)) 105 #[.int .i64 s0,.int .i64 s1,.int .i64 s2,.int .i64 s3]
  simp only[World.size_alloc]at this;exact((this.alloc _).alloc _).alloc _
 ·have:=Boxed.new (((w.alloc (.cells #[.int .i64 n] 3)).alloc (.cells #[.slice PA m c] 201)).alloc (.cells #[.int .i64 s0,.int .i64 s1,.int .i64 s2,.int .i64 s3] 105)) 35 (.slice none 0 0)
  simp only[World.size_alloc]at this;exact(this.alloc _).alloc _
 ·have:=Boxed.new ((((w.alloc (.cells #[.int .i64 n] 3)).alloc (.cells #[.slice PA m c] 201)).alloc (.cells #[.int .i64 s0,.int .i64 s1,.int .i64 s2,.int .i64 s3] 105)).alloc (.cells #[.slice none 0 0] 35)) 27 (.slice none 0 0)
  simp only[World.size_alloc]at this;exact this.alloc _
 ·have:=Boxed.new (((((w.alloc (.cells #[.int .i64 n] 3)).alloc (.cells #[.slice PA m c] 201)).alloc (.cells #[.int .i64 s0,.int .i64 s1,.int .i64 s2,.int .i64 s3] 105)).alloc (.cells #[.slice none 0 0] 35)).alloc (.cells #[.slice none 0 0] 27)) 30 (.int .i64 0)
  simp only[World.size_alloc]at this;exact this
end
structure GL(base lb kb:Nat)(lo ke:List Nat)(lv kv:Value)(w:World):Prop where
 bl:Boxed w lb 27 lv
 bk:Boxed w kb 27 kv
 ol:w.ownsRow base 3 1 lv lo.length (lo.map comb.b_9)
 ok:w.ownsRow base 3 1 kv ke.length (ke.map comb.b_9)
 ne:lv.ownBlock=none\/lv.ownBlock≠kv.ownBlock
 ni:lb≠kb
 lt:lb<base/\kb<base
section
variable {base lb kb:Nat}{lo ke:List Nat}{lv kv:Value}{w w' w1 w2:World}
theorem GL.new(h:GL base lb kb lo ke lv kv w)(hn:New w w'):GL base lb kb lo ke lv kv w':=
 ⟨Boxed.later h.bl hn,Boxed.later h.bk hn,c_ h.ol hn,c_ h.ok hn,h.ne,h.ni,h.lt⟩
theorem a_Z(W:World)(b:Nat)(v:Value):W.grownBy (W.setCell ⟨b,0,none⟩ v) (some b):=k_ W b 0 v
theorem GL.lost(h:GL base lb kb lo ke lv kv w){o:Obj}{g cap x:Nat}
  (hown:w2.ownsRow base 3 1 (.slice (some ⟨g,0,none⟩) (lo.length+1) cap) (lo.length+1) (lo.map comb.b_9++[.int .i64 (x:Nat)])) (hgr:(w.alloc o).grownBy w2 lv.ownBlock) (hat:lv.ownBlock=some g\/w.heap.size<=g) :
  GL base lb kb (lo++[x]) ke (.slice (some ⟨g,0,none⟩) (lo.length+1) cap) kv (w2.setCell ⟨lb,0,none⟩ (.slice (some ⟨g,0,none⟩) (lo.length+1) cap)):=by
 have hs:=a_Z w2 lb (.slice (some ⟨g,0,none⟩) (lo.length+1) cap);have hlt:=h.lt;have hl:∀g',lv.ownBlock=some g'->base<=g':=fun g' e=>(h.ol.lt _ e).1;have hk:∀g',kv.ownBlock=some g'->base<=g'/\g'<w.heap.size:=fun g' e=>h.ok.lt _ e;have hkl:kv.ownBlock=none\/kv.ownBlock≠lv.ownBlock:=by
  rcases h.ne with h1|h1
  ·by_cases hn:kv.ownBlock=none
   ·exact .inl hn
   ·exact .inr (by rw[h1];exact hn)
  ·exact .inr (Ne.symm h1)
 refine⟨((h.bl.alloc o).kept hgr fun e=>by have:=hl _ e.symm;omega).set _,((h.bk.alloc o).kept hgr fun e=>by have:=hl _ e.symm;omega).kept hs (fun e=>h.ni (Option.some.inj e).symm),?_,?_,?_,h.ni,h.lt⟩
 ·rw[List.length_append,List.map_append]
  refine World.ownsRow.kept hown hs (.inr fun e=>?_);have h1:=(hown.lt g rfl).1;have:g=lb:=by simpa [Value.ownBlock]using e
  omega
 ·refine World.ownsRow.kept ((h.ok.alloc o).kept hgr hkl) hs ?_
  by_cases hn:kv.ownBlock=none
  ·exact .inl hn
  ·exact .inr fun e=>by have:=(hk _ e).1;omega
 ·refine .inr fun e=>?_
  have h1:=hk g e.symm;rcases hat with h2|h2
  ·rcases h.ne with h3|h3
   ·rw[h3]at h2;cases h2
   ·exact h3 (h2.trans e)
  ·omega
theorem GL.kept(h:GL base lb kb lo ke lv kv w){o:Obj}{g cap x:Nat}
  (hown:w2.ownsRow base 3 1 (.slice (some ⟨g,0,none⟩) (ke.length+1) cap) (ke.length+1) (ke.map comb.b_9++[.int .i64 (x:Nat)])) (hgr:(w.alloc o).grownBy w2 kv.ownBlock) (hat:kv.ownBlock=some g\/w.heap.size<=g) :
  GL base lb kb lo (ke++[x]) lv (.slice (some ⟨g,0,none⟩) (ke.length+1) cap) (w2.setCell ⟨kb,0,none⟩ (.slice (some ⟨g,0,none⟩) (ke.length+1) cap)):=by
 have hs:=a_Z w2 kb (.slice (some ⟨g,0,none⟩) (ke.length+1) cap);have hlt:=h.lt;have hl:∀g',kv.ownBlock=some g'->base<=g':=fun g' e=>(h.ok.lt _ e).1;have hk:∀g',lv.ownBlock=some g'->base<=g'/\g'<w.heap.size:=fun g' e=>h.ol.lt _ e;refine⟨((h.bl.alloc o).kept hgr fun e=>by have:=hl _ e.symm;omega).kept hs (fun e=>h.ni (Option.some.inj e)),((h.bk.alloc o).kept hgr fun e=>by have:=hl _ e.symm;omega).set _,?_,?_,?_,h.ni,h.lt⟩
 ·refine World.ownsRow.kept ((h.ol.alloc o).kept hgr h.ne) hs ?_
  by_cases hn:lv.ownBlock=none
  ·exact .inl hn
  ·exact .inr fun e=>by have:=(hk _ e).1;omega
 ·rw[List.length_append,List.map_append]
  refine World.ownsRow.kept hown hs (.inr fun e=>?_);have h1:=(hown.lt g rfl).1;have:g=kb:=by simpa [Value.ownBlock]using e
  omega
 ·refine .inr fun e=>?_
  have h1:=hk g e;rcases hat with h2|h2
  ·rcases h.ne with h3|h3
   ·rw[e]at h3;cases h3
   ·exact h3 (e.trans h2.symm)
  ·omega
end
def a_I(lo:Nat)(Ds:List Nat)(w:World):Prop:=Ds.Nodup/\∀D∈Ds,lo<=D/\w.heap[D]?=some (.deferred (some []))
abbrev s_w(Ds:List Nat):List Deferred:=Ds.map fun D=>{target:=.collected D,args:=#[]}
theorem a_I.nil(lo:Nat)(w:World):a_I lo [] w:=⟨List.nodup_nil,by simp⟩
theorem a_I.lt{lo:Nat}{Ds:List Nat}{w:World}(h:a_I lo Ds w){D:Nat}(hD:D∈Ds):D<w.heap.size:=(Array.getElem?_eq_some_iff.1 (h.2 D hD).2).1
theorem a_I.grown{lo:Nat}{Ds:List Nat}{w w':World}(h:a_I lo Ds w){row:Option Nat}(hg:w.grownBy w' row)(hr:∀D∈Ds,some D≠row):a_I lo Ds w':=
 ⟨h.1,fun D hD=>⟨(h.2 D hD).1,(hg.block D (h.lt hD) (hr D hD)).trans (h.2 D hD).2⟩⟩
theorem a_I.new{lo:Nat}{Ds:List Nat}{w w':World}(h:a_I lo Ds w)(hn:New w w'):a_I lo Ds w':=
 ⟨h.1,fun D hD=>⟨(h.2 D hD).1,(hn.block D (h.lt hD)).trans (h.2 D hD).2⟩⟩
theorem a_I.cons{lo:Nat}{Ds:List Nat}{w:World}{D:Nat}(h:a_I lo Ds w)(hD:w.heap[D]?=some (.deferred (some [])))(hlo:lo<=D)(hn:D ∉ Ds):a_I lo (D::Ds) w:=
 ⟨List.nodup_cons.2 ⟨hn,h.1⟩,fun E hE=>by rcases List.mem_cons.1 hE with rfl|hE;exact⟨hlo,hD⟩;exact h.2 E hE⟩
def h_Y(lo:Nat)(w w':World):Prop:=Below lo w w'/\∀(k:Nat) (cs:Array Value) (t:TypeId) (fr:Nat×Nat),w.heap[k]?=some (.cells cs t fr)->w'.heap[k]?=some (.cells cs t fr)
theorem e_5{n:Nat}{P:Program}{fn:Func}{tmps:Array Value}{R:Ending->World->Prop}{lo:Nat}:∀(Ds:List Nat) (w:World),lo<=w.heap.size->a_I lo Ds w ->
  (∀w',h_Y lo w w'->∃v,(results fn tmps).run P w'=.ok v w'/\R (.returned v) w')->LeavesInM Fence.wide n P fn tmps R (s_w Ds) .returning w
 |[],w,hlo,h,hf=>hf w ⟨Below.refl _ _,fun _ _ _ _ h=>h⟩
 |D::Ds,w,hlo,h,hf=>by
  have hD:=h.2 D (by simp)
  refine⟨by simp,.inl ⟨D,_,rfl,run_takeDeferred hD.2,?_⟩⟩
  have hg:=grownBy_putObj' w D (.deferred none);have hn:=List.nodup_cons.1 h.1;have hT:a_I lo Ds (w.putObj D (.deferred none)):=(a_I.grown (w:=w) ⟨hn.2,fun E hE=>h.2 E (by simp[hE])⟩ hg fun E hE e=>hn.1 (by cases e;exact hE))
  have hB:Below lo w (w.putObj D (.deferred none)):=(Below.refl lo w).grown hg hlo fun k e=>by cases e;exact hD.1
  refine e_5 Ds _ (Nat.le_trans hlo hg.size) hT fun w' hs=>hf w' ⟨hB.trans hs.1,fun k cs t fr hk=>hs.2 k cs t fr ?_⟩;refine(hg.block k (Array.getElem?_eq_some_iff.1 hk).1 fun e=>?_).trans hk;cases e;rw[hD.2]at hk;cases hk
structure GA(w0:World)(n s0 s1 s2 s3:Int)(PA:Option Addr)(m c bb cb base lb kb:Nat)(bcs:Array Value)(LA:Option Addr)(num cl dr pa ad:Nat)(Cn:Nat->Nat)(lo ke:List Nat)(lv kv:Value)(w:World):Prop where
 nw:New w0 w
 g0:G0 w0.heap.size n s0 s1 s2 s3 PA m c w
 bk:Blk w bb 297 bcs
 gl:GL base lb kb lo ke lv kv w
 col:w.ownsRow cb 175 4 (.slice LA num cl) num (a_U dr pa ad Cn num)
 sz:w0.heap.size+6<=bb/\bb<base/\w0.heap.size+6<=lb/\w0.heap.size+6<=kb/\bb≠lb/\bb≠kb
section
variable {w0 w w' w1 w2:World}{n s0 s1 s2 s3:Int}{PA:Option Addr}{m c bb cb base lb kb:Nat}{bcs:Array Value}{LA:Option Addr}{num cl dr pa ad:Nat}{Cn:Nat->Nat}{lo ke:List Nat}{lv kv:Value}
theorem G0.kept{B:Nat}(h:G0 B n s0 s1 s2 s3 PA m c w){row:Option Nat}(hg:w.grownBy w' row)(hr:∀r,row=some r->B+6<=r):G0 B n s0 s1 s2 s3 PA m c w':=
 ⟨h.q0.kept hg fun e=>by have:=hr _ e.symm;omega,h.q1.kept hg fun e=>by have:=hr _ e.symm;omega,h.q2.grown hg fun e=>by have:=hr _ e;omega,
  h.q3.kept hg fun e=>by have:=hr _ e.symm;omega,h.q4.kept hg fun e=>by have:=hr _ e.symm;omega,h.q5.kept hg fun e=>by have:=hr _ e.symm;omega⟩
theorem GA.new(h:GA w0 n s0 s1 s2 s3 PA m c bb cb base lb kb bcs LA num cl dr pa ad Cn lo ke lv kv w)(hn:New w w'):GA w0 n s0 s1 s2 s3 PA m c bb cb base lb kb bcs LA num cl dr pa ad Cn lo ke lv kv w':=
 ⟨h.nw.next hn,h.g0.new hn,h.bk.new hn,h.gl.new hn,c_ h.col hn,h.sz⟩
theorem g_4{b e s n' b':Nat}{v:Value}{xs:List Value}{cs:Array Value}{t:TypeId}(h:w.ownsRow b e s v n' xs)(hb:Blk w b' t cs)(hne:e≠t)(u:Value):(w.setCell ⟨b',0,none⟩ u).ownsRow b e s v n' xs:=
 ownsRow_setCell_other h (a:=⟨b',0,none⟩) (m_i h hb hne) u
theorem GA.lbox(h:GA w0 n s0 s1 s2 s3 PA m c bb cb base lb kb bcs LA num cl dr pa ad Cn lo ke lv kv w){o:Obj}(hgr:(w.alloc o).grownBy w2 lv.ownBlock):Boxed w2 lb 27 lv:=
 (h.gl.bl.alloc o).kept hgr fun e=>by have:=(h.gl.ol.lt _ e.symm).1;have:=h.gl.lt;omega
theorem GA.kbox(h:GA w0 n s0 s1 s2 s3 PA m c bb cb base lb kb bcs LA num cl dr pa ad Cn lo ke lv kv w){o:Obj}(hgr:(w.alloc o).grownBy w2 kv.ownBlock):Boxed w2 kb 27 kv:=
 (h.gl.bk.alloc o).kept hgr fun e=>by have:=(h.gl.ok.lt _ e.symm).1;have:=h.gl.lt;omega
theorem GA.lost(h:GA w0 n s0 s1 s2 s3 PA m c bb cb base lb kb bcs LA num cl dr pa ad Cn lo ke lv kv w){o:Obj}{g cap x:Nat}
  (hown:w2.ownsRow base 3 1 (.slice (some ⟨g,0,none⟩) (lo.length+1) cap) (lo.length+1) (lo.map comb.b_9++[.int .i64 (x:Nat)])) (hgr:(w.alloc o).grownBy w2 lv.ownBlock) (hat:lv.ownBlock=some g\/w.heap.size<=g) :
  GA w0 n s0 s1 s2 s3 PA m c bb cb base lb kb bcs LA num cl dr pa ad Cn (lo++[x]) ke (.slice (some ⟨g,0,none⟩) (lo.length+1) cap) kv (w2.setCell ⟨lb,0,none⟩ (.slice (some ⟨g,0,none⟩) (lo.length+1) cap)):=by
 have hlo:∀r,lv.ownBlock=some r->base<=r:=fun r e=>(h.gl.ol.lt _ e).1;have hs:=a_Z w2 lb (.slice (some ⟨g,0,none⟩) (lo.length+1) cap);have h6:=h.sz;have hlt:=h.gl.lt;have hb2:Boxed w2 lb 27 lv:=(h.gl.bl.alloc o).kept hgr fun e=>by have:=hlo _ e.symm;omega
 have hc2:=d_c (h.col.alloc o) (h.gl.ol.alloc o) (by decide) hgr
 refine⟨?_,(((h.g0.new ((New.refl w).alloc o)).kept hgr fun r e=>by have:=hlo r e;omega).kept hs fun r e=>by cases e;omega),((h.bk.alloc o).grown hgr fun e=>by have:=hlo _ e;omega).grown hs (fun e=>by cases e;omega),h.gl.lost hown hgr hat,g_4 hc2 hb2 (by decide) _,h.sz⟩
 exact((h.nw.alloc o).grown hgr fun r e=>by have:=hlo r e;omega).set (by simp;omega) _
theorem GA.kept(h:GA w0 n s0 s1 s2 s3 PA m c bb cb base lb kb bcs LA num cl dr pa ad Cn lo ke lv kv w){o:Obj}{g cap x:Nat}
  (hown:w2.ownsRow base 3 1 (.slice (some ⟨g,0,none⟩) (ke.length+1) cap) (ke.length+1) (ke.map comb.b_9++[.int .i64 (x:Nat)])) (hgr:(w.alloc o).grownBy w2 kv.ownBlock) (hat:kv.ownBlock=some g\/w.heap.size<=g) :
  GA w0 n s0 s1 s2 s3 PA m c bb cb base lb kb bcs LA num cl dr pa ad Cn lo (ke++[x]) lv (.slice (some ⟨g,0,none⟩) (ke.length+1) cap) (w2.setCell ⟨kb,0,none⟩ (.slice (some ⟨g,0,none⟩) (ke.length+1) cap)):=by
 have hlo:∀r,kv.ownBlock=some r->base<=r:=fun r e=>(h.gl.ok.lt _ e).1;have hs:=a_Z w2 kb (.slice (some ⟨g,0,none⟩) (ke.length+1) cap);have h6:=h.sz;have hlt:=h.gl.lt;have hb2:Boxed w2 kb 27 kv:=(h.gl.bk.alloc o).kept hgr fun e=>by have:=hlo _ e.symm;omega
 have hc2:=d_c (h.col.alloc o) (h.gl.ok.alloc o) (by decide) hgr
 refine⟨?_,(((h.g0.new ((New.refl w).alloc o)).kept hgr fun r e=>by have:=hlo r e;omega).kept hs fun r e=>by cases e;omega),((h.bk.alloc o).grown hgr fun e=>by have:=hlo _ e;omega).grown hs (fun e=>by cases e;omega),h.gl.kept hown hgr hat,g_4 hc2 hb2 (by decide) _,h.sz⟩
 exact((h.nw.alloc o).grown hgr fun r e=>by have:=hlo r e;omega).set (by simp;omega) _
end
structure GX(w0:World)(hi n b3 b4 b5:Nat)(dt b:List Nat)(Ds:List Nat)(w:World):Prop where
 nw:New w0 w
 tk:a_I w0.heap.size Ds w
 x3:∃A,Boxed w b3 35 (.slice A n n)/\RdI .u8 w A n (fun k=>(dt.getD k 0:Nat))/\∀a,A=some a->hi<=a.block
 x4:∃B cap,Boxed w b4 27 (.slice B b.length cap)/\RdI .i64 w B b.length (atZ b)/\∀a,B=some a->hi<=a.block
 x5:Boxed w b5 30 (.int .i64 0)
theorem c_K{k:IntKind}{w w':World}{A:Option Addr}{n hi:Nat}{Z:Nat->Int}{row:Option Nat}(h:RdI k w A n Z)(hg:w.grownBy w' row)(ha:∀a,A=some a->hi<=a.block)(hr:∀r,row=some r->r<hi):RdI k w' A n Z:=
 ⟨h.1,fun h0=>by
  obtain⟨b,off,rfl,hb,hc⟩:=h.2 h0;refine⟨b,off,rfl,Nat.lt_of_lt_of_le hb hg.size,fun i hi'=>?_⟩;have hbl:=hg.block b hb fun e=>by have:=hr _ e.symm;have:=ha _ rfl;simp at this;omega
  rw[<-hc i hi'];simp only[World.cell?,hbl]⟩
section
variable {w0 w w':World}{hi n b3 b4 b5:Nat}{dt b:List Nat}{Ds:List Nat}
theorem GX.kept(h:GX w0 hi n b3 b4 b5 dt b Ds w){lo:Nat}{row:Option Nat}(hg:w.grownBy w' row)(hr:∀r,row=some r->lo<=r/\r<hi)(h0:w0.heap.size<=lo)(h3:b3<lo)(h4:b4<lo)(h5:b5<lo)(hD:∀D∈Ds,D<lo):GX w0 hi n b3 b4 b5 dt b Ds w':=by
 obtain⟨A,a1,a2,a3⟩:=h.x3;obtain⟨B,cB,c1,c2,c3⟩:=h.x4;refine⟨h.nw.grown hg fun r e=>by have:=hr r e;omega,h.tk.grown hg fun D hD' e=>by have:=hr D e.symm;have:=hD D hD';omega,⟨A,a1.kept hg fun e=>by have:=hr _ e.symm;omega,c_K a2 hg a3 fun r e=>(hr r e).2,a3⟩,
  ⟨B,cB,c1.kept hg fun e=>by have:=hr _ e.symm;omega,c_K c2 hg c3 fun r e=>(hr r e).2,c3⟩,h.x5.kept hg fun e=>by have:=hr _ e.symm;omega⟩
end
theorem h_Y.cell{lo:Nat}{w w':World}(h:h_Y lo w w'){a:Addr}{v:Value}(hc:w.cell? a=some v):w'.cell? a=some v:=by
 unfold World.cell? at hc ⊢;cases hb:w.heap[a.block]? with
 |none=>rw[hb]at hc;simp at hc
 |some o=>
  cases o with
  |cells cs t fr=>rw[h.2 _ _ _ _ hb];rw[hb]at hc;exact hc
  |_=>rw[hb]at hc;simp at hc
theorem h_Y.rdI{lo:Nat}{k:IntKind}{w w':World}(h:h_Y lo w w'){A:Option Addr}{n:Nat}{Z:Nat->Int}(hr:RdI k w A n Z):RdI k w' A n Z:=
 ⟨hr.1,fun h0=>by
  obtain⟨b,off,rfl,hb,hc⟩:=hr.2 h0;exact⟨b,off,rfl,Nat.lt_of_lt_of_le hb h.1.size,fun i hi=>h.cell (hc i hi)⟩⟩
theorem o_v{F:Fence}{n:Nat}{P:Program}{c:Code}{Q:Exit->Act->World->Prop}{a:Act}{w:World}(R:Act->Act->World->Prop)
  (h1:c.wpIn F n P (fun e a' w'=>e=.normal/\R a a' w') a w) (h2:∀a' w',R a a' w'->Q .normal a' w'):c.wpIn F n P Q a w:=
 wpIn_mono h1 fun e a' w' h=>by obtain⟨rfl,hr⟩:=h;exact h2 a' w' hr
theorem h_K(x:List Nat):x.map comb.b_9=E_ .i64 (fun j=>x.getD j 0) x.length:=by
 apply List.ext_getElem?;intro i;unfold E_;rw[List.getElem?_map,List.getElem?_map]
 by_cases h:i<x.length
 ·rw[List.getElem?_eq_getElem h,List.getElem?_range h]
  simp[List.getD,h,comb.b_9]
 ·rw[List.getElem?_eq_none (by omega),List.getElem?_eq_none (by simp;omega)]
  rfl
end stripe
namespace stripe
set_option maxRecDepth 100000
open Go.ChangeShapes Go.WideShapes Go.ChangeAt kit geom par Go.Deep
theorem o_m(v:Value)(lo:List Nat)(base:Nat)(w:World)(h:w.ownsRow base 3 1 v lo.length (lo.map comb.b_9))(hl:lo.length<=8192) :
  Calls prog 176 #[v] w fun e w'=>∃v',e=.returned v'/\w'.ownsRow w.heap.size 3 1 v' lo.length (lo.map comb.b_9)/\New w w':=by
 rcases h.2 with⟨rfl,h0⟩|⟨g,cap,cur,rfl,hb,hg,_⟩
 ·have hn:Hid (w.ownsRow w.heap.size 3 1 (.slice none 0 0) lo.length (lo.map comb.b_9)):=by
   have:lo=[]:=List.eq_nil_of_length_eq_zero h0;subst this;exact World.ownsRow_nil _ _ _ _
  have hnb:=fun w=>Lib.run_eql_slice_nil (P:=prog) w 27 3 none 0 0 0 0 underlying27;clear h;go_enter func176,ntmps176;go_wp2;go_ret;exact⟨_,rfl,hn.o,New.refl _⟩
 ·refine comb.g_Q g 0 lo.length cap lo w (fun j u hu=>?_) rfl hl ?_
  ·have:=h.cells rfl j u hu
   rw[i_]at this;exact this
  ·rcases Nat.lt_or_ge g w.heap.size with h1|h1
   ·exact h1
   ·rw[Array.getElem?_eq_none h1]at hg;cases hg
theorem k_9{w:World}(base:Nat)(v:Value)(n:Nat)(xs:List Value)(hown:w.ownsRow base 3 1 v n xs)(X:Option Addr)(m c:Nat)(l:List Nat)(hl:l.length=m)
  (hX:(X=none/\m=0/\c=0)\/∃b off,X=some ⟨b,off,none⟩/\∀i,i<m->w.cell? ⟨b,off+i,none⟩=some (.int .i64 (l.getD i 0:Nat))) (hn:n+m<=8192) (hb:base<=w.heap.size) :
  ∃v' w',(Builtin.append_ #[27,27] 27 #[v,.slice X m c]).run prog w=.ok v' w'/\w'.ownsRow base 3 1 v' (n+m) (xs++l.map comb.b_9)/\w.grownBy w' v.ownBlock:=by
 obtain⟨i1,hj0,hy0,hy1,hy2⟩:=info_parts l_7;rcases hX with⟨rfl,rfl,rfl⟩|⟨b,off,rfl,hc⟩
 ·have:l=[]:=List.eq_nil_of_length_eq_zero hl
  subst this;exact⟨v,w,run_append_owned_none w base 27 27 3 i1 1 underlying27 hj0 v n xs hown,by simpa using hown,⟨rfl,rfl,rfl,Nat.le_refl _,fun _ _ _=>rfl⟩⟩
 ·obtain⟨v',w',h1,h2,h3,_⟩:=run_append_own w base 27 27 3 i1 _ 1 8 underlying27 hj0 hy0 hy1 hy2 rfl (by decide) v n xs hown ⟨b,off,none⟩ m c (l.map comb.b_9) (by simp[hl]) (fun j u hu=>by
   rw[i_];rw[List.getElem?_map]at hu;cases hj:l[j]? with
   |none=>rw[hj]at hu;cases hu
   |some y=>
    rw[hj]at hu;cases hu;have hlt:j<l.length:=(List.getElem?_eq_some_iff.1 hj).1;rw[hc j (by omega)]
    have he:l.getD j 0=y:=by simp[List.getD,hj]
    rw[he];rfl) (fun u hu=>by
   obtain⟨y,_,rfl⟩:=List.mem_map.1 hu;rfl) (by unfold maxLen;omega) (by omega) hb
  exact⟨v',w',h1,h2,h3⟩
theorem k_n{P:Program}{ops:Array Oper}{Q:Exit->Act->World->Prop}{i:Nat}{K:Act->World->Prop}{a:Act}{w:World}(l n:Nat)(hd:∀o,ops[i]?=some o->∀c,o.op≠.defer c)(hQ:¬LetsOut Q)(h:wpOp P ops Q i K a w) :
  wpOpIn (Fence.wide.inRound l) n P ops Q i K a w:=by
 unfold wpOp at h;unfold wpOpIn;cases ho:ops[i]? with
 |none=>rw[ho]at h;exact h
 |some o=>
  rw[ho]at h;simp only at h ⊢;split
  ·rename_i hw
   rw[if_pos hw]at h;rcases h with h|h
   ·refine⟨fun _ _=>trivial,?_⟩
    rw[Oper.semAt_plain _ _ _ (hd o ho)];unfold Oper.wp at h;generalize (execOp a.eval o).run P w=r at h ⊢;cases r with
    |ok x w'=>
     cases x with
     |value v=>exact h
     |skip=>exact h
     |defer d=>exact h
     |enter f args=>exact⟨fun hh=>(by cases hh),CallsIn.inRound l (callsIn_wide.2 h)⟩
     |row r args=>exact⟨fun hh=>(by cases hh),fun c cs _=>let ⟨v,w',r,s⟩:=h c cs;⟨v,w',r,stepsIn_wide.2 s⟩⟩
     |_=>exact h.elim
    |halt x w'=>cases x<;>first|exact h|exact h.elim
   ·exact absurd h.2 hQ
  ·rename_i hw
   rw[if_neg hw]at h;exact⟨fun _ _=>trivial,h⟩
theorem e_V{P:Program}{md:Region.Mode}{ops:Array Oper}{Q:Exit->Act->World->Prop}(l n:Nat)(hd:∀(i:Nat) o,ops[i]?=some o->∀c,o.op≠.defer c)(hQ:¬LetsOut Q):∀(fuel:Nat) (listed:Array Bool) (a:Act) (w:World),
  wpAny P md ops Q fuel listed a w->wpAnyIn (Fence.wide.inRound l) n P md ops Q fuel listed a w
 |0,_,_,_,h=>h
 |fuel+1,listed,a,w,h=>⟨h.1,fun i hi=>k_n l n (hd i) hQ (wpOp_mono (fun a' w' h'=>e_V l n hd hQ fuel _ a' w' h') (h.2 i hi))⟩
def i_l(ops:Array Oper):Bool:=ops.all fun o=>match o.op with | .defer _=>false|_=>true
theorem i_k{ops:Array Oper}(h:i_l ops=true)(i:Nat)(o:Oper)(ho:ops[i]?=some o):∀c,o.op≠.defer c:=fun c hc=>by
 unfold i_l at h;rw[Array.all_eq_true]at h;obtain⟨hi,rfl⟩:=Array.getElem?_eq_some_iff.1 ho;have:=h i hi;rw[hc]at this;cases this
theorem i_c{P:Program}{id l n:Nat}{ops:Array Oper}{Q:Exit->Act->World->Prop}{a:Act}{w:World}(S:World->Prop)(hm:P.follows .mixedOrders=true)(hd:i_l ops=true)(hQ:¬LetsOut Q)(hS:S w.drew)
  (h:S w.drew->wpAnyH P .any ops Q S ops.size (Array.replicate ops.size false) a w.drew):(Code.region id ops true).wpIn (Fence.wide.inRound l) n P Q a w:=
 wpIn_region_any hm (e_V l n (i_k hd) hQ _ _ _ _ (wpAny_of_held _ _ _ _ (h hS)))
theorem g_R{P:Program}{o:Oper}{a:Act}{K:Act->World->Prop}{Q:Exit->Act->World->Prop}{w w':World}{v:Value}(s x:Operand)(t:TypeId)
  (ho:o.op=.call {callee:=.builtin .append,args:=#[s,x],argTypes:=#[t,t]}) (sv xv:Value) (hs:a.eval s=sv) (hx:a.eval x=xv) (hr:(Builtin.append_ #[t,t] o.type #[sv,xv]).run P w=.ok v w')
  (h:K (a.put o.dst v) w'):o.wp P a w K Q:=by
 unfold Oper.wp execOp;simp only[ho,resolve,invoke,builtin,Sem.run_bind,Sem.run_pure,Result.andThen_ok,List.map_toArray,List.map_cons,List.map_nil,hs,hx,hr];exact h
end stripe
end Go.Proofs.YtojcoaekhiadcaaGreat
