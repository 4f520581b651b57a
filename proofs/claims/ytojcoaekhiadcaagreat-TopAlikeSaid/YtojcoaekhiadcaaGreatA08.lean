import Derived.Test.YtojcoaekhiadcaaGreatA01
import Derived.Test.YtojcoaekhiadcaaGreatA02
import Derived.Test.YtojcoaekhiadcaaGreatA05
import Derived.Deep.RegionLaw
import Derived.Test.YtojcoaekhiadcaaGreatA06
import Derived.Lib.SliceRun
import Derived.Deep.RegionHeld3
set_option linter.unusedVariables false
set_option linter.unusedSimpArgs false
namespace Go.Proofs.YtojcoaekhiadcaaGreat
open Tryz Go.RowKit
namespace stripe
set_option maxRecDepth 100000
open Go.ChangeShapes Go.WideShapes Go.ChangeAt kit geom Go.Deep
theorem infoU8:(prog.info? 5).map (fun i=>(i.zero,i.size,i.bytes))=some (some (.int .u8 0),1,1):=by kernel_rfl
theorem e_Z(n:Nat)(hn:n<=4096)(w:World):Calls prog 167 #[.int .i64 n] w fun e w'=>e=.returned (.int .i64 ((n+127)/128:Nat))/\w=w':=by
 go_enter func167,ntmps167;go_wp2;go_ret;exact⟨b_e (by omega),rfl⟩
theorem n_k(n:Nat)(hn:n<=maxLen)(w:World):Calls prog 213 #[.int .i64 n] w fun e w'=>e=.returned (.bool (decide (1<=n/\n<=4096)))/\w=w':=by
 unfold maxLen at hn
 by_cases h:1<=n/\n<=4096
 ·have h1:(1:Int)<=(n:Int):=by omega
  have h2:(n:Int)<=4096:=by omega
  rw[decide_eq_true h];go_enter func213,ntmps213;go_wp2;go_ret;exact⟨rfl,rfl⟩
 ·rw[decide_eq_false h]
  by_cases h1:(1:Int)<=(n:Int)
  ·have h2:¬(n:Int)<=4096:=by omega
   clear h;go_enter func213,ntmps213;go_wp2;go_ret;exact⟨rfl,rfl⟩
  ·clear h
   go_enter func213,ntmps213;go_wp2;go_ret;exact⟨rfl,rfl⟩
theorem Clone_any(b off n c:Nat)(f:Nat->Nat)(w:World)(h:∀j,j<n->w.cell? ⟨b,off+j,none⟩=some (.int .u8 (f j:Nat)))(hn:0<n)(hn2:n<=8192)(hb:b<w.heap.size) :
  Calls prog 133 #[.slice (some ⟨b,off,none⟩) n c] w fun e w'=>(∃g cap,e=.returned (.slice (some ⟨g,0,none⟩) n cap)/\(n<=cap/\cap<=maxLen)/\m_ 5 .u8 w' g n f/\w.heap.size<=g)/\New w w':=by
 obtain⟨i0,hi0,hz0,hz1,hz2⟩:=info_parts infoU8;have hsrc:Hid (∀j u,(E_ .u8 f n)[j]?=some u->(w.alloc (.cells #[] 5)).cell? ((⟨b,off,none⟩:Addr).add j)=some u):=fun j u hu=>by
  have:=c_R h j u hu;rw[i_]at this ⊢;exact(((New.refl w).alloc _).cell (p:=⟨b,off+j,none⟩) hb).trans this
 have hone:=Hd (c_S .u8 f n);have hlen:Hid ((E_ .u8 f n).length=n):=b_y .u8 f n;have hlit:=World.ownsRow_lit (e:=5) (size:=1) w #[] 0 (Nat.le_refl _) (by unfold maxLen;omega) rfl
 have hnb:=fun w=>Lib.run_eql_slice_nil (P:=prog) w 35 5 (some ⟨b,off,none⟩) n c 0 0 underlying35;clear h;go_enter func133,ntmps133;go_wp2_with (at_builtin;refine wpList_append_own _ rfl _ _ 35 rfl w.heap.size 5 i0 _ 1 1 underlying35 hi0 hz0 hz1 hz2 rfl (by decide) (Value.slice (some ⟨w.heap.size,0,none⟩) 0 0) 0 [] rfl hlit ⟨b,off,none⟩ n c (E_ .u8 f n) rfl (by rw[hlen.o];omega) hsrc.o hone.o (by unfold maxLen;omega) (by omega) (by simp) ?_;intro v3 w3 hown3 hgrow hnil;obtain⟨g3,c3,rfl,hg3a,hg3b⟩:=hown3.form (by omega))
 have hgA:(w.alloc (.cells #[] 5)).grownBy w3 (some w.heap.size):=hgrow;have hN:New w w3:=(New.refl w).append' hgA (fun g hg=>by cases hg;exact Nat.le_refl _)
 rw[List.nil_append,Nat.zero_add]at hown3;have hr:=m_.of_own hown3;have hcap:=(h_ hown3);obtain⟨_,_,he,hle,hlm,_⟩:=hcap;cases he;have hfin:Hid (m_ 5 .u8 w3 g3 n f/\w.heap.size<=g3/\(n<=c3/\c3<=maxLen)/\New w w3):=⟨hr,hg3a,⟨hle,hlm⟩,hN⟩;clear hgrow hnil hown3 hr;go_ret;exact⟨⟨g3,c3,rfl,hfin.o.2.2.1,hfin.o.1,hfin.o.2.1⟩,hfin.o.2.2.2⟩
theorem size_any(LA:Option Addr)(num cl base dr pa ad c Lg p:Nat)(C:Nat->Nat)(w:World)(h:w.ownsRow base 175 4 (.slice LA num cl) num (a_U dr pa ad C num))(hc:c<num)(hn:num<=8)(hC:C c<=32) :
  Calls prog 168 #[.agg #[.slice LA num cl,.int .i64 p,.int .i64 Lg],.int .i64 c] w fun e w'=>e=.returned (.int .i64 (128*C c:Nat))/\New w w':=by
 obtain⟨A,c',he,_,_,hA,hcell⟩:=h_ h;cases he;obtain⟨g,rfl,_,hg⟩:=hA (by omega)
 have hx:=hcell g rfl (c*4+2) _ (by rw[colL_at dr pa ad C num c 2 hc (by omega)];rfl)
 have hx2:=(((New.refl w).alloc (.cells #[.slice (some ⟨g,0,none⟩) num cl,.int .i64 p,.int .i64 Lg] 297)).cell (p:=⟨g,c*4+2,none⟩) hg).trans hx;have hci:(c:Int)<(num:Int):=by omega
 obtain⟨q,hq⟩:∃q,Hid (q=C c):=⟨_,rfl⟩;rw[<-hq.o]at hx2 hC ⊢;clear hA hcell hx h;go_enter func168,ntmps168;go_wp2;go_ret;exact⟨b_e (by omega),(New.refl w).alloc _⟩
theorem l_d(LA:Option Addr)(num cl p Lg b n c:Nat)(f:Nat->Nat)(w:World)(h:m_ 5 .u8 w b n f)(hn:n<=Lg)(hL:Lg<=4096) :
  Calls prog 169 #[.agg #[.slice LA num cl,.int .i64 p,.int .i64 Lg],.slice (some ⟨b,0,none⟩) n c] w fun e w'=>(∃g,e=.returned (.slice (some ⟨g,0,none⟩) Lg Lg)/\m_ 5 .u8 w' g Lg (fun k=>if k<n then f k else 0)/\w.heap.size<=g)/\New w w':=by
 have hmk:=run_make_row' (P:=prog) 35 5 (.int .u8 0) 1 underlying35 infoU8 rfl .i64 .i64 Lg (by omega) (by omega)
 obtain⟨bx,hbx⟩:∃bx:Obj,bx=.cells #[.slice LA num cl,.int .i64 p,.int .i64 Lg] 297:=⟨_,rfl⟩;have hN1:New w (w.alloc bx):=(New.refl w).alloc _;have hr2:∀j,j<n->((w.alloc bx).alloc (.cells (madeCells #[.int .u8 0] Lg) 5)).cell? ⟨b,0+j,none⟩=some (.int .u8 (f j:Nat)):=fun j hj=>by
  rw[Nat.zero_add];exact(h.new (hN1.alloc _)).cell hj
 have hmade:((w.alloc bx).alloc (.cells (madeCells #[.int .u8 0] Lg) 5)).rowIs (w.heap.size+1) 5 Lg (fun _=>.int .u8 0):=by
  have:=World.rowIs_made (w.alloc bx) (.int .u8 0) Lg 5;simpa using this
 rw[hbx]at hmade hr2 hN1;replace hmade:=Hd hmade;replace hr2:=Hd hr2;have hszI:Hid ((prog.info? 5).map (·.size)=some 1):=by
  show _=_
  kernel_rfl
 have hmin:Hid (n=Nat.min n Lg):=(Nat.min_eq_left hn).symm;clear h hbx bx;go_enter func169,ntmps169;go_wp2_with (with_reducible refine T_ rfl (.tmp 9) (.tmp 10) 35 35 rfl 5 underlying35 hszI.o (w.heap.size+1) 0 Lg 5 _ hmade.o (some ⟨w.heap.size+1,0,none⟩) (some ⟨b,0,none⟩) Lg Lg n c n (fun j=>.int .u8 (f j:Nat)) rfl rfl hmin.o (fun _=>⟨rfl,b,0,rfl,hr2.o⟩) (by omega) (fun j _=>rfl) ?_;intro w2 hr3 hg2)
 have hN2:New w w2:=(hN1.alloc _).grown1 hg2 (by omega)
 have hrow:Hid (m_ 5 .u8 w2 (w.heap.size+1) Lg (fun k=>if k<n then f k else 0)):=m_.of_rowIs hr3.o (Nat.le_refl _) fun j hj=>by
  unfold cpF
  by_cases e:j<n
  ·rw[if_pos ⟨Nat.zero_le _,by omega⟩,if_pos e];rfl
  ·rw[if_neg (by omega),if_neg e];rfl
 go_ret;exact⟨⟨_,rfl,hrow.o,by omega⟩,hN2⟩
def o_r:Array Value:=#[.slice none 0 0,.int .i64 0,.int .i64 0]
set_option maxHeartbeats 1000000 in
theorem h_k(dr pa ad n wd ct:Nat)(h1:2<=dr)(h2:dr<=8)(h3:1<=pa)(h4:pa<=3)(h5:dr=pa+wd)(h6:1<=wd)(h7:ad<=65536)(h:1<=n/\n<=4096)(hct:ct=(n+127)/128)(w:World) :
  Calls prog 166 #[.int .i64 dr,.int .i64 pa,.int .i64 ad,.int .i64 n] w fun e w'=>(∃A c,e=.returned (.tuple #[.agg #[.slice A (c_Q dr pa ct wd) c,.int .i64 pa,.int .i64 (128*G_ pa ct wd 0:Nat)],.int .i64 0]) /\
   w'.ownsRow (w.heap.size+1) 175 4 (.slice A (c_Q dr pa ct wd) c) (c_Q dr pa ct wd) (a_U dr pa ad (G_ pa ct wd) (c_Q dr pa ct wd)))/\New w w':=by
 have hd:decide (1<=n/\n<=4096)=true:=decide_eq_true h;have hx0:Blk (w.alloc (.cells o_r 297)) w.heap.size 297 o_r:=Blk.fresh _ _ _;have hx:=Hd hx0;have hnm:n<=maxLen:=by unfold maxLen;omega
 have hsec:=Hd (fun w=>e_Z n h.2 w);have hc1:1<=ct:=by omega
 have hc2:ct<=32:=by omega
 have hcol:=Hd (fun w=>g_P dr pa ad ct wd h1 h2 h3 h4 h5 h6 h7 hc1 hc2 w);have hnum:=f_t (pa:=pa) h6 hc1;have hdc:=e_M h6 hc1;have hdl:=h_M h6 hc1;rw[<-h5]at hnum;have hc0:=e_g (pa:=pa) h6 hc1 hc2 h3;rw[<-hct]at hsec;obtain⟨num,hnn⟩:∃num,Hid (num=c_Q dr pa ct wd):=⟨_,rfl⟩;rw[<-hnn.o]at hcol hnum ⊢;have hn8:num<=8:=by omega
 have hn1:1<=num:=by omega
 obtain⟨q,hq⟩:∃q,Hid (q=G_ pa ct wd 0):=⟨_,rfl⟩;rw[<-hq.o]at hc0 ⊢;clear h hx0 h5 hct hnum hdc hdl;go_enter func166,ntmps166;go_wp2_with fail;refine(n_k n hnm _).mono ?_;rw[hd];rintro e w1 ⟨rfl,rfl⟩;go_wp2_with fail;refine(hsec.o _).mono ?_;rintro e w1 ⟨rfl,rfl⟩;go_wp2_with fail;refine(hcol.o _).mono ?_;rintro e w2 ⟨v,rfl,hown,hn2⟩;have hx2:=Hd (hx.o.new hn2);have hN2:New w w2:=New.of_alloc hn2;obtain⟨A,c,rfl,_,_,hA,hcell⟩:=h_ hown;obtain⟨g,rfl,hg1,hg⟩:=hA (by omega)
 have hz:=hcell g rfl (0*4+2) _ (by rw[colL_at dr pa ad _ num 0 2 (by omega) (by omega)];rfl)
 rw[<-hq.o]at hz;simp at hz hg1;have hown2:w2.ownsRow (w.heap.size+1) 175 4 (.slice (some ⟨g,0,none⟩) num c) num (a_U dr pa ad (G_ pa ct wd) num):=by simpa using hown
 have hrow2:=fun cs:Array Value=>hown2.kept (w':=w2.setRow w.heap.size cs) (row:=some w.heap.size) ⟨rfl,rfl,rfl,by simp,fun k _ hk=>setRow_other w2 w.heap.size k _ (fun e=>hk (by rw[e]))⟩ (.inr (by simp[Value.ownBlock];omega))
 replace hrow2:=Hd hrow2;have hn0:0<num:=by omega
 have hn0i:(0:Int)<(num:Int):=by omega
 have hmul:(q:Int)*128=((128*q:Nat):Int):=by omega
 clear hn2 hA hcell hown;go_wp2_with (refine wpList_store_row rfl 297 _ _ rfl w.heap.size #[.slice (some ⟨g,0,none⟩) num c,.int .i64 pa,.int .i64 (128*q:Nat)] rfl rfl 297 o_r hx2.o (by kernel_rfl) rfl (by simp[Value.oneCell']) ?_)
 exact bodyPost_ret (v:=.tuple #[.agg #[.slice (some ⟨g,0,none⟩) num c,.int .i64 pa,.int .i64 (128*q:Nat)],.int .i64 0]) (U_ results166 _ _ w.heap.size 297 #[.slice (some ⟨g,0,none⟩) num c,.int .i64 pa,.int .i64 (128*q:Nat)] _ rfl (hx2.o.row _) underlying297 rfl (by kernel_rfl)) rfl
  ⟨⟨_,c,rfl,hrow2.o _⟩,hN2.row (Nat.le_refl _) _⟩
open par
theorem i_v:(prog.info? 35).map (fun i=>(i.zero,i.size,i.bytes))=some (some (.slice none 0 0),1,24):=by kernel_rfl
def rowsC(G C:Nat->Nat)(m k:Nat):List Value:=(List.range k).map fun i=>.slice (some ⟨G i,0,none⟩) m (C i)
theorem rowsC_succ(G C:Nat->Nat)(m k g c:Nat):rowsC (fun i=>if i=k then g else G i) (fun i=>if i=k then c else C i) m (k+1)=rowsC G C m k++[.slice (some ⟨g,0,none⟩) m c]:=by
 unfold rowsC;rw[List.range_succ,List.map_append];congr 1
 ·apply List.map_congr_left
  intro i hi;have:i≠k:=by have:=List.mem_range.1 hi;omega
  simp[this]
 ·simp
def g_6(pa ct wd j:Nat)(G C:Nat->Nat):Nat->Value:=fun c=>if pa<=c/\c<pa+j then .slice (some ⟨G (c-pa),0,none⟩) (128*G_ pa ct wd c) (C (c-pa))else .slice none 0 0
structure LSt(w0:World)(bb rb ob:Nat)(LA:Option Addr)(num cl dr pa ad ct wd Lg len:Nat)(X:Nat->Nat)(j jw:Nat)(G C Gw:Nat->Nat)(sv:Value)(w:World):Prop where
 nw:New w0 w
 bk:Blk w bb 297 #[.slice LA num cl,.int .i64 pa,.int .i64 Lg]
 col:w.ownsRow (w0.heap.size+1) 175 4 (.slice LA num cl) num (a_U dr pa ad (G_ pa ct wd) num)
 rest:m_ 5 .u8 w rb (128*ct) (a_9 X len)
 o:w.rowIs ob 35 num (g_6 pa ct wd j G C)
 cols:∀i,i<j->m_ 5 .u8 w (G i) (128*G_ pa ct wd (pa+i)) (fun k=>a_9 X len (atS ct wd i+k))
 own:w.ownsRow w0.heap.size 35 1 sv jw (rowsC Gw (fun _=>Lg) Lg jw)
 long:∀i,i<jw->m_ 5 .u8 w (Gw i) Lg (b_L X len pa ct wd i)
 ob0:w0.heap.size<=ob
 ne:sv.ownBlock≠some ob
 caps:∀i,i<j->128*G_ pa ct wd (pa+i)<=C i/\C i<=maxLen
 gn:∀i,i<j->w0.heap.size<=G i
section
variable {w0 w w' w'':World}{bb rb ob:Nat}{LA:Option Addr}{num cl dr pa ad ct wd Lg len:Nat}{X:Nat->Nat}{j jw:Nat}{G C Gw:Nat->Nat}{sv:Value}
theorem LSt.new(h:LSt w0 bb rb ob LA num cl dr pa ad ct wd Lg len X j jw G C Gw sv w)(hn:New w w'):LSt w0 bb rb ob LA num cl dr pa ad ct wd Lg len X j jw G C Gw sv w':=
 ⟨h.nw.next hn,h.bk.new hn,c_ h.col hn,h.rest.new hn,u_ h.o hn,fun i hi=>(h.cols i hi).new hn,c_ h.own hn,fun i hi=>(h.long i hi).new hn,h.ob0,h.ne,h.caps,h.gn⟩
theorem LSt.cells(h:LSt w0 bb rb ob LA num cl dr pa ad ct wd Lg len X j jw G C Gw sv w):w.cell? ⟨bb,0,none⟩=some (.slice LA num cl)/\w.cell? ⟨bb,1,none⟩=some (.int .i64 pa)/\w.cell? ⟨bb,2,none⟩=some (.int .i64 Lg):=by
 have h0:=h.bk.cell 0;have h1:=h.bk.cell 1;have h2:=h.bk.cell 2;simp at h0 h1 h2;exact⟨h0,h1,h2⟩
theorem l_s{w:World}{a b:Nat}{t e:TypeId}{cs:Array Value}{n:Nat}{F:Nat->Value}(h:Blk w a t cs)(ho:w.rowIs b e n F)(hne:e≠t):b≠a:=by
 intro he;subst he;obtain⟨c,hc,_⟩:=ho;unfold Blk at h;rw[hc]at h;injection h with h1;injection h1 with _ h1 _;exact hne h1
theorem LSt.far(h:LSt w0 bb rb ob LA num cl dr pa ad ct wd Lg len X j jw G C Gw sv w)(hg:w.grownBy w' (some ob)) :
  Blk w' bb 297 #[.slice LA num cl,.int .i64 pa,.int .i64 Lg]/\w'.ownsRow (w0.heap.size+1) 175 4 (.slice LA num cl) num (a_U dr pa ad (G_ pa ct wd) num) /\
  m_ 5 .u8 w' rb (128*ct) (a_9 X len):=
 ⟨h.bk.grown hg (fun he=>l_s h.bk h.o (by decide) (by cases he;rfl)),h.col.kept hg (.inr (J_ h.col h.o (by decide))),h.rest.grown hg (fun he=>h.rest.ne_row h.o (by decide) (by cases he;rfl))⟩
theorem LSt.store(h:LSt w0 bb rb ob LA num cl dr pa ad ct wd Lg len X j jw G C Gw sv w)(hn:New w w'){g c:Nat}(hr:m_ 5 .u8 w' g (128*G_ pa ct wd (pa+j)) (fun k=>a_9 X len (atS ct wd j+k)))(hj:pa+j<num)(hcc:128*G_ pa ct wd (pa+j)<=c/\c<=maxLen)(hgg:w0.heap.size<=g) :
  LSt w0 bb rb ob LA num cl dr pa ad ct wd Lg len X (j+1) jw (fun i=>if i=j then g else G i) (fun i=>if i=j then c else C i) Gw sv (w'.setCell ⟨ob,pa+j,none⟩ (.slice (some ⟨g,0,none⟩) (128*G_ pa ct wd (pa+j)) c)):=by
 have h2:=h.new hn;have hg:w'.grownBy (w'.setCell ⟨ob,pa+j,none⟩ (.slice (some ⟨g,0,none⟩) (128*G_ pa ct wd (pa+j)) c)) (some ob):=k_ _ _ _ _;obtain⟨f1,f2,f3⟩:=h2.far hg;refine⟨h2.nw.grown1 hg h.ob0,f1,f2,f3,?_,fun i hi=>?_,h2.own.kept hg (.inr h.ne),fun i hi=>(h2.long i hi).grown hg (fun he=>(h2.long i hi).ne_row h2.o (by decide) (by cases he;rfl)),h.ob0,h.ne,fun i hi=>?_,fun i hi=>?_⟩
 ·refine(h2.o.set (pa+j) _).congr fun i hi=>?_
  unfold g_6
  by_cases e:i=pa+j
  ·subst e
   rw[if_pos rfl,if_pos ⟨by omega,by omega⟩]
   simp
  ·rw[if_neg e]
   by_cases e2:pa<=i/\i<pa+j
   ·rw[if_pos e2,if_pos ⟨e2.1,by omega⟩]
    simp only[if_neg (show ¬i-pa=j by omega)]
   ·rw[if_neg e2,if_neg (by omega)]
 ·by_cases e:i=j
  ·subst e
   simp only[if_true];exact hr.grown hg (fun he=>hr.ne_row h2.o (by decide) (by cases he;rfl))
  ·simp only[if_neg e]
   exact(h2.cols i (by omega)).grown hg (fun he=>(h2.cols i (by omega)).ne_row h2.o (by decide) (by cases he;rfl))
 ·by_cases e:i=j
  ·subst e
   simp only[if_true];exact hcc
  ·simp only[if_neg e]
   exact h.caps i (by omega)
 ·by_cases e:i=j
  ·simp only[if_pos e];exact hgg
  ·simp only[if_neg e];exact h.gn i (by omega)
theorem LSt.whole(h:LSt w0 bb rb ob LA num cl dr pa ad ct wd Lg len X j jw G C Gw sv w)(hn:New w w'){g:Nat}{v2:Value}{o:Obj}(hr:m_ 5 .u8 w' g Lg (b_L X len pa ct wd jw))
  (hown:w''.ownsRow w0.heap.size 35 1 v2 (jw+1) (rowsC Gw (fun _=>Lg) Lg jw++[.slice (some ⟨g,0,none⟩) Lg Lg])) (hgr:(w'.alloc o).grownBy w'' sv.ownBlock) (hat:sv.ownBlock=v2.ownBlock\/v2.ownBlock=some (w'.heap.size+1)) :
  LSt w0 bb rb ob LA num cl dr pa ad ct wd Lg len X j (jw+1) G C (fun i=>if i=jw then g else Gw i) v2 w'':=by
 have h2:=h.new (hn.alloc o);have hr2:=hr.new ((New.refl w').alloc o);have hk:∀(g' m:Nat) (f:Nat->Nat),m_ 5 .u8 (w'.alloc o) g' m f->m_ 5 .u8 w'' g' m f:=fun g' m f hr'=>hr'.grown hgr (hr'.ne_own h2.own (by decide))
 refine⟨h2.nw.grown hgr fun g' hg'=>(h2.own.lt _ hg').1,h2.bk.grown hgr (fun he=>?_),h2.col.kept hgr ?_,hk _ _ _ h2.rest,A_ h2.o hgr h2.ne,fun i hi=>hk _ _ _ (h2.cols i hi),?_,fun i hi=>?_,h.ob0,?_,h.caps,h.gn⟩
 ·rcases h2.own.2 with⟨h0,_⟩|⟨g',cap,cur,h0,_,hg0,_⟩
  ·rw[h0]at he;cases he
  ·rw[h0]at he
   have:g'=bb:=by simpa [Value.ownBlock]using he
   subst this;have hb:=h2.bk;unfold Blk at hb;rw[hb]at hg0;injection hg0 with hg0;injection hg0 with _ hg0 _;exact absurd hg0 (by decide)
 ·rcases h2.col.2 with⟨h1,_⟩|⟨g2,cap2,cur2,h1,_,hg2,_⟩
  ·left;rw[h1];rfl
  ·right
   intro he;rcases h2.own.2 with⟨h0,_⟩|⟨g',cap,cur,h0,_,hg0,_⟩
   ·rw[h0,h1]at he;cases he
   ·rw[h0,h1]at he
    have:g2=g':=by simpa [Value.ownBlock]using he
    subst this;rw[hg2]at hg0;injection hg0 with hg0;injection hg0 with _ hg0 _;exact absurd hg0 (by decide)
 ·rw[show(fun _:Nat=>Lg)=(fun i=>if i=jw then Lg else(fun _=>Lg) i) by funext i;split<;>rfl,rowsC_succ]
  exact hown
 ·by_cases e:i=jw
  ·subst e
   simp only[if_true];exact hk _ _ _ hr2
  ·simp only[if_neg e]
   exact hk _ _ _ (h2.long i (by omega))
 ·rcases hat with h3|h3
  ·rw[<-h3];exact h.ne
  ·rw[h3]
   intro he;injection he with he;have:=(h.new hn).o.lt;omega
end
theorem j_s{X:Nat->Nat}(hX:∀k,X k<256)(len pa ct wd i k:Nat):b_L X len pa ct wd i k<256:=by
 unfold b_L a_9;split
 ·split
  ·exact hX _
  ·omega
 ·omega
theorem LSt.rdM{w0 w:World}{bb rb ob:Nat}{LA:Option Addr}{num cl dr pa ad ct wd Lg len:Nat}{X:Nat->Nat}{j jw:Nat}{G C Gw:Nat->Nat}{sv:Value}(h:LSt w0 bb rb ob LA num cl dr pa ad ct wd Lg len X j jw G C Gw sv w)(hL:Lg<=4096) :
  ∃A c,sv=.slice A jw c/\RdM .u8 w A jw (fun i=>some ⟨Gw i,0,none⟩) (fun _=>Lg) (fun _=>Lg) (fun i k=>(b_L X len pa ct wd i k:Nat)):=by
 obtain⟨A,c,rfl,h1,h2,h3,h4⟩:=h_ h.own;have hLm:Lg<=maxLen:=by unfold maxLen;omega
 refine⟨A,c,rfl,Nat.le_trans h1 h2,fun h0=>?_,fun i hi=>⟨(h.long i hi).rdI hLm,Nat.le_refl _,hLm⟩⟩;obtain⟨g,rfl,_,hg⟩:=h3 h0;refine⟨g,0,rfl,hg,fun i hi=>?_⟩;have:=h4 g rfl i (.slice (some ⟨Gw i,0,none⟩) Lg Lg) (by simp[rowsC,hi])
 simpa using this
def n_8(num:Nat)(L:Nat->Nat)(M:Nat->Nat->Nat)(w:World)(e:Ending)(w':World):Prop:=
 (∃ob c R C,e=.returned (.tuple #[.slice (some ⟨ob,0,none⟩) num c,.int .i64 0])/\RdM .u8 w' (some ⟨ob,0,none⟩) num R L C (fun i k=>(M i k:Nat))/\w.heap.size<=ob/\∀i,i<num->∃g,R i=some ⟨g,0,none⟩/\w.heap.size<=g)/\New w w'
def e_B(pa ct wd c:Nat):Nat:=if c<pa then 128*G_ pa ct wd 0 else 128*G_ pa ct wd c
def c_W(X:Nat->Nat)(len pa ct wd c k:Nat):Nat:=if c<pa then enN c (fun i k=>(b_L X len pa ct wd i k:Nat)) (dcN ct wd) k else a_9 X len (atS ct wd (c-pa)+k)
set_option maxHeartbeats 4000000 in
theorem t_G(dr pa ad wd ct b off len cd:Nat)(X:Nat->Nat)(h1:2<=dr)(h2:dr<=8)(h3:1<=pa)(h4:pa<=3)(h5:dr=pa+wd)(h6:1<=wd)(h7:ad<=65536)(h:1<=len/\len<=4096)(hct:ct=(len+127)/128)(w:World)
  (hX:∀k,k<len->w.cell? ⟨b,off+k,none⟩=some (.int .u8 (X k:Nat))) (hX8:∀k,X k<256) (hb:b<w.heap.size) :
  Calls prog 129 #[.int .i64 dr,.int .i64 pa,.int .i64 ad,.slice (some ⟨b,off,none⟩) len cd] w (n_8 (c_Q dr pa ct wd) (e_B pa ct wd) (c_W X len pa ct wd) w):=by
 obtain⟨i0,hi0,hz0,hz1,hz2⟩:=info_parts i_v;have hsh:=Hd (fun w=>h_k dr pa ad len wd ct h1 h2 h3 h4 h5 h6 h7 h hct w);have hsec:=Hd (fun w=>e_Z len h.2 w);rw[<-hct]at hsec;have hc1:1<=ct:=by omega
 have hc2:ct<=32:=by omega
 have hnum:=f_t (pa:=pa) h6 hc1;have hdc:=e_M h6 hc1;have hdl:=h_M h6 hc1;rw[<-h5]at hnum;have hc0:=e_g (pa:=pa) h6 hc1 hc2 h3;have hlen1:=h.1;have hlen2:=h.2;have hlct:len<=128*ct:=by omega
 obtain⟨num,hnn⟩:∃num,Hid (num=c_Q dr pa ct wd):=⟨_,rfl⟩;rw[<-hnn.o]at hsh hnum ⊢;have hn8:num<=8:=by omega
 obtain⟨Lg,hLg⟩:∃Lg,Hid (Lg=128*G_ pa ct wd 0):=⟨_,rfl⟩;rw[<-hLg.o]at hsh;have hLg4:Lg<=4096:=by have:=hLg.o;omega
 obtain⟨RT,hRT⟩:∃RT,RT=128*ct:=⟨_,rfl⟩;have hRT4:RT<=4096:=by omega
 have hmulR:(ct:Int)*128=(RT:Int):=by omega
 have hlr:len<=RT:=by omega
 replace hRT:=Hd hRT;have hX0:=Hd hX;have hnum0:=Hd hnum;have hmk:=run_make_row' (P:=prog) 35 5 (.int .u8 0) 1 underlying35 infoU8 rfl .i64 .i64 RT (by omega) (by omega)
 have hmk2:=run_make_row' (P:=prog) 181 35 (.slice none 0 0) 24 underlying181 i_v rfl .i64 .i64 num (by omega) (by omega)
 have hszI:Hid ((prog.info? 5).map (·.size)=some 1):=by
  show _=_
  kernel_rfl
 have hmin:Hid (len=Nat.min len RT):=(Nat.min_eq_left hlr).symm;have h50:=Hd h5;clear h hct hX hnum h5;go_enter func129,ntmps129;go_wp2_with fail;refine(hsh.o _).mono ?_;rintro e w1 ⟨⟨LA,cl,rfl,hcol⟩,hn1⟩;obtain⟨bb,hbb⟩:∃bb,bb=w1.heap.size:=⟨_,rfl⟩;obtain⟨W2,hW2⟩:∃W2,W2=w1.alloc (.cells #[.slice LA num cl,.int .i64 pa,.int .i64 Lg] 297):=⟨_,rfl⟩;have hbk2:Blk W2 bb 297 #[.slice LA num cl,.int .i64 pa,.int .i64 Lg]:=by rw[hW2,hbb];exact Blk.fresh _ _ _
 have hN2:New w W2:=by rw[hW2];exact hn1.alloc _
 have hcol2:Hid (W2.ownsRow (w.heap.size+1) 175 4 (.slice LA num cl) num (a_U dr pa ad (G_ pa ct wd) num)):=by rw[hW2];exact c_ hcol ((New.refl _).alloc _)
 go_wp2_with fail;rw[<-hW2,<-hbb];refine(hsec.o _).mono ?_;rintro e W2' ⟨rfl,hw22⟩;subst hw22;have hmade:=Hd (World.rowIs_made W2 (.int .u8 0) RT 5);have hX2:Hid (∀j,j<len->(W2.alloc (.cells (madeCells #[.int .u8 0] RT) 5)).cell? ⟨b,off+j,none⟩=some (.int .u8 (X j:Nat))):=fun j hj=>((hN2.alloc _).cell (p:=⟨b,off+j,none⟩) hb).trans (hX0.o j hj);have hbl2:bb<W2.heap.size:=hbk2.lt;have hbk2':=Hd hbk2;have hN2':=Hd hN2;clear hW2 hbb hbk2 hN2;have hd0:Hid (∀w',W2.grownBy w' (some W2.heap.size)->w'.cell? ⟨bb,0,none⟩=some (.slice LA num cl)):=fun w' hg=>by
  have:=(hbk2'.o.grown hg (fun he=>by cases he;omega)).cell 0
  simpa using this
 go_wp2_with ((with_reducible refine T_ rfl (.tmp 35) (.tmp 36) 35 35 rfl 5 underlying35 hszI.o W2.heap.size 0 RT 5 _ hmade.o (some ⟨W2.heap.size,0,none⟩) (some ⟨b,off,none⟩) RT RT len cd len (fun j=>.int .u8 (X j:Nat)) rfl rfl hmin.o (fun _=>⟨rfl,b,off,rfl,hX2.o⟩) (by omega) (fun j _=>rfl) ?_);intro w3 hr3 hg3;have hd03:=hd0.o w3 ⟨hg3.1,hg3.2,hg3.3,Nat.le_trans (by simp) hg3.4,fun k hk hne=>(hg3.block k (by simp;omega) hne).trans (Below.heap_alloc _ _ _ hk)⟩)
 have hN3:New w w3:=(hN2'.o.alloc _).grown1 hg3 hN2'.o.size;have hgx:W2.grownBy w3 (some W2.heap.size):=⟨hg3.1,hg3.2,hg3.3,Nat.le_trans (by simp) hg3.4,fun k hk hne=>(hg3.block k (by simp;omega) hne).trans (Below.heap_alloc _ _ _ hk)⟩
 obtain⟨rb,hrb⟩:∃rb,rb=W2.heap.size:=⟨_,rfl⟩;rw[<-hrb]at hgx hr3 ⊢;obtain⟨ob,hob⟩:∃ob,ob=w3.heap.size:=⟨_,rfl⟩;obtain⟨W4,hW4⟩:∃W4,W4=w3.alloc (.cells (madeCells #[.slice none 0 0] num) 35):=⟨_,rfl⟩;have hst:LSt w bb rb ob LA num cl dr pa ad ct wd Lg len X 0 0 (fun _=>0) (fun _=>0) (fun _=>0) (.slice none 0 0) W4:=by
  have hN4:New w3 W4:=by rw[hW4];exact(New.refl _).alloc _
  refine⟨hN3.next hN4,(hbk2'.o.grown hgx (fun he=>by cases he;omega)).new hN4,c_ (hcol2.o.kept hgx ?_) hN4,m_.new (m_.of_rowIs hr3.o (Nat.le_of_eq hRT.o.symm) fun k hk=>?_) hN4,?_,fun i hi=>absurd hi (Nat.not_lt_zero i),World.ownsRow_nil _ _ _ _,fun i hi=>absurd hi (Nat.not_lt_zero i),by rw[hob];exact hN3.size,by simp[Value.ownBlock],fun i hi=>absurd hi (Nat.not_lt_zero i),fun i hi=>absurd hi (Nat.not_lt_zero i)⟩
  ·right
   intro he;have:=(hcol2.o.lt _ he).2;omega
  ·unfold cpF a_9
   by_cases e:k<len
   ·rw[if_pos ⟨Nat.zero_le _,by omega⟩,if_pos e];rfl
   ·rw[if_neg (by omega),if_neg e];rfl
  ·rw[hW4,hob]
   refine(World.rowIs_made w3 (.slice none 0 0) num 35).congr fun i _=>?_;unfold g_6;rw[if_neg (by omega)]
 rw[<-hob,<-hW4];replace hst:=Hd hst;clear hr3 hg3 hgx hrb hob hW4 hN3 hmade hX2 hd0 hd03 hcol2 hbl2 hbk2' hN2' hmk hmk2;obtain⟨dc,hdce⟩:∃dc,Hid (dc=dcN ct wd):=⟨_,rfl⟩;rw[<-hdce.o]at hdc hdl;have hpd:Hid (num=pa+dc):=by rw[hdce.o];exact hnum0.o
 have hpn:pa<=num:=by have:=hpd.o;omega
 go_loopw [15,12,14] (fun x r s wr=>∃(c j:Nat) (G C Gw:Nat->Nat) (sv rv:Value),sv=s/\rv=r/\x=.int .i64 c/\Hid (c=pa+j)/\c<=num/\Hid (j<dc->rv=.slice (some ⟨rb,atS ct wd j,none⟩) (RT-atS ct wd j) (RT-atS ct wd j))/\Hid (LSt w bb rb ob LA num cl dr pa ad ct wd Lg len X j j G C Gw sv wr)) (fun x _ _ _=>num-(intOf x).toNat);case atStart=>exact⟨pa,0,_,_,_,_,_,rfl,rfl,rfl,rfl,hpn,(fun _=>by rw[i_M];rfl),hst.o⟩
 case round=>
  clear hst;obtain⟨c,j,G,C,Gw,sv,rv,rfl,rfl,rfl,hcj,hcn,hrv,hs⟩:=hrel
  by_cases hlt:c<num
  ·have hjd:j<dc:=by have:=hcj.o;have:=hpd.o;omega
   have hrv2:=hrv.o hjd;clear hrv;subst hrv2;have hci:(c:Int)<(num:Int):=by omega
   obtain⟨d0,d1,d2⟩:=hs.o.cells;have ho:=hs.o.o.cell hlt;have hof:g_6 pa ct wd j G C c=.slice none 0 0:=by unfold g_6;rw[if_neg (by have:=hcj.o;omega)]
   rw[hof]at ho;have hf:=hs.o.o.frozen c;obtain⟨sz,hsz⟩:∃sz,Hid (sz=128*G_ pa ct wd c):=⟨_,rfl⟩;obtain⟨at0,hat⟩:∃at0,Hid (at0=atS ct wd j):=⟨_,rfl⟩;rw[<-hat.o];have hnx:=d_k (pa:=pa) h6 hc1 j;have hle:=q_D h6 hc1 (j+1) (by rw[<-hdce.o];omega)
   have hps:=f_C (pa:=pa) h6 hc1 j (by rw[<-hdce.o];omega)
   rw[<-hcj.o]at hnx hps;have hsz1:128<=sz:=by have:=hsz.o;omega
   have hfit:at0+sz<=RT:=by have:=hsz.o;have:=hat.o;have:=hRT.o;omega
   have hnx0:Hid (atS ct wd (j+1)=at0+sz):=by show _=_;rw[hsz.o,hat.o];exact hnx
   clear hnx hle hps hof;have hC32:G_ pa ct wd c<=32:=Nat.le_trans (d_5 h6 hc1 h3 c) hc0;have hszc:Hid (∀w',wr.grownBy w' (some ob)->Calls prog 168 #[.agg #[.slice LA num cl,.int .i64 pa,.int .i64 Lg],.int .i64 c] w' fun e w''=>e=.returned (.int .i64 (sz:Nat))/\New w' w''):=fun w' hg=>by
    rw[hsz.o];exact size_any LA num cl _ dr pa ad c Lg pa _ w' (hs.o.far hg).2.1 hlt hn8 hC32
   have hclc:Hid (∀w',wr.grownBy w' (some ob)->Calls prog 133 #[.slice (some ⟨rb,at0,none⟩) sz (RT-at0)] w' fun e w''=>(∃g cap,e=.returned (.slice (some ⟨g,0,none⟩) sz cap)/\(sz<=cap/\cap<=maxLen)/\m_ 5 .u8 w'' g sz (fun k=>a_9 X len (at0+k))/\w'.heap.size<=g)/\New w' w''):=fun w' hg=>
    Clone_any rb at0 sz (RT-at0) _ w' (fun k hk=>(hs.o.far hg).2.2.cell (by have:=hRT.o;omega)) (by omega) (by omega) (hs.o.far hg).2.2.lt
   have hkeep:Hid (∀w',wr.grownBy w' (some ob)->wr.grownBy w' (some ob)/\w'.cell? ⟨bb,0,none⟩=some (.slice LA num cl)/\w'.cell? ⟨bb,1,none⟩=some (.int .i64 pa)/\w'.cell? ⟨bb,2,none⟩=some (.int .i64 Lg)):=fun w' hg=>by
    have h1:=(hs.o.far hg).1;have f0:=h1.cell 0;have f1:=h1.cell 1;have f2:=h1.cell 2;simp at f0 f1 f2;exact⟨hg,f0,f1,f2⟩
   have q0:(0:Int)<=(c:Int):=by omega
   have q1:(0:Int)<=(sz:Int):=by omega
   have q2:(sz:Int)<=(RT-at0:Nat):=by omega
   have q3:sz<=RT-at0:=by omega
   have hnF:New wr wr.drew:=(New.refl _).drew;have hszL:sz<=Lg:=by have:=hsz.o;have:=hLg.o;have:=d_5 (pa:=pa) (ct:=ct) h6 hc1 h3 c;omega
   go_wp2_with fail;go_region_held3 (fun w'=>wr.grownBy w' (some ob)/\w'.cell? ⟨bb,0,none⟩=some (.slice LA num cl)/\w'.cell? ⟨bb,1,none⟩=some (.int .i64 pa)/\w'.cell? ⟨bb,2,none⟩=some (.int .i64 Lg))
    (first
     |exact hkeep.o _ (b_7 (New.refl _).drew _)
     |assumption
     |exact hkeep.o _ ((And.left ‹wr.grownBy _ (some ob)/\_›).trans (k_ _ _ _ _))
     |exact hkeep.o _ ((And.left ‹wr.grownBy _ (some ob)/\_›).trans (b_7 hnC _))
     |exact hkeep.o _ ((And.left ‹wr.grownBy _ (some ob)/\_›).trans (b_7 hnS _)))
    (first
     |(go_at_call 168;refine(hszc.o _ (And.left ‹wr.grownBy _ (some ob)/\_›)).mono ?_;rintro e wL ⟨rfl,hnS⟩;have hf:=(hnS.frozen (p:=⟨ob,c,none⟩) (a_ ho)).trans hf;have ho:=(hnS.cell (p:=⟨ob,c,none⟩) (a_ ho)).trans ho;(try have hRC:=hRC.new hnS);have hnF:=hnF.next hnS)
     |(go_at_call 133;have hq9:=(And.left ‹wr.grownBy _ (some ob)/\_›).size;refine(hclc.o _ (And.left ‹wr.grownBy _ (some ob)/\_›)).mono ?_;rintro e wL ⟨⟨g,cap,rfl,hcapg,hRC,hgC⟩,hnC⟩;have hf:=(hnC.frozen (p:=⟨ob,c,none⟩) (a_ ho)).trans hf;have ho:=(hnC.cell (p:=⟨ob,c,none⟩) (a_ ho)).trans ho;have hnF:=hnF.next hnC))
   all_goals
    generalize hap:(if RT-at0=sz then some (⟨rb,at0,none⟩:Addr)else some ⟨rb,at0+sz,none⟩)=ap;have hrv2:Hid (j+1<dc->Value.slice ap (RT-at0-sz) (RT-at0-sz)=.slice (some ⟨rb,atS ct wd (j+1),none⟩) (RT-atS ct wd (j+1)) (RT-atS ct wd (j+1))):=fun hj1=>by
     have hnx2:=d_k (pa:=pa) h6 hc1 (j+1);have hle2:=q_D h6 hc1 (j+1+1) (by rw[<-hdce.o];omega)
     have hps2:=f_C (pa:=pa) h6 hc1 (j+1) (by rw[<-hdce.o];omega)
     have hne:¬RT-at0=sz:=by have:=hRT.o;have:=hnx0.o;omega
     rw[<-hap,if_neg hne,hnx0.o,Nat.sub_sub]
    have hs2:=hs.o.store (g:=g) (c:=cap) hnF (by rw[<-hcj.o,<-hsz.o,<-hat.o];exact hRC) (by rw[<-hcj.o];exact hlt) (by rw[<-hcj.o,<-hsz.o];exact hcapg) (Nat.le_trans hs.o.nw.size (Nat.le_trans hq9 hgC))
    rw[<-hcj.o,<-hsz.o]at hs2;clear hap hRC ho hf hkeep hclc hszc hnF d0 d1 d2 hs;obtain⟨W3,hW3⟩:∃W3,W3=World.setCell wL ⟨ob,c,none⟩ (.slice (some ⟨g,0,none⟩) sz cap):=⟨_,rfl⟩;rw[<-hW3]at hs2 ⊢;replace hs2:=Hd hs2;obtain⟨d0,d1,d2⟩:=hs2.o.cells;have ho:=hs2.o.o.cell hlt;have hof:g_6 pa ct wd (j+1) (fun i=>if i=j then g else G i) (fun i=>if i=j then cap else C i) c=.slice (some ⟨g,0,none⟩) sz cap:=by
     unfold g_6;rw[if_pos ⟨by have:=hcj.o;omega,by have:=hcj.o;omega⟩,<-hsz.o]
     simp only[show c-pa=j by have:=hcj.o;omega,if_true]
    rw[hof]at ho;clear hof hW3;have hrow3:Hid (m_ 5 .u8 W3 g sz (fun k=>a_9 X len (at0+k))):=by
     have:=hs2.o.cols j (by omega)
     simp only[if_true]at this;rw[<-hcj.o,<-hsz.o,<-hat.o]at this;exact this
    have hkeep2:Hid (∀w',New W3 w'->w'.cell? ⟨bb,0,none⟩=some (.slice LA num cl)/\w'.cell? ⟨bb,1,none⟩=some (.int .i64 pa)/\w'.cell? ⟨bb,2,none⟩=some (.int .i64 Lg)/\w'.cell? ⟨ob,c,none⟩=some (.slice (some ⟨g,0,none⟩) sz cap)):=fun w' h=>
     ⟨(h.cell (a_ d0)).trans d0,(h.cell (a_ d1)).trans d1,(h.cell (a_ d2)).trans d2,(h.cell (a_ ho)).trans ho⟩
    have hj8:j<=8:=by have:=hpd.o;omega
    have hbase:w.heap.size<=W3.heap.size:=hs2.o.nw.size;have hi4:(0:Int)<=(c:Int):=by omega
    have hocol:Hid (g_6 pa ct wd (j+1) (fun i=>if i=j then g else G i) (fun i=>if i=j then cap else C i) c=.slice (some ⟨g,0,none⟩) sz cap):=by
     show _=_;unfold g_6;rw[if_pos ⟨by have:=hcj.o;omega,by have:=hcj.o;omega⟩,<-hsz.o]
     simp only[show c-pa=j by have:=hcj.o;omega,if_true]
    go_wp2_with fail;go_region_held3 (fun w'=>w'.cell? ⟨bb,0,none⟩=some (.slice LA num cl)/\w'.cell? ⟨bb,1,none⟩=some (.int .i64 pa)/\w'.cell? ⟨bb,2,none⟩=some (.int .i64 Lg)/\w'.cell? ⟨ob,c,none⟩=some (.slice (some ⟨g,0,none⟩) sz cap))
     (first
      |exact hkeep2.o _ (New.refl _).drew
      |assumption
      |exact hS7
      |exact hkeep2.o _ (New.alloc hN6 _)
      |exact hkeep2.o _ hN6)
     (first
      |(go_at_call 169;refine(l_d LA num cl pa Lg g sz cap (fun k=>a_9 X len (at0+k)) _ (hrow3.o.new (New.refl _).drew) hszL hLg4).mono ?_;rintro e W6 ⟨⟨g6,rfl,hr6,hg6⟩,hn6⟩;have hN6:New W3 W6:=New.next (New.refl W3).drew hn6;have hs6:=hs2.o.new hN6;have hown6:=hs6.own;have hbase6:=hs6.nw.size;replace hs6:=Hd hs6)
      |(refine step_append_lies _ (by rfl) _ _ 181 (by rfl) w.heap.size 35 i0 _ 1 24 underlying181 hi0 hz0 hz1 hz2 rfl (by decide) sv j (rowsC Gw (fun _=>Lg) Lg j) (by rfl) (hown6.alloc _) ⟨W6.heap.size,0,none⟩ 1 1 [.slice (some ⟨g6,0,none⟩) Lg Lg] (by rfl) (by rfl) (World.news_of_block (cs:=#[.slice _ _ _]) (t:=35) (fr:=(0,0)) (heap_alloc_new W6 _)) (by simp[Value.oneCell']) (by omega) (by unfold maxLen;omega) (by omega) (by simp;omega) (W6.heap.size+1) (by simp) ?_;intro g7 c7 w7 hown7 hgrow7 hat7 hlt7;have hlong:m_ 5 .u8 W6 g6 Lg (b_L X len pa ct wd j):=hr6.congr (fun k _=>by unfold b_L;rw[<-hcj.o,<-hsz.o,<-hat.o]);have hs7:=hs6.o.whole (New.refl _) hlong hown7 hgrow7 (by rcases hat7 with h|h;(left;exact h.trans (by rfl));(right;rw[h];rfl));have hS7:=And.intro hs7.cells.1 (And.intro hs7.cells.2.1 (And.intro hs7.cells.2.2 ((hs7.o.cell hlt).trans (by rw[hocol.o]))));replace hs7:=Hd hs7;clear hlong hown7 hgrow7 hat7))
    all_goals clear hkeep2 hrow3
    all_goals go_wp2
    all_goals go_roundw
    case rel=>exact⟨c+1,j+1,_,_,_,_,_,rfl,rfl,by go_num,(by show _=_;rw[hcj.o];rfl),by omega,hrv2,hs7.o⟩
    case measure=>simp[intOf];omega
  ·have hcn2:c=num:=by omega
   have hjd:j=dc:=by have:=hcj.o;have:=hpd.o;omega
   subst hjd;obtain⟨A,cw,hsv,hrd⟩:=hs.o.rdM hLg4;subst hsv;have hM8:∀i,i<j->∀k,k<Lg->0<=((b_L X len pa ct wd i k:Nat):Int)/\((b_L X len pa ct wd i k:Nat):Int)<=255:=fun i _ k _=>by
    have:=j_s hX8 len pa ct wd i k;omega
   have henc:=Hd (l_H A j cw (pa:Int) _ _ _ _ wr hrd hM8);have hcode:c_O j (fun _=>Lg) (pa:Int)=0:=by
    unfold c_O;rw[if_pos,if_pos ⟨by omega,by omega⟩]
    unfold g_V evB;simp;refine⟨⟨by omega,by have:=hpd.o;omega⟩,fun i _=>?_⟩
    unfold evP;exact⟨rfl,hLg4⟩
   have hlenp:d_Y j (fun _=>Lg) (pa:Int)=pa:=by unfold d_Y;rw[hcode];simp
   rw[hcode,hlenp]at henc;have hci:¬(c:Int)<(num:Int):=by omega
   have hwr9:=hs.o.nw.size;clear hrd hM8 hcode hlenp hrv;go_wp2_with fail;refine henc.o.mono ?_;rintro e w5 ⟨v5,rfl,⟨B,d,R1,C1,rfl,hrd5,hnw5⟩,hn5⟩;have hs5:=Hd (hs.o.new hn5);obtain⟨b1,o1,rfl,hb1,hcs1⟩:=hrd5.2.1 (by omega)
   have hcs1':=Hd hcs1;have hrd5':=Hd hrd5;have hszS:Hid ((prog.info? 35).map (·.size)=some 1):=by
    show _=_
    kernel_rfl
   have hminp:Hid (pa=Nat.min pa num):=(Nat.min_eq_left hpn).symm;have hout5:=Hd hs5.o.o;clear hrd5 hcs1 henc hs;go_wp2_with ((with_reducible refine T_ rfl (.tmp 78) (.tmp 79) 181 181 rfl 35 underlying181 hszS.o ob 0 num 35 _ hout5.o (some ⟨ob,0,none⟩) (some ⟨b1,o1,none⟩) num num pa d pa (fun i=>.slice (R1 i) Lg (C1 i)) rfl rfl hminp.o (fun _=>⟨rfl,b1,o1,rfl,hcs1'.o⟩) (by omega) (fun j _=>rfl) ?_);intro w6 hr6 hg6)
   have hN6:New w w6:=hs5.o.nw.grown1 hg6 hs5.o.ob0;have hpost:Hid (n_8 num (e_B pa ct wd) (c_W X len pa ct wd) w (.returned (.tuple #[.slice (some ⟨ob,0,none⟩) num num,.int .i64 0])) w6):=by
    have hnw5':=hnw5;refine⟨⟨ob,num,fun c=>if c<pa then R1 c else some ⟨G (c-pa),0,none⟩,fun c=>if c<pa then C1 c else C (c-pa),rfl,⟨by unfold maxLen;omega,fun _=>⟨ob,0,rfl,hr6.o.lt,fun i hi=>?_⟩,fun i hi=>?_⟩,hs5.o.ob0,fun i hi=>?_⟩,hN6⟩
    ·rw[Nat.zero_add,hr6.o.cell hi]
     unfold cpF e_B g_6
     by_cases e:i<pa
     ·rw[if_pos ⟨Nat.zero_le _,by omega⟩,if_pos e,<-hLg.o]
      simp only[if_pos e,Nat.sub_zero]
     ·rw[if_neg (by omega),if_neg e,if_pos ⟨by omega,by have:=hpd.o;omega⟩]
      simp only[if_neg e]
    ·by_cases e:i<pa
     ·simp only[if_pos e,e_B,c_W]
      obtain⟨r1,r2,r3⟩:=hrd5'.o.2.2 i e;refine⟨?_,by rw[<-hLg.o];exact r2,r3⟩
      have:=n_p r1 hg6 (s_U r1 hout5.o (fun i _ z=>by unfold g_6;split<;>exact(fun h=>by cases h)))
      rw[<-hLg.o];rw[<-hdce.o];exact this
     ·simp only[if_neg e,e_B,c_W]
      have hij:i-pa<j:=by have:=hpd.o;omega
      have hrow:=hs5.o.cols (i-pa) hij;rw[show pa+(i-pa)=i by omega]at hrow
      have hrow2:=hrow.grown hg6 (fun he=>hrow.ne_row hout5.o (by decide) (by cases he;rfl))
      have hcp:=hs5.o.caps (i-pa) hij;rw[show pa+(i-pa)=i by omega]at hcp
      exact⟨hrow2.rdI (Nat.le_trans hcp.1 hcp.2),hcp.1,hcp.2⟩
    ·by_cases e:i<pa
     ·obtain⟨g',e1,e2⟩:=hnw5' i e
      exact⟨g',(if_pos e).trans e1,by have:=hs5.o.nw.size;have:=hwr9;omega⟩
     ·exact⟨_,if_neg e,hs5.o.gn (i-pa) (by have:=hpd.o;omega)⟩
   clear hr6 hg6;go_wp2;go_ret2;exact hpost.o
end stripe
end Go.Proofs.YtojcoaekhiadcaaGreat
