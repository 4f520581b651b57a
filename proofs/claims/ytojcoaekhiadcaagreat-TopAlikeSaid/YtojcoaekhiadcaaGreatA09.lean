import Derived.Test.YtojcoaekhiadcaaGreatA01
import Derived.Test.YtojcoaekhiadcaaGreatA06
import Derived.Test.YtojcoaekhiadcaaGreatA02
import Derived.Test.YtojcoaekhiadcaaGreatA07
import Derived.Test.YtojcoaekhiadcaaGreatA08
import Derived.Deep.RegionLaw
import Derived.Deep.AppendLies
set_option linter.unusedVariables false
set_option linter.unusedSimpArgs false
namespace Go.Proofs.YtojcoaekhiadcaaGreat
open Tryz Go.RowKit
namespace par
open kit gf fld Go.Deep
def g_X(D:Nat->Int)(m:Nat)(k:Int):Bool:=(List.range m).any fun t=>decide (D t=k)
theorem j_H{D:Nat->Int}{m:Nat}{k:Int}:g_X D m k=true↔∃t,t<m/\D t=k:=by simp[g_X]
theorem n_R(D:Nat->Int)(k:Int):g_X D 0 k=false:=rfl
theorem h_C(D:Nat->Int)(m:Nat)(k:Int):g_X D (m+1) k=(g_X D m k||decide (D m=k)):=by
 unfold g_X;rw[List.range_succ,List.any_append];simp
theorem l_9{D:Nat->Int}{m:Nat}{k:Int}:g_X D m k=false↔∀t,t<m->D t≠k:=by
 rw[<-Bool.not_eq_true,j_H];exact⟨fun h t ht e=>h ⟨t,ht,e⟩,fun h ⟨t,ht,e⟩=>h t ht e⟩
def lf(G:Nat->Bool)(n:Nat):List Nat:=(List.range n).filter fun k => !G k
theorem r_y{G:Nat->Bool}{n:Nat}(h:G n=false):lf G (n+1)=lf G n++[n]:=by
 unfold lf;rw[List.range_succ,List.filter_append];simp[h]
theorem r_z{G:Nat->Bool}{n:Nat}(h:G n=true):lf G (n+1)=lf G n:=by
 unfold lf;rw[List.range_succ,List.filter_append];simp[h]
theorem t_a(G:Nat->Bool)(n:Nat):(lf G n).length<=n:=by
 unfold lf;have:=List.length_filter_le (fun k => !G k) (List.range n);simpa using this
theorem g_g{G:Nat->Bool}{n k:Nat}:k∈lf G n↔k<n/\G k=false:=by simp[lf]
def lOK(G:Nat->Bool)(L:Nat->Nat)(N:Nat):Bool:=evB (lf G N).length fun j=>L ((lf G N).getD j 0)
theorem s_x{G:Nat->Bool}{n j:Nat}(h:j<(lf G n).length):(lf G n).getD j 0<n/\G ((lf G n).getD j 0)=false:=by
 have h1:(lf G n).getD j 0=(lf G n)[j]:=by simp[List.getD,h]
 rw[h1];exact g_g.1 (List.getElem_mem h)
theorem t_b{G:Nat->Bool}{n k:Nat}(hk:k<n)(hG:G k=false):∃j,j<(lf G n).length/\(lf G n).getD j 0=k:=by
 obtain⟨j,hj,he⟩:=List.getElem_of_mem (g_g.2 ⟨hk,hG⟩:k∈lf G n);exact⟨j,hj,by simp[List.getD,hj,he]⟩
def m_y(G:Nat->Bool)(L:Nat->Nat)(N:Nat):Nat:=L ((lf G N).getD 0 0)
theorem m_z{G:Nat->Bool}{L:Nat->Nat}{N:Nat}(h:lOK G L N=true):∀k,k<N->G k=false->L k=m_y G L N/\L k<=4096:=by
 intro k hk hG;obtain⟨j,hj,rfl⟩:=t_b hk hG;exact m_M h j hj
theorem t_f{G:Nat->Bool}{L:Nat->Nat}{N:Nat}(h:∀k,k<N->G k=false->L k=m_y G L N/\L k<=4096):lOK G L N=true:=
 j_R fun j hj=>h _ (s_x hj).1 (s_x hj).2
def n_C(N:Nat)(D:Nat->Int)(t:Nat):Prop:=D t<0\/(N:Int)<=D t
instance (N:Nat)(D:Nat->Int)(t:Nat):Decidable (n_C N D t):=by unfold n_C;infer_instance
def r_n(N:Nat)(D:Nat->Int)(m:Nat):Bool:=(List.range m).any fun t=>decide (n_C N D t)
theorem g_7{N:Nat}{D:Nat->Int}{m:Nat}:r_n N D m=false↔∀t,t<m->¬n_C N D t:=by simp[r_n]
def r_U(D:Nat->Int)(m:Nat):Bool:=(List.range m).any fun t=>g_X D t (D t)
theorem g_C{D:Nat->Int}{m:Nat}:r_U D m=false↔∀t,t<m->g_X D t (D t)=false:=by simp[r_U]
def gn(D:Nat->Int)(m:Nat):Nat->Bool:=fun k=>g_X D m k
end par
namespace par
set_option maxRecDepth 100000
open Go.ChangeShapes Go.WideShapes Go.ChangeAt kit gf Go.Deep
def e_r(R:Nat->Option Addr)(L C:Nat->Nat)(l:List Nat):List Value:=l.map fun k=>.slice (R k) (L k) (C k)
theorem p_F{w:World}{base:Nat}{t:TypeId}{v:Value}{A:Option Addr}{N:Nat}{R:Nat->Option Addr}{L C:Nat->Nat}{M:Nat->Nat->Int}{l:List Nat}(h:RdM .u8 w A N R L C M)(ho:w.ownsRow base t 1 v l.length (e_r R L C l))(hl:∀k,k∈l->k<N) :
  ∃A' c',v=.slice A' l.length c'/\RdM .u8 w A' l.length (fun j=>R (l.getD j 0)) (fun j=>L (l.getD j 0)) (fun j=>C (l.getD j 0)) (fun j=>M (l.getD j 0)):=by
 obtain⟨A',c',rfl,h1,h2,h3,h4⟩:=h_ ho;refine⟨A',c',rfl,by omega,fun h0=>?_,fun j hj=>?_⟩
 ·obtain⟨g,rfl,_,hg⟩:=h3 h0
  refine⟨g,0,rfl,hg,fun j hj=>?_⟩;have:=h4 g rfl j (.slice (R (l.getD j 0)) (L (l.getD j 0)) (C (l.getD j 0))) (by simp[e_r,List.getD,hj])
  simpa using this
 ·have hm:l.getD j 0∈l:=by
   have:l.getD j 0=l[j]:=by simp[List.getD,hj]
   rw[this];exact List.getElem_mem hj
  exact h.2.2 _ (hl _ hm)
def boV(G:Nat->Bool):Nat->Value:=fun k=>.bool (G k)
theorem j_u(g N c d:Nat)(A:Option Addr)(G:Nat->Bool)(R:Nat->Option Addr)(L C:Nat->Nat)(M:Nat->Nat->Int)(w:World)(h:RdM .u8 w A N R L C M)(hg:w.rowIs g 4 N (boV G))(hN:N<=15) :
  Calls prog 238 #[.slice A N c,.slice (some ⟨g,0,none⟩) N d] w fun e w'=>(∃A' c',e=.returned (.slice A' (lf G N).length c')/\RdM .u8 w' A' (lf G N).length (fun j=>R ((lf G N).getD j 0)) (fun j=>L ((lf G N).getD j 0)) (fun j=>C ((lf G N).getD j 0)) (fun j=>M ((lf G N).getD j 0)))/\New w w':=by
 obtain⟨i1,hj0,hy0,hy1,hy2⟩:=info_parts i_w;have h0:=Hd h;have hg0:=Hd hg;clear h hg;go_enter func238,ntmps238;go_wp2;go_loopw [10,5] (fun x o wr=>∃i:Nat,x=.int .i64 i/\i<=N/\wr.ownsRow w.heap.size 35 1 o (lf G i).length (e_r R L C (lf G i))/\Hid (New w wr)) (fun x _ _=>N-(intOf x).toNat);case atStart=>exact⟨0,rfl,by omega,World.ownsRow_nil _ _ _ _,New.refl w⟩
 case round=>
  obtain⟨i,rfl,hi,hown,hnw⟩:=hrel;obtain⟨w1,rfl⟩:∃w1,w1=wr:=⟨wr,rfl⟩
  by_cases hlt:i<N
  ·obtain⟨b,off,rfl,hb,hcs⟩:=h0.o.2.1 (by omega)
   have c0:=(hnw.o.cell hb).trans (hcs i hlt);have c1:w1.cell? ⟨g,i,none⟩=some (.bool (G i)):=(u_ hg0.o hnw.o).cell hlt;have a0:(0:Int)<=(i:Int):=by omega
   have a1:(i:Int)<(N:Int):=by omega
   clear hcs;cases hG:G i with
   |true=>
    rw[hG]at c1;have hown1:Hid (w1.ownsRow w.heap.size 35 1 u5 (lf G (i+1)).length (e_r R L C (lf G (i+1)))):=by rw[r_z hG];exact hown
    clear hown hG;go_wp2;go_roundw;case rel=>exact⟨i+1,by go_num,by omega,hown1.o,hnw.o⟩
    case measure=>simp[intOf];omega
   |false=>
    rw[hG]at c1;have hll:(lf G i).length<=i:=t_a G i;have hlf:=Hd (r_y hG);clear hG;obtain⟨l,hl⟩:∃l,Hid (l=lf G i):=⟨_,rfl⟩;rw[<-hl.o]at hown hll hlf;go_wp2_with (at_builtin;refine wpList_append_own _ rfl _ _ 181 rfl w.heap.size 35 i1 _ 1 24 underlying181 hj0 hy0 hy1 hy2 rfl (by decide) _ l.length _ rfl (hown.alloc _) ⟨w1.heap.size,0,none⟩ 1 1 [.slice (R i) (L i) (C i)] rfl rfl (World.news_of_block (cs:=#[.slice _ _ _]) (t:=35) (fr:=(0,0)) (heap_alloc_new w1 _)) (by simp[Value.oneCell']) (by unfold maxLen;omega) (by omega) (by have:=hnw.o.size;simp;omega) ?_;intro v3 w3 hown3 hgrow hnil)
    have hN3:Hid (New w w3):=hnw.o.append' hgrow fun g hg=>(hown.lt _ hg).1;have hown4:Hid (w3.ownsRow w.heap.size 35 1 v3 (lf G (i+1)).length (e_r R L C (lf G (i+1)))):=by
     rw[hlf.o,List.length_append];unfold e_r at hown3 ⊢;rw[List.map_append];exact hown3
    clear hown hown3 hgrow hnil;go_wp2;go_roundw;case rel=>exact⟨i+1,by go_num,by omega,hown4.o,hN3.o⟩
    case measure=>simp[intOf];omega
  ·have hin:i=N:=by omega
   subst hin;obtain⟨A',c',rfl,hM⟩:=p_F (h0.o.new hnw.o) hown (fun k hk=>(g_g.1 hk).1);have hfin:=Hd (And.intro hM hnw.o);clear hown hM;go_wp2;go_ret;exact⟨⟨A',c',rfl,hfin.o.1⟩,hfin.o.2⟩
open fld
theorem r_P(j i:Nat):fcN j i=fcP j i:=rfl
abbrev Pr(n:Nat)(G:Nat->Bool)(k:Nat):Prop:=k<n\/G k=false
abbrev Bk(sz n:Nat)(G:Nat->Bool)(k:Nat):Prop:=Pr n G k/\(0<sz\/(k<n/\G k=true))
structure RO(w0:World)(oo M N n sz hi:Nat)(G:Nat->Bool)(V:Nat->Value)(Ad:Nat->Option Addr)(Gr Cp:Nat->Nat)(F:Nat->Nat->Nat)(w:World):Prop where
 nw:New w0 w
 o:w.rowIs oo 35 M V
 old:w0.heap.size<=oo/\oo<hi
 val:∀k,k<N->Pr n G k->V k=.slice (Ad k) sz (Cp k)/\sz<=Cp k/\Cp k<=maxLen
 row:∀k,k<N->Pr n G k->0<sz->Ad k=some ⟨Gr k,0,none⟩/\m_ 5 .u8 w (Gr k) sz (F k)
 hole:∀k,k<N->k<n->G k=true->Ad k=some ⟨Gr k,0,none⟩/\w.rowIs (Gr k) 5 sz (byV (F k))
 inj:∀k l,k<N->l<N->Bk sz n G k->Bk sz n G l->k≠l->Gr k≠Gr l
 lo:∀k,k<N->Bk sz n G k->w0.heap.size<=Gr k/\Gr k<hi
 by_:∀k t,F k t<256
section
variable {w0 w w':World}{o M N n sz hi:Nat}{G:Nat->Bool}{V:Nat->Value}{Ad:Nat->Option Addr}{Gr Cp:Nat->Nat}{F F':Nat->Nat->Nat}
theorem RO.new(h:RO w0 o M N n sz hi G V Ad Gr Cp F w)(hn:New w w'):RO w0 o M N n sz hi G V Ad Gr Cp F w':=
 ⟨h.nw.next hn,u_ h.o hn,h.old,h.val,fun k a b c=>⟨(h.row k a b c).1,(h.row k a b c).2.new hn⟩,fun k a b c=>⟨(h.hole k a b c).1,u_ (h.hole k a b c).2 hn⟩,h.inj,h.lo,h.by_⟩
theorem RO.later{hi':Nat}(h:RO w0 o M N n sz hi G V Ad Gr Cp F w)(hh:hi<=hi'):RO w0 o M N n sz hi' G V Ad Gr Cp F w:=
 ⟨h.nw,h.o,⟨h.old.1,by have:=h.old.2;omega⟩,h.val,h.row,h.hole,h.inj,fun k a b=>⟨(h.lo k a b).1,by have:=(h.lo k a b).2;omega⟩,h.by_⟩
theorem RO.congr(h:RO w0 o M N n sz hi G V Ad Gr Cp F w)(he:∀k t,k<N->Pr n G k->t<sz->F k t=F' k t)(hb:∀k t,F' k t<256):RO w0 o M N n sz hi G V Ad Gr Cp F' w:=
 ⟨h.nw,h.o,h.old,h.val,fun k a b c=>⟨(h.row k a b c).1,(h.row k a b c).2.congr fun t ht=>he k t a b ht⟩,fun k a b c=>⟨(h.hole k a b c).1,(h.hole k a b c).2.congr fun t ht=>by unfold byV;rw[he k t a (.inl b) ht]⟩,h.inj,h.lo,hb⟩
theorem d_X{w:World}{a b:Nat}{t e:TypeId}{m n:Nat}{f F:Nat->Value}(h:w.rowIs a t m f)(ho:w.rowIs b e n F)(hne:e≠t):b≠a:=by
 intro he;subst he;obtain⟨c,hc,_⟩:=ho;obtain⟨d,hd,_⟩:=h;rw[hc]at hd;injection hd with h1;injection h1 with _ h1 _;exact hne h1
theorem RO.mixed(h:RO w0 o M N n sz hi G V Ad Gr Cp F w){k:Nat}(hkN:k<N)(hk:k<n)(hG:G k=true){f:Nat->Nat}(hg:w.grownBy w' (some (Gr k)))(hr:w'.rowIs (Gr k) 5 sz (byV f))(hb:∀t,f t<256) :
  RO w0 o M N n sz hi G V Ad Gr Cp (fun i=>if i=k then f else F i) w':=by
 refine⟨h.nw.grown1 hg (h.lo k hkN ⟨.inl hk,.inr ⟨hk,hG⟩⟩).1,A_ h.o hg (fun e=>d_X (h.hole k hkN hk hG).2 h.o (by decide) (by cases e;rfl)),h.old,h.val,fun i a b c=>⟨(h.row i a b c).1,?_⟩,fun i a b c=>⟨(h.hole i a b c).1,?_⟩,h.inj,h.lo,fun i t=>?_⟩
 ·by_cases e:i=k
  ·subst e
   rw[if_pos rfl];exact m_.of_rowIs hr (Nat.le_refl _) fun j hj=>rfl
  ·rw[if_neg e]
   exact(h.row i a b c).2.grown hg (by have:=h.inj k i hkN a ⟨.inl hk,.inr ⟨hk,hG⟩⟩ ⟨b,.inl c⟩ (fun x=>e x.symm);simpa using this)
 ·by_cases e:i=k
  ·subst e
   rw[if_pos rfl];exact hr
  ·rw[if_neg e]
   exact A_ (h.hole i a b c).2 hg (by have:=h.inj k i hkN a ⟨.inl hk,.inr ⟨hk,hG⟩⟩ ⟨.inl b,.inr ⟨b,c⟩⟩ (fun x=>e x.symm);simpa using this)
 ·show(if i=k then f else F i) t<256
  by_cases e:i=k
  ·rw[if_pos e];exact hb t
  ·rw[if_neg e];exact h.by_ i t
theorem RO.rdI(h:RO w0 o M N n sz hi G V Ad Gr Cp F w)(hs:sz<=4096){k:Nat}(hk:k<N)(hp:Pr n G k):RdI .u8 w (Ad k) sz (fun t=>(F k t:Nat)):=
 ⟨by unfold maxLen;omega,fun h0=>by
  obtain⟨h1,h2⟩:=h.row k hk hp h0;rw[h1];exact(h2.rdI (by unfold maxLen;omega)).2 h0⟩
theorem RO.rdM(h:RO w0 o M N n sz hi G V Ad Gr Cp F w)(hnN:n<=N)(hNM:N<=M)(hN:M<=15)(hs:sz<=4096):RdM .u8 w (some ⟨o,0,none⟩) n Ad (fun _=>sz) Cp (fun k t=>(F k t:Nat)):=
 ⟨by unfold maxLen;omega,fun _=>⟨o,0,rfl,h.o.lt,fun k hk=>by rw[Nat.zero_add,h.o.cell (by omega),(h.val k (by omega) (.inl hk)).1]⟩,
  fun k hk=>⟨h.rdI hs (by omega) (.inl hk),(h.val k (by omega) (.inl hk)).2⟩⟩
theorem RO.far{row:Option Nat}(h:RO w0 o M N n sz hi G V Ad Gr Cp F w)(hg:w.grownBy w' row)(hr:∀r,row=some r->hi<=r):RO w0 o M N n sz hi G V Ad Gr Cp F w':=by
 have hne:∀k,k<N->Bk sz n G k->row≠some (Gr k):=fun k a b e=>by have:=hr _ e;have:=(h.lo k a b).2;omega
 refine⟨h.nw.grown hg (fun g e=>by have:=hr _ e;have:=h.old;omega),A_ h.o hg (fun e=>by have:=hr _ e;have:=h.old;omega),h.old,h.val,fun k a b c=>⟨(h.row k a b c).1,(h.row k a b c).2.grown hg (hne k a ⟨b,.inl c⟩)⟩,fun k a b c=>⟨(h.hole k a b c).1,A_ (h.hole k a b c).2 hg (hne k a ⟨.inl b,.inr ⟨b,c⟩⟩)⟩,h.inj,h.lo,h.by_⟩
end
theorem r_5{w w':World}{A:Option Addr}{m O sz:Nat}{Z:Nat->Int}{f:Nat->Nat}(h:RdI .i64 w A m Z)(ho:w.rowIs O 5 sz (byV f))(hg:w.grownBy w' (some O)):RdI .i64 w' A m Z:=
 ⟨h.1,fun h0=>by
  obtain⟨b,off,hA,hb,hc⟩:=h.2 h0;have hne:b≠O:=by
   intro e;subst e;have h1:=hc 0 h0;obtain⟨cs,h2,h3,h4⟩:=ho;rw[Nat.add_zero,cell_of_row w b off cs _ _ h2]at h1;have hl:off<sz:=by have:=(Array.getElem?_eq_some_iff.1 h1).1;omega
   rw[h4 off hl]at h1;cases h1
  exact⟨b,off,hA,Nat.lt_of_lt_of_le hb hg.size,fun i hi=>(hg.cell_far ⟨b,off+i,none⟩ hb (by simp;exact hne)).trans (hc i hi)⟩⟩
theorem r_4{w w':World}{A:Option Addr}{n O sz:Nat}{R:Nat->Option Addr}{L C:Nat->Nat}{M:Nat->Nat->Int}{f:Nat->Nat}(h:RdM .i64 w A n R L C M)(ho:w.rowIs O 5 sz (byV f))(hg:w.grownBy w' (some O)):RdM .i64 w' A n R L C M:=
 ⟨h.1,fun h0=>by
  obtain⟨b,off,hA,hb,hc⟩:=h.2.1 h0;have hne:b≠O:=by
   intro e;subst e;have h1:=hc 0 h0;obtain⟨cs,h2,h3,h4⟩:=ho;rw[Nat.add_zero,cell_of_row w b off cs _ _ h2]at h1;have hl:off<sz:=by have:=(Array.getElem?_eq_some_iff.1 h1).1;omega
   rw[h4 off hl]at h1;cases h1
  exact⟨b,off,hA,Nat.lt_of_lt_of_le hb hg.size,fun i hi=>(hg.cell_far ⟨b,off+i,none⟩ hb (by simp;exact hne)).trans (hc i hi)⟩,fun i hi=>⟨r_5 (h.2.2 i hi).1 ho hg,(h.2.2 i hi).2⟩⟩
def b_I(G C:Nat->Nat)(m k:Nat):List Value:=(List.range k).map fun i=>.slice (some ⟨G i,0,none⟩) m (C i)
theorem f_V(G C:Nat->Nat)(m k g c:Nat):b_I (fun i=>if i=k then g else G i) (fun i=>if i=k then c else C i) m (k+1)=b_I G C m k++[.slice (some ⟨g,0,none⟩) m c]:=by
 unfold b_I;rw[List.range_succ,List.map_append];congr 1
 ·apply List.map_congr_left
  intro i hi;have:i≠k:=by have:=List.mem_range.1 hi;omega
  simp[this]
 ·simp
def b_W(n:Nat)(M:Nat->Nat->Nat)(U:Nat->Nat)(b t:Nat):Nat:=enN (U b) (fun i t=>(M i t:Nat)) n t ^^^ M (n+U b) t
def r_o:Nat->Nat->Nat:=fun _ _=>1
theorem m_J(j:Nat):fcP j 0=1:=by unfold fcP;rw[Nat.zero_mul];decide
def b_m(X:Nat->Nat->Nat)(W:Nat->Nat->Nat)(h:Nat)(H:Nat->Nat)(F:Nat->Nat->Nat):Nat->Nat->Nat->Nat
 |0=>F
 |a+1=>fun k=>if k=H a then(fun t=>xs h fun b=>mul (X a b) (W b t))else b_m X W h H F a k
theorem d_1{X W:Nat->Nat->Nat}{h:Nat}{H:Nat->Nat}{F:Nat->Nat->Nat}:∀{a k:Nat},(∀q,q<a->H q≠k)->b_m X W h H F a k=F k
 |0,_,_=>rfl
 |a+1,k,hq=>by
  show(if k=H a then _ else b_m X W h H F a k)=F k;rw[if_neg (fun e=>hq a (by omega) e.symm),d_1 fun q hq'=>hq q (by omega)]
theorem e_b{X W:Nat->Nat->Nat}{h:Nat}{H:Nat->Nat}{F:Nat->Nat->Nat}(hX:∀a b,a<h->b<h->X a b<256)(hF:∀k t,F k t<256):∀{a:Nat},a<=h->∀k t,b_m X W h H F a k t<256
 |0,_,k,t=>hF k t
 |a+1,ha,k,t=>by
  show(if k=H a then(fun t=>xs h fun b=>mul (X a b) (W b t))else b_m X W h H F a k) t<256
  by_cases e:k=H a
  ·rw[if_pos e]
   exact h_8 fun b hb=>a_u _ _ (hX a b (by omega) hb)
  ·rw[if_neg e]
   exact e_b hX hF (by omega) k t
structure FA(w0 w1:World)(o N n sz:Nat)(G:Nat->Bool)(V:Nat->Value)(Ad:Nat->Option Addr)(Gr Cp:Nat->Nat)(F:Nat->Nat->Nat)(h:Nat)(U H:Nat->Nat)(b:Nat)(mv wv:Value)(Gm Cm Gw:Nat->Nat)(w:World):Prop where
 ro:RO w0 o N N n sz w1.heap.size G V Ad Gr Cp F w
 nw:New w1 w
 m:w.ownsRow w1.heap.size 27 1 mv b (b_I Gm Cm h b)
 mr:∀i,i<b->m_ 3 .i64 w (Gm i) h (fun q=>fcP (U i) (H q))/\h<=Cm i/\Cm i<=maxLen
 wn:w.ownsRow w1.heap.size 35 1 wv b (b_I Gw (fun _=>sz) sz b)
 wr:∀i,i<b->w.rowIs (Gw i) 5 sz (byV (b_W n F U i))
 wlo:∀i,i<b->w1.heap.size<=Gw i
section
variable {w0 w1 w w' w'':World}{o N n sz:Nat}{G:Nat->Bool}{V:Nat->Value}{Ad:Nat->Option Addr}{Gr Cp:Nat->Nat}{F:Nat->Nat->Nat}{h:Nat}{U H:Nat->Nat}{b:Nat}{mv wv:Value}{Gm Cm Gw:Nat->Nat}
theorem FA.new(hh:FA w0 w1 o N n sz G V Ad Gr Cp F h U H b mv wv Gm Cm Gw w)(hn:New w w'):FA w0 w1 o N n sz G V Ad Gr Cp F h U H b mv wv Gm Cm Gw w':=
 ⟨hh.ro.new hn,hh.nw.next hn,c_ hh.m hn,fun i hi=>⟨(hh.mr i hi).1.new hn,(hh.mr i hi).2⟩,c_ hh.wn hn,fun i hi=>u_ (hh.wr i hi) hn,hh.wlo⟩
theorem d_c{b b':Nat}{e e':TypeId}{s s' n n':Nat}{v v':Value}{xs xs':List Value}(h:w.ownsRow b e s v n xs)(h':w.ownsRow b' e' s' v' n' xs')(hne:e≠e')(hg:w.grownBy w' v'.ownBlock):w'.ownsRow b e s v n xs:=by
 refine h.kept hg ?_;rcases h.2 with⟨rfl,_⟩|⟨g,cap,cur,rfl,_,hg0,_⟩
 ·exact .inl rfl
 ·right
  rcases h'.2 with⟨rfl,_⟩|⟨g',cap',cur',rfl,_,hg1,_⟩
  ·simp[Value.ownBlock]
  ·intro he
   have hgg:g=g':=by simpa [Value.ownBlock]using he
   subst hgg;rw[hg0]at hg1;injection hg1 with hg1;injection hg1 with _ hg1 _;exact hne hg1
theorem FA.pushM(hh:FA w0 w1 o N n sz G V Ad Gr Cp F h U H b mv wv Gm Cm Gw w)(hnN:n<=N){obj:Obj}{g c:Nat}{v2:Value}(hr:m_ 3 .i64 w g h (fun q=>fcP (U b) (H q)))(hc:h<=c/\c<=maxLen)
  (hown:w''.ownsRow w1.heap.size 27 1 v2 (b+1) (b_I Gm Cm h b++[.slice (some ⟨g,0,none⟩) h c])) (hg:(w.alloc obj).grownBy w'' mv.ownBlock) :
  New w1 w''/\RO w0 o N N n sz w1.heap.size G V Ad Gr Cp F w''/\w''.ownsRow w1.heap.size 27 1 v2 (b+1) (b_I (fun i=>if i=b then g else Gm i) (fun i=>if i=b then c else Cm i) h (b+1)) /\
  (∀i,i<b+1->m_ 3 .i64 w'' (if i=b then g else Gm i) h (fun q=>fcP (U i) (H q))/\h<=(if i=b then c else Cm i)/\(if i=b then c else Cm i)<=maxLen) /\
  w''.ownsRow w1.heap.size 35 1 wv b (b_I Gw (fun _=>sz) sz b)/\(∀i,i<b->w''.rowIs (Gw i) 5 sz (byV (b_W n F U i))):=by
 have h2:=hh.new ((New.refl w).alloc obj);have hr2:=hr.new ((New.refl w).alloc obj);have hlo:∀r,mv.ownBlock=some r->w1.heap.size<=r:=fun r e=>(h2.m.lt _ e).1;refine⟨h2.nw.grown hg hlo,h2.ro.far hg hlo,?_,fun i hi=>?_,d_c h2.wn h2.m (by decide) hg,fun i hi=>A_ (h2.wr i hi) hg (J_ h2.m (h2.wr i hi) (by decide))⟩
 ·rw[f_V];exact hown
 ·by_cases e:i=b
  ·subst e
   simp only[if_true];exact⟨hr2.grown hg (hr2.ne_own h2.m (by decide)),hc⟩
  ·simp only[if_neg e]
   exact⟨(h2.mr i (by omega)).1.grown hg ((h2.mr i (by omega)).1.ne_own h2.m (by decide)),(h2.mr i (by omega)).2⟩
end
section
variable {w0 w1 w w' w'':World}{o N n sz:Nat}{G:Nat->Bool}{V:Nat->Value}{Ad:Nat->Option Addr}{Gr Cp:Nat->Nat}{F:Nat->Nat->Nat}{h:Nat}{U H:Nat->Nat}{b:Nat}{mv wv:Value}{Gm Cm Gw:Nat->Nat}
theorem FA.pushW(p1:New w1 w)(p2:RO w0 o N N n sz w1.heap.size G V Ad Gr Cp F w)(p3:w.ownsRow w1.heap.size 27 1 mv (b+1) (b_I Gm Cm h (b+1)))
  (p4:∀i,i<b+1->m_ 3 .i64 w (Gm i) h (fun q=>fcP (U i) (H q))/\h<=Cm i/\Cm i<=maxLen) (p5:w.ownsRow w1.heap.size 35 1 wv b (b_I Gw (fun _=>sz) sz b))
  (p6:∀i,i<b->w.rowIs (Gw i) 5 sz (byV (b_W n F U i))/\w1.heap.size<=Gw i) (hnN:n<=N) {obj:Obj} {g:Nat} {v2:Value} (hr:w.rowIs g 5 sz (byV (b_W n F U b))) (hlo:w1.heap.size<=g)
  (hown:w''.ownsRow w1.heap.size 35 1 v2 (b+1) (b_I Gw (fun _=>sz) sz b++[.slice (some ⟨g,0,none⟩) sz sz])) (hg:(w.alloc obj).grownBy w'' wv.ownBlock) :
  FA w0 w1 o N n sz G V Ad Gr Cp F h U H (b+1) mv v2 Gm Cm (fun i=>if i=b then g else Gw i) w'':=by
 have ha:=(New.refl w).alloc obj;have q5:=c_ p5 ha;have hlo5:∀r,wv.ownBlock=some r->w1.heap.size<=r:=fun r e=>(q5.lt _ e).1;refine⟨(p2.new ha).far hg hlo5,(p1.next ha).grown hg hlo5,d_c (c_ p3 ha) q5 (by decide) hg,fun i hi=>⟨((p4 i hi).1.new ha).grown hg (((p4 i hi).1.new ha).ne_own q5 (by decide)),(p4 i hi).2⟩,?_,fun i hi=>?_,fun i hi=>?_⟩
 ·rw[show(fun _:Nat=>sz)=(fun i=>if i=b then sz else(fun _=>sz) i) by funext i;split<;>rfl,f_V]
  exact hown
 ·by_cases e:i=b
  ·subst e
   rw[if_pos rfl];exact A_ (u_ hr ha) hg (J_ q5 (u_ hr ha) (by decide))
  ·rw[if_neg e]
   have hi2:=u_ (p6 i (by omega)).1 ha
   exact A_ hi2 hg (J_ q5 hi2 (by decide))
 ·show w1.heap.size<=(if i=b then g else Gw i)
  by_cases e:i=b
  ·rw[if_pos e];exact hlo
  ·rw[if_neg e];exact(p6 i (by omega)).2
end
structure FB(w0 w1:World)(o N n sz:Nat)(G:Nat->Bool)(V:Nat->Value)(Ad:Nat->Option Addr)(Gr Cp:Nat->Nat)(F':Nat->Nat->Nat)(h:Nat)(H:Nat->Nat)(B1:Option Addr)(R1:Nat->Option Addr)(C1:Nat->Nat)(X:Nat->Nat->Nat)(gw0 cw0 gH:Nat)(Gw:Nat->Nat)(W:Nat->Nat->Nat)(w:World):Prop where
 ro:RO w0 o N N n sz w1.heap.size G V Ad Gr Cp F' w
 re:RdM .i64 w B1 h R1 (fun _=>h) C1 (fun i k=>(X i k:Nat))
 wn:w.ownsRow w1.heap.size 35 1 (.slice (some ⟨gw0,0,none⟩) h cw0) h (b_I Gw (fun _=>sz) sz h)
 wr:∀i,i<h->w.rowIs (Gw i) 5 sz (byV (W i))/\w1.heap.size<=Gw i
 hs:m_ 3 .i64 w gH h H
 ot:∀g m f,w1.rowIs g 4 m f->w.rowIs g 4 m f
section
variable {w0 w1 w w':World}{o N n sz:Nat}{G:Nat->Bool}{V:Nat->Value}{Ad:Nat->Option Addr}{Gr Cp:Nat->Nat}{F' F2:Nat->Nat->Nat}{h:Nat}{H:Nat->Nat}{B1:Option Addr}{R1:Nat->Option Addr}{C1:Nat->Nat}{X:Nat->Nat->Nat}{gw0 cw0 gH:Nat}{Gw:Nat->Nat}{W:Nat->Nat->Nat}
theorem FB.new(b:FB w0 w1 o N n sz G V Ad Gr Cp F' h H B1 R1 C1 X gw0 cw0 gH Gw W w)(hn:New w w'):FB w0 w1 o N n sz G V Ad Gr Cp F' h H B1 R1 C1 X gw0 cw0 gH Gw W w':=
 ⟨b.ro.new hn,b.re.new hn,c_ b.wn hn,fun i hi=>⟨u_ (b.wr i hi).1 hn,(b.wr i hi).2⟩,b.hs.new hn,fun g m f hf=>u_ (b.ot g m f hf) hn⟩
theorem FB.congr(b:FB w0 w1 o N n sz G V Ad Gr Cp F' h H B1 R1 C1 X gw0 cw0 gH Gw W w)(he:∀k t,t<sz->F' k t=F2 k t)(hnN:n<=N)(hb:∀k t,F2 k t<256):FB w0 w1 o N n sz G V Ad Gr Cp F2 h H B1 R1 C1 X gw0 cw0 gH Gw W w:=
 ⟨b.ro.congr (fun k t _ _ ht=>he k t ht) hb,b.re,b.wn,b.wr,b.hs,b.ot⟩
theorem FB.mix(b:FB w0 w1 o N n sz G V Ad Gr Cp F' h H B1 R1 C1 X gw0 cw0 gH Gw W w)(hnN:n<=N){k:Nat}(hk:k<n)(hG:G k=true){f:Nat->Nat}(hg:w.grownBy w' (some (Gr k)))(hr:w'.rowIs (Gr k) 5 sz (byV f))(hb:∀t,f t<256) :
  FB w0 w1 o N n sz G V Ad Gr Cp (fun i=>if i=k then f else F' i) h H B1 R1 C1 X gw0 cw0 gH Gw W w':=by
 have hh:=(b.ro.hole k (by omega) hk hG).2
 have hlo:=(b.ro.lo k (by omega) ⟨.inl hk,.inr ⟨hk,hG⟩⟩).2
 refine⟨b.ro.mixed (by omega) hk hG hg hr hb,r_4 b.re hh hg,b.wn.kept hg (.inr (J_ b.wn hh (by decide))),fun i hi=>⟨A_ (b.wr i hi).1 hg (by have:=(b.wr i hi).2;simp;omega),(b.wr i hi).2⟩,b.hs.grown hg (fun e=>b.hs.ne_row hh (by decide) (by cases e;rfl)),fun g m f hf=>?_⟩
 have h2:=b.ot g m f hf;refine A_ h2 hg (fun e=>?_);cases e;obtain⟨c1,e1,_⟩:=h2;obtain⟨c2,e2,_⟩:=hh;rw[e1]at e2;injection e2 with e2;injection e2 with _ e2 _;exact absurd e2 (by decide)
end
theorem t_i:(prog.info? 27).map (fun i=>(i.zero,i.size,i.bytes))=some (some (.slice none 0 0),1,24):=by kernel_rfl
theorem p_P:(prog.info? 3).map (fun i=>(i.zero,i.size,i.bytes))=some (some (.int .i64 0),1,8):=by kernel_rfl
structure Pl(N n h:Nat)(G:Nat->Bool)(U H:Nat->Nat):Prop where
 h1:1<=h
 h3:h<=3
 n1:1<=n
 n12:n<=12
 N15:N<=15
 nN:n<=N
 u3:∀b,b<h->U b<3
 ui:∀b,b+1<h->U b<U (b+1)
 up:∀b,b<h->n+U b<N/\G (n+U b)=false
 hl:∀a,a<h->H a<n/\G (H a)=true
 hi:∀a,a+1<h->H a<H (a+1)
set_option maxHeartbeats 4000000 in
theorem q_1(gH cH gU cU o cO N n sz h:Nat)(G:Nat->Bool)(V:Nat->Value)(Ad:Nat->Option Addr)(Gr Cp:Nat->Nat)(F:Nat->Nat->Nat)(U H:Nat->Nat)(w0 w:World)(hro:RO w0 o N N n sz w.heap.size G V Ad Gr Cp F w)
  (hH:m_ 3 .i64 w gH h H) (hU:m_ 3 .i64 w gU h U) (P:Pl N n h G U H) (hsz:sz<=4096) (hcO:N<=cO) (hcO2:cO<=maxLen) (hz:∀a,a<h->∀t,t<sz->F (H a) t=0) (hn1:n=1) :
  Calls prog 246 #[.slice (some ⟨o,0,none⟩) N cO,.int .i64 n,.slice (some ⟨gH,0,none⟩) h cH,.slice (some ⟨gU,0,none⟩) h cU] w fun e w'=>e=.returned (.tuple #[]) /\
   RO w0 o N N n sz w.heap.size G V Ad Gr Cp (b_m r_o (b_W n F U) h H F h) w'/\∀g m f,w.rowIs g 4 m f->w'.rowIs g 4 m f:=by
 obtain⟨i0,hi0,hz0,hz1,hz2⟩:=info_parts p_P;obtain⟨i1,hj0,hy0,hy1,hy2⟩:=info_parts t_i;obtain⟨i2,hk0,hx0,hx1,hx2⟩:=info_parts i_w;obtain⟨h1,h3,n1,n12,N15,nN,u3,ui,up,hl,hi⟩:=id P;unfold maxLen at hcO2;have hb0:((h:Int)==0)=false:=by simp;omega
 have hnc:(n:Int)<=(cO:Int):=by omega
 have n0:(0:Int)<=(n:Int):=by omega
 have PH:=Hd P;replace hn1:=Hd hn1;have hroH:=Hd hro;have hHH:=Hd hH;have hUH:=Hd hU;have u3H:=Hd u3;have upH:=Hd up;have hlH:=Hd hl;have hzH:=Hd hz;clear P hro hH hU u3 ui up hl hi hz;go_enter func246,ntmps246;go_wp2;go_loopw [26,8,10] (fun x mv wv wr=>∃(b:Nat) (Gm Cm Gw:Nat->Nat),x=.int .i64 b/\b<=h/\Hid (FA w0 w o N n sz G V Ad Gr Cp F h U H b mv wv Gm Cm Gw wr)) (fun x _ _ _=>h-(intOf x).toNat);case atStart=>exact⟨0,fun _=>0,fun _=>0,fun _=>0,rfl,by omega,⟨hroH.o,New.refl w,World.ownsRow_nil _ _ _ _,fun i hi=>absurd hi (by omega),World.ownsRow_nil _ _ _ _,fun i hi=>absurd hi (by omega),fun i hi=>absurd hi (by omega)⟩⟩
 case round=>
  obtain⟨b,Gm,Cm,Gw,rfl,hbh,hfa⟩:=hrel;obtain⟨w1,rfl⟩:∃w1,w1=wr:=⟨wr,rfl⟩
  by_cases hlt:b<h
  ·have cu:=(hUH.o.new hfa.o.nw).cell hlt
   have a0:(0:Int)<=(b:Int):=by omega
   have a1:(b:Int)<(h:Int):=by omega
   have hub:=u3H.o b hlt;have hup:=upH.o b hlt;obtain⟨j,hj⟩:∃j,Hid (j=U b):=⟨_,rfl⟩;rw[<-hj.o]at cu hub hup;have hupH:=Hd hup;clear hup;obtain⟨mv0,rfl⟩:∃x,x=u8:=⟨_,rfl⟩;obtain⟨wv0,rfl⟩:∃x,x=u10:=⟨_,rfl⟩;go_wp2_with fail;go_loopw [32,13] (fun x rv wr=>∃a:Nat,x=.int .i64 a/\a<=h/\wr.ownsRow w1.heap.size 3 1 rv a (E_ .i64 (fun q=>fcP j (H q)) a)/\Hid (New w1 wr)) (fun x _ _=>h-(intOf x).toNat);case atStart=>exact⟨0,rfl,by omega,World.ownsRow_nil _ _ _ _,New.refl w1⟩
   case round=>
    obtain⟨a,rfl,hah,hown,hnw⟩:=hrel
    by_cases hal:a<h
    ·have ch:=((hHH.o.new hfa.o.nw).new hnw.o).cell hal
     have b0:(0:Int)<=(a:Int):=by omega
     have b1:(a:Int)<(h:Int):=by omega
     have hHa:=(hlH.o a hal).1;have hfac:=Hd (fun w=>g_z j (H a) (by omega) (by omega) w)
     obtain⟨q,hq⟩:∃q,Hid (q=H a):=⟨_,rfl⟩;rw[<-hq.o]at ch hHa hfac;go_wp2_with fail;refine(hfac.o _).mono ?_;rintro e w2 ⟨rfl,hn2⟩;have hown2:=c_ hown hn2;have hnw2:=Hd (hnw.o.next hn2);have hsz2:=hnw2.o.size;clear hown hn2 ch;go_wp2_with (at_builtin;refine wpList_append_own _ rfl _ _ 27 rfl w1.heap.size 3 i0 _ 1 8 underlying27 hi0 hz0 hz1 hz2 rfl (by decide) _ a _ rfl (hown2.alloc _) ⟨w2.heap.size,0,none⟩ 1 1 [.int .i64 (fcN j q:Nat)] rfl rfl (World.news_of_block (cs:=#[.int .i64 _]) (t:=3) (fr:=(0,0)) (heap_alloc_new w2 _)) (by simp[Value.oneCell']) (by unfold maxLen;omega) (by omega) (by simp;omega) ?_;intro v3 w3 hown3 hgrow hnil)
     have hN3:Hid (New w1 w3):=hnw2.o.append' hgrow fun g hg=>(hown2.lt _ hg).1;have hown4:Hid (w3.ownsRow w1.heap.size 3 1 v3 (a+1) (E_ .i64 (fun q=>fcP j (H q)) (a+1))):=by
      unfold E_ at hown3 ⊢;rw[List.range_succ,List.map_append];have:(List.map (fun q=>Value.int .i64 ((fcP j (H q):Nat):Int)) [a])=[.int .i64 (fcN j q:Nat)]:=by rw[hq.o];rfl
      rw[this];exact hown3
     clear hown2 hown3 hgrow hnil;go_wp2;go_roundw;case rel=>exact⟨a+1,by go_num,by omega,hown4.o,hN3.o⟩
     case measure=>simp[intOf];omega
    ·have hahh:a=h:=by omega
     subst hahh;obtain⟨g3,c3,rfl,hg3a,hg3b⟩:=hown.form (by omega)
     obtain⟨_,_,he3,hle3,hlm3,_⟩:=h_ hown;cases he3;have hrk:Hid (m_ 3 .i64 wr g3 a (fun q=>fcP (U b) (H q))):=by rw[<-hj.o];exact m_.of_own hown
     have hfa2:=Hd (hfa.o.new hnw.o);have hmo:=hfa2.o.m;have hwsz:=hfa2.o.nw.size;have hblk:b<16:=by omega
     clear hown;go_wp2_with (first
      |(at_builtin;refine wpList_append_own _ rfl _ _ 374 rfl w.heap.size 27 i1 _ 1 24 underlying374 hj0 hy0 hy1 hy2 rfl (by decide) _ b _ rfl (hmo.alloc _) ⟨wr.heap.size,0,none⟩ 1 1 [.slice (some ⟨g3,0,none⟩) a c3] rfl rfl (World.news_of_block (cs:=#[.slice _ _ _]) (t:=27) (fr:=(0,0)) (heap_alloc_new wr _)) (by simp[Value.oneCell']) (by unfold maxLen;omega) (by omega) (by simp;omega) ?_;intro v4 w4 hown4 hgrow4 hnil4)
      |fail)
     obtain⟨q1,q2,q3,q4,q5,q6⟩:=hfa2.o.pushM nN hrk.o ⟨hle3,hlm3⟩ hown4 hgrow4;have hwlo:=Hd hfa2.o.wlo;have q1H:=Hd q1;have q2H:=Hd q2;have q3H:=Hd q3;have q4H:=Hd q4;have q5H:=Hd q5;have q6H:=Hd q6;clear q1 q2 q3 q4 q5 q6 hown4 hgrow4 hnil4 hmo hfa2 hrk;refine(d_I (some ⟨o,0,none⟩) n cO sz j _ _ _ _ w4 (q2H.o.rdM nN (Nat.le_refl _) N15 hsz) (fun i hi t ht=>by have:=q2H.o.by_ i t;omega) (fun _ _=>rfl) n1 n12 hsz (by omega)).mono ?_
     rintro e w5 ⟨gE,rfl,hrE,hn5,hgE⟩;have hup:=upH.o b hlt;rw[<-hj.o]at hup;have hc5:w5.cell? ⟨o,n+j,none⟩=some (.slice (Ad (n+j)) sz (Cp (n+j))):=by
      rw[(u_ q2H.o.o hn5).cell hup.1,(q2H.o.val _ hup.1 (.inr hup.2)).1]
     have hnj:(n:Int)+(j:Int)<(N:Int):=by omega
     have hnj0:(0:Int)<=(n:Int)+(j:Int):=by omega
     have hrE0:=Hd hrE;have hn50:=Hd hn5;have hne:0<sz->∀b' off',Ad (n+j)=some ⟨b',off',none⟩->b'≠gE:=fun h0 b' off' hA=>by
      have h0':=(q2H.o.row _ hup.1 (.inr hup.2) h0).1;rw[h0']at hA;cases hA;have h1:=(q2H.o.lo _ hup.1 ⟨.inr hup.2,.inl h0⟩).2;have h2:=q1H.o.size;omega
     have hmix:=Hd (i_m gE sz sz sz (Cp (n+j)) 1 (Ad (n+j)) _ (fun t=>(F (n+j) t:Nat)) w5 hrE (fun t=>b_S _ _ _ _) ((q2H.o.new hn5).rdI hsz hup.1 (.inr hup.2)) (fun i hi=>by have:=q2H.o.by_ (n+j) i;omega) hne (Nat.le_refl _) (by unfold maxLen;omega) (by omega))
     clear hrE hn5 hup hne;go_wp2_with fail;refine hmix.o.mono ?_;rintro e w6 ⟨rfl,hr6,hg6⟩;have hn46:=hn50.o.grown1 hg6 hgE;have hwr6:w6.rowIs gE 5 sz (byV (b_W n F U b)):=hr6.congr fun t ht=>by
      unfold byV mxF b_W;simp only[Int.toNat_natCast];rw[if_pos ht,<-hj.o,gf.one_mul _ (q2H.o.by_ (n+j) t)]
     have hfin:=Hd (And.intro hn46 hwr6);have how6:=c_ q5H.o hn46;have hws6:w.heap.size<=w6.heap.size:=Nat.le_trans q1H.o.size hn46.size;clear hmix hn46 hwr6 hr6 hg6 hc5;go_wp2_with (at_builtin;refine wpList_append_own _ rfl _ _ 181 rfl w.heap.size 35 i2 _ 1 24 underlying181 hk0 hx0 hx1 hx2 rfl (by decide) _ b _ rfl (how6.alloc _) ⟨w6.heap.size,0,none⟩ 1 1 [.slice (some ⟨gE,0,none⟩) sz sz] rfl rfl (World.news_of_block (cs:=#[.slice _ _ _]) (t:=35) (fr:=(0,0)) (heap_alloc_new w6 _)) (by simp[Value.oneCell']) (by unfold maxLen;omega) (by omega) (by simp;omega) ?_;intro v7 w7 hown7 hgrow7 hnil7)
     have hFA:=Hd (FA.pushW (q1H.o.next hfin.o.1) (q2H.o.new hfin.o.1) (c_ q3H.o hfin.o.1) (fun i hi=>⟨(q4H.o i hi).1.new hfin.o.1,(q4H.o i hi).2⟩) how6 (fun i hi=>⟨u_ (q6H.o i hi) hfin.o.1,hwlo.o i hi⟩) nN hfin.o.2 (by have:=q1H.o.size;omega) hown7 hgrow7)
     clear how6 hown7 hgrow7 hnil7;go_wp2;go_roundw;case rel=>exact⟨b+1,_,_,_,by go_num,by omega,hFA.o⟩
     case measure=>simp[intOf];omega
  ·have hbhh:b=h:=by omega
   subst hbhh;have hpl:=PH.o;obtain⟨gm0,cm0,rfl,hgm0,_⟩:=hfa.o.m.form (by omega)
   obtain⟨gw0,cw0,rfl,hgw0,_⟩:=hfa.o.wn.form (by omega)
   have hMm:Hid (RdM .i64 w1 (some ⟨gm0,0,none⟩) b (fun i=>some ⟨Gm i,0,none⟩) (fun _=>b) Cm (fun i q=>(fcP (U i) (H q):Nat))):=by
    obtain⟨_,_,he,hle,hlm,h3',h4'⟩:=h_ hfa.o.m;cases he;refine⟨by omega,fun h0=>⟨gm0,0,rfl,?_,fun i hi=>?_⟩,fun i hi=>⟨(hfa.o.mr i hi).1.rdI (by unfold maxLen;omega),(hfa.o.mr i hi).2⟩⟩
    ·obtain⟨g,hg,_,hg2⟩:=h3' h0;cases hg;exact hg2
    ·have:=h4' gm0 rfl i (.slice (some ⟨Gm i,0,none⟩) b (Cm i)) (by simp[b_I,hi])
     simpa using this
   have hinv:Hid (Calls prog 250 #[.slice (some ⟨gm0,0,none⟩) b cm0] w1 fun e w2=>∃B1 d1 R1 C1,e=.returned (.tuple #[.slice B1 b d1,.int .i64 0])/\RdM .i64 w2 B1 b R1 (fun _=>b) C1 (fun _ _=>1)/\New w1 w2):=by
    have hn1':=hn1.o;have hH0:H 0=0:=by have:=(hlH.o 0 (by omega)).1;omega
    have hb1:b=1:=by
     rcases Nat.lt_or_ge 1 b with h2|h2
     ·have h3:H 0<H 1:=hpl.hi 0 h2
      have:=(hlH.o 1 h2).1;omega
     ·omega
    have h3:=hMm.o;rw[hb1]at h3 ⊢;exact mat.l_F gm0 cm0 _ _ _ w1 h3 (by show((fcP (U 0) (H 0):Nat):Int)=1;rw[hH0,m_J];rfl)
   go_wp2_with fail;refine hinv.o.mono ?_;rintro e w2 ⟨B1,d1,R1,C1,rfl,hR1,hn2⟩;obtain⟨X,hXe⟩:∃X,Hid (X=r_o):=⟨_,rfl⟩;obtain⟨W,hWe⟩:∃W,Hid (W=b_W n F U):=⟨_,rfl⟩;replace hR1:RdM .i64 w2 B1 b R1 (fun _=>b) C1 (fun i k=>(X i k:Nat)):=by rw[hXe.o];exact hR1
   have hXl:Hid (∀i k,i<b->k<b->X i k<256):=by
    rw[hXe.o];exact fun _ _ _ _=>(by decide:1<256)
   have hFl:Hid (∀k t,F k t<256):=hroH.o.by_;have hHinj:Hid (∀q a,q<a->a<b->H q<H a):=by
    have hi':=hpl.hi;intro q a hqa hab;clear hn2 hR1
    induction a with
    |zero=>omega
    |succ a ih=>
     by_cases e:q=a
     ·subst e;exact hi' q hab
     ·exact Nat.lt_trans (ih (by omega) (by omega)) (hi' a hab)
   have hFB0:Hid (FB w0 w o N n sz G V Ad Gr Cp (b_m X W b H F 0) b H B1 R1 C1 X gw0 cw0 gH Gw W w2):=
    ⟨hfa.o.ro.new hn2,hR1,c_ hfa.o.wn hn2,fun i hi=>⟨by rw[hWe.o];exact u_ (hfa.o.wr i hi) hn2,hfa.o.wlo i hi⟩,(hHH.o.new hfa.o.nw).new hn2,fun g m f hf=>u_ (u_ hf hfa.o.nw) hn2⟩
   clear hR1 hn2 hinv hMm hpl;go_wp2_with fail;go_loopw [72] (fun x wr=>∃a:Nat,x=.int .i64 a/\a<=b/\Hid (FB w0 w o N n sz G V Ad Gr Cp (b_m X W b H F a) b H B1 R1 C1 X gw0 cw0 gH Gw W wr)) (fun x _=>b-(intOf x).toNat);case atStart=>exact⟨0,rfl,by omega,hFB0.o⟩
   case round=>
    obtain⟨a,rfl,hab,hfb⟩:=hrel;obtain⟨w3,rfl⟩:∃w3,w3=wr:=⟨wr,rfl⟩
    by_cases hal:a<b
    ·have ch:=hfb.o.hs.cell hal
     have a0:(0:Int)<=(a:Int):=by omega
     have a1:(a:Int)<(b:Int):=by omega
     have hHa:=hlH.o a hal;obtain⟨q,hq⟩:∃q,Hid (q=H a):=⟨_,rfl⟩;rw[<-hq.o]at ch hHa;have hHaH:=Hd hHa;have hqN:(q:Int)<(N:Int):=by have:=hHa.1;omega
     have q0:(0:Int)<=(q:Int):=by omega
     clear hHa;have hfb1:Hid (FB w0 w o N n sz G V Ad Gr Cp (fun k=>if k=q then(fun t=>xs 0 fun c=>mul (X a c) (W c t))else b_m X W b H F a k) b H B1 R1 C1 X gw0 cw0 gH Gw W w3):=
      hfb.o.congr (fun k t ht=>by
       by_cases e:k=q
       ·rw[if_pos e,e,hq.o,d_1 fun q' hq'=>by have:=hHinj.o q' a hq' hal;omega]
        exact hzH.o a hal t ht
       ·rw[if_neg e]) nN (fun k t=>by
       show(if k=q then(fun t=>xs 0 fun c=>mul (X a c) (W c t))else b_m X W b H F a k) t<256
       by_cases e:k=q
       ·rw[if_pos e];exact(by omega:(0:Nat)<256)
       ·rw[if_neg e];exact e_b hXl.o hFl.o hab k t)
     clear hfb;go_wp2_with fail;go_loopw [79] (fun x wr=>∃c:Nat,x=.int .i64 c/\c<=b/\Hid (FB w0 w o N n sz G V Ad Gr Cp (fun k=>if k=q then(fun t=>xs c fun c'=>mul (X a c') (W c' t))else b_m X W b H F a k) b H B1 R1 C1 X gw0 cw0 gH Gw W wr)) (fun x _=>b-(intOf x).toNat);case atStart=>exact⟨0,rfl,by omega,hfb1.o⟩
     case round=>
      clear hfb1;obtain⟨c,rfl,hcb,hf⟩:=hrel;obtain⟨w4,rfl⟩:∃w4,w4=wr:=⟨wr,rfl⟩
      by_cases hcl:c<b
      ·have b0:(0:Int)<=(c:Int):=by omega
       have b1:(c:Int)<(b:Int):=by omega
       have cw:w4.cell? ⟨gw0,c,none⟩=some (.slice (some ⟨Gw c,0,none⟩) sz sz):=by
        rw[hf.o.wn.cellAt c (by omega)];simp[b_I,hcl]
       have hqn:=hHaH.o.1;have co:w4.cell? ⟨o,q,none⟩=some (.slice (some ⟨Gr q,0,none⟩) sz (Cp q)):=by
        rw[hf.o.ro.o.cell (by omega),(hf.o.ro.val q (by omega) (.inl hqn)).1,(hf.o.ro.hole q (by omega) hqn hHaH.o.2).1]
       obtain⟨bB,oB,rfl,hbB,hcB⟩:=hf.o.re.2.1 (by omega)
       have cB:=hcB a hal;obtain⟨bR,oR,hRa,hbR,hcR⟩:=(hf.o.re.2.2 a hal).1.2 (show 0<b by omega)
       have cR:=hcR c hcl;rw[hRa]at cB;have hxl:=hXl.o a c hal hcl;have hmix:=Hd (fun w' (hn:New w4 w')=>i_m (Gr q) sz (Cp q) sz sz (X a c) (some ⟨Gw c,0,none⟩) (fun t=>xs c fun c'=>mul (X a c') (W c' t)) (fun t=>(W c t:Nat)) w' (by have:=((hf.o.new hn).ro.hole q (by omega) hqn hHaH.o.2).2;rw[if_pos rfl]at this;exact this) (fun t=>h_8 fun c' hc'=>a_u _ _ (hXl.o a c' hal (Nat.lt_of_lt_of_le hc' hcb))) ((m_.of_rowIs ((hf.o.new hn).wr c hcl).1 (Nat.le_refl _) fun j hj=>rfl).rdI (by unfold maxLen;omega)) (fun t ht=>by
        have:=(b_S (U c) (fun i t=>(F i t:Nat)) n t);have h2:W c t<256:=by rw[hWe.o];exact b_o this (hFl.o _ _)
        show 0<=((W c t:Nat):Int)/\((W c t:Nat):Int)<=255;omega) (fun _ b' off' hA=>by cases hA;have:=(hf.o.wr c hcl).2;have:=(hf.o.ro.lo q (by omega) ⟨.inl hqn,.inr ⟨hqn,hHaH.o.2⟩⟩).2;omega) (Nat.le_refl _) (by unfold maxLen;omega) hxl)
       have k1:=t_.keep co;have k2:=t_.keep cB;have k3:=t_.keep cR;clear hcB hcR hqn co cB cR;go_wp2_with fail
       (refine a_D 12 (by kernel_rfl) (by kernel_rfl) ?_;simp only[List.take_succ_cons,List.take_zero,List.drop_succ_cons,List.drop_zero];(repeat (first|go_big_quiet_step (fail)|quiet_step (fail)));refine wpQuiet_nil ?_;rintro W5 ⟨⟨_,hn_W5⟩,rfl⟩)
       go_wp2_with fail;refine(hmix.o _ hn_W5).mono ?_;rintro e w6 ⟨rfl,hr6,hg6⟩;have hfb6:=Hd ((hf.o.new hn_W5).mix nN hHaH.o.1 hHaH.o.2 hg6 hr6 (fun t=>by
        unfold mxF;split
        ·exact b_o (h_8 fun c' hc'=>a_u _ _ (hXl.o a c' hal (Nat.lt_of_lt_of_le hc' hcb))) (a_u _ _ hxl)
        ·exact h_8 fun c' hc'=>a_u _ _ (hXl.o a c' hal (Nat.lt_of_lt_of_le hc' hcb))))
       have hfb7:Hid (FB w0 w o N n sz G V Ad Gr Cp (fun k=>if k=q then(fun t=>xs (c+1) fun c'=>mul (X a c') (W c' t))else b_m X W b H F a k) b H (some ⟨bB,oB,none⟩) R1 C1 X gw0 cw0 gH Gw W w6):=hfb6.o.congr (fun k t ht=>by
        by_cases e:k=q
        ·         rw[if_pos e,if_pos e]
                  unfold mxF;rw[if_pos ht];rfl
        ·rw[if_neg e,if_neg e,if_neg e]) nN (fun k t=>by
        show(if k=q then(fun t=>xs (c+1) fun c'=>mul (X a c') (W c' t))else b_m X W b H F a k) t<256
        by_cases e:k=q
        ·rw[if_pos e];exact h_8 fun c' hc'=>a_u _ _ (hXl.o a c' hal (Nat.lt_of_lt_of_le hc' hcl))
        ·rw[if_neg e];exact e_b hXl.o hFl.o hab k t)
       clear hfb6 hr6 hg6 hmix k1 k2 k3 hf cw;go_wp2;go_roundw;case rel=>exact⟨c+1,by go_num,by omega,hfb7.o⟩
       case measure=>simp[intOf];omega
      ·have hcb2:c=b:=by omega
       subst hcb2;have hf2:Hid (FB w0 w o N n sz G V Ad Gr Cp (b_m X W c H F (a+1)) c H B1 R1 C1 X gw0 cw0 gH Gw W w4):=by
        have:=hf.o;rw[hq.o]at this;exact this
       clear hf;go_wp2;go_roundw;case rel=>exact⟨a+1,by go_num,by omega,hf2.o⟩
       case measure=>simp[intOf];omega
    ·have hab2:a=b:=by omega
     subst hab2;have hfin:Hid (RO w0 o N N n sz w.heap.size G V Ad Gr Cp (b_m r_o (b_W n F U) a H F a) w3/\∀g m f,w.rowIs g 4 m f->w3.rowIs g 4 m f):=by
      rw[<-hXe.o,<-hWe.o];exact⟨hfb.o.ro,hfb.o.ot⟩
     clear hfb;go_wp2;exact Great.bodyPost_end0 rfl rfl ⟨rfl,hfin.o.1,hfin.o.2⟩
def t_O(n:Nat)(f:Nat->Nat)(w:World)(e:Ending)(w':World):Prop:=
 ∃A c,e=.returned (.slice A n c)/\(n<=c/\c<=maxLen)/\(0<n->∃g,A=some ⟨g,0,none⟩/\m_ 5 .u8 w' g n f/\w.heap.size<=g)/\New w w'
theorem l_L(A:Option Addr)(n c:Nat)(f:Nat->Nat)(w:World)(h:RdI .u8 w A n (fun j=>(f j:Nat)))(hn2:n<=8192)(hc:n<=c/\c<=maxLen) :
  Calls prog 133 #[.slice A n c] w (t_O n f w):=by
 by_cases h0:0<n
 ·obtain⟨b,off,rfl,hb,hcs⟩:=h.2 h0
  exact(stripe.Clone_any b off n c f w hcs h0 hn2 hb).mono fun e w' ⟨⟨g,cap,he,hcap,hr,hg⟩,hn⟩=>⟨_,cap,he,hcap,fun _=>⟨g,rfl,hr,hg⟩,hn⟩
 ·obtain rfl:n=0:=by omega
  have hnb:=fun w=>Lib.run_eql_slice_nil (P:=prog) w 35 5 A 0 c 0 0 underlying35;clear h h0;cases A with
  |none=>
   simp only[Option.isNone]at hnb;go_enter func133,ntmps133;go_wp2;go_ret;exact⟨none,0,rfl,⟨Nat.le_refl _,by omega⟩,fun h=>absurd h (Nat.lt_irrefl 0),New.refl w⟩
  |some a=>
   simp only[Option.isNone]at hnb;obtain⟨i0,hi0,hz0,hz1,hz2⟩:=info_parts infoU8;have hlit:=World.ownsRow_lit (e:=5) (size:=1) w #[] 0 (Nat.le_refl _) (by unfold maxLen;omega) rfl
   go_enter func133,ntmps133;go_wp2_with (at_builtin;refine wpList_append_own _ rfl _ _ 35 rfl w.heap.size 5 i0 _ 1 1 underlying35 hi0 hz0 hz1 hz2 rfl (by decide) (Value.slice (some ⟨w.heap.size,0,none⟩) 0 0) 0 [] rfl hlit a 0 c [] rfl rfl (fun j u hu=>by simp at hu) (fun u hu=>by cases hu) (by unfold maxLen;omega) (by omega) (by simp) ?_;intro v3 w3 hown3 hgrow hnil)
   have hgA:(w.alloc (.cells #[] 5)).grownBy w3 (some w.heap.size):=hgrow;have hN:New w w3:=(New.refl w).append' hgA (fun g hg=>by cases hg;exact Nat.le_refl _)
   obtain⟨A',c',rfl,h1,h2,_⟩:=h_ hown3;have hfin:Hid ((0<=c'/\c'<=maxLen)/\New w w3):=⟨⟨Nat.zero_le _,h2⟩,hN⟩;clear hgrow hnil hown3;go_wp2;go_ret;exact⟨_,c',rfl,hfin.o.1,fun h=>absurd h (Nat.lt_irrefl 0),hfin.o.2⟩
section
variable {w0 w w':World}{o M N n sz hi:Nat}{G:Nat->Bool}{V:Nat->Value}{Ad:Nat->Option Addr}{Gr Cp:Nat->Nat}{F:Nat->Nat->Nat}
abbrev up{α:Type}(f:Nat->α)(i:Nat)(x:α):Nat->α:=fun j=>if j=i then x else f j
theorem a_G{α:Type}(f:Nat->α)(i:Nat)(x:α):up f i x i=x:=if_pos rfl
theorem a_4{α:Type}(f:Nat->α){i j:Nat}(x:α)(h:j≠i):up f i x j=f j:=if_neg h
theorem RO.skip(h:RO w0 o M N n sz hi G V Ad Gr Cp F w)(hp:¬Pr n G N):RO w0 o M (N+1) n sz hi G V Ad Gr Cp F w:=by
 have hk:∀k,k<N+1->Pr n G k->k<N:=fun k a b=>by
  by_cases e:k=N
  ·subst e;exact absurd b hp
  ·omega
 exact⟨h.nw,h.o,h.old,fun k a b=>h.val k (hk k a b) b,fun k a b=>h.row k (hk k a b) b,fun k a b=>h.hole k (hk k a (.inl b)) b,fun k l a b c d=>h.inj k l (hk k a c.1) (hk l b d.1) c d,fun k a b=>h.lo k (hk k a b.1) b,h.by_⟩
theorem RO.lay(h:RO w0 o M N n sz hi G V Ad Gr Cp F w){A:Option Addr}{c g:Nat}(hp:Pr n G N)(hc:sz<=c/\c<=maxLen)(hr:0<sz->A=some ⟨g,0,none⟩/\m_ 5 .u8 w g sz (F N))
  (hh:N<n->G N=true->A=some ⟨g,0,none⟩/\w.rowIs g 5 sz (byV (F N))) (hg:Bk sz n G N->hi<=g/\g<w.heap.size) (hw:w0.heap.size<=hi) (hhi:hi<=w.heap.size) :
  RO w0 o M (N+1) n sz w.heap.size G (up V N (.slice A sz c)) (up Ad N A) (up Gr N g) (up Cp N c) F (w.setCell ⟨o,N,none⟩ (.slice A sz c)):=by
 have hgr:=k_ w o N (.slice A sz c);have hk:∀k,k<N+1->k≠N->k<N:=fun k a b=>by omega
 have hg1:(w.setCell ⟨o,N,none⟩ (.slice A sz c)).heap.size=w.heap.size:=by simp[World.setCell]
 refine⟨h.nw.grown1 hgr h.old.1,h.o.set N _,⟨h.old.1,by have:=h.old.2;omega⟩,fun k a b=>?_,fun k a b c'=>?_,fun k a b c'=>?_,fun k l a b c' d e=>?_,fun k a b=>?_,h.by_⟩
 ·by_cases e:k=N
  ·subst e;rw[a_G,a_G,a_G];exact⟨rfl,hc⟩
  ·rw[a_4 _ _ e,a_4 _ _ e,a_4 _ _ e];exact h.val k (hk k a e) b
 ·by_cases e:k=N
  ·subst e;rw[a_G,a_G]
   obtain⟨h1,h2⟩:=hr c';exact⟨h1,h2.grown hgr (fun e=>h2.ne_row h.o (by decide) (by cases e;rfl))⟩
  ·rw[a_4 _ _ e,a_4 _ _ e]
   obtain⟨h1,h2⟩:=h.row k (hk k a e) b c';exact⟨h1,h2.grown hgr (fun e=>h2.ne_row h.o (by decide) (by cases e;rfl))⟩
 ·by_cases e:k=N
  ·subst e;rw[a_G,a_G]
   obtain⟨h1,h2⟩:=hh b c';exact⟨h1,A_ h2 hgr (fun e=>d_X h2 h.o (by decide) (by cases e;rfl))⟩
  ·rw[a_4 _ _ e,a_4 _ _ e]
   obtain⟨h1,h2⟩:=h.hole k (hk k a e) b c';exact⟨h1,A_ h2 hgr (fun e=>d_X h2 h.o (by decide) (by cases e;rfl))⟩
 ·by_cases e1:k=N
  ·subst e1
   rw[a_G,a_4 _ _ (fun x=>e x.symm)];have:=(h.lo l (hk l b (fun x=>e x.symm)) d).2;have:=(hg c').1;omega
  ·rw[a_4 _ _ e1]
   by_cases e2:l=N
   ·subst e2
    rw[a_G];have:=(h.lo k (hk k a e1) c').2;have:=(hg d).1;omega
   ·rw[a_4 _ _ e2]
    exact h.inj k l (hk k a e1) (hk l b e2) c' d e
 ·by_cases e:k=N
  ·subst e;rw[a_G]
   have:=hg b;exact⟨by omega,by omega⟩
  ·rw[a_4 _ _ e]
   have:=h.lo k (hk k a e) b;exact⟨this.1,by omega⟩
theorem f_S(w:World)(a:Addr)(v:Value):(w.setCell a v).heap.size=w.heap.size:=by simp[World.setCell]
theorem RO.layH(h:RO w0 o M N n sz hi G V Ad Gr Cp F w){g:Nat}(hin:N<n)(hG:G N=true)(hrow:w.rowIs g 5 sz (fun _=>.int .u8 0))(hz:∀j,j<sz->byV (F N) j=.int .u8 0)(hg:hi<=g)(hw:w0.heap.size<=hi)(hs:sz<=4096)
  {b m:Nat} {v:Value} {xs:List Value} (hown:w.ownsRow b 3 1 v m xs) :
  RO w0 o M (N+1) n sz (w.setCell ⟨o,N,none⟩ (.slice (some ⟨g,0,none⟩) sz sz)).heap.size G (up V N (.slice (some ⟨g,0,none⟩) sz sz)) (up Ad N (some ⟨g,0,none⟩)) (up Gr N g) (up Cp N sz) F (w.setCell ⟨o,N,none⟩ (.slice (some ⟨g,0,none⟩) sz sz)) /\
  (w.setCell ⟨o,N,none⟩ (.slice (some ⟨g,0,none⟩) sz sz)).ownsRow b 3 1 v m xs:=by
 have hgl:=hrow.lt;have hrow2:w.rowIs g 5 sz (byV (F N)):=hrow.congr fun j hj=>(hz j hj).symm;refine⟨?_,hown.kept (k_ _ _ _ _) (.inr (J_ hown h.o (by decide)))⟩
 rw[f_S];exact h.lay (.inl hin) ⟨Nat.le_refl _,by unfold maxLen;omega⟩ (fun _=>⟨rfl,m_.of_rowIs hrow2 (Nat.le_refl _) fun j hj=>rfl⟩) (fun _ _=>⟨rfl,hrow2⟩) (fun _=>⟨hg,hgl⟩) hw (by omega)
theorem RO.add(h:RO w0 o M N n sz hi G V Ad Gr Cp F w){j g:Nat}{f:Nat->Nat}(hj:j<N)(hnj:n<=j)(hr:w.rowIs g 5 sz (byV f))(hf:∀t,f t<256)(hg:hi<=g)(hw:w0.heap.size<=hi)(hs:sz<=4096)(hG:G j=true) :
  RO w0 o M N n sz (w.setCell ⟨o,j,none⟩ (.slice (some ⟨g,0,none⟩) sz sz)).heap.size (up G j false) (up V j (.slice (some ⟨g,0,none⟩) sz sz)) (up Ad j (some ⟨g,0,none⟩)) (up Gr j g) (up Cp j sz) (up F j f) (w.setCell ⟨o,j,none⟩ (.slice (some ⟨g,0,none⟩) sz sz)):=by
 have hgr:=k_ w o j (.slice (some ⟨g,0,none⟩) sz sz);have hgl:=hr.lt;have hP:∀k,k≠j->Pr n (up G j false) k->Pr n G k:=fun k e a=>by
  rcases a with a|a
  ·exact .inl a
  ·rw[a_4 _ _ e]at a;exact .inr a
 have hB:∀k,k≠j->Bk sz n (up G j false) k->Bk sz n G k:=fun k e a=>by
  refine⟨hP k e a.1,?_⟩;rcases a.2 with b|b
  ·exact .inl b
  ·rw[a_4 _ _ e]at b;exact .inr b
 rw[f_S];refine⟨h.nw.grown1 hgr h.old.1,h.o.set j _,⟨h.old.1,by have:=h.old.2;omega⟩,fun k a b=>?_,fun k a b c=>?_,fun k a b c=>?_,fun k l a b c d e=>?_,fun k a b=>?_,fun k t=>?_⟩
 ·by_cases e:k=j
  ·subst e;rw[a_G,a_G,a_G];exact⟨rfl,Nat.le_refl _,by unfold maxLen;omega⟩
  ·rw[a_4 _ _ e,a_4 _ _ e,a_4 _ _ e];exact h.val k a (hP k e b)
 ·by_cases e:k=j
  ·subst e;rw[a_G,a_G,a_G]
   have hk:m_ 5 .u8 w g sz f:=m_.of_rowIs hr (Nat.le_refl _) fun j hj=>rfl;exact⟨rfl,hk.grown hgr (fun e=>hk.ne_row h.o (by decide) (by cases e;rfl))⟩
  ·rw[a_4 _ _ e,a_4 _ _ e,a_4 _ _ e]
   obtain⟨h1,h2⟩:=h.row k a (hP k e b) c;exact⟨h1,h2.grown hgr (fun e=>h2.ne_row h.o (by decide) (by cases e;rfl))⟩
 ·have e:k≠j:=by omega
  rw[a_4 _ _ e]at c;rw[a_4 _ _ e,a_4 _ _ e,a_4 _ _ e];obtain⟨h1,h2⟩:=h.hole k a b c;exact⟨h1,A_ h2 hgr (fun e=>d_X h2 h.o (by decide) (by cases e;rfl))⟩
 ·by_cases e1:k=j
  ·subst e1
   rw[a_G,a_4 _ _ (fun x=>e x.symm)];have:=(h.lo l b (hB l (fun x=>e x.symm) d)).2;omega
  ·rw[a_4 _ _ e1]
   by_cases e2:l=j
   ·subst e2
    rw[a_G];have:=(h.lo k a (hB k e1 c)).2;omega
   ·rw[a_4 _ _ e2]
    exact h.inj k l a b (hB k e1 c) (hB l e2 d) e
 ·by_cases e:k=j
  ·subst e;rw[a_G];omega
  ·rw[a_4 _ _ e]
   have:=h.lo k a (hB k e b);exact⟨this.1,by omega⟩
 ·by_cases e:k=j
  ·subst e;rw[a_G];exact hf t
  ·rw[a_4 _ _ e];exact h.by_ k t
theorem RO.rdAll(h:RO w0 o M M n sz hi G V Ad Gr Cp F w)(hM:M<=15)(hs:sz<=4096)(hp:∀k,k<M->Pr n G k):RdM .u8 w (some ⟨o,0,none⟩) M Ad (fun _=>sz) Cp (fun k t=>(F k t:Nat)):=
 ⟨by unfold maxLen;omega,fun _=>⟨o,0,rfl,h.o.lt,fun k hk=>by rw[Nat.zero_add,h.o.cell hk,(h.val k hk (hp k hk)).1]⟩,
  fun k hk=>⟨h.rdI hs hk (hp k hk),(h.val k hk (hp k hk)).2⟩⟩
theorem o_1(n h:Nat)(N cO cH cU u:Nat)(O A B:Option Addr)(w:World)(hh:((h:Int)==0)=true):Calls prog 246 #[.slice O N cO,.int .i64 n,.slice A h cH,.slice B u cU] w fun e w'=>e=.returned (.tuple #[])/\w=w':=by
 go_enter func246,ntmps246;go_wp2;refine bodyPost_ret (results_none rfl _ _ _) rfl ?_;exact⟨rfl,rfl⟩
theorem RO.alive(h:RO w0 o M N n sz hi G V Ad Gr Cp F w):RO w0 o M N n sz w.heap.size G V Ad Gr Cp F w:=
 ⟨h.nw,h.o,⟨h.old.1,h.o.lt⟩,h.val,h.row,h.hole,h.inj,fun k a b=>⟨(h.lo k a b).1,by
  rcases b.2 with c|c
  ·exact(h.row k a b.1 c).2.lt
  ·exact(h.hole k a c.1 c.2).2.lt⟩,h.by_⟩
theorem RO.apart(h:RO w0 o M N n sz hi G V Ad Gr Cp F w){b m s:Nat}{v:Value}{xs:List Value}(ho:w.ownsRow b 3 s v m xs)(hg:w.grownBy w' v.ownBlock)(hb:w0.heap.size<=b):RO w0 o M N n sz hi G V Ad Gr Cp F w':=
 ⟨h.nw.grown hg (fun g e=>Nat.le_trans hb (ho.lt _ e).1),A_ h.o hg (J_ ho h.o (by decide)),h.old,h.val,fun k a b c=>⟨(h.row k a b c).1,(h.row k a b c).2.grown hg ((h.row k a b c).2.ne_own ho (by decide))⟩,
  fun k a b c=>⟨(h.hole k a b c).1,A_ (h.hole k a b c).2 hg (J_ ho (h.hole k a b c).2 (by decide))⟩,h.inj,h.lo,h.by_⟩
end
def hfL(G:Nat->Bool)(n:Nat):List Nat:=(List.range n).filter G
def pfL(G:Nat->Bool)(n p:Nat):List Nat:=(List.range p).filter fun j => !G (n+j)
theorem r_L{G:Nat->Bool}{i:Nat}(h:G i=true):hfL G (i+1)=hfL G i++[i]:=by
 unfold hfL;rw[List.range_succ,List.filter_append];simp[h]
theorem t_k{G:Nat->Bool}{i:Nat}(h:G i=false):hfL G (i+1)=hfL G i:=by
 unfold hfL;rw[List.range_succ,List.filter_append];simp[h]
theorem m_f{G:Nat->Bool}{n j:Nat}(h:G (n+j)=false):pfL G n (j+1)=pfL G n j++[j]:=by
 unfold pfL;rw[List.range_succ,List.filter_append];simp[h]
theorem p_g{G:Nat->Bool}{n j:Nat}(h:G (n+j)=true):pfL G n (j+1)=pfL G n j:=by
 unfold pfL;rw[List.range_succ,List.filter_append];simp[h]
theorem m_E(G:Nat->Bool)(n:Nat):(hfL G n).length<=n:=by
 unfold hfL;have:=List.length_filter_le G (List.range n);simpa using this
theorem r_h(G:Nat->Bool)(n p:Nat):(pfL G n p).length<=p:=by
 unfold pfL;have:=List.length_filter_le (fun j => !G (n+j)) (List.range p);simpa using this
theorem get_mem{l:List Nat}{a:Nat}(h:a<l.length):l.getD a 0∈l:=by
 have:l.getD a 0=l[a]:=by simp[List.getD,h]
 rw[this];exact List.getElem_mem h
theorem m_G{l:List Nat}(hl:l.Pairwise (·<·)){a:Nat}(h:a+1<l.length):l.getD a 0<l.getD (a+1) 0:=by
 have h1:l.getD a 0=l[a]:=by simp[List.getD,(by omega:a<l.length)]
 have h2:l.getD (a+1) 0=l[a+1]:=by simp[List.getD,h]
 rw[h1,h2];exact List.pairwise_iff_getElem.1 hl a (a+1) (by omega) h (by omega)
theorem i_x{G:Nat->Bool}{n k:Nat}:k∈hfL G n↔k<n/\G k=true:=by simp[hfL]
theorem f_s{G:Nat->Bool}{n p k:Nat}:k∈pfL G n p↔k<p/\G (n+k)=false:=by simp[pfL]
theorem r_M(G:Nat->Bool)(n:Nat):(hfL G n).Pairwise (·<·):=List.Pairwise.filter _ List.pairwise_lt_range
theorem r_i(G:Nat->Bool)(n p:Nat):(pfL G n p).Pairwise (·<·):=List.Pairwise.filter _ List.pairwise_lt_range
theorem u_1{N n p:Nat}{G:Nat->Bool}(h1:1<=(hfL G n).length)(hp:(hfL G n).length<=(pfL G n p).length)(p3:p<=3)(n1:1<=n)(n12:n<=12)(hN:N=n+p) :
  Pl N n (hfL G n).length G (fun b=>(pfL G n p).getD b 0) (fun a=>(hfL G n).getD a 0):=by
 have hl:=r_h G n p;refine⟨h1,by omega,n1,n12,by omega,by omega,fun b hb=>?_,fun b hb=>m_G (r_i G n p) (by omega),fun b hb=>?_,fun a ha=>i_x.1 (get_mem ha),fun a ha=>m_G (r_M G n) ha⟩
 ·have:=(f_s.1 (get_mem (by omega:b<(pfL G n p).length))).1;omega
 ·have:=f_s.1 (get_mem (by omega:b<(pfL G n p).length));exact⟨by omega,this.2⟩
theorem r_g(G:Nat->Bool)(n:Nat){q p:Nat}(h:q<=p){b:Nat}(hb:b<(pfL G n q).length):(pfL G n q).getD b 0=(pfL G n p).getD b 0:=by
 have h1:∀d,∃r,pfL G n (q+d)=pfL G n q++r:=fun d=>by
  induction d with
  |zero=>exact⟨[],by simp⟩
  |succ d ih=>
   obtain⟨r,hr⟩:=ih;rw[show q+(d+1)=q+d+1 by omega]
   cases hG:G (n+(q+d))with
   |true=>rw[p_g hG];exact⟨r,hr⟩
   |false=>rw[m_f hG,hr];exact⟨r++[q+d],by simp⟩
 obtain⟨r,hr⟩:=h1 (p-q);rw[show q+(p-q)=p by omega]at hr
 rw[hr];simp[List.getD,List.getElem?_append_left hb]
def e_J(x:Nat):Value:=.int .i64 (x:Nat)
theorem h_q(l:List Nat):E_ .i64 (fun a=>l.getD a 0) l.length=l.map e_J:=by
 apply List.ext_getElem
 ·simp[E_]
 ·intro i h1 h2
  have:i<l.length:=by simpa using h2
  simp[E_,e_J,List.getD,this]
def rb0(G:Nat->Bool)(M:Nat->Nat->Int)(k t:Nat):Nat:=if G k=true then 0 else(M k t).toNat%256
theorem k_J(G:Nat->Bool)(M:Nat->Nat->Int)(k t:Nat):rb0 G M k t<256:=by
 unfold rb0;split<;>omega
def rbD(G:Nat->Bool)(n p:Nat)(M:Nat->Nat->Int):Nat->Nat->Nat:=
 b_m r_o (b_W n (rb0 G M) (fun b=>(pfL G n p).getD b 0)) (hfL G n).length (fun a=>(hfL G n).getD a 0) (rb0 G M) (hfL G n).length
def rbF(G:Nat->Bool)(n p:Nat)(M:Nat->Nat->Int)(k t:Nat):Nat:=if n<=k/\G k=true then enN (k-n) (fun i t=>(rbD G n p M i t:Nat)) n t else rbD G n p M k t
theorem p_2(G:Nat->Bool)(n p:Nat)(M:Nat->Nat->Int)(k t:Nat):rbD G n p M k t<256:=
 e_b (fun _ _ _ _=>(by decide:1<256)) (k_J G M) (Nat.le_refl _) k t
theorem k_I(G:Nat->Bool)(n p:Nat)(M:Nat->Nat->Int)(k t:Nat):rbF G n p M k t<256:=by
 unfold rbF;split
 ·exact b_S _ _ _ _
 ·exact p_2 G n p M k t
theorem e_K(j:Nat){M M':Nat->Nat->Int}{t:Nat}:∀{n:Nat},(∀k,k<n->M k t=M' k t)->enN j M n t=enN j M' n t
 |0,_=>rfl
 |n+1,h=>by
  unfold enN;rw[e_K j fun k hk=>h k (by omega),h n (by omega)]
def Gj(G:Nat->Bool)(n j:Nat):Nat->Bool:=fun k=>if n<=k/\k<j then false else G k
def Fj(G:Nat->Bool)(n p:Nat)(M:Nat->Nat->Int)(j:Nat):Nat->Nat->Nat:=fun k t=>if n<=k/\k<j/\G k=true then enN (k-n) (fun i t=>(rbD G n p M i t:Nat)) n t else rbD G n p M k t
theorem n_9(G:Nat->Bool)(n p:Nat)(M:Nat->Nat->Int)(j k t:Nat):Fj G n p M j k t<256:=by
 unfold Fj;split
 ·exact b_S _ _ _ _
 ·exact p_2 G n p M k t
theorem q_Q(G:Nat->Bool)(n:Nat):Gj G n n=G:=by
 funext k;unfold Gj;rw[if_neg (by omega)]
theorem s_p(G:Nat->Bool){n j:Nat}(h:n<=j):up (Gj G n j) j false=Gj G n (j+1):=by
 funext k;unfold up Gj
 by_cases e:k=j
 ·rw[if_pos e,if_pos ⟨by omega,by omega⟩]
 ·rw[if_neg e]
  by_cases e2:n<=k/\k<j
  ·rw[if_pos e2,if_pos ⟨e2.1,by omega⟩]
  ·rw[if_neg e2,if_neg (by omega)]
theorem s_o(G:Nat->Bool){n j:Nat}(h:G j=false):Gj G n (j+1)=Gj G n j:=by
 funext k;unfold Gj
 by_cases e:k=j
 ·subst e
  rw[if_neg (show ¬(n<=k/\k<k) by omega),h]
  split<;>rfl
 ·by_cases e2:n<=k/\k<j
  ·rw[if_pos e2,if_pos ⟨e2.1,by omega⟩]
  ·rw[if_neg e2,if_neg (by omega)]
def q_V(N sz:Nat)(X:Nat->Nat->Nat)(w:World)(e:Ending)(w':World):Prop:=
 ∃o Ad Cp,e=.returned (.slice (some ⟨o,0,none⟩) N N)/\RdM .u8 w' (some ⟨o,0,none⟩) N Ad (fun _=>sz) Cp (fun k t=>(X k t:Nat))/\New w w'
set_option maxHeartbeats 4000000 in
theorem j_9(gg cg N n p sz c:Nat)(A:Option Addr)(G:Nat->Bool)(R:Nat->Option Addr)(L C:Nat->Nat)(M:Nat->Nat->Int)(w:World)(h:RdM .u8 w A N R L C M)(hb:∀i,i<N->∀k,k<L i->0<=M i k/\M i k<=255)
  (hg:w.rowIs gg 4 N (boV G)) (hN:N=n+p) (n1:1<=n) (n12:n<=12) (p1:1<=p) (p3:p<=3) (hok:lOK G L N=true) (hsz:sz=m_y G L N) (hne:lf G N≠[]) (hpf:(hfL G n).length<=(pfL G n p).length) (hsp:(hfL G n).length=0\/n=1) :
  Calls prog 239 #[.slice A N c,.int .i64 n,.slice (some ⟨gg,0,none⟩) N cg] w (q_V N sz (rbF G n p M) w):=by
 have hN15:N<=15:=by omega
 have hnN:n<N:=by omega
 have hNH:=Hd hN;have hsl:sz<=4096:=by
  obtain⟨x,l,hl⟩:=List.exists_cons_of_ne_nil hne;have hx:x∈lf G N:=by rw[hl];exact List.mem_cons_self
  have:=m_z hok x (g_g.1 hx).1 (g_g.1 hx).2;omega
 have hleft:=Hd (j_u gg N c cg A G R L C M w h hg hN15);have h0:=Hd h;have hg0:=Hd hg;have hb0:=Hd hb;have hok0:=Hd (m_z hok);have hsz0:=Hd hsz;have hpf0:=Hd hpf;replace hsp:=Hd hsp;have hln:0<(lf G N).length:=List.length_pos_iff.2 hne;obtain⟨cn,hcn⟩:∃cn,Hid (cn=(lf G N).length):=⟨_,rfl⟩;rw[<-hcn.o]at hln hleft;obtain⟨i0,hi0,hz0,hz1,hz2⟩:=info_parts p_P;have hmk:=run_make_row' (P:=prog) 181 35 (.slice none 0 0) 24 underlying181 i_w rfl .i64 .i64 N (by omega) (by omega)
 have hmk2:=run_make_row' (P:=prog) 35 5 (.int .u8 0) 1 underlying35 infoU8 rfl .i64 .i64 sz (by omega) (by omega)
 clear h hg hb hok hsz hne hpf hN;go_enter func239,ntmps239;go_wp2_with fail;refine hleft.o.mono ?_;rintro e w1 ⟨⟨A',c',rfl,hM1⟩,hn1⟩;obtain⟨b1,off1,rfl,hb1,hcs1⟩:=hM1.2.1 hln;have c10:=hcs1 0 hln;rw[Nat.add_zero]at c10;have hl0:L ((lf G N).getD 0 0)=sz:=hsz0.o.symm;simp only[hl0]at c10;have hn10:=Hd hn1;have hcnI:(0:Int)<(cn:Int):=by omega
 clear hM1 hcs1 hl0 hn1 hleft;go_wp2_with fail;obtain⟨w2,hw2⟩:∃w2,w2=w1.alloc (.cells (madeCells #[.slice none 0 0] N) 35):=⟨_,rfl⟩;have ho2:Hid (w2.rowIs w1.heap.size 35 N (fun _=>.slice none 0 0)):=by rw[hw2];exact World.rowIs_made w1 (.slice none 0 0) N 35
 have hn2:Hid (New w w2):=by rw[hw2];exact hn10.o.alloc _
 have hs2:w2.heap.size=w1.heap.size+1:=by rw[hw2];simp
 rw[<-hw2];obtain⟨o,ho⟩:∃o,o=w1.heap.size:=⟨_,rfl⟩;rw[<-ho]at ho2 hs2 ⊢;have hoo:w.heap.size<=o:=by rw[ho];exact hn10.o.size
 have hs2H:=Hd hs2;clear hw2 c10 hs2 ho;have hro0:Hid (RO w o N 0 n sz w2.heap.size G (fun _=>.slice none 0 0) (fun _=>none) (fun _=>0) (fun _=>0) (rb0 G M) w2):=
  ⟨hn2.o,ho2.o,⟨hoo,by have:=hs2H.o;omega⟩,fun k a=>absurd a (by omega),fun k a=>absurd a (by omega),fun k a=>absurd a (by omega),fun k l a=>absurd a (by omega),fun k a=>absurd a (by omega),k_J G M⟩
 go_loopw [26,9] (fun x hv wr=>∃(i:Nat) (V:Nat->Value) (Ad:Nat->Option Addr) (Gr Cp:Nat->Nat),x=.int .i64 i/\i<=N/\Hid (RO w o N i n sz wr.heap.size G V Ad Gr Cp (rb0 G M) wr)/\Hid (∀k,(i<=k\/¬Pr n G k)->V k=.slice none 0 0) /\
  wr.ownsRow w.heap.size 3 1 hv (hfL G (min i n)).length ((hfL G (min i n)).map e_J)) (fun x _ _=>N-(intOf x).toNat)
 case atStart=>exact⟨0,_,_,_,_,rfl,by omega,hro0.o,fun _ _=>rfl,by rw[Nat.zero_min];exact World.ownsRow_nil _ _ _ _⟩
 case round=>
  clear hro0 ho2 hn2;obtain⟨i,V,Ad,Gr,Cp,rfl,hi,hro,hvn,hown⟩:=hrel;obtain⟨w3,rfl⟩:∃w3,w3=wr:=⟨wr,rfl⟩
  by_cases hlt:i<N
  ·obtain⟨bA,oA,rfl,hbA,hcA⟩:=h0.o.2.1 (by omega)
   have ca:=(hro.o.nw.cell hbA).trans (hcA i hlt);have cg1:w3.cell? ⟨gg,i,none⟩=some (.bool (G i)):=(u_ hg0.o hro.o.nw).cell hlt;have a0:(0:Int)<=(i:Int):=by omega
   have a1:(i:Int)<(N:Int):=by omega
   have co:=hro.o.o.cell hlt;rw[hvn.o i (.inl (Nat.le_refl _))]at co;have cf:=hro.o.o.frozen i;clear hcA;cases hG:G i with
   |false=>
    rw[hG]at cg1;have hLi:L i=sz:=by rw[(hok0.o i hlt hG).1];exact hsz0.o.symm
    have hRi:=(h0.o.2.2 i hlt).1.new hro.o.nw;have hCi:=(h0.o.2.2 i hlt).2;rw[hLi]at ca hRi hCi;have hbi:Hid (∀t,t<sz->0<=M i t/\M i t<=255):=fun t ht=>hb0.o i hlt t (by rw[hLi];exact ht)
    have hRi2:RdI .u8 w3 (R i) sz (fun t=>((M i t).toNat:Nat)):=⟨hRi.1,fun h0=>by
     obtain⟨b,off,hA,hb,hc⟩:=hRi.2 h0;exact⟨b,off,hA,hb,fun t ht=>by rw[hc t ht];have:=hbi.o t ht;congr 2;show M i t=(((M i t).toNat:Nat):Int);omega⟩⟩
    have hclone:=Hd (l_L (R i) sz (C i) (fun t=>(M i t).toNat) w3 hRi2 (by omega) hCi)
    have hGH:=Hd hG;have hownH:=Hd hown;clear hRi hRi2 hCi hLi hG hown;go_wp2_with fail;refine hclone.o.mono ?_;rintro e w4 ⟨Ac,cc,rfl,hcc,hrow,hn4⟩;have hro4:=hro.o.new hn4;have co4:=hro4.o.cell hlt;rw[hvn.o i (.inl (Nat.le_refl _))]at co4;have cf4:=hro4.o.frozen i;have hwsz:=hro.o.nw.size;obtain⟨g,hgg⟩:∃g,0<sz->Ac=some ⟨g,0,none⟩/\m_ 5 .u8 w4 g sz (fun t=>(M i t).toNat)/\w3.heap.size<=g:=by
     by_cases h0:0<sz
     ·obtain⟨g,h1⟩:=hrow h0
      exact⟨g,fun _=>h1⟩
     ·exact⟨0,fun h=>absurd h h0⟩
    have hl1:=Hd (hro4.lay (A:=Ac) (c:=cc) (g:=g) (.inr hGH.o) hcc (fun h0=>⟨(hgg h0).1,(hgg h0).2.1.congr fun t ht=>by
      have:=hbi.o t ht;unfold rb0;rw[if_neg (by rw[hGH.o];simp)]
      show(M i t).toNat=(M i t).toNat%256;omega⟩) (fun _ h=>by rw[hGH.o]at h;cases h) (fun hB=>by
      have h0:0<sz:=by
       rcases hB.2 with h|h
       ·exact h
       ·rw[hGH.o]at h;exact absurd h.2 (by simp)
      exact⟨(hgg h0).2.2,(hgg h0).2.1.lt⟩) hwsz hn4.size)
    rw[<-f_S w4 ⟨o,i,none⟩ (.slice Ac sz cc)]at hl1;have hv':Hid (∀k,(i+1<=k\/¬Pr n G k)->up V i (.slice Ac sz cc) k=.slice none 0 0):=fun k hk=>by
     have hne:k≠i:=by
      intro e;subst e;rcases hk with hk|hk
      ·omega
      ·exact hk (.inr hGH.o)
     rw[a_4 _ _ hne];exact hvn.o k (hk.elim (fun h=>.inl (by omega)) .inr)
    have hlo5:Hid ((w4.setCell ⟨o,i,none⟩ (.slice Ac sz cc)).ownsRow w.heap.size 3 1 u9 (hfL G (min (i+1) n)).length ((hfL G (min (i+1) n)).map e_J)):=by
     have h1:hfL G (min (i+1) n)=hfL G (min i n):=by
      by_cases hin:i<n
      ·rw[show min (i+1) n=i+1 by omega,show min i n=i by omega,t_k hGH.o]
      ·rw[show min (i+1) n=min i n by omega]
     rw[h1];have h2:=c_ hownH.o hn4;exact h2.kept (k_ _ _ _ _) (.inr (J_ h2 hro4.o (by decide)))
    clear hgg hrow hro4 hclone hro hownH hvn hcc hn4;go_wp2;go_roundw;case rel=>exact⟨i+1,_,_,_,_,by go_num,by omega,hl1.o,hv'.o,hlo5.o⟩
    case measure=>simp[intOf];omega
   |true=>
    rw[hG]at cg1
    by_cases hin:i<n
    ·have hini:(i:Int)<(n:Int):=by omega
     have hmin:min i n=i:=by omega
     rw[hmin]at hown;have hl15:(hfL G i).length<=15:=by have:=m_E G i;omega
     obtain⟨l,hl⟩:∃l,Hid (l=hfL G i):=⟨_,rfl⟩;rw[<-hl.o]at hown hl15;have hwsz:=hro.o.nw.size;have hsz0i:(0:Int)<=(sz:Int):=by omega
     go_wp2_with fail;have hneO:u9.ownBlock≠some o:=J_ hown hro.o.o (by decide)
     have hzer:Hid (∀j,j<sz->byV (rb0 G M i) j=.int .u8 0):=fun j hj=>by unfold byV rb0;rw[if_pos hG];rfl
     have hnX:=New.refl w3;go_region_law (refine step_append_lies _ (by rfl) _ _ _ (by rfl) w.heap.size 3 i0 _ 1 8 underlying27 hi0 hz0 hz1 hz2 rfl (by decide) _ l.length (l.map e_J) (by rfl) (by first|exact(hown.alloc _).drew|exact((hown.alloc _).alloc _).drew) _ 1 1 [.int .i64 i] (by rfl) (by rfl) (by first|exact World.news_of_block (cs:=#[.int .i64 _]) (t:=3) (fr:=(0,0)) (heap_alloc_new w3 _)|exact World.news_of_block (cs:=#[.int .i64 _]) (t:=3) (fr:=(0,0)) ((Below.heap_alloc _ _ _ (by simp)).trans (heap_alloc_new w3 _))|exact World.news_of_block (cs:=#[.int .i64 _]) (t:=3) (fr:=(0,0)) (by have:=heap_alloc_new (w3.alloc (.cells (madeCells #[.int .u8 0] sz) 5)) (.cells #[.int .i64 (i:Int)] 3);simp only[World.size_alloc]at this;exact this)) (by simp[Value.oneCell']) (by omega) (by unfold maxLen;omega) (by omega) (by simp;omega) _ rfl ?_;intro g3 c3 w4 hown3 hgrow hat hlt3;have hro4:=RO.apart (hro.o.new (by first|exact(hnX.alloc _).drew|exact((hnX.alloc _).alloc _).drew)) (by first|exact(hown.alloc _).drew|exact((hown.alloc _).alloc _).drew) hgrow (Nat.le_refl _);have co4:=hro4.o.cell hlt;rw[hvn.o i (.inl (Nat.le_refl _))]at co4;have cf4:=hro4.o.frozen i;have co5:∀ob,(w4.alloc ob).cell? ⟨o,i,none⟩=some (.slice none 0 0):=fun ob=>(((New.refl w4).alloc ob).cell (a_ co4)).trans co4;have cf5:∀ob,(w4.alloc ob).frozen? ⟨o,i,none⟩=false:=fun ob=>(hro4.new ((New.refl w4).alloc ob)).o.frozen i;have hz4:=hgrow.size)
     all_goals
      have hlist:Hid (hfL G (min (i+1) n)=l++[i]):=by
       rw[show min (i+1) n=i+1 by omega,r_L hG,hl.o];exact rfl
      clear co4 cf4 co5 cf5 hlt3 hat;obtain⟨hl1,hl2⟩:=(by
       first
        |(have hgr:((w3.alloc (.cells (madeCells #[.int .u8 0] sz) 5)).alloc (.cells #[.int .i64 (i:Int)] 3)).drew.grownBy w4 u9.ownBlock:=hgrow
          have hrow:=A_ (((World.rowIs_made w3 (.int .u8 0) sz 5).alloc (.cells #[.int .i64 (i:Int)] 3)).drew) hgr (J_ (((hown.alloc _).alloc _).drew) (((World.rowIs_made w3 (.int .u8 0) sz 5).alloc (.cells #[.int .i64 (i:Int)] 3)).drew) (by decide))
          exact RO.layH hro4 hin hG hrow hzer.o (Nat.le_refl _) hwsz hsl hown3)
        |(have hgr:((w3.alloc (.cells #[.int .i64 (i:Int)] 3)).alloc (.cells (madeCells #[.int .u8 0] sz) 5)).drew.grownBy w4 u9.ownBlock:=hgrow
          have hrow:=A_ (World.rowIs_made (w3.alloc (.cells #[.int .i64 (i:Int)] 3)) (.int .u8 0) sz 5).drew hgr (J_ (((hown.alloc _).alloc _).drew) (World.rowIs_made (w3.alloc (.cells #[.int .i64 (i:Int)] 3)) (.int .u8 0) sz 5).drew (by decide))
          simp only[World.size_alloc]at hrow;exact RO.layH hro4 hin hG hrow hzer.o (by omega) hwsz hsl hown3)
        |(have hgr:(w3.alloc (.cells #[.int .i64 (i:Int)] 3)).drew.grownBy w4 u9.ownBlock:=hgrow
          exact RO.layH (hro4.new ((New.refl w4).alloc _)) hin hG (World.rowIs_made w4 (.int .u8 0) sz 5) hzer.o (by have:=hgr.size;simp at this;omega) hwsz hsl (hown3.alloc _)))
      have e1:Hid ((hfL G (min (i+1) n)).length=l.length+1):=by rw[hlist.o,List.length_append];exact rfl
      have e2:Hid ((hfL G (min (i+1) n)).map e_J=l.map e_J++[.int .i64 i]):=by rw[hlist.o,List.map_append];exact rfl
      have hl2H:=Hd hl2;have hl1H:=Hd hl1;have hv':Hid (∀(x:Value) k,(i+1<=k\/¬Pr n G k)->up V i x k=.slice none 0 0):=fun x k hk=>by
       have hne:k≠i:=by
        intro e;subst e;rcases hk with hk|hk
        ·omega
        ·exact hk (.inl hin)
       rw[a_4 _ _ hne];exact hvn.o k (hk.elim (fun h=>.inl (by omega)) .inr)
      clear hl1 hl2 hown3 hgrow hro4 hzer hz4;go_wp2;go_roundw;case rel=>exact⟨i+1,_,_,_,_,by go_num,by omega,hl1H.o,hv'.o _,by rw[e1.o,e2.o];exact hl2H.o⟩
      case measure=>simp[intOf];omega
    ·have hini:¬(i:Int)<(n:Int):=by omega
     have hs2:Hid (RO w o N (i+1) n sz w3.heap.size G V Ad Gr Cp (rb0 G M) w3):=hro.o.skip (by
      intro h;rcases h with h|h
      ·exact hin h
      ·rw[hG]at h;cases h)
     have hv':Hid (∀k,(i+1<=k\/¬Pr n G k)->V k=.slice none 0 0):=fun k hk=>hvn.o k (hk.elim (fun h=>.inl (by omega)) .inr)
     have hown2:Hid (w3.ownsRow w.heap.size 3 1 u9 (hfL G (min (i+1) n)).length ((hfL G (min (i+1) n)).map e_J)):=by
      rw[show min (i+1) n=min i n by omega];exact hown
     clear hown hro hvn;go_wp2;go_roundw;case rel=>exact⟨i+1,_,_,_,_,by go_num,by omega,hs2.o,hv'.o,hown2.o⟩
     case measure=>simp[intOf];omega
  ·have hiN:i=N:=by omega
   subst hiN;rw[show min i n=n by omega]at hown
   obtain⟨h,hh⟩:∃h,Hid (h=(hfL G n).length):=⟨_,rfl⟩;obtain⟨AH,cH,hvE,hcH1,hcH2,hAH,_⟩:=h_ hown;rw[<-hh.o]at hvE;obtain rfl:u9=.slice AH h cH:=hvE;have hh12:h<=12:=by rw[hh.o];exact Nat.le_trans (m_E G n) n12
   have hhpf:Hid (h<=(pfL G n p).length):=by rw[hh.o];exact hpf0.o
   have hnegi:¬(i:Int)<(i:Int):=by omega
   have hownH:=Hd hown;have hrH:=Hd hro;have hwsz:=hro.o.nw.size;have hAHl:Hid (∀g,AH=some ⟨g,0,none⟩->g<w3.heap.size):=fun g e=>by
    rcases hownH.o.2 with⟨h1,_⟩|⟨g',cap,cur,h1,_,hg1,_⟩
    ·cases h1;cases e
    ·cases h1;cases e
     exact(Array.getElem?_eq_some_iff.1 hg1).1
   clear hown hAH hcH1 hro hlt hi hvn;go_wp2_with fail;go_loopw [13,10] (fun x uv wr=>∃(q j:Nat),x=.int .i64 j/\Hid (j=n+q)/\j<=i/\q<=p/\(pfL G n q).length<=h/\wr.ownsRow w3.heap.size 3 1 uv (pfL G n q).length ((pfL G n q).map e_J)/\Hid (RO w o i i n sz w3.heap.size G V Ad Gr Cp (rb0 G M) wr)/\Hid (wr.ownsRow w.heap.size 3 1 (.slice AH h cH) (hfL G n).length ((hfL G n).map e_J))/\Hid (w3.heap.size<=wr.heap.size)) (fun x _ _=>i-(intOf x).toNat);case atStart=>exact⟨0,n,rfl,rfl,by omega,by omega,Nat.zero_le _,World.ownsRow_nil _ _ _ _,hrH.o,hownH.o,Nat.le_refl _⟩
   case round=>
    clear hrH hownH;obtain⟨q,j,rfl,hj,hji,hqp,hqh,huv,hro,hhv,hws⟩:=hrel;obtain⟨w5,rfl⟩:∃w5,w5=wr:=⟨wr,rfl⟩;obtain⟨AU,cU,hue,hcU1,hcU2,_,_⟩:=h_ huv;obtain⟨lu,hlu⟩:∃lu,Hid (lu=(pfL G n q).length):=⟨_,rfl⟩;rw[<-hlu.o]at hue hqh;obtain rfl:u10=.slice AU lu cU:=hue
    by_cases hgo:j<i/\lu<h
    ·obtain⟨hjl,hlul⟩:=hgo
     have hjn:(j:Int)-(n:Int)=(q:Int):=by have:=hj.o;omega
     have cg1:w5.cell? ⟨gg,j,none⟩=some (.bool (G j)):=(u_ hg0.o hro.o.nw).cell hjl;have a0:(0:Int)<=(j:Int):=by omega
     have a1:(j:Int)<(i:Int):=by omega
     have a2:(lu:Int)<(h:Int):=by omega
     have hqn:q+1<=p:=by have:=hj.o;have:=hNH.o;omega
     cases hG:G j with
     |true=>
      rw[hG]at cg1;have hpn:Hid (pfL G n (q+1)=pfL G n q):=p_g (by rw[<-hj.o];exact hG)
      have huv2:=Hd huv;clear huv hG;go_wp2;go_roundw;case rel=>exact⟨q+1,j+1,by go_num,(by have:=hj.o;show j+1=n+(q+1);omega),by omega,hqn,by rw[hpn.o,<-hlu.o];exact hqh,by rw[hpn.o,<-hlu.o];rw[<-hlu.o]at huv2;exact huv2.o,hro.o,hhv.o,hws.o⟩
      case measure=>simp[intOf];omega
     |false=>
      rw[hG]at cg1;have hpn:Hid (pfL G n (q+1)=pfL G n q++[q]):=m_f (by rw[<-hj.o];exact hG)
      obtain⟨pl,hpl⟩:∃pl,Hid (pl=pfL G n q):=⟨_,rfl⟩;rw[<-hpl.o]at huv hpn hlu;rw[<-hlu.o]at huv;have hws5:=hws.o;clear hG;go_wp2_with (at_builtin;refine wpList_append_own _ rfl _ _ 27 rfl w3.heap.size 3 i0 _ 1 8 underlying27 hi0 hz0 hz1 hz2 rfl (by decide) _ lu (pl.map e_J) rfl (huv.alloc _) ⟨w5.heap.size,0,none⟩ 1 1 [.int .i64 q] rfl rfl (World.news_of_block (cs:=#[.int .i64 _]) (t:=3) (fr:=(0,0)) (heap_alloc_new w5 _)) (by simp[Value.oneCell']) (by unfold maxLen;omega) (by omega) (by simp;omega) ?_;intro v6 w6 hown6 hgrow hnil)
      have hlo6:∀r,(Value.slice AU lu cU).ownBlock=some r->w3.heap.size<=r:=fun r e=>((huv.alloc (.cells #[.int .i64 (q:Int)] 3)).lt _ e).1;have hro6:=Hd ((hro.o.new ((New.refl w5).alloc _)).far hgrow hlo6);have hhv6:Hid (w6.ownsRow w.heap.size 3 1 (.slice AH h cH) (hfL G n).length ((hfL G n).map e_J)):=by
       refine(hhv.o.alloc _).kept hgrow ?_
       by_cases e:(Value.slice AH h cH).ownBlock=none
       ·exact .inl e
       ·right
        intro e2;obtain⟨g,hg⟩:=Option.ne_none_iff_exists'.1 e;rw[hg]at e2;have h1:=hlo6 g e2.symm;rcases hhv.o.2 with⟨h2,_⟩|⟨g',cap,cur,h2,_⟩
        ·cases h2;cases hg
        ·cases h2
         have h3:=hAHl.o g' rfl;have h4:g'=g:=by simpa [Value.ownBlock]using hg
         omega
      have hown7:Hid (w6.ownsRow w3.heap.size 3 1 v6 (pfL G n (q+1)).length ((pfL G n (q+1)).map e_J)):=by
       rw[hpn.o,List.length_append,List.map_append,<-hlu.o];exact hown6
      have hws6:Hid (w3.heap.size<=w6.heap.size):=by have:=hgrow.size;simp at this;show _<=_;omega
      have hl7:Hid ((pfL G n (q+1)).length<=h):=by rw[hpn.o,List.length_append,<-hlu.o];exact hlul
      clear huv hown6 hgrow hnil hlo6 hro hhv hws;go_wp2;go_roundw;case rel=>exact⟨q+1,j+1,by go_num,(by have:=hj.o;show j+1=n+(q+1);omega),by omega,hqn,hl7.o,hown7.o,hro6.o,hhv6.o,hws6.o⟩
      case measure=>simp[intOf];omega
    ·have hluh:lu=h:=by
      have h1:=hlu.o;have h2:=hhpf.o
      by_cases hjl:j<i
      ·omega
      ·have h3:=hj.o
       have h4:=hNH.o;obtain rfl:q=p:=by omega
       omega
     subst hluh;have hnegj:¬(j<i/\lu<lu):=by omega
     have hfill:Hid (Calls prog 246 #[.slice (some ⟨o,0,none⟩) i i,.int .i64 n,.slice AH lu cH,.slice AU lu cU] w5 fun e w'=>e=.returned (.tuple #[])/\RO w o i i n sz w5.heap.size G V Ad Gr Cp (rbD G n p M) w'/\∀g m f,w5.rowIs g 4 m f->w'.rowIs g 4 m f):=by
      by_cases hz:lu=0
      ·refine(o_1 n lu i i cH cU lu _ _ _ w5 (by subst hz;rfl)).mono ?_
       rintro e w' ⟨he,rfl⟩;refine⟨he,?_,fun g m f h=>h⟩;have hD:rbD G n p M=rb0 G M:=by
        unfold rbD;rw[<-hh.o,hz];rfl
       rw[hD];exact hro.o.later hws.o
      ·have h1:=hhv.o
       rw[<-hh.o]at h1;obtain⟨gH,cH',he1,_,_⟩:=h1.form (by omega)
       cases he1;have h2:=huv;rw[<-hlu.o]at h2;obtain⟨gU,cU',he2,_,_⟩:=h2.form (by omega)
       cases he2;have kH:m_ 3 .i64 w5 gH lu (fun a=>(hfL G n).getD a 0):=by
        rw[<-h_q,<-hh.o]at h1;exact m_.of_own h1
       have kU:m_ 3 .i64 w5 gU lu (fun b=>(pfL G n p).getD b 0):=by
        rw[<-h_q,<-hlu.o]at h2;exact(m_.of_own h2).congr fun b hb=>r_g G n hqp (by rw[<-hlu.o];exact hb)
       have hP:=u_1 (N:=i) (n:=n) (p:=p) (G:=G) (by rw[<-hh.o];omega) (by rw[<-hh.o];exact hhpf.o) p3 n1 n12 hNH.o
       rw[<-hh.o]at hP;have:=q_1 gH cH gU cU o i i n sz lu G V Ad Gr Cp (rb0 G M) (fun b=>(pfL G n p).getD b 0) (fun a=>(hfL G n).getD a 0) w w5 (hro.o.later hws.o) kH kU hP hsl (Nat.le_refl _) (by unfold maxLen;omega) (fun a ha t ht=>by
        show(if G ((hfL G n).getD a 0)=true then 0 else _)=0;rw[if_pos (hP.hl a ha).2]) (by rcases hsp.o with h|h;(· exact absurd (hh.o.trans h) hz);exact h)
       refine this.mono ?_;rintro e w' ⟨he,h3,h4⟩;refine⟨he,?_,h4⟩;unfold rbD;rw[<-hh.o];exact h3
     have hgg5:=Hd (u_ hg0.o hro.o.nw);have hwsz5:Hid (w.heap.size<=w5.heap.size):=hro.o.nw.size;clear huv hhv hro
     by_cases hjl:j<i
     all_goals
      have hlul:¬(lu:Int)<(lu:Int):=by omega
      go_wp2_with fail;refine hfill.o.mono ?_;rintro e w6 ⟨rfl,hro6,hoth⟩;have hro60:Hid (RO w o i i n sz w6.heap.size (Gj G n n) V Ad Gr Cp (Fj G n p M n) w6):=by
       rw[q_Q];exact hro6.alive.congr (fun k t _ _ _=>by unfold Fj;rw[if_neg (by omega)]) (n_9 G n p M n)
      have hgg6:=Hd (hoth gg i _ hgg5.o);clear hro6 hoth hfill hgg5;go_wp2_with fail;go_loopw [14] (fun x wr=>∃(j:Nat) (V:Nat->Value) (Ad:Nat->Option Addr) (Gr Cp:Nat->Nat),x=.int .i64 j/\n<=j/\j<=i/\Hid (RO w o i i n sz wr.heap.size (Gj G n j) V Ad Gr Cp (Fj G n p M j) wr)/\Hid (wr.rowIs gg 4 i (boV G))) (fun x _=>i-(intOf x).toNat);case atStart=>exact⟨n,_,_,_,_,rfl,Nat.le_refl _,by omega,hro60.o,hgg6.o⟩
      case round=>
       clear hro60 hgg6;obtain⟨j3,V3,Ad3,Gr3,Cp3,rfl,hnj,hji3,hr3,hg3⟩:=hrel;obtain⟨w7,rfl⟩:∃w7,w7=wr:=⟨wr,rfl⟩
       by_cases hj3:j3<i
       ·have cg3:=hg3.o.cell hj3
        have hbv:boV G j3=.bool (G j3):=rfl;rw[hbv]at cg3;have a0:(0:Int)<=(j3:Int):=by omega
        have a1:(j3:Int)<(i:Int):=by omega
        clear hbv;cases hG3:G j3 with
        |false=>
         rw[hG3]at cg3;have hr4:Hid (RO w o i i n sz w7.heap.size (Gj G n (j3+1)) V3 Ad3 Gr3 Cp3 (Fj G n p M (j3+1)) w7):=by
           rw[s_o G hG3];exact hr3.o.congr (fun k t _ _ _=>by
            unfold Fj
            by_cases e:n<=k/\k<j3/\G k=true
            ·rw[if_pos e,if_pos ⟨e.1,by omega,e.2.2⟩]
            ·rw[if_neg e,if_neg]
             rintro⟨e1,e2,e3⟩
             by_cases e4:k=j3
             ·rw[e4,hG3]at e3;cases e3
             ·exact e ⟨e1,by omega,e3⟩) (n_9 G n p M _)
         clear hG3 hr3;go_wp2;go_roundw;case rel=>exact⟨j3+1,_,_,_,_,by go_num,by omega,by omega,hr4.o,hg3.o⟩
         case measure=>simp[intOf];omega
        |true=>
         rw[hG3]at cg3;obtain⟨q3,hq3⟩:∃q3,Hid (q3=j3-n):=⟨_,rfl⟩;have hjn3:(j3:Int)-(n:Int)=(q3:Int):=by have:=hq3.o;omega
         have hq33:q3<=3:=by have:=hq3.o;have:=hNH.o;omega
         have hG3H:=Hd hG3;have henc:=Hd (d_I (some ⟨o,0,none⟩) n i sz q3 _ _ _ _ w7 (hr3.o.rdM (by omega) (Nat.le_refl _) hN15 hsl) (fun k hk t ht=>by have:=n_9 G n p M j3 k t;omega) (fun _ _=>rfl) n1 n12 hsl hq33)
         have hnci:(n:Int)<=(i:Int):=by omega
         clear hG3;go_wp2_with fail;refine henc.o.mono ?_;rintro e w8 ⟨g8,rfl,hr8,hn8,hg8⟩;have hro8:=hr3.o.new hn8;have co8:=hro8.o.cell hj3;have cf8:=hro8.o.frozen j3;have hws8:=hr3.o.nw.size;have hrow8:w8.rowIs g8 5 sz (byV (enN q3 (fun i t=>(rbD G n p M i t:Nat)) n)):=hr8.congr fun t ht=>by
           unfold byV;rw[e_K q3 (M':=fun i t=>(rbD G n p M i t:Nat)) fun k hk=>?_];show((Fj G n p M j3 k t:Nat):Int)=((rbD G n p M k t:Nat):Int);unfold Fj;rw[if_neg (by omega)]
         have hadd:=hro8.add (j:=j3) (g:=g8) hj3 hnj hrow8 (fun t=>b_S _ _ _ _) hg8 hws8 hsl (by
           show(if n<=j3/\j3<j3 then false else G j3)=true;rw[if_neg (by omega)];exact hG3H.o)
         rw[s_p G hnj]at hadd;have hr4:=Hd (hadd.congr (F':=Fj G n p M (j3+1)) (fun k t _ _ _=>by
           unfold up Fj
           by_cases e4:k=j3
           ·subst e4
            rw[if_pos rfl,if_pos ⟨hnj,by omega,hG3H.o⟩,hq3.o]
           ·rw[if_neg e4]
            by_cases e:n<=k/\k<j3/\G k=true
            ·rw[if_pos e,if_pos ⟨e.1,by omega,e.2.2⟩]
            ·rw[if_neg e,if_neg]
             rintro⟨e1,e2,e3⟩;exact e ⟨e1,by omega,e3⟩) (n_9 G n p M _))
         have hg4:Hid ((w8.setCell ⟨o,j3,none⟩ (.slice (some ⟨g8,0,none⟩) sz sz)).rowIs gg 4 i (boV G)):=A_ (u_ hg3.o hn8) (k_ _ _ _ _) (fun e=>d_X (u_ hg3.o hn8) hro8.o (by decide) (by cases e;rfl))
         generalize V3 j3=vj at co8;clear hadd hrow8 hr8 hro8 hn8 hr3 henc;go_wp2;go_roundw;case rel=>exact⟨j3+1,_,_,_,_,by go_num,by omega,by omega,hr4.o,hg4.o⟩
         case measure=>simp[intOf];omega
       ·have hj3i:j3=i:=by omega
        subst hj3i;have hfin:Hid (q_V j3 sz (rbF G n p M) w (.returned (.slice (some ⟨o,0,none⟩) j3 j3)) w7):=by
         have h1:=(hr3.o.congr (F':=fun k t=>if k<j3 then rbF G n p M k t else 0) (fun k t hk _ _=>by
           rw[if_pos hk];unfold Fj rbF
           by_cases e:n<=k/\G k=true
           ·rw[if_pos ⟨e.1,hk,e.2⟩,if_pos e]
           ·rw[if_neg e,if_neg (fun e2=>e ⟨e2.1,e2.2.2⟩)]) (fun k t=>by
           split
           ·exact k_I G n p M k t
           ·omega))
         have h2:=h1.rdAll hN15 hsl (fun k hk=>by
           by_cases e:k<n
           ·exact .inl e
           ·right
            show(if n<=k/\k<j3 then false else G k)=false;rw[if_pos ⟨by omega,hk⟩])
         refine⟨o,Ad3,Cp3,rfl,⟨h2.1,h2.2.1,fun k hk=>⟨?_,(h2.2.2 k hk).2⟩⟩,hr3.o.nw⟩;have h3:=(h2.2.2 k hk).1;simp only[if_pos hk]at h3;exact h3
        clear hr3 hg3;go_wp2;go_ret;exact hfin.o
theorem o_0{l:List Nat}(a b:Nat->Bool):(l.filter fun k=>a k||b k).length<=(l.filter a).length+(l.filter b).length:=by
 induction l with
 |nil=>simp
 |cons x l ih=>
  simp only[List.filter_cons];cases a x<;>cases b x<;>simp<;>omega
theorem l_c(N:Nat)(z:Int):((List.range N).filter fun k:Nat=>decide (z=(k:Int))).length<=1:=by
 induction N with
 |zero=>simp
 |succ N ih=>
  rw[List.range_succ,List.filter_append,List.length_append]
  by_cases h:z=(N:Int)
  ·have h0:((List.range N).filter fun k:Nat=>decide (z=(k:Int)))=[]:=by
    rw[List.filter_eq_nil_iff];intro k hk;have:=List.mem_range.1 hk;simp;omega
   rw[h0];simp[h]
  ·simp[h]
   exact ih
theorem l_a(D:Nat->Int)(N:Nat):∀m,((List.range N).filter (gn D m)).length<=m
 |0=>by
  have:(List.range N).filter (gn D 0)=[]:=by
   rw[List.filter_eq_nil_iff];intro k _;simp[gn,n_R]
  rw[this];simp
 |m+1=>by
  have h1:(List.range N).filter (gn D (m+1))=(List.range N).filter fun k=>gn D m k||decide (D m=(k:Int)):=List.filter_congr fun k _=>h_C D m k
  rw[h1];have h2:=o_0 (l:=List.range N) (gn D m) (fun k=>decide (D m=(k:Int)));have h3:=l_a D N m;have h4:=l_c N (D m);omega
theorem m_l(l:List Nat)(a:Nat->Bool):(l.filter a).length+(l.filter fun k => !a k).length=l.length:=by
 induction l with
 |nil=>rfl
 |cons x l ih=>
  simp only[List.filter_cons];cases h:a x<;>simp<;>omega
theorem t_m{D:Nat->Int}{N n p m:Nat}(hN:N=n+p)(hm:m<=p):(hfL (gn D m) n).length<=(pfL (gn D m) n p).length:=by
 have h1:=l_a D N m;rw[hN,List.range_add,List.filter_append,List.length_append]at h1;have h2:=m_l (List.range p) (fun j=>gn D m (n+j));rw[List.filter_map,List.length_map]at h1;simp only[List.length_range]at h2;unfold hfL pfL;have h3:((List.range p).filter ((gn D m) ∘ fun x=>n+x)).length=((List.range p).filter fun j=>gn D m (n+j)).length:=rfl;omega
theorem r_x{D:Nat->Int}{N p m:Nat}(hN:p<N)(hm:m<=p):lf (gn D m) N≠[]:=by
 intro h;have h1:=l_a D N m;have h2:=m_l (List.range N) (gn D m);unfold lf at h;rw[h]at h2;simp at h2;omega
def u_d(N n p Lg:Nat)(G:Nat->Bool)(M:Nat->Nat->Int)(w:World)(e:Ending)(w':World):Prop:=
 ∃A c Ad Cp,e=.returned (.tuple #[.slice A N c,.int .i64 0])/\RdM .u8 w' A N Ad (fun _=>Lg) Cp (fun k t=>(rbF G n p M k t:Nat))/\New w w'
set_option maxHeartbeats 2000000 in
theorem k_e(N c m d pn n Lg:Nat)(A B:Option Addr)(D:Nat->Int)(R:Nat->Option Addr)(C:Nat->Nat)(M:Nat->Nat->Int)(w:World)(hM:RdM .u8 w A N R (fun _=>Lg) C M)(hb:∀i,i<N->∀k,k<Lg->0<=M i k/\M i k<=255)
  (hD:RdI .i64 w B m D) (p1:1<=pn) (p3:pn<=3) (n1:1<=n) (n12:n<=12) (hNn:N=n+pn) (hLg:Lg<=4096) (ho:r_n N D m=false) (hdd:r_U D m=false) (hmp:m<=pn) (hsp:(hfL (gn D m) n).length=0\/n=1) :
  Calls prog 220 #[.slice A N c,.int .i64 pn,.slice B m d] w (u_d N n pn Lg (gn D m) M w):=by
 have hn':=Hd hNn;have hN15:N<=15:=by omega
 have hd:decide ((1:Int)<=(pn:Int)/\(pn:Int)<=3)=true:=decide_eq_true (by omega)
 have hmax:max (0:Int) (pn:Int)=pn:=by omega
 have hmin:min (N:Int) (pn:Int)=pn:=by omega
 have hsub:(N:Int)-(pn:Int)=(n:Int):=by omega
 have hn12i:¬12<(n:Int):=by omega
 have hn1i:¬(n:Int)<1:=by omega
 have hmpi:¬(pn:Int)<(m:Int):=by omega
 have hM0:=Hd hM;have hD0:=Hd hD;have hb0:=Hd hb;have ho0:=Hd (g_7.1 ho);have hd0:=Hd (g_C.1 hdd);have hok:Hid (lOK (gn D m) (fun _=>Lg) N=true):=t_f fun _ _ _=>⟨rfl,hLg⟩;have hls:Hid (m_y (gn D m) (fun _=>Lg) N=Lg):=rfl;have hmk:=run_make_row' (P:=prog) 41 4 (.bool false) 1 underlying41 (by kernel_rfl) rfl .i64 .i64 N (by omega) (by omega)
 have hrow0:Hid ((w.alloc (.cells (madeCells #[.bool false] N) 4)).rowIs w.heap.size 4 N (boV (gn D 0))):=(World.rowIs_made w (.bool false) N 4).congr fun i _=>rfl;replace hsp:=Hd hsp;clear hM hD hb ho hdd hNn;go_enter func220,ntmps220;go_wp2_with fail;refine(f_P _ _).mono ?_;rw[hd];rintro e w1 ⟨rfl,rfl⟩;go_wp2_with fail;go_loopw [37,10] (fun x cv wr=>∃i:Nat,x=.int .i64 i/\i<=m/\cv=.int .i64 0/\Hid (wr.rowIs w.heap.size 4 N (boV (gn D i)))/\Hid (New w wr)) (fun x _ _=>m-(intOf x).toNat);case atStart=>exact⟨0,rfl,by omega,rfl,hrow0.o,(New.refl w).alloc _⟩
 case round=>
  clear hrow0;obtain⟨i,rfl,hi,rfl,hrow,hnw⟩:=hrel;obtain⟨w1,rfl⟩:∃w1,w1=wr:=⟨wr,rfl⟩
  by_cases hlt:i<m
  ·obtain⟨b,off,rfl,hb,hcs⟩:=hD0.o.2 (by omega)
   have c0:=(hnw.o.cell hb).trans (hcs i hlt);have a0:(0:Int)<=(i:Int):=by omega
   have a1:(i:Int)<(m:Int):=by omega
   clear hcs;have hino:0<=D i/\D i<N:=by have:=ho0.o i hlt;unfold n_C at this;omega
   obtain⟨q,hq⟩:∃q:Nat,D i=(q:Int):=⟨(D i).toNat,by omega⟩
   have hg:gn D i q=false:=by have:=hd0.o i hlt;rw[hq]at this;exact this
   rw[hq]at hino c0;have hq2:(q:Int)<(N:Int):=hino.2;have hqn:q<N:=by omega
   have e0:(0:Int)<=(q:Int):=by omega
   have e1:¬(N:Int)<=(q:Int):=by omega
   have hf:=hrow.o.frozen q;have hc:=hrow.o.cell hqn;have hbv:boV (gn D i) q=.bool (gn D i q):=rfl;rw[hbv,hg]at hc;clear hino hbv hg;have hrow2:Hid ((w1.setCell ⟨w.heap.size,q,none⟩ (.bool true)).rowIs w.heap.size 4 N (boV (gn D (i+1)))):=(hrow.o.set q (.bool true)).congr fun k hk=>by
    unfold boV gn;rw[h_C,hq]
    by_cases hkq:k=q
    ·subst hkq;simp
    ·rw[if_neg hkq,decide_eq_false (by omega),Bool.or_false]
   have hnw2:Hid (New w (w1.setCell ⟨w.heap.size,q,none⟩ (.bool true))):=hnw.o.set (Nat.le_refl _) _;clear hq;go_wp2;go_roundw;case rel=>exact⟨i+1,by go_num,by omega,rfl,hrow2.o,hnw2.o⟩
   case measure=>simp[intOf];omega
  ·have him:i=m:=by omega
   subst him;have hni:¬(i:Int)<(i:Int):=by omega
   have hleft:=Hd (j_u w.heap.size N c N A (gn D i) R (fun _=>Lg) C M w1 (hM0.o.new hnw.o) hrow.o hN15);obtain⟨cn,hcn⟩:∃cn,Hid (cn=(lf (gn D i) N).length):=⟨_,rfl⟩;rw[<-hcn.o]at hleft;go_wp2_with fail;refine hleft.o.mono ?_;rintro e w2 ⟨⟨A',c',rfl,hM2⟩,hn2⟩;have hM20:=Hd hM2;have hn20:=Hd hn2;have hev:Hid (Calls prog 234 #[.slice A' cn c'] w2 fun e w''=>e=.returned (.bool true)/\New w2 w''):=by
    have:=j_Q cn c' A' _ _ _ _ w2 hM20.o;rw[<-hok.o];rw[hcn.o]at this ⊢;exact this
   have hbu:=Hd (fun w' (hn:New w1 w')=>j_9 w.heap.size N N n pn Lg c A (gn D i) R (fun _=>Lg) C M w' (hM0.o.new (hnw.o.next hn)) hb0.o (u_ hrow.o hn) hn'.o n1 n12 p1 p3 hok.o hls.o.symm (r_x (p:=pn) (by have:=hn'.o;omega) hmp) (t_m hn'.o hmp) hsp.o)
   clear hM2 hn2 hleft;go_wp2_with fail;refine hev.o.mono ?_;rintro e w3 ⟨rfl,hn3⟩;have hn30:=Hd (hn20.o.next hn3);clear hn3 hev;go_wp2_with fail;refine(hbu.o _ hn30.o).mono ?_;rintro e w4 ⟨o,Ad,Cp,rfl,hR4,hn4⟩;have hfin:=Hd (And.intro hR4 ((hnw.o.next hn30.o).next hn4));clear hR4 hn4 hbu;go_wp2;go_ret2;exact⟨_,_,Ad,Cp,rfl,hfin.o.1,hfin.o.2⟩
end par
end Go.Proofs.YtojcoaekhiadcaaGreat
