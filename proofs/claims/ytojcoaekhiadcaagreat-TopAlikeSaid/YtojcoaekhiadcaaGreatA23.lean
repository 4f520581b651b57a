import Derived.Test.YtojcoaekhiadcaaGreatA01
import Derived.Test.YtojcoaekhiadcaaGreatA22
import Derived.Test.YtojcoaekhiadcaaGreatA02
import Derived.Lib.SliceRun
import Derived.Lib.LazyBuf
set_option linter.unusedVariables false
set_option linter.unusedSimpArgs false
namespace Go.Proofs.YtojcoaekhiadcaaGreat
open Tryz Go.RowKit
namespace vault
set_option maxRecDepth 100000
open Go.ChangeShapes Go.WideShapes Go.ChangeAt kit pool Go.Deep Go.Maps
theorem m_2{w:World}{g m:Nat}{f:Nat->Nat}(h:m_ 5 .u8 w g m f):∃M F,w.rowIs g 5 M F/\m<=M/\∀i,i<m->F i=.int .u8 (f i:Nat):=by
 obtain⟨cs,h1,h2⟩:=h;refine⟨cs.size,fun i=>cs.getD i (.int .u8 0),⟨cs,h1,rfl,fun i hi=>by simp[Array.getD,hi]⟩,?_,fun i hi=>?_⟩
 ·rcases Nat.eq_zero_or_pos m with h0|h0
  ·omega
  ·have:=h2 (m-1) (by omega)
   have:=(Array.getElem?_eq_some_iff.1 this).1;omega
 ·have h3:=h2 i hi
  obtain⟨hl,he⟩:=Array.getElem?_eq_some_iff.1 h3;simp[Array.getD,hl,he]
def p_5(f:Nat->Nat)(t m:Nat)(d:Nat->Nat)(i:Nat):Nat:=if t<=i/\i<t+m then d (i-t)else f i
set_option maxHeartbeats 4000000 in
theorem j_i{A:VA}{o:Nat->Nat}{s:VS}(hA:VOk A)(w:World)(h:VM A o s w)(hd:DOk A s){bad:List Nat}(hbad:bad.length<=mxB A)(bc:Nat->Nat->Nat)(ob:Nat)(g:OG)(off dn dc:Nat)(DA:Option Addr)(df:Nat->Nat)(hv:ObV A.v o w (ptr ob) g)(hg:g.sz<=100000)(hgl:g.bl.length=(g.sz+255)/256)(hb:f_k A o s bad bc w g.bl)(ho:off+dn<=100000)
  (hdr:RdI .u8 w DA dn (fun i=>(df i:Nat))) (hdc:dn<=dc) (hdm:dc<=maxLen) (hd8:∀i,df i<256) (hd0:0<dn) :
  Calls prog 291 #[ptr ob,.int .i64 (off:Nat),.slice DA dn dc] w fun e w'=>∃q bc' l',e=.returned (.tuple #[ptr q,.int .i64 0])/\WrS A o s bad w q (max g.sz (off+dn)) bc bc' l' w'/\l'.length=(max g.sz (off+dn)+255)/256/\∀i,i<256*l'.length->byF bc' l' i=if off<=i/\i<off+dn then df (i-off)else if i<256*g.bl.length then byF bc g.bl i else 0:=by
 have hvH:=Hd hv;obtain⟨ob',bv,e,_,hbo,hrow⟩:=hv;injection e with e;injection e with e;injection e with e;subst e;obtain⟨db,dof,rfl,hdb,hdcs⟩:=hdr.2 hd0;have z0:=hbo.cell 0;have z1:=hbo.cell 1;simp at z0 z1;obtain⟨n,hn⟩:∃n,Hid (n=g.sz):=⟨_,rfl⟩;rw[<-hn.o]at z1;obtain⟨sz,hsz⟩:∃sz,Hid (sz=max g.sz (off+dn)):=⟨_,rfl⟩;have hszb:sz<=100000:=by rw[hsz.o];omega
 have hmx:max (n:Int) ((off:Int)+(dn:Int))=(sz:Int):=by rw[hsz.o,hn.o];omega
 have hgr:=Hd (h_E A.v o ob g sz w hvH.o (by omega) hszb)
 have hVH:=Hd h;have hdH:=Hd hd;have hbH:=Hd hb;have hdcH:=Hd hdcs;rw[<-hsz.o];have hLen:Hid ((sz+255)/256=max g.bl.length ((sz+255)/256)):=by show _=_;rw[hgl,hsz.o];omega
 have hdm2:=hdm;unfold maxLen at hdm2;have hnb:n<=100000:=by rw[hn.o];exact hg
 clear h hd hb hbo hrow hdr hdcs;go_enter func291,ntmps291;go_wp2_with fail;refine hgr.o.mono ?_;rintro e w1 ⟨q,rfl,nb,h1,h2,h3,h4,h5⟩;have hW1:=Hd (WrS.grown h1 h2 hbH.o h5);have hF1:=Hd (fun i hi=>h_D (A:=A) (o:=o) (s:=s) (bad:=bad) h2 hbH.o i hi);obtain⟨J,hJ⟩:∃J,Hid (J=(sz+255)/256):=⟨_,rfl⟩;have hJ1:(g.bl++nb).length=J:=by rw[h4,<-hLen.o,hJ.o]
 rw[hJ1]at hF1;have hst:Hid (∃bc' l',WrS A o s bad w q sz bc bc' l' w1/\l'.length=J/\∀i,i<256*J->byF bc' l' i=if off<=i/\i<off+0 then df (i-off)else if i<256*g.bl.length then byF bc g.bl i else 0):=by
  refine⟨_,_,hW1.o,hJ1,fun i hi=>?_⟩;rw[if_neg (by omega)]
  exact hF1.o i hi
 have hz0:Hid (∀w',New w w'->w'.cell? ⟨ob,0,none⟩=some (ptr A.v)):=fun w' hn'=>(hn'.cell (a_ z0)).trans z0;have hsJ:sz<=256*J:=by rw[hJ.o];omega
 have hJb:J<=1000:=by rw[hJ.o];omega
 have hos:off+dn<=sz:=by rw[hsz.o];omega
 clear hgr h1 h2 h3 h4 h5 hW1 hF1 hJ1 hvH z1;go_wp2_with fail;go_loopw [1,2] (fun x y wr=>∃(j:Nat) (A2:Option Addr) (c2:Nat),x=.int .i64 ((off+j:Nat):Int)/\y=.slice A2 (dn-j) c2/\j<=dn/\(j<dn->A2=some ⟨db,dof+j,none⟩)/\dn-j<=c2/\c2<=dc/\Hid (∃bc' l',WrS A o s bad w q sz bc bc' l' wr/\l'.length=J/\∀i,i<256*J->byF bc' l' i=if off<=i/\i<off+j then df (i-off)else if i<256*g.bl.length then byF bc g.bl i else 0)) (fun x _ _=>off+dn-(intOf x).toNat);case atStart=>exact⟨0,_,_,rfl,rfl,Nat.zero_le _,fun _=>rfl,by omega,Nat.le_refl _,hst⟩
 case round=>
  obtain⟨j,A2,c2,rfl,rfl,hj,hA2,hc2,hc3,hS⟩:=hrel;clear hst
  by_cases hlt:j<dn
  ·obtain rfl:=hA2 hlt
   obtain⟨rem,hrem⟩:∃rem,Hid (rem=dn-j):=⟨_,rfl⟩;have hr0:0<rem:=by rw[hrem.o];omega
   rw[<-hrem.o]at hc2 ⊢;obtain⟨cur,hcur⟩:∃cur,Hid (cur=off+j):=⟨_,rfl⟩;rw[<-hcur.o];have hcs:cur+rem<=sz:=by rw[hcur.o,hrem.o];omega
   obtain⟨t,ht⟩:∃t,Hid (t=cur%256):=⟨_,rfl⟩;obtain⟨k,hk⟩:∃k,Hid (k=cur/256):=⟨_,rfl⟩;obtain⟨m,hm⟩:∃m,Hid (m=min rem (256-t)):=⟨_,rfl⟩;have ht2:t<256:=by rw[ht.o];exact Nat.mod_lt _ (by decide)
   have hkJ:k<J:=by rw[hk.o];omega
   have hm0:0<m:=by rw[hm.o];omega
   have hmr:m<=rem:=by rw[hm.o];omega
   have hmt:t+m<=256:=by rw[hm.o];omega
   have e1:(cur:Int).tdiv 256=(k:Int):=by rw[Int.tdiv_eq_ediv_of_nonneg (by omega),hk.o];omega
   have e1w:IntKind.i64.wrap (k:Int)=(k:Int):=IntWalk.i64_in _ (by omega)
   have e2:(cur:Int).tmod 256=(t:Int):=by rw[Int.tmod_eq_emod_of_nonneg (by omega),ht.o];omega
   obtain⟨rm,hrm⟩:∃rm,Hid (rem=m+rm):=⟨rem-m,by show _=_;omega⟩
   obtain⟨cm,hcm⟩:∃cm,Hid (c2=m+cm):=⟨c2-m,by show _=_;omega⟩
   have hrmc:rm<=cm:=by have:=hrm.o;have:=hcm.o;omega
   have hrI:(0:Int)<(m:Int)+(rm:Int):=by omega
   have e3:min ((m:Int)+(rm:Int)) (256-(t:Int))=(m:Int):=by have:=hrm.o;have h9:=hm.o;omega
   rw[hrm.o,hcm.o];obtain⟨bc',l',hW,hl,hF⟩:=hS.o;obtain⟨v,hqb,hro⟩:=hW.ob.ob;rw[hl]at hro;obtain⟨gr,cr,rfl,hgB⟩:∃gr cr,v=.slice (some ⟨gr,0,none⟩) J cr/\w.heap.size<=gr:=by
    rcases hro.2 with⟨_,h0⟩|⟨g',cap,cur,h0,hb,_⟩
    ·omega
    ·exact⟨g',cap,h0,hb⟩
   obtain⟨b,hb'⟩:∃b,l'[k]?=some b:=⟨_,List.getElem?_eq_getElem (by rw[hl];exact hkJ)⟩
   obtain⟨at_,hbm,hbk⟩:=hW.bl b (List.mem_of_getElem? hb');have d2:=hqb.cell 2;simp at d2;have dk:=World.ownsRow.cells hro rfl k (ptr b) (by rw[a_2,List.getElem?_map,hb'];rfl)
   rw[i_,Nat.zero_add]at dk;have d0:=hz0.o wr hW.nw;obtain⟨r,hr⟩:∃r,Hid (r=256-t):=⟨_,rfl⟩;have htr:t+r=256:=by rw[hr.o];omega
   have hmr2:m<=r:=by rw[hr.o];omega
   have hpg:Hid (∀w',New wr w'->Calls prog 292 #[ptr A.v,ptr b] w' (k_h (bc' b) w')):=fun w' hn'=>
    g_3 hA w' ((VM.tag2 hVH.o hW.nw).new hn') hdH.o hbad b (bc' b) at_ (hbm.new hn') hbk
   have hkeep:Hid (∀w',New wr w'->w'.cell? ⟨ob,0,none⟩=some (ptr A.v)/\w'.cell? ⟨q,2,none⟩=some (.slice (some ⟨gr,0,none⟩) J cr)/\w'.cell? ⟨gr,k,none⟩=some (ptr b)):=fun w' hn'=>⟨(hn'.cell (a_ d0)).trans d0,(hn'.cell (a_ d2)).trans d2,(hn'.cell (a_ dk)).trans dk⟩;have hkI:(k:Int)<(J:Int):=by omega
   have hk0:(0:Int)<=(k:Int):=by omega
   have htrH:=Hd htr;have hlH:=Hd hl;have hWH:=Hd hW;have hFH:=Hd hF;have hqbH:=Hd hqb;have hroH:=Hd hro;have hSgr:Hid (∃cs,Blk wr gr 112 cs):=by
    rcases hro.2 with⟨h0,_⟩|⟨g',cap,cu,h0,_,hg',_⟩
    ·cases h0
    ·injection h0 with h0 _ _
     injection h0 with h0;injection h0 with h0 _ _;subst h0;exact⟨cu,hg'⟩
   clear htr hl hW hF hqb hro hbm hbk hS;go_wp2_with fail;go_region_held3 (fun w'=>w'.cell? ⟨ob,0,none⟩=some (ptr A.v)/\w'.cell? ⟨q,2,none⟩=some (.slice (some ⟨gr,0,none⟩) J cr)/\w'.cell? ⟨gr,k,none⟩=some (ptr b))
    (first
     |with_reducible exact hkeep.o _ (New.refl _).drew
     |with_reducible exact hkeep.o _ hn6.o)
    ((go_at_call 292;refine(hpg.o _ (New.refl wr).drew).mono ?_;rintro e W6 ⟨g3,off3,c3,rfl,d1,dd,d3,d4,d5⟩;have hn6:=Hd (New.next (New.refl wr).drew d5);have hd2:=Hd (And.intro d1 dd);clear d1 dd d5))
   have hcl:Hid (Calls prog 133 #[.slice (some ⟨g3,off3,none⟩) 256 c3] W6 fun e w'=>∃gc cp,e=.returned (.slice (some ⟨gc,0,none⟩) (t+r) (t+cp))/\r<=cp/\t+cp<=maxLen/\m_ 5 .u8 w' gc 256 (bc' b)/\W6.heap.size<=gc/\New W6 w'):=by
    refine Calls.mono (drive.Clone_any g3 off3 256 c3 (bc' b) W6 hd2.o.2 (by omega) (by omega) hd2.o.1) ?_
    rintro e w' ⟨⟨gc,cap,rfl,a1,a2,a3,a4⟩,a5⟩;have:=htrH.o;exact⟨gc,cap-t,by rw[htrH.o,show t+(cap-t)=cap by omega],by omega,by omega,a3,a4,a5⟩
   clear hd2;go_wp2_with fail;refine hcl.o.mono ?_;rintro e w7 ⟨gc,cp,rfl,a1,a2,a3,a4,a5⟩;have hn7:=Hd (hn6.o.next a5);obtain⟨M,F,r1,r2,r3⟩:=m_2 a3;have hr1:=Hd r1;have hr3:=Hd r3;have hgc:=Hd a4;have hsz7:=Hd hn6.o.size;have u1:(t:Int)<=(t:Int)+(r:Int):=by omega
   have u2:(t:Int)<=(t:Int)+(cp:Int):=by omega
   have u3:(0:Int)<=(t:Int):=by omega
   have u4:(m:Int)<=(m:Int)+(cm:Int):=by omega
   have u7:(m:Int)<=(m:Int)+(rm:Int):=by omega
   have u5:(0:Int)<=(m:Int):=by omega
   have u6:¬cp=0:=by omega
   have hmin:Hid (m=Nat.min m r):=(Nat.min_eq_left hmr2).symm;have hszU:Hid ((prog.info? 5).map (·.size)=some 1):=by show _=_;kernel_rfl
   have hpos:Hid (∀i,i<m->w7.drew.cell? ⟨db,dof+j+i,none⟩=some (.int .u8 (df (j+i):Nat))):=fun i hi=>by
    have h1:=hdcH.o (j+i) (by have:=hrem.o;omega)
    have hn':New w w7.drew:=((hWH.o.nw.next hn7.o).drew);rw[Nat.add_assoc];exact(hn'.cell (a_ h1)).trans h1
   have hM:256<=M:=r2;clear a3 a4 a5 r1 r2 r3 hcl hpg hkeep d2 dk d0;go_wp2_with fail;go_region_law (first
    |(refine f_c (by rfl) (.tmp 60) (.tmp 63) 35 35 (by rfl) 5 underlying35 hszU.o gc t M 5 F hr1.o.drew (some ⟨gc,t,none⟩) (some ⟨db,dof+j,none⟩) r cp m (m+cm) m (fun i=>.int .u8 (df (j+i):Nat)) (by rfl) (by rfl) hmin.o (fun _=>⟨rfl,db,dof+j,rfl,hpos.o⟩) (by omega) (fun _ _=>rfl) ?_;intro w8 hr8 hg8))
   have hn8:New wr w8:=Below.grown hn7.o.drew hg8 hn7.o.size (fun r' e=>by cases e;have:=hgc.o;have:=hsz7.o;omega)
   obtain⟨C8,k1,k2,k3⟩:=O_ hr8.o;obtain⟨W9,hW9⟩:∃W9,W9=w8.alloc (.cells #[.slice (some ⟨gc,0,none⟩) (t+r) (t+cp),.pointer none] 115):=⟨_,rfl⟩;obtain⟨x,hx⟩:∃x,Hid (x=w8.heap.size):=⟨_,rfl⟩;have hn9:New wr W9:=by rw[hW9];exact hn8.alloc _
   have hq9:=hqbH.o.new hn9;have ho9:=c_ hroH.o hn9;have hgw:w.heap.size<=gc:=by have:=hgc.o;have:=hsz7.o;have:=hWH.o.nw.size;omega
   have hBN:BlN w.heap.size W9 x (p_5 (bc' b) t m fun i=>df (j+i)):=by
    rw[hW9,hx.o];refine⟨Nat.le_trans hWH.o.nw.size hn8.size,gc,t+cp,C8,by rw[<-htrH.o];exact Blk.fresh _ _ _,hgw,Blk.alloc k1 _,fun i hi=>?_,by have:=htrH.o;omega,a2⟩
    rw[k3 i (by omega)]
    unfold cpF p_5
    by_cases e:t<=i/\i<t+m
    ·rw[if_pos e,if_pos e]
    ·rw[if_neg e,if_neg e]
     rw[hr3.o i hi]
   have hput8:∀i,p_5 (bc' b) t m (fun i=>df (j+i)) i<256:=fun i=>by
    unfold p_5;split
    ·exact hd8 _
    ·obtain⟨at2,_,hbk2⟩:=hWH.o.bl b (List.mem_of_getElem? hb')
     exact hbk2.1 i
   have hWp:=hWH.o.put (k:=k) hn9 (by rw[hx.o];exact hn8.size) hBN hput8 (by rw[hlH.o];exact hkJ) (by rw[hlH.o];exact hq9) (by rw[hlH.o];exact ho9)
   have hxl:x ∉ l':=fun e=>by
    obtain⟨at2,h2,_⟩:=hWH.o.bl x e;obtain⟨cs,h3⟩:=h2.blk;have:=h3.lt;have:=hn8.size;have:=hx.o;omega
   have hfin:Hid (∃bc' l',WrS A o s bad w q sz bc bc' l' (W9.setCell ⟨gr,k,none⟩ (ptr x))/\l'.length=J/\∀i,i<256*J->byF bc' l' i=if off<=i/\i<off+(j+m)then df (i-off)else if i<256*g.bl.length then byF bc g.bl i else 0):=by
    refine⟨_,_,hWp,by rw[List.length_set];exact hlH.o,fun i hi=>?_⟩
    rw[m_Z bc' l' k x _ (by rw[hlH.o];exact hkJ) hxl i (by rw[hlH.o];exact hi)]
    have h0:=hFH.o i hi;have hc:=hcur.o;have hk':=hk.o;have ht':=ht.o
    by_cases e:i/256=k
    ·rw[if_pos e]
     have hbv:byF bc' l' i=bc' b (i%256):=by
      unfold byF;rw[e,List.getD,hb'];rfl
     unfold p_5
     by_cases e2:t<=i%256/\i%256<t+m
     ·rw[if_pos e2,if_pos (show off<=i/\i<off+(j+m) by omega)]
      show df (j+(i%256-t))=_;rw[show j+(i%256-t)=i-off by omega]
     ·rw[if_neg e2,<-hbv,h0]
      by_cases e3:off<=i/\i<off+j
      ·rw[if_pos e3,if_pos (show off<=i/\i<off+(j+m) by omega)]
      ·rw[if_neg e3,if_neg (show ¬(off<=i/\i<off+(j+m)) by omega)]
    ·rw[if_neg e,h0]
     by_cases e3:off<=i/\i<off+j
     ·rw[if_pos e3,if_pos (show off<=i/\i<off+(j+m) by omega)]
     ·rw[if_neg e3,if_neg (show ¬(off<=i/\i<off+(j+m)) by omega)]
   have d8:w8.cell? ⟨q,2,none⟩=some (.slice (some ⟨gr,0,none⟩) J cr):=by
    have:=(hqbH.o.new hn8).cell 2;simpa using this
   have d9:=hq9.cell 2;simp at d9;obtain⟨cg,hcg⟩:=hSgr.o;have g9:=(hcg.new hn9).cell k;have gk:=World.ownsRow.cells ho9 rfl k (ptr b) (by rw[a_2,List.getElem?_map,hb'];rfl)
   rw[i_,Nat.zero_add]at gk;have gf:=(hcg.new hn9).frozen k;have hcurj:Hid (cur+m=off+(j+m)):=by show _=_;rw[hcur.o];omega
   have hremj:Hid (rm=dn-(j+m)):=by show _=_;have:=hrem.o;have:=hrm.o;omega
   have hcml:cm<=dc:=by have:=hcm.o;omega
   have hcb:cur+m<=100000:=by omega
   have hjm:j+m<=dn:=by have:=hrem.o;omega
   rw[hW9]at d9 gk gf hfin;rw[hx.o]at hfin;clear hW9 hn9 hq9 ho9 hBN hput8 hWp hxl k1 k2 k3 g9 hn8 hr8 hg8 hcg
   by_cases hc0:cm=0
   ·have hr00:rm=0:=by omega
    subst hc0;subst hr00;go_wp2;go_roundw;case rel=>exact⟨j+m,_,0,by rw[<-hcurj.o];go_num,by rw[<-hremj.o],hjm,fun h=>absurd hremj.o (by omega),by have:=hremj.o;omega,by omega,hfin⟩
    case measure=>have:=hcurj.o;simp[intOf];omega
   ·go_wp2
    go_roundw;case rel=>exact⟨j+m,_,cm,by rw[<-hcurj.o];go_num,by rw[<-hremj.o],hjm,fun h=>by rw[Nat.add_assoc],by have:=hremj.o;omega,hcml,hfin⟩
    case measure=>have:=hcurj.o;simp[intOf];omega
  ·obtain rfl:j=dn:=by omega
   have hjI:¬(0:Int)<((j-j:Nat):Int):=by omega
   have hfin:Hid (∃bc' l',WrS A o s bad w q sz bc bc' l' wr/\l'.length=J/\∀i,i<256*J->byF bc' l' i=if off<=i/\i<off+j then df (i-off)else if i<256*g.bl.length then byF bc g.bl i else 0):=hS;rw[Nat.sub_self]at hjI ⊢;clear hS;go_wp2;go_ret2;obtain⟨bc',l',f1,f2,f3⟩:=hfin.o;refine⟨q,rfl,bc',l',f1,?_,?_⟩
   ·rw[f2,hJ.o]
   ·intro i hi
    rw[<-hgl];exact f3 i (by rw[<-f2];exact hi)
theorem m_h{w:World}{base n c N:Nat}{R:Option Addr}{l:List Nat}(h:w.ownsRow base 112 1 (.slice R l.length c) l.length (a_2 l))(hN:N<=l.length):w.ownsRow base 112 1 (.slice R N c) (l.take N).length (a_2 (l.take N)):=by
 have hl:(l.take N).length=N:=by rw[List.length_take];omega
 refine⟨by simp[a_2],?_⟩
 rw[hl];rcases h.2 with⟨h0,h1⟩|⟨g',cap,cur,h0,hb,hg,h1,h2,h3,h4⟩
 ·injection h0 with h0 _ hc
  have:N=0:=by omega
  subst this;exact .inl ⟨by rw[h0,hc],rfl⟩
 ·injection h0 with h0 _ hc
  refine .inr ⟨g',cap,cur,by rw[h0,hc],hb,hg,by omega,h2,h3,?_⟩
  rw[Nat.mul_one]at h4 ⊢;rw[a_2,List.map_take,<-a_2,<-h4,List.take_take,Nat.min_eq_left hN]
theorem q_x(bc:Nat->Nat->Nat)(l:List Nat)(N i:Nat)(hi:i<256*N):byF bc (l.take N) i=byF bc l i:=by
 unfold byF;rw[List.getD,List.getD,List.getElem?_take,if_pos (by omega)]
theorem WrS.cut{A:VA}{o:Nat->Nat}{s:VS}{bad:List Nat}{w w':World}{q sz c N:Nat}{R:Option Addr}{bc0 bc:Nat->Nat->Nat}{l:List Nat}(h:WrS A o s bad w q sz bc0 bc l w')(hN:N<=l.length)
  (hq:Blk w' q 100 #[ptr A.v,.int .i64 (sz:Nat),.slice R l.length c]) (ho:w'.ownsRow w.heap.size 112 1 (.slice R l.length c) l.length (a_2 l)) :
  WrS A o s bad w q sz bc0 bc (l.take N) (w'.setCell ⟨q,2,none⟩ (.slice R N c)):=by
 have hqo:(Value.slice R l.length c).ownBlock≠some q:=b_ ho hq (by decide)
 have h1:=ownsRow_setCell_other ho (a:=⟨q,2,none⟩) hqo (.slice R N c);refine⟨⟨h.ob.ge,_,by simpa using hq.put 2 (.slice R N c),m_h (n:=0) h1 hN⟩,fun b hb=>?_,h.old,h.nw.set (p:=⟨q,2,none⟩) h.ob.ge _⟩
 obtain⟨at_,⟨h2,h3⟩,h4⟩:=h.bl b (List.mem_of_mem_take hb);refine⟨at_,⟨h2,?_⟩,h4⟩;cases at_ with
 |none=>obtain⟨g,off,ds,cp,k1,k2,k3,k4⟩:=h3;exact⟨g,off,ds,cp,k1.far (p:=⟨q,2,none⟩) (e_ k1 hq (by decide)) _,k2,k3.far (p:=⟨q,2,none⟩) (e_ k3 hq (by decide)) _,k4⟩
 |some p=>obtain⟨g,k1,k2,k3⟩:=h3;exact⟨g,k1.far (p:=⟨q,2,none⟩) (e_ k1 hq (by decide)) _,k2,k3.far (p:=⟨q,2,none⟩) (e_ k3 hq (by decide)) _⟩
def RsP(A:VA)(o:Nat->Nat)(s:VS)(bad:List Nat)(w:World)(bc:Nat->Nat->Nat)(g:OG)(sz:Nat)(e:Ending)(w':World):Prop:=
 ∃q bc' l',e=.returned (.tuple #[ptr q,.int .i64 0])/\WrS A o s bad w q sz bc bc' l' w'/\l'.length=(sz+255)/256/\∀i,i<256*l'.length->byF bc' l' i=if sz<g.sz/\sz<=i then 0 else if i<256*g.bl.length then byF bc g.bl i else 0
set_option maxHeartbeats 4000000 in
theorem i_j{A:VA}{o:Nat->Nat}{s:VS}(hA:VOk A)(w:World)(h:VM A o s w)(hd:DOk A s){bad:List Nat}(hbad:bad.length<=mxB A)(bc:Nat->Nat->Nat)(ob:Nat)(g:OG)(sz:Nat)(hv:ObV A.v o w (ptr ob) g)(hg:g.sz<=100000)(hgl:g.bl.length=(g.sz+255)/256)(hb:f_k A o s bad bc w g.bl)(hs:sz<=100000) :
  Calls prog 289 #[ptr ob,.int .i64 (sz:Nat)] w (RsP A o s bad w bc g sz):=by
 have hvH:=Hd hv;obtain⟨ob',bv,e,_,hbo,hrow⟩:=hv;injection e with e;injection e with e;injection e with e;subst e;have z0:=hbo.cell 0;have z1:=hbo.cell 1;simp at z0 z1;obtain⟨n,hn⟩:∃n,Hid (n=g.sz):=⟨_,rfl⟩;rw[<-hn.o]at z1;have hgr:=Hd (h_E A.v o ob g sz w hvH.o (by omega) hs)
 have hVH:=Hd h;have hdH:=Hd hd;have hbH:=Hd hb;have hglH:=Hd hgl;obtain⟨J,hJ⟩:∃J,Hid (J=(sz+255)/256):=⟨_,rfl⟩;have hnb:n<=100000:=by rw[hn.o];exact hg
 have hz0:Hid (∀w',New w w'->w'.cell? ⟨ob,0,none⟩=some (ptr A.v)/\w'.cell? ⟨ob,1,none⟩=some (.int .i64 (n:Nat))):=fun w' hn'=>⟨(hn'.cell (a_ z0)).trans z0,(hn'.cell (a_ z1)).trans z1⟩;have hlen0:g.bl.length<=1000:=by omega
 clear h hd hb hbo hrow hgl;go_enter func289,ntmps289;go_wp2_with fail;refine hgr.o.mono ?_;rintro e w1 ⟨q,rfl,nb,h1,h2,h3,h4,h5⟩;have hW1:=WrS.grown h1 h2 hbH.o h5;have hF1:=Hd (fun i hi=>h_D (A:=A) (o:=o) (s:=s) (bad:=bad) h2 hbH.o i hi);obtain⟨bc1,hbc1⟩:∃bc1:Nat->Nat->Nat,bc1=(fun b=>if b<w.heap.size then bc b else fun _=>0):=⟨_,rfl⟩;rw[<-hbc1]at hW1 hF1;obtain⟨l0,hl0⟩:∃l0,l0=g.bl++nb:=⟨_,rfl⟩;rw[<-hl0]at hW1 hF1 h4;have hJL:J<=l0.length:=by rw[h4,hJ.o];omega
 have hLb:l0.length<=1000:=by rw[h4];omega
 have hgl0:n<=sz->l0.length=J:=fun hh=>by rw[h4,hJ.o,hglH.o,<-hn.o];omega
 obtain⟨v,hqb,hro⟩:=hW1.ob.ob;obtain⟨R,cr,rfl⟩:=j_ hro;have hC:=hW1.cut hJL hqb hro;have hqb2:Hid (Blk (w1.setCell ⟨q,2,none⟩ (.slice R J cr)) q 100 #[ptr A.v,.int .i64 (sz:Nat),.slice R J cr]):=by simpa [Hid]using hqb.put 2 (.slice R J cr)
 have hro2:=Hd (m_h (n:=0) (ownsRow_setCell_other hro (a:=⟨q,2,none⟩) (b_ hro hqb (by decide)) (.slice R J cr)) hJL)
 have hblL:g.bl.length<=l0.length:=by rw[h4];omega
 have q2:=hqb.cell 2;have qf:=hqb.frozen 2;simp at q2;have hroc:(R=none/\l0.length=0/\cr=0)\/∃gr,R=some ⟨gr,0,none⟩/\w.heap.size<=gr/\l0.length<=cr/\cr<=maxLen:=by
  rcases hro.2 with⟨h0,h00⟩|⟨g',cap,cur,h0,hb,_,k1,k2,_⟩
  ·injection h0 with h0 _ hc
   exact .inl ⟨h0,h00,hc⟩
  ·injection h0 with h0 _ hc
   subst hc;exact .inr ⟨g',h0,hb,k1,k2⟩
 obtain⟨L,hL⟩:∃L,Hid (L=l0.length):=⟨_,rfl⟩;rw[<-hL.o]at hroc q2 hJL hLb hgl0 hblL;have hCH:=Hd hC;have e1:((sz:Int)+256-1).tdiv 256=(J:Int):=by rw[Int.tdiv_eq_ediv_of_nonneg (by omega),hJ.o];omega
 have e1w:IntKind.i64.wrap (J:Int)=(J:Int):=IntWalk.i64_in _ (by omega)
 have hF1':Hid (∀i,i<256*(l0.take J).length->byF bc1 (l0.take J) i=if i<256*g.bl.length then byF bc g.bl i else 0):=fun i hi=>by
  rw[List.length_take,Nat.min_eq_left (by rw[<-hL.o];exact hJL)]at hi
  rw[q_x _ _ _ _ hi];exact hF1.o i (by have:=hL.o;omega)
 have hlt:Hid ((l0.take J).length=J):=by show _=_;rw[List.length_take,Nat.min_eq_left (by rw[<-hL.o];exact hJL)]
 clear hbc1 hl0 h1 h2 h3 h4 h5 hW1 hF1 hqb hro hC hgr hvH z0 z1;rcases hroc with⟨rfl,rfl,rfl⟩|⟨gr,rfl,hgr,hcr,hcm⟩
 ·obtain rfl:J=0:=by omega
  have hz1:=hz0.o _ hCH.o.nw;obtain⟨W2,hW2⟩:∃W2,W2=w1.setCell ⟨q,2,none⟩ (.slice none 0 0):=⟨_,rfl⟩;rw[<-hW2]at hCH hz1;obtain⟨z0,z1⟩:=hz1;clear hqb2 hro2;have hsz0:¬(sz:Int)<(n:Int):=by have:=hglH.o;have:=hn.o;omega
  go_upto_region 3 with fail;rw[<-hW2];clear hW2 q2 qf;go_wp2;go_ret2;exact⟨q,bc1,_,rfl,hCH.o,by rw[hlt.o,hJ.o],fun i hi=>by rw[if_neg (by have:=hn.o;omega)];exact hF1'.o i hi⟩
 ·have i1:(J:Int)<=(cr:Int):=by omega
  have i0:(0:Int)<=(J:Int):=by omega
  have hcb:cr<=9223372036854775807:=hcm;have hz1:=hz0.o _ hCH.o.nw;obtain⟨W2,hW2⟩:∃W2,W2=w1.setCell ⟨q,2,none⟩ (.slice (some ⟨gr,0,none⟩) J cr):=⟨_,rfl⟩;rw[<-hW2]at hCH hz1 hqb2 hro2;obtain⟨z0,z1⟩:=hz1;go_upto_region 3 with fail;rw[<-hW2];clear hW2 q2 qf
  by_cases hlt2:n<=sz
  ·have hsz0:¬(sz:Int)<(n:Int):=by omega
   go_wp2;go_ret2;exact⟨q,bc1,_,rfl,hCH.o,by rw[hlt.o,hJ.o],fun i hi=>by rw[if_neg (by have:=hn.o;omega)];exact hF1'.o i hi⟩
  ·have hsz1:(sz:Int)<(n:Int):=by omega
   obtain⟨t,ht⟩:∃t,Hid (t=sz%256):=⟨_,rfl⟩;have ht2:t<256:=by rw[ht.o];exact Nat.mod_lt _ (by decide)
   have e2:(sz:Int).tmod 256=(t:Int):=by rw[Int.tmod_eq_emod_of_nonneg (by omega),ht.o];omega
   by_cases ht0:t=0
   ·subst ht0
    go_wp2;go_ret2;refine⟨q,bc1,_,rfl,hCH.o,by rw[hlt.o,hJ.o],fun i hi=>?_⟩
    rw[if_neg (by rw[hlt.o]at hi;have:=ht.o;have:=hJ.o;omega)]
    exact hF1'.o i hi
   ·have ht1:(0:Int)<(t:Int):=by omega
    obtain⟨k,hk⟩:∃k,Hid (k=sz/256):=⟨_,rfl⟩;have hJk:Hid (J=k+1):=by show _=_;rw[hJ.o,hk.o];have:=ht.o;omega
    have e3:(J:Int)-1=(k:Int):=by have:=hJk.o;omega
    have hkJ:k<J:=by have:=hJk.o;omega
    obtain⟨b,hb'⟩:∃b,(l0.take J)[k]?=some b:=⟨_,List.getElem?_eq_getElem (by rw[hlt.o];exact hkJ)⟩
    obtain⟨at_,hbm,hbk⟩:=hCH.o.bl b (List.mem_of_getElem? hb');have d2:=hqb2.o.cell 2;simp at d2;have dk:=World.ownsRow.cells hro2.o rfl k (ptr b) (by rw[a_2,List.getElem?_map,hb'];rfl)
    rw[i_,Nat.zero_add]at dk;obtain⟨r,hr⟩:∃r,Hid (r=256-t):=⟨_,rfl⟩;have htr:t+r=256:=by rw[hr.o];omega
    have hr0:0<r:=by omega
    have hpg:Hid (∀w',New W2 w'->Calls prog 292 #[ptr A.v,ptr b] w' (k_h (bc1 b) w')):=fun w' hn'=>
     g_3 hA w' ((VM.tag2 hVH.o hCH.o.nw).new hn') hdH.o hbad b (bc1 b) at_ (hbm.new hn') hbk
    have hkeep:Hid (∀w',New W2 w'->w'.cell? ⟨ob,0,none⟩=some (ptr A.v)/\w'.cell? ⟨q,2,none⟩=some (.slice (some ⟨gr,0,none⟩) J cr)/\w'.cell? ⟨gr,k,none⟩=some (ptr b)):=fun w' hn'=>⟨(hn'.cell (a_ z0)).trans z0,(hn'.cell (a_ d2)).trans d2,(hn'.cell (a_ dk)).trans dk⟩;have hkI:(k:Int)<(J:Int):=by omega
    have hk0:(0:Int)<=(k:Int):=by omega
    have hwk:IntKind.i64.wrap (k:Int)=(k:Int):=IntWalk.i64_in _ (by omega)
    have htrH:=Hd htr;have hSgr:Hid (∃cs,Blk W2 gr 112 cs):=by
     rcases hro2.o.2 with⟨h0,_⟩|⟨g',cap,cu,h0,_,hg',_⟩
     ·cases h0
     ·injection h0 with h0 _ _
      injection h0 with h0;injection h0 with h0 _ _;subst h0;exact⟨cu,hg'⟩
    clear htr hbm hbk;go_wp2_with fail;go_region_held3 (fun w'=>w'.cell? ⟨ob,0,none⟩=some (ptr A.v)/\w'.cell? ⟨q,2,none⟩=some (.slice (some ⟨gr,0,none⟩) J cr)/\w'.cell? ⟨gr,k,none⟩=some (ptr b))
     (first
      |with_reducible exact hkeep.o _ (New.refl _).drew
      |with_reducible exact hkeep.o _ hn6.o)
     ((go_at_call 292;refine(hpg.o _ (New.refl W2).drew).mono ?_;rintro e W6 ⟨g3,off3,c3,rfl,d1,dd,d3,d4,d5⟩;have hn6:=Hd (New.next (New.refl W2).drew d5);have hd2:=Hd (And.intro d1 dd);clear d1 dd d5))
    have hcl:Hid (Calls prog 133 #[.slice (some ⟨g3,off3,none⟩) 256 c3] W6 fun e w'=>∃gc cp,e=.returned (.slice (some ⟨gc,0,none⟩) (t+r) (t+cp))/\r<=cp/\t+cp<=maxLen/\m_ 5 .u8 w' gc 256 (bc1 b)/\W6.heap.size<=gc/\New W6 w'):=by
     refine Calls.mono (drive.Clone_any g3 off3 256 c3 (bc1 b) W6 hd2.o.2 (by omega) (by omega) hd2.o.1) ?_
     rintro e w' ⟨⟨gc,cap,rfl,a1,a2,a3,a4⟩,a5⟩;have:=htrH.o;exact⟨gc,cap-t,by rw[htrH.o,show t+(cap-t)=cap by omega],by omega,by omega,a3,a4,a5⟩
    clear hd2;go_wp2_with fail;refine hcl.o.mono ?_;rintro e w7 ⟨gc,cp,rfl,a1,a2,a3,a4,a5⟩;have hn7:=Hd (hn6.o.next a5);obtain⟨M,F,r1,r2,r3⟩:=m_2 a3;have hr1:=Hd r1;have hr3:=Hd r3;have hgc:=Hd a4;have hsz7:=Hd hn6.o.size;have u1:(t:Int)<=(t:Int)+(r:Int):=by omega
    have u2:(t:Int)<=(t:Int)+(cp:Int):=by omega
    have u3:(0:Int)<=(t:Int):=by omega
    have u6:¬cp=0:=by omega
    have hM:256<=M:=r2;have hclr:Sem.run prog (Builtin.clear_ #[35] 0 #[.slice (some ⟨gc,t,none⟩) r cp]) w7=.ok (.tuple #[]) (w7.setCells gc t (List.replicate r (.int .u8 0))):=
     Lib.run_clear_slice w7 35 5 0 (.int .u8 0) underlying35 (fun w=>by kernel_rfl) rfl rfl gc t r cp hr0 (fun j hj=>by rw[hr1.o.cell (by have:=htrH.o;omega)];rfl) fun j hj=>hr1.o.frozen _
    obtain⟨W8,hW8⟩:∃W8,W8=w7.setCells gc t (List.replicate r (.int .u8 0)):=⟨_,rfl⟩;have hr8:=rowIs_setCells (List.replicate r (.int .u8 0)) t w7 F hr1.o;rw[<-hW8]at hr8;have hgw:W2.heap.size<=gc:=by have:=hgc.o;have:=hsz7.o;omega
    have hn8:New W2 W8:=by rw[hW8];exact below_setCells hgw _ _ _ hn7.o
    clear a3 a4 a5 r1 r2 r3 hcl hpg d2 dk z0;go_upto_region 10 with fail;rw[<-hW8];clear hclr hW8;obtain⟨C8,k1,k2,k3⟩:=O_ hr8;obtain⟨W9,hW9⟩:∃W9,W9=W8.alloc (.cells #[.slice (some ⟨gc,0,none⟩) (t+r) (t+cp),.pointer none] 115):=⟨_,rfl⟩;obtain⟨x,hx⟩:∃x,Hid (x=W8.heap.size):=⟨_,rfl⟩;have hn9:New W2 W9:=by rw[hW9];exact hn8.alloc _
    have hq9:=hqb2.o.new hn9;have ho9:=c_ hro2.o hn9;have hBN:BlN w.heap.size W9 x (fun i=>if t<=i then 0 else bc1 b i):=by
     rw[hW9,hx.o];refine⟨Nat.le_trans hCH.o.nw.size hn8.size,gc,t+cp,C8,by rw[<-htrH.o];exact Blk.fresh _ _ _,Nat.le_trans hCH.o.nw.size hgw,Blk.alloc k1 _,fun i hi=>?_,by have:=htrH.o;omega,a2⟩
     have htr:=htrH.o;rw[k3 i (by omega)]
     dsimp only
     by_cases e:t<=i
     ·rw[if_pos ⟨e,by rw[List.length_replicate];omega⟩,if_pos e,List.getElem?_replicate,if_pos (by omega)]
      rfl
     ·rw[if_neg (by omega),if_neg e,hr3.o i hi]
    have hb8:∀i,(if t<=i then 0 else bc1 b i)<256:=fun i=>by
     split
     ·omega
     ·obtain⟨at2,_,hbk2⟩:=hCH.o.bl b (List.mem_of_getElem? hb')
      exact hbk2.1 i
    have hWp:=hCH.o.put (k:=k) hn9 (by rw[hx.o];exact hn8.size) hBN hb8 (by rw[hlt.o];exact hkJ) (by rw[hlt.o];exact hq9) (by rw[hlt.o]at ho9 ⊢;exact ho9)
    have hxl:x ∉ l0.take J:=fun e=>by
     obtain⟨at2,h2,_⟩:=hCH.o.bl x e;obtain⟨cs,h3⟩:=h2.blk;have:=h3.lt;have:=hn8.size;have:=hx.o;omega
    have hfin:Hid (RsP A o s bad w bc g sz (.returned (.tuple #[ptr q,.int .i64 0])) (W9.setCell ⟨gr,k,none⟩ (ptr x))):=by
     refine⟨q,_,_,rfl,hWp,by rw[List.length_set,hlt.o,hJ.o],fun i hi=>?_⟩
     rw[List.length_set]at hi;rw[m_Z bc1 _ k x _ (by rw[hlt.o];exact hkJ) hxl i hi]
     have h0:=hF1'.o i hi;rw[hlt.o]at hi;have hk':=hk.o;have ht':=ht.o;have hJ':=hJk.o;have hn':=hn.o
     by_cases e:i/256=k
     ·rw[if_pos e]
      have hbv:byF bc1 (l0.take J) i=bc1 b (i%256):=by
       unfold byF;rw[e,List.getD,hb'];rfl
      by_cases e2:t<=i%256
      ·rw[if_pos e2,if_pos ⟨by omega,by omega⟩]
      ·rw[if_neg e2,if_neg (by omega),<-hbv,h0]
     ·rw[if_neg e,if_neg (by omega),h0]
    have d9:=hq9.cell 2;simp at d9;obtain⟨cg,hcg⟩:=hSgr.o;have d8:W8.cell? ⟨q,2,none⟩=some (.slice (some ⟨gr,0,none⟩) J cr):=by
     have:=(hqb2.o.new hn8).cell 2;simpa using this
    have g9:=(hcg.new hn9).cell k;have gk:=World.ownsRow.cells ho9 rfl k (ptr b) (by rw[a_2,List.getElem?_map,hb'];rfl)
    rw[i_,Nat.zero_add]at gk;have gf:=(hcg.new hn9).frozen k;rw[hW9]at d9 gk gf hfin;rw[hx.o]at hfin;clear hW9 hn9 hq9 ho9 hBN hb8 hWp hxl k1 k2 k3 g9 hn8 hr8 hcg;go_wp2;go_ret2;exact hfin.o
end vault
end Go.Proofs.YtojcoaekhiadcaaGreat
