import Derived.Test.YtojcoaekhiadcaaGreatA01
import Derived.Test.YtojcoaekhiadcaaGreatA34
import Derived.Test.YtojcoaekhiadcaaGreatA35
import Derived.Test.YtojcoaekhiadcaaGreatA25
import Derived.Test.YtojcoaekhiadcaaGreatA31
set_option linter.unusedVariables false
set_option linter.unusedSimpArgs false
namespace Go.Proofs.YtojcoaekhiadcaaGreat
open Tryz Go.RowKit
namespace vault
set_option maxRecDepth 100000
open Go.ChangeShapes Go.WideShapes Go.ChangeAt kit pool drive flet label Go.Deep Go.Maps
def d_m(s:VS)(i:Nat):VS:={s with fresh:=fun k=>if k<i then(s.ds k).dead else s.fresh k}
theorem n_W(s:VS):d_m s 0=s:=by unfold d_m;simp
def p_H:Nat->Int:=fun k=>if k=4 then -1 else 0
theorem VM.freshed{A:VA}{o:Nat->Nat}{s:VS}{w:World}(hA:VOk A){i:Nat}(h:VM A o (d_m s i) w){v:Bool}(hv:v=(s.ds i).dead):VM A o (d_m s (i+1)) (w.setCell ⟨A.fb,i,none⟩ (.bool v)):=by
 have ha:Alt (fun b=>b=A.fb) w (w.setCell ⟨A.fb,i,none⟩ (.bool v)):=Alt.set (K:=fun b=>b=A.fb) (Alt.refl w) (.inl rfl) _;obtain⟨cs,hc,hc2⟩:=h.db;obtain⟨ce,he,_⟩:=O_ h.fb;refine⟨ha.blk h.bk (e_ h.bk he (by decide)),⟨cs,ha.blk hc (e_ hc he (by decide)),hc2⟩,ha.row_is h.eb hA.ef,?_,fun j hj=>(h.dr j hj).keep ha (fun b hb hp e=>by have:=h.of;rw[e]at hp;omega) fun b hb hp=>hp,h.ov,h.od,h.oe,h.of⟩
 refine(h.fb.set i (.bool v)).congr fun j hj=>?_;show(if j=i then Value.bool v else .bool (if j<i then(s.ds j).dead else s.fresh j))=.bool (if j<i+1 then(s.ds j).dead else s.fresh j)
 by_cases e:j=i
 ·rw[if_pos e,if_pos (by omega),hv,e]
 ·rw[if_neg e]
  by_cases h2:j<i
  ·rw[if_pos h2,if_pos (by omega)]
  ·rw[if_neg h2,if_neg (by omega)]
structure OpI(A:VA)(o:Nat->Nat)(s:VS)(T:Int)(root:Ptr)(i p:Nat)(w w':World):Prop where
 vm:VM A o (d_m s i) w'
 bs:∃X,Blk w' p 194 (I_ X)/\((∃i0,X=e_E A T root i0)\/(X=p_H/\∀k,k<i->(s.ds k).dead=true))
 al:Alt (fun b=>b=A.fb) w w'
theorem OpI.new{A:VA}{o:Nat->Nat}{s:VS}{T:Int}{root:Ptr}{i p:Nat}{w w' w'':World}(h:OpI A o s T root i p w w')(hn:New w' w''):OpI A o s T root i p w w'':=by
 obtain⟨X,h1,h2⟩:=h.bs;exact⟨h.vm.new hn,⟨X,h1.new hn,h2⟩,h.al.next hn⟩
def OpP(A:VA)(o:Nat->Nat)(s:VS)(T:Int)(root:Ptr)(x:Nm)(sz:Nat)(q:Ptr)(w w':World):Prop:=∃o' st xb yb nb y,VM A o' (R_ (K_ A {d_m s A.n with lost:=false,time:=T,syn:=y,st:=st} root (fun _=>(T%4).toNat) 1 A.n) A.n) w'/\PlM A.v st xb yb 1 o' ⟨[(x,⟨sz,[nb]⟩)],[]⟩ w'/\(∀f,BlM o' w' nb f (some q))/\Alt (fun b=>16<=o b\/o b=1) w w'/\s_ o o' w
theorem Alt.unnew{K:Nat->Prop}{w w':World}(h:Alt (fun b=>K b\/w.heap.size<=b) w w'):Alt K w w':=⟨h.os,h.tape,h.output,h.size,fun i hi hn=>h.same i hi fun hk=>hk.elim hn fun h=>by omega⟩
theorem t_1{A:VA}{o oR o5 o6:Nat->Nat}{s s6:VS}{T:Int}{root q:Ptr}{x:Nm}{sz:Nat}{w wr W3 w5 w5' w6 w7:World}{st xb yb nb:Nat}{y:Value}(hs6:s6=R_ (K_ A {d_m s A.n with lost:=false,time:=T,syn:=y,st:=st} root (fun _=>(T%4).toNat) 1 A.n) A.n)(hov:o A.v=1)(hof:o A.fb=1)(hlw:A.v<w.heap.size)(hI:Alt (fun b=>b=A.fb) w wr)(h3:Alt (fun b=>b=A.v) wr W3)(hoR:oR=tag2 (tag0 o w) W3)(hpl:PlM A.v st xb yb 1 oR ⟨[(x,⟨sz,[nb]⟩)],[]⟩ w5)(hbm:∀f,BlM oR w5 nb f (some q))(h5:Alt (fun b=>b=A.v) W3 w5)(hn5:New w5 w5')(hs5:s_ (tag0 oR w5) o5 w5')(ha5:Alt (fun b=>16<=tag0 oR w5 b) w5' w6)(hs6':s_ o5 o6 w6)(hV6:VM A o6 s6 w7)(ha6:Alt (fun b=>16<=o5 b) w6 w7):OpP A o s T root x sz q w w7:=by
 have hl1:w.heap.size<=wr.heap.size:=hI.size;have hl2:wr.heap.size<=W3.heap.size:=h3.size;have hl3:W3.heap.size<=w5.heap.size:=h5.size;have hl4:w5.heap.size<=w5'.heap.size:=hn5.size;have hl5:w5'.heap.size<=w6.heap.size:=ha5.size;have c1:∀b,b<w.heap.size->oR b=o b:=fun b hb=>by rw[hoR,a_w _ _ b (by omega),f_ o w b hb]
 have c2:∀b,b<w.heap.size->tag0 oR w5 b=o b:=fun b hb=>by rw[f_ oR w5 b (by omega),c1 b hb]
 have c3:∀b,b<w.heap.size->o5 b=o b:=fun b hb=>by rw[hs5 b (by omega),c2 b hb]
 have c4:∀b,b<w.heap.size->o6 b=o b:=fun b hb=>by rw[hs6' b (by omega),c3 b hb]
 have t0:∀b,tag0 oR w5 b=2->¬16<=tag0 oR w5 b:=fun b h=>by omega
 have t5:∀b,o5 b=2->¬16<=o5 b:=fun b h=>by omega
 have p1:=hpl.alt (K:=fun _=>False) (Alt.of_new hn5) (fun _ _ f=>f) (f_ oR w5);have p2:=p1.alt ha5 t0 hs5;have p3:=p2.alt ha6 t5 hs6';refine⟨o6,st,xb,yb,nb,y,by rw[<-hs6];exact hV6,p3,fun f=>(((hbm f).alt (K:=fun _=>False) (Alt.of_new hn5) (fun _ _ f=>f) (f_ oR w5)).alt ha5 t0 hs5).alt ha6 t5 hs6',Alt.unnew ?_,fun b hb=>c4 b hb⟩
 have kv:∀b,b=A.v->(16<=o b\/o b=1)\/w.heap.size<=b:=fun b e=>.inl (.inr (by rw[e];exact hov))
 refine((((hI.weak fun b e=>.inl (.inr (by rw[e];exact hof))).trans (h3.weak kv)).trans (h5.weak kv)).next hn5).trans ((ha5.weak fun b hb=>?_).trans (ha6.weak fun b hb=>?_))
 ·rcases Nat.lt_or_ge b w.heap.size with hl|hl
  ·exact .inl (.inl (by rw[c2 b hl]at hb;exact hb))
  ·exact .inr hl
 ·rcases Nat.lt_or_ge b w.heap.size with hl|hl
  ·exact .inl (.inl (by rw[c3 b hl]at hb;exact hb))
  ·exact .inr hl
set_option maxHeartbeats 8000000 in
theorem p_j{A:VA}{o:Nat->Nat}{s:VS}(hA:VOk A)(w:World)(h:VM A o s w)(hd:DOk A s)(T:Int)(root q:Ptr)(x:Nm)(sz:Nat){bad:List Nat}(hT:0<=T/\T<=1048576)
  (hsl:∀i,i<A.n->(s.ds i).dead=true\/((s.ds i).dead=false/\∃F,(∀j,j<4->rdS (s.ds i) j=some (F j))/\k_c A T root i F)) (hone:∃i,i<A.n/\(s.ds i).dead=false)
  (hp:d_O A {d_m s A.n with lost:=false,time:=T} bad root 0 (bk1 x sz q)) (h1:1<=root.ct) (hb:bad.length<=mxB A) (hx:1<=x.length/\x.length<=8) (hs:1<=sz/\sz<=256) (hq:∀y∈a_J q,BdI y) (h8:∀y,y∈bk1 x sz q->y<256) (hroot:root.ad<=65536/\root.ct<=32/\root.by_<=128*root.ct/\0<=root.birth/\root.birth<=T) (hrs:a_0 root.sum.1/\a_0 root.sum.2.1/\a_0 root.sum.2.2.1/\a_0 root.sum.2.2.2) (hpt:s.puts<0) (hws:∀i,i<A.n->(s.ds i).ws.length<=60) :
  Calls prog 108 #[ptr A.v] w fun e w'=>e=.returned (.tuple #[])/\OpP A o s T root x sz q w w':=by
 obtain⟨ad,ct,by_,birth,s0,s1,s2',s3⟩:=root;have hn8:=hA.n8;have hAH:=Hd hA;have hdH:=Hd hd;have hslH:=Hd hsl;obtain⟨N,hN⟩:∃N,Hid (N=A.n):=⟨_,rfl⟩;rw[<-hN.o]at hn8;obtain⟨W1,hW1⟩:∃W1,W1=w.alloc (.cells #[.int .i64 0,.int .i64 0,.int .i64 0,.int .i64 0,.int .i64 (-1),.int .i64 0,.int .i64 0,.int .i64 0,.int .i64 0,.int .i64 0,.int .i64 0,.int .i64 0,.int .i64 0] 194):=⟨_,rfl⟩;have hN1:New w W1:=by rw[hW1];exact(New.refl w).alloc _
 have hb1:Blk W1 w.heap.size 194 (I_ p_H):=by rw[hW1];exact Blk.fresh w _ _
 have h1':VM A (tag0 o w) s W1:=h.keep (K:=fun _=>False) (Alt.of_new hN1) (fun _ _ f=>f.elim) (f_ o w);have hst:Hid (OpI A (tag0 o w) s T ⟨ad,ct,by_,birth,s0,s1,s2',s3⟩ 0 w.heap.size w W1):=⟨by rw[n_W];exact h1',⟨p_H,hb1,.inr ⟨rfl,fun k hk=>absurd hk (Nat.not_lt_zero k)⟩⟩,Alt.of_new hN1⟩
 have v2:=h1'.v2;rw[<-hN.o]at v2;have hVH:=Hd h;clear h hd hsl hA h1' hN1 hb1;go_enter func108,ntmps108;go_upto_region 1 with fail;rw[<-hW1];clear hW1;go_wp2_with fail;go_loopw [18] (fun x wr=>∃i:Nat,x=.int .i64 i/\i<=N/\Hid (OpI A (tag0 o w) s T ⟨ad,ct,by_,birth,s0,s1,s2',s3⟩ i w.heap.size w wr)) (fun x _=>N-(intOf x).toNat);case atStart=>exact⟨0,rfl,by omega,hst⟩
 case round=>
  obtain⟨i,rfl,hi,hI⟩:=hrel;clear hst v2
  by_cases hlt:i<N
  ·have hiI:(i:Int)<(N:Int):=by omega
   have hi0:(0:Int)<=(i:Int):=by omega
   have hiA:i<A.n:=by rw[<-hN.o];exact hlt
   have vd:=hI.o.vm.drive hiA;obtain⟨dr,hdr⟩:∃dr,Hid (dr=A.dr i):=⟨_,rfl⟩;have hrd:=Hd (fun(w':World) (hn:New wr w') (j:Nat) (hj:j<512)=>j_a _ (A.dr i) (s.ds i) j w' ((hI.o.vm.new hn).dr i hiA) hj (hdH.o.w i hiA));rw[<-hdr.o]at vd hrd;replace hrd:Hid (∀w',New wr w'->∀j,j<512->_):=hrd;rcases hslH.o i hiA with hdead|⟨halive,F,hF,hS⟩
   ·have hcode:Hid (∀j,d_4 (s.ds i) j=13/\rdS (s.ds i) j=none):=fun j=>⟨by unfold d_4;rw[if_pos hdead],by unfold rdS;rw[if_pos hdead]⟩
    go_wp2_with fail;obtain⟨w9,hw9⟩:∃w9,w9=wr:=⟨_,rfl⟩;subst hw9;go_loopw [5,23] (fun lv x wi=>∃j:Nat,x=.int .i64 j/\j<=4/\lv=.slice none 0 0/\Hid (New w9 wi)) (fun _ x _=>4-(intOf x).toNat);case atStart=>exact⟨0,rfl,by omega,rfl,New.refl _⟩
    case round=>
     obtain⟨j,rfl,hj,rfl,hNW⟩:=hrel
     by_cases hj4:j<4
     ·have hjI:(j:Int)<4:=by omega
      have hrj:=hrd.o wr hNW.o j (by omega)
      rw[(hcode.o j).1,(hcode.o j).2]at hrj;have hrj:=Hd hrj;go_wp2_with fail;refine hrj.o.mono ?_;rintro e w5 ⟨rv,rfl,hdat,hn5⟩;obtain rfl:rv=.slice none 0 0:=hdat;have hfin:Hid (New w9 (w5.alloc (.cells #[.int .i64 13,.slice none 0 0] 187))):=(hNW.o.next hn5).alloc _;clear hn5;go_wp2;go_roundw;case rel=>exact⟨j+1,by go_num,by omega,rfl,hfin⟩
      case measure=>simp[intOf];omega
     ·obtain rfl:j=4:=by omega
      have hI9:=hI.o.new hNW.o;clear hrd;go_wp2_with fail;refine(o_b (w:=wr)).mono ?_;rintro e w5 ⟨rfl,hn5⟩;obtain⟨W6,hW6⟩:∃W6,W6=w5.alloc (.cells #[.int .i64 0,.int .i64 0,.int .i64 0,.int .i64 0,.int .i64 0,.int .i64 0,.int .i64 0,.int .i64 0,.int .i64 0,.int .i64 0,.int .i64 0,.int .i64 0,.int .i64 0] 194):=⟨_,rfl⟩;have hb6:Blk W6 w5.heap.size 194 #[.int .i64 0,.int .i64 0,.int .i64 0,.int .i64 0,.int .i64 0,.int .i64 0,.int .i64 0,.int .i64 0,.int .i64 0,.int .i64 0,.int .i64 0,.int .i64 0,.int .i64 0]:=by rw[hW6];exact Blk.fresh w5 _ _
      have hn6:New w5 W6:=by rw[hW6];exact(New.refl w5).alloc _
      have hI6:=hI9.new (hn5.next hn6);have v4:=hI6.vm.v4;rw[<-hN.o]at v4;have vf:=hI6.vm.fb.cell hiA;have ff:=hI6.vm.fb.frozen i;obtain⟨⟨e0,e1,e2,e3,e4,e5,e6,e7,e8,e9,e10,e11,e12⟩,_⟩:=d_s hb6;obtain⟨W7,hW7⟩:∃W7,W7=W6.setCell ⟨A.fb,i,none⟩ (.bool true):=⟨_,rfl⟩;obtain⟨cf,hcf,_⟩:=O_ hI6.vm.fb;obtain⟨X,hX,hXc⟩:=hI6.bs;have hV7:VM A (tag0 o w) (d_m s (i+1)) W7:=by rw[hW7];exact hI6.vm.freshed hAH.o hdead.symm
      have hfin:Hid (OpI A (tag0 o w) s T ⟨ad,ct,by_,birth,s0,s1,s2',s3⟩ (i+1) w.heap.size w W7.drew):=by
       refine⟨hV7.new (New.refl _).drew,⟨X,?_,?_⟩,?_⟩
       ·rw[hW7]
        exact(hX.far (p:=⟨A.fb,i,none⟩) (e_ hX hcf (by decide)) _).drew
       ·rcases hXc with h|⟨h1,h2⟩
        ·exact .inl h
        ·    refine .inr ⟨h1,fun k hk=>?_⟩
             by_cases e:k=i
             ·rw[e];exact hdead
             ·exact h2 k (by omega)
       ·rw[hW7]
        exact(Alt.set (K:=fun b=>b=A.fb) hI6.al (.inl rfl) _).drew
      have u4:=hV7.v4;rw[<-hN.o]at u4;have uf:W7.cell? ⟨A.fb,i,none⟩=some (.bool true):=by
       have h:=(hI6.vm.fb.set i (.bool true)).cell hiA;rw[<-hW7]at h;simpa using h
      obtain⟨fv,hfv⟩:∃fv,fv=(d_m s i).fresh i:=⟨_,rfl⟩;rw[<-hfv]at vf;clear hfv hb6 hn5 hn6 hI6 hI9 hcf hV7 hX hXc;go_upto_region 13 with fail;rw[<-hW6];clear hW6;go_region;rw[<-hW7];clear hW7;go_wp2;go_roundw;case rel=>exact⟨i+1,by go_num,by omega,hfin⟩
      case measure=>simp[intOf];omega
   ·have hcode:Hid (∀j,j<4->d_4 (s.ds i) j=0):=fun j hj=>g_G (hF j hj)
    have hFH:=Hd hF;have hSH:=Hd hS;obtain⟨is,his,hsz0,hsz1,hsz2⟩:=info_parts m_B;clear hF hS;go_wp2_with fail;obtain⟨w9,hw9⟩:∃w9,w9=wr:=⟨_,rfl⟩;subst hw9;go_loopw [5,23] (fun lv x wi=>∃j:Nat,x=.int .i64 j/\j<=4/\Hid (LtM wi w9.heap.size lv j F)/\Hid (New w9 wi)) (fun _ x _=>4-(intOf x).toNat);case atStart=>exact⟨0,rfl,by omega,LtM.nil _ _ _,New.refl _⟩
    case round=>
     obtain⟨j,rfl,hj,hL,hNW⟩:=hrel
     by_cases hj4:j<4
     ·have hjI:(j:Int)<4:=by omega
      have hrj:=hrd.o wr hNW.o j (by omega)
      rw[hcode.o j hj4,hFH.o j hj4]at hrj;have hrj:=Hd hrj;obtain⟨G,C,ho1,ho2⟩:=hL.o;obtain⟨R1,c1,rfl⟩:=j_ ho1;have ho1:=Hd ho1;have ho2:=Hd ho2;clear hL;go_wp2_with fail;refine hrj.o.mono ?_;rintro e w5 ⟨rv,rfl,hdat,hn5⟩;obtain⟨b,c,rfl,hc1,hc2,hrow⟩:=hdat;have hrow:=Hd hrow;obtain⟨W6,hW6⟩:∃W6,W6=w5.alloc (.cells #[.int .i64 0,.slice (some ⟨b,0,none⟩) 128 c] 187):=⟨_,rfl⟩;have hb6:Blk W6 w5.heap.size 187 #[.int .i64 0,.slice (some ⟨b,0,none⟩) 128 c]:=by rw[hW6];exact Blk.fresh w5 _ _
      have hn6:New w5 W6:=by rw[hW6];exact(New.refl w5).alloc _
      have y0:=hb6.cell 0;have y1:=hb6.cell 1;simp at y0 y1;have hn56:=Hd (New.next hn5 hn6);have hrow6:=Hd (hrow.o.new hn6);have hown6:=Hd (c_ ho1.o hn56.o);clear hn5 hn6 hb6;go_upto_region 9 with fail;rw[<-hW6];clear hW6;have h96:w9.heap.size<=W6.heap.size:=Nat.le_trans hNW.o.size hn56.o.size;go_wp2_with (first
       |(at_builtin;refine wpList_append_lies _ rfl (.tmp 33) (.tmp 36) 181 rfl w9.heap.size 35 is _ 1 24 underlying181 his hsz0 hsz1 hsz2 rfl (by decide) (.slice R1 j c1) j _ rfl (hown6.o.alloc _) ⟨W6.heap.size,0,none⟩ 1 1 [.slice (some ⟨b,0,none⟩) 128 c] rfl rfl (World.news_of_block (cs:=#[.slice (some ⟨b,0,none⟩) 128 c]) (t:=35) (fr:=(0,0)) (heap_alloc_new W6 _)) (by simp[Value.oneCell']) (by omega) (by unfold maxLen;omega) (by omega) (by rw[World.size_alloc];omega) _ rfl ?_
         intro g7 c7 w7 ho7 hg7 h7 hl7;have hfin:Hid (LtM w7 w9.heap.size (.slice (some ⟨g7,0,none⟩) (j+1) c7) (j+1) F/\New w9 w7):=⟨r_v hown6.o (fun i hi=>⟨(ho2.o i hi).1,(ho2.o i hi).2.1,(ho2.o i hi).2.2.new hn56.o⟩) hrow6.o ⟨hc1,hc2⟩ hg7 ho7,(hNW.o.next hn56.o).append' hg7 fun g hg=>(hown6.o.lt g hg).1⟩;clear ho7 hg7 h7 hl7)
       |fail)
      go_roundw;case rel=>exact⟨j+1,by go_num,by omega,hfin.o.1,hfin.o.2⟩
      case measure=>simp[intOf];omega
     ·obtain rfl:j=4:=by omega
      have hbest:=Hd (q_A hSH.o hL.o);have hI9:=hI.o.new hNW.o;obtain⟨X,hX,hXc⟩:=hI9.bs;clear hL hrd;go_wp2_with fail;refine hbest.o.mono ?_;rintro e w5 ⟨⟨a,rfl⟩,hn5⟩;clear hbest;obtain⟨W6,hW6⟩:∃W6,W6=w5.alloc (.cells (n_O A T i ad ct by_ birth s0 s1 s2' s3) 194):=⟨_,rfl⟩;have hb6:Blk W6 w5.heap.size 194 (n_O A T i ad ct by_ birth s0 s1 s2' s3):=by rw[hW6];exact Blk.fresh w5 _ _
      have hn6:New w5 W6:=by rw[hW6];exact(New.refl w5).alloc _
      have hI6:=hI9.new (hn5.next hn6);have hX6:=(hX.new hn5).new hn6;have v4:=hI6.vm.v4;rw[<-hN.o]at v4;have vf:=hI6.vm.fb.cell hiA;have ff:=hI6.vm.fb.frozen i;obtain⟨⟨e0,e1,e2,e3,e4,e5,e6,e7,e8,e9,e10,e11,e12⟩,_⟩:=d_s hb6;obtain⟨W7,hW7⟩:∃W7,W7=W6.setCell ⟨A.fb,i,none⟩ (.bool false):=⟨_,rfl⟩;obtain⟨cf,hcf,_⟩:=O_ hI6.vm.fb;have hV7:VM A (tag0 o w) (d_m s (i+1)) W7:=by rw[hW7];exact hI6.vm.freshed hAH.o halive.symm
      have hA7:Alt (fun b=>b=A.fb) w W7:=by rw[hW7];exact Alt.set (K:=fun b=>b=A.fb) hI6.al (.inl rfl) _
      have hb7:Blk W7 w5.heap.size 194 (n_O A T i ad ct by_ birth s0 s1 s2' s3):=by rw[hW7];exact hb6.far (p:=⟨A.fb,i,none⟩) (e_ hb6 hcf (by decide)) _
      have hX7:Blk W7 w.heap.size 194 (I_ X):=by rw[hW7];exact hX6.far (p:=⟨A.fb,i,none⟩) (e_ hX6 hcf (by decide)) _
      have u4:=hV7.v4;rw[<-hN.o]at u4;have uf:W7.cell? ⟨A.fb,i,none⟩=some (.bool false):=by
       have h:=(hI6.vm.fb.set i (.bool false)).cell hiA;rw[<-hW7]at h;simpa using h
      obtain⟨⟨d0,d1,d2,d3,d4,d5,d6,d7,d8,d9,d10,d11,d12⟩,_⟩:=d_s hb7;obtain⟨fv,hfv⟩:∃fv,fv=(d_m s i).fresh i:=⟨_,rfl⟩;rw[<-hfv]at vf;clear hfv;have hV7H:=Hd hV7;have hA7H:=Hd hA7;have hb7H:=Hd hb7;clear hb6 hn5 hn6 hI6 hX6 hI9 hX hcf hV7 hA7 hb7 hI;go_upto_region 13 with fail;rw[<-hW6];clear hW6;go_region;rw[<-hW7];clear hW7;rcases hXc with⟨i0,rfl⟩|⟨rfl,hdd⟩
      ·obtain⟨⟨f0,f1,f2,f3,f4,f5,f6,f7,f8,f9,f10,f11,f12⟩,_⟩:=d_s (show Blk W7 w.heap.size 194 (n_O A T i0 ad ct by_ birth s0 s1 s2' s3) from hX7)
       have hfin:Hid (OpI A (tag0 o w) s T ⟨ad,ct,by_,birth,s0,s1,s2',s3⟩ (i+1) w.heap.size w W7.drew):=⟨hV7H.o.new (New.refl _).drew,⟨_,hX7.drew,.inl ⟨i0,rfl⟩⟩,hA7H.o.drew⟩;clear hX7;go_wp2;go_roundw;case rel=>exact⟨i+1,by go_num,by omega,hfin⟩
       case measure=>simp[intOf];omega
      ·have hX7:Blk W7 w.heap.size 194 #[.int .i64 0,.int .i64 0,.int .i64 0,.int .i64 0,.int .i64 (-1),.int .i64 0,.int .i64 0,.int .i64 0,.int .i64 0,.int .i64 0,.int .i64 0,.int .i64 0,.int .i64 0]:=hX7
       obtain⟨⟨f0,f1,f2,f3,f4,f5,f6,f7,f8,f9,f10,f11,f12⟩,⟨z0,z1,z2,z3,z4,z5,z6,z7,z8,z9,z10,z11,z12⟩⟩:=d_s hX7;have hT1:(-1:Int)<T:=by have:=hT.1;omega
       have hfin:Hid (OpI A (tag0 o w) s T ⟨ad,ct,by_,birth,s0,s1,s2',s3⟩ (i+1) w.heap.size w (p_8 W7 w.heap.size (.int .i64 1) (.int .i64 (i:Nat)) (.int .i64 (A.n:Nat)) (.int .i64 (A.p:Nat)) (.int .i64 T) (.int .i64 (ad:Nat)) (.int .i64 (ct:Nat)) (.int .i64 (by_:Nat)) (.int .i64 birth) (.int .i64 s0) (.int .i64 s1) (.int .i64 s2') (.int .i64 s3)).drew):=⟨(hV7H.o.keep (h_n _ _ _ _ _ _ _ _ _ _ _ _ _ _ _) (fun b hb e=>by subst e;rw[z_ o w (Nat.le_refl _)];omega) (s_.refl _ _)).new (New.refl _).drew,⟨e_E A T ⟨ad,ct,by_,birth,s0,s1,s2',s3⟩ i,(o_a hX7 _ _ _ _ _ _ _ _ _ _ _ _ _).drew,.inl ⟨i,rfl⟩⟩,(hA7H.o.trans' (h_n _ _ _ _ _ _ _ _ _ _ _ _ _ _ _) fun k hk=>.inr (by omega)).drew⟩
       clear hX7;go_wp2;go_roundw;case rel=>exact⟨i+1,by go_num,by omega,hfin⟩
       case measure=>simp[intOf];omega
  ·obtain rfl:i=N:=by omega
   have hiI:¬(i:Int)<(i:Int):=by omega
   have hI:=hI.o;obtain⟨X,hX,hXc⟩:=hI.bs;obtain⟨i0,rfl⟩:∃i0,X=e_E A T ⟨ad,ct,by_,birth,s0,s1,s2',s3⟩ i0:=by
    rcases hXc with h|⟨_,hdd⟩
    ·exact h
    ·obtain⟨k,hk,ha⟩:=hone
     rw[hdd k (by rw[hN.o];exact hk)]at ha
     cases ha
   have hX:Blk wr w.heap.size 194 (n_O A T i0 ad ct by_ birth s0 s1 s2' s3):=hX;rw[hN.o]at hI;have hV:=hI.vm;have hlne:w.heap.size≠A.v:=e_ hX hV.bk (by decide)
   have hX2:=hX.far (p:=⟨A.v,7,none⟩) hlne (.bool false);have hX3:=hX2.far (p:=⟨A.v,5,none⟩) hlne (.int .i64 T);obtain⟨⟨e0,e1,e2,e3,e4,e5,e6,e7,e8,e9,e10,e11,e12⟩,_⟩:=d_s hX;obtain⟨⟨f0,f1,f2,f3,f4,f5,f6,f7,f8,f9,f10,f11,f12⟩,_⟩:=d_s hX2;obtain⟨⟨m0,m1,m2,m3,m4,m5,m6,m7,m8,m9,m10,m11,m12⟩,_⟩:=d_s hX3;have v7:=hV.v7;have z7:=hV.bk.frozen 7;have v5:=hV.v5;have z5:=hV.bk.frozen 5;have hT0:¬T<0:=by omega
   have hV3:VM A (tag0 o w) {d_m s A.n with lost:=false,time:=T} ((wr.setCell ⟨A.v,7,none⟩ (.bool false)).setCell ⟨A.v,5,none⟩ (.int .i64 T)):=(hV.vset 7 (.bool false) (s':={d_m s A.n with lost:=false}) rfl rfl rfl rfl).vset 5 (.int .i64 T) rfl rfl rfl rfl;have h3A:Alt (fun b=>b=A.v) wr ((wr.setCell ⟨A.v,7,none⟩ (.bool false)).setCell ⟨A.v,5,none⟩ (.int .i64 T)):=Alt.set (K:=fun b=>b=A.v) (Alt.set (K:=fun b=>b=A.v) (Alt.refl wr) (.inl rfl) _) (.inl rfl) _;have hrdc:=Hd (o_Y hAH.o _ hV3 ⟨hdH.o.w,hdH.o.b⟩ ⟨ad,ct,by_,birth,s0,s1,s2',s3⟩ q x sz hp h1 hb hx hs hq h8);have hX3H:=Hd hX3;have hV3H:=Hd hV3;have hIal:=Hd hI.al;have h3H:=Hd h3A;clear hI hX hX2 hX3 hV hV3 h3A hlne hXc hp hq h8;go_wp2_with fail;refine hrdc.o.mono ?_;rintro e w5 ⟨rfl,st,xb,yb,nb,y,hV5,hpl5,hbm5,ha5⟩;obtain⟨W3,hW3⟩:∃W3,W3=(wr.setCell ⟨A.v,7,none⟩ (.bool false)).setCell ⟨A.v,5,none⟩ (.int .i64 T):=⟨_,rfl⟩;rw[<-hW3]at hV5 hpl5 hbm5 ha5 hX3H h3H hV3H;clear hW3;obtain⟨oR,hoR⟩:∃oR,Hid (oR=tag2 (tag0 o w) W3):=⟨_,rfl⟩;rw[<-hoR.o]at hV5 hpl5 hbm5;obtain⟨s2,hs2⟩:∃s2:VS,Hid (s2={d_m s A.n with lost:=false,time:=T,syn:=y,st:=st}):=⟨_,rfl⟩;have hs2t:Hid (s2.time=T/\s2.puts=s.puts/\s2.ds=s.ds):=by rw[hs2.o];exact⟨rfl,rfl,rfl⟩
   have hV5:VM A oR s2 w5:=by rw[hs2.o];exact hV5
   have hV5:=Hd hV5;have hpl5:=Hd hpl5;have hbm5:=Hd hbm5;have ha5:=Hd ha5;have hX5:Blk w5 w.heap.size 194 (n_O A T i0 ad ct by_ birth s0 s1 s2' s3):=ha5.o.blk hX3H.o (e_ hX3H.o (VM.bk hV3H.o) (by decide))
   obtain⟨sl,hsl⟩:∃sl:Nat,Hid (sl=(T%4).toNat):=⟨_,rfl⟩;have hsl4:Hid (sl<4/\((sl:Nat):Int)=T%4):=by
    have h1:=hsl.o;have h2:=hT;exact⟨by omega,by omega⟩
   have tq:T.tmod 4=((sl:Nat):Int):=by
    rw[hsl4.o.2];exact Int.tmod_eq_emod_of_nonneg hT.1
   have tq2:IntKind.i64.wrap ((sl:Nat):Int)=((sl:Nat):Int):=IntWalk.i64_in _ (by have:=hsl4.o.1;omega)
   have v5:w5.cell? ⟨A.v,5,none⟩=some (.int .i64 T):=by
    have h1:=hV5.o.bk.cell 5;rw[<-hs2t.o.1];exact h1
   obtain⟨⟨e0,e1,e2,e3,e4,e5,e6,e7,e8,e9,e10,e11,e12⟩,_⟩:=d_s hX5;obtain⟨⟨f0,f1,f2,f3,f4,f5,f6,f7,f8,f9,f10,f11,f12⟩,_⟩:=d_s (hX5.alloc (.cells #[.int .i64 ((sl:Nat):Int)] 3));have hnl:Hid (New w5 (w5.alloc (.cells #[.int .i64 ((sl:Nat):Int)] 3)).drew):=((New.refl w5).alloc _).drew;have hlab:=g_j hAH.o (hV5.o.tag0 hnl.o) ⟨ad,ct,by_,birth,s0,s1,s2',s3⟩ (fun _=>sl) 1 (some ⟨w5.heap.size,0,none⟩) 1 ⟨by unfold maxLen;omega,fun _=>⟨w5.heap.size,0,rfl,by simp,fun i hi=>by
     obtain rfl:i=0:=by omega
     have h1:=(Blk.fresh w5 3 #[.int .i64 ((sl:Nat):Int)]).drew.cell 0;exact h1⟩⟩ (fun a ha=>by cases ha;rw[z_ oR w5 (Nat.le_refl _)];omega) (by decide) ⟨Nat.le_refl _,by unfold maxLen;omega⟩ (fun j _=>by have:=hsl4.o.1;omega) (fun i hi=>by have:=hws i hi;rw[hs2t.o.2.2];omega) (by rw[hs2t.o.2.1];exact hpt) (by rw[hs2t.o.1];exact hT) (by rw[hs2t.o.1];exact hroot) hrs
   obtain⟨s5,hs5e⟩:∃s5,Hid (s5=K_ A s2 ⟨ad,ct,by_,birth,s0,s1,s2',s3⟩ (fun _=>sl) 1 A.n):=⟨_,rfl⟩;rw[<-hs5e.o]at hlab;have hlab:Hid (Calls prog 43 #[ptr A.v,.agg #[.int .i64 ad,.int .i64 ct,.int .i64 by_,.int .i64 birth,.int .i64 s0,.int .i64 s1,.int .i64 s2',.int .i64 s3],.slice (some ⟨w5.heap.size,0,none⟩) 1 1] (w5.alloc (.cells #[.int .i64 ((sl:Nat):Int)] 3)).drew fun e w'=>e=.returned (.tuple #[])/\P_ A (tag0 oR w5) s5 (w5.alloc (.cells #[.int .i64 ((sl:Nat):Int)] 3)).drew w'):=hlab;have hb04:(0:Int)<4:=by decide
   clear hX5;go_upto_region 23 with fail;go_region_law
    (first
     |(go_simp;go_at_call 43;(with_reducible refine hlab.o.mono ?_);rintro e w6 ⟨rfl,hDr6⟩;have hDr6:=Hd hDr6))
   all_goals
    obtain⟨o5,hs5,hV6,ha6⟩:=hDr6.o;have hfl:=Hd (e_G hAH.o hV6 (fun i hi=>by
     have h1:=g_k A s2 ⟨ad,ct,by_,birth,s0,s1,s2',s3⟩ (fun _=>sl) 1 A.n i;rw[hs2t.o.2.2]at h1;have h2:=hws i hi;rw[hs5e.o];omega))
    have hs5H:=Hd hs5;have ha6H:=Hd ha6;clear hV6 ha6 hs5;go_wp2_with fail;refine hfl.o.mono ?_;rintro e w7 ⟨rfl,o6,hs6,hV7,ha7⟩;have hfin:Hid (OpP A o s T ⟨ad,ct,by_,birth,s0,s1,s2',s3⟩ x sz q w w7):=t_1 (by rw[hs5e.o,hs2.o,hsl.o]) hVH.o.ov hVH.o.of hVH.o.bk.lt hIal.o h3H.o hoR.o hpl5.o hbm5.o ha5.o hnl.o hs5H.o ha6H.o hs6 hV7 ha7
    clear hs6 hV7 ha7;go_wp2;exact Great.bodyPost_end0 rfl rfl ⟨rfl,hfin.o⟩
end vault
end Go.Proofs.YtojcoaekhiadcaaGreat
