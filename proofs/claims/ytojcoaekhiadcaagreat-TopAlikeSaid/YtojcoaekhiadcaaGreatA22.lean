import Derived.Test.YtojcoaekhiadcaaGreatA01
import Derived.Test.YtojcoaekhiadcaaGreatA20
import Derived.Test.YtojcoaekhiadcaaGreatA21
set_option linter.unusedVariables false
set_option linter.unusedSimpArgs false
namespace Go.Proofs.YtojcoaekhiadcaaGreat
open Tryz Go.RowKit
namespace vault
set_option maxRecDepth 100000
open Go.ChangeShapes Go.WideShapes Go.ChangeAt kit pool Go.Deep Go.Maps
theorem p_9(l:List Nat):∀u∈a_2 l,u.oneCell'=true:=fun u hu=>by
 obtain⟨j,_,rfl⟩:=List.mem_map.1 hu;rfl
theorem l_K(o:Nat->Nat)(v:Value)(l:List Nat)(w:World)(h:a_v o w v l)(hn:l.length<=8192) :
  Calls prog 294 #[v] w fun e w'=>∃u,e=.returned u/\w'.ownsRow w.heap.size 112 1 u l.length (a_2 l)/\New w w':=by
 obtain⟨i0,hi0,hz0,hz1,hz2⟩:=info_parts d_f;obtain⟨A,c,rfl,h1,h2,h3,h4⟩:=h;cases A with
 |none=>
  obtain rfl:=h3 rfl;have hn0:l=[]:=List.eq_nil_of_length_eq_zero (by omega)
  subst hn0;have hb:Hid (w.ownsRow w.heap.size 112 1 (.slice none 0 0) 0 []):=World.ownsRow_nil _ _ _ _;clear h1 h2 h3 h4;have hnb:=fun w=>Lib.run_eql_slice_nil (P:=prog) w 98 112 none 0 0 0 0 underlying98;go_enter func294,ntmps294;go_wp2;go_ret;exact⟨_,rfl,hb.o,New.refl w⟩
 |some a=>
  obtain⟨n,hnl⟩:∃n,Hid (n=l.length):=⟨_,rfl⟩;rw[<-hnl.o]at h1 h4 hn ⊢;have hnb:=fun w=>Lib.run_eql_slice_nil (P:=prog) w 98 112 (some a) n c 0 0 underlying98;have hlit:=World.ownsRow_lit (e:=112) (size:=1) w #[] 0 (Nat.le_refl _) (by unfold maxLen;omega) rfl
  have hsrc:Hid (∀j u,(a_2 l)[j]?=some u->(w.alloc (.cells #[] 112)).cell? (a.add j)=some u):=fun j u hu=>by
   rw[a_2,List.getElem?_map]at hu;cases hq:l[j]? with
   |none=>rw[hq]at hu;cases hu
   |some b=>
    rw[hq]at hu;cases hu;have hjn:j<n:=by rw[hnl.o];exact(List.getElem?_eq_some_iff.1 hq).1
    obtain⟨g,off,cs,e,_,hg,hc⟩:=h4 (by omega)
    cases e;rw[i_];exact((hg.alloc _).cell (off+j)).trans (hc j b hq)
  have hone:=Hd (p_9 l);have hlen:Hid ((a_2 l).length=n):=by show _=_;rw[List.length_map,hnl.o]
  clear h1 h4 h3;go_enter func294,ntmps294;go_wp2_with (at_builtin;refine wpList_append_own _ rfl _ _ 98 rfl w.heap.size 112 i0 _ 1 8 underlying98 hi0 hz0 hz1 hz2 rfl (by decide) (Value.slice (some ⟨w.heap.size,0,none⟩) 0 0) 0 [] rfl hlit a n c (a_2 l) rfl (by rw[hlen.o];omega) hsrc.o hone.o (by unfold maxLen;omega) (by omega) (by simp) ?_;intro v3 w3 hown3 hgrow hnil)
  have hgA:(w.alloc (.cells #[] 112)).grownBy w3 (some w.heap.size):=hgrow;have hN:New w w3:=(New.refl w).append' hgA (fun g hg=>by cases hg;exact Nat.le_refl _)
  rw[List.nil_append,Nat.zero_add]at hown3;have hfin:=Hd (And.intro hown3 hN);clear hgrow hnil hown3 hgA hN;go_wp2;go_ret;exact⟨_,rfl,hfin.o⟩
def BlN(base:Nat)(w:World)(b:Nat)(f:Nat->Nat):Prop:=base<=b/\∃d c cs,Blk w b 115 #[.slice (some ⟨d,0,none⟩) 256 c,.pointer none]/\base<=d/\Blk w d 5 cs/\(∀i,i<256->cs[i]?=some (.int .u8 (f i:Nat)))/\256<=c/\c<=maxLen
theorem BlN.new{base:Nat}{w w':World}{b:Nat}{f:Nat->Nat}(h:BlN base w b f)(hn:New w w'):BlN base w' b f:=by
 obtain⟨h1,d,c,cs,h2,h3,h4,h5⟩:=h;exact⟨h1,d,c,cs,h2.new hn,h3,h4.new hn,h5⟩
theorem BlN.alt{base:Nat}{w w':World}{b:Nat}{f:Nat->Nat}(h:BlN base w b f){K:Nat->Prop}(ha:Alt K w w')(hK:¬K b)(hd:∀d cs,Blk w d 5 cs->¬K d):BlN base w' b f:=by
 obtain⟨h1,d,c,cs,h2,h3,h4,h5⟩:=h;exact⟨h1,d,c,cs,ha.blk h2 hK,h3,ha.blk h4 (hd d cs h4),h5⟩
theorem BlN.blk{base:Nat}{w:World}{b:Nat}{f:Nat->Nat}(h:BlN base w b f):∃cs,Blk w b 115 cs:=by
 obtain⟨h1,d,c,cs,h2,_⟩:=h;exact⟨_,h2⟩
structure ObN(base vb q sz:Nat)(l:List Nat)(w:World):Prop where
 ge:base<=q
 ob:∃v,Blk w q 100 #[ptr vb,.int .i64 (sz:Nat),v]/\w.ownsRow base 112 1 v l.length (a_2 l)
def j_t(w:World)(q:Nat):Nat:=match w.cell? ⟨q,2,none⟩with
 |some (.slice _ n _)=>n
 |_=>0
def GrP(vb:Nat)(l:List Nat)(sz:Nat)(w w':World)(q:Nat):Prop:=∃nb,ObN w.heap.size vb q sz (l++nb) w'/\(∀b,b∈nb->BlN w.heap.size w' b fun _=>0)/\nb.Nodup/\(l++nb).length=max l.length ((sz+255)/256)/\New w w'
set_option maxHeartbeats 4000000 in
theorem h_E(vb:Nat)(o:Nat->Nat)(ob:Nat)(g:OG)(sz:Nat)(w:World)(h:ObV vb o w (ptr ob) g)(hl:g.bl.length<=1000)(hs:sz<=100000) :
  Calls prog 293 #[ptr ob,.int .i64 (sz:Nat)] w fun e w'=>∃q,e=.returned (ptr q)/\GrP vb g.bl sz w w' q:=by
 obtain⟨ob',bv,e,_,hbo,hrow⟩:=h;injection e with e;injection e with e;injection e with e;subst e;have hcl:=Hd (fun w' (hn:New w w')=>l_K o bv g.bl w' (hrow.alt (K:=fun _=>False) (Alt.of_new hn) (fun _ _ f=>f) (s_.refl o w)) (by omega))
 replace hcl:Hid (∀w',_):=hcl;have z0:=hbo.cell 0;have z2:=hbo.cell 2;simp at z0 z2;have hkeep:Hid (∀w',New w w'->w'.cell? ⟨ob,0,none⟩=some (ptr vb)/\w'.cell? ⟨ob,2,none⟩=some bv):=fun w' hn'=>⟨(hn'.cell (a_ z0)).trans z0,(hn'.cell (a_ z2)).trans z2⟩;clear hbo hrow;go_enter func293,ntmps293;go_wp2_with fail;go_region_held3 (fun w'=>w'.cell? ⟨ob,0,none⟩=some (ptr vb)/\w'.cell? ⟨ob,2,none⟩=some bv)
  (first
   |with_reducible exact hkeep.o _ (New.refl _).drew
   |with_reducible exact hkeep.o _ hn6.o
   |with_reducible exact hkeep.o _ (hn6.o.alloc _))
  ((go_at_call 294;refine(hcl.o _ (New.refl w).drew).mono ?_;rintro e W6 ⟨u,rfl,hu,hn⟩;obtain⟨R6,k6,rfl⟩:=j_ hu;have hn6:=Hd (New.next (New.refl w).drew hn);have hu6:=Hd hu;clear hn hu))
 obtain⟨W7,hW7⟩:∃W7,W7=W6.alloc (.cells #[ptr vb,.int .i64 (sz:Nat),.slice R6 g.bl.length k6] 100):=⟨_,rfl⟩;obtain⟨q,hq⟩:∃q,Hid (q=W6.heap.size):=⟨_,rfl⟩;have hOb7:Hid (ObN w.heap.size vb q sz (g.bl++[]) W7/\New w W7):=by
  rw[hW7,hq.o,List.append_nil];exact⟨⟨hn6.o.size,_,Blk.fresh _ _ _,(hu6.o.alloc _)⟩,hn6.o.alloc _⟩
 rw[<-hW7,<-hq.o];clear hW7 hu6 hcl;obtain⟨i0,hi0,hy0,hy1,hy2⟩:=info_parts d_f;obtain⟨B,hB⟩:∃B,Hid (B=w.heap.size):=⟨_,rfl⟩;rw[<-hB.o]at hOb7;go_wp2_with fail;go_loopw [25] (fun _ wr=>∃nb:List Nat,(g.bl++nb).length<=max g.bl.length ((sz+255)/256)/\Hid (ObN B vb q sz (g.bl++nb) wr)/\Hid (∀b,b∈nb->BlN B wr b fun _=>0)/\Hid nb.Nodup/\Hid (New w wr)) (fun _ wr=>100000-j_t wr q);case atStart=>exact⟨[],by simp;omega,Hd hOb7.o.1,Hd fun b hb=>(by cases hb),Hd List.nodup_nil,Hd hOb7.o.2⟩
 case round=>
  obtain⟨nb,hlen,hO,hbn,hnd,hN⟩:=hrel;obtain⟨v,hqb,hro⟩:=hO.o.ob;obtain⟨R,cv,rfl⟩:=j_ hro;obtain⟨n,hn⟩:∃n,Hid (n=(g.bl++nb).length):=⟨_,rfl⟩;rw[<-hn.o]at hqb hro hlen;have hn1:n<=2000:=by omega
  have d2:=hqb.cell 2;have f2:=hqb.frozen 2;simp at d2
  by_cases hlt:n*256<sz
  ·have hiI:(n:Int)*256<(sz:Int):=by omega
   obtain⟨S,hS⟩:∃S,S=wr.heap.size:=⟨_,rfl⟩;have hSH:Hid (S=wr.heap.size):=hS;have hql:q<S:=by rw[hS];exact hqb.lt
   obtain⟨C0,hC0⟩:∃C0,C0=madeCells #[.int .u8 0] 256:=⟨_,rfl⟩;have hmk:=run_make_row' (P:=prog) 35 5 (.int .u8 0) 1 underlying35 drive.infoU8 rfl .i64 .i64 256 (by omega) (by omega)
   rw[<-hC0]at hmk;rw[show(((256:Nat)):Int)=256 from rfl]at hmk
   have n1:New wr (wr.alloc (.cells C0 5)):=(New.refl wr).alloc _;have x1:=(n1.cell (a_ d2)).trans d2;have n2:New wr ((wr.alloc (.cells C0 5)).alloc (.cells #[.slice (some ⟨wr.heap.size,0,none⟩) 256 256,.pointer none] 115)):=n1.alloc _;have x2:=(n2.cell (a_ d2)).trans d2;have n3:New wr (((wr.alloc (.cells C0 5)).alloc (.cells #[.slice (some ⟨wr.heap.size,0,none⟩) 256 256,.pointer none] 115)).alloc (.cells #[ptr (wr.heap.size+1)] 112)):=n2.alloc _;have x3:=(n3.cell (a_ d2)).trans d2;have hro3:=Hd ((c_ hro n3).drew);have hqb3:=Hd ((hqb.new n3).drew);have s1:(wr.alloc (.cells C0 5)).heap.size=wr.heap.size+1:=by simp
   have s2:((wr.alloc (.cells C0 5)).alloc (.cells #[.slice (some ⟨wr.heap.size,0,none⟩) 256 256,.pointer none] 115)).heap.size=wr.heap.size+1+1:=by simp
   have b3:=Blk.fresh ((wr.alloc (.cells C0 5)).alloc (.cells #[.slice (some ⟨wr.heap.size,0,none⟩) 256 256,.pointer none] 115)) 112 #[ptr (wr.heap.size+1)];rw[s2]at b3;have b2:=Blk.fresh (wr.alloc (.cells C0 5)) 115 #[.slice (some ⟨wr.heap.size,0,none⟩) 256 256,.pointer none];rw[s1]at b2;have b1:=Blk.fresh wr 5 C0;obtain⟨W3,hW3⟩:∃W3,W3=((wr.alloc (.cells C0 5)).alloc (.cells #[.slice (some ⟨wr.heap.size,0,none⟩) 256 256,.pointer none] 115)).alloc (.cells #[ptr (wr.heap.size+1)] 112):=⟨_,rfl⟩;have hBS:B<=wr.heap.size:=by rw[hB.o];exact hN.o.size
   have hbN:BlN B W3 (wr.heap.size+1) fun _=>0:=by
    rw[hW3];refine⟨by omega,wr.heap.size,256,C0,b2.alloc _,hBS,(b1.alloc _).alloc _,fun i hi=>?_,Nat.le_refl _,by unfold maxLen;omega⟩
    have h1:=World.rowIs_made wr (.int .u8 0) 256 5;rw[<-hC0]at h1;have h2:=h1.cell hi;rw[b1.cell]at h2;exact h2
   have hnews:Hid (∀j u,[ptr (wr.heap.size+1)][j]?=some u->(((wr.alloc (.cells C0 5)).alloc (.cells #[.slice (some ⟨wr.heap.size,0,none⟩) 256 256,.pointer none] 115)).alloc (.cells #[ptr (wr.heap.size+1)] 112)).drew.cell? ((⟨wr.heap.size+1+1,0,none⟩:Addr).add j)=some u):=fun j u hj=>by
    rw[i_,Nat.zero_add];have h2:=b3.drew.cell j;rw[h2,<-hj];simp
   have hBw:Hid (B<=(((wr.alloc (.cells C0 5)).alloc (.cells #[.slice (some ⟨wr.heap.size,0,none⟩) 256 256,.pointer none] 115)).alloc (.cells #[ptr (wr.heap.size+1)] 112)).drew.heap.size):=by
    have:=n3.size;exact Nat.le_trans hBS this
   have key:Hid (∀g7 c7 w7,w7.ownsRow B 112 1 (.slice (some ⟨g7,0,none⟩) (n+1) c7) (n+1) (a_2 (g.bl++nb)++[ptr (wr.heap.size+1)])->(((wr.alloc (.cells C0 5)).alloc (.cells #[.slice (some ⟨wr.heap.size,0,none⟩) 256 256,.pointer none] 115)).alloc (.cells #[ptr (wr.heap.size+1)] 112)).drew.grownBy w7 (Value.slice R n cv).ownBlock->ObN B vb q sz (g.bl++(nb++[wr.heap.size+1])) (w7.setCell ⟨q,2,none⟩ (.slice (some ⟨g7,0,none⟩) (n+1) c7))/\(∀b,b∈nb++[wr.heap.size+1]->BlN B (w7.setCell ⟨q,2,none⟩ (.slice (some ⟨g7,0,none⟩) (n+1) c7)) b fun _=>0)/\(nb++[wr.heap.size+1]).Nodup/\New w (w7.setCell ⟨q,2,none⟩ (.slice (some ⟨g7,0,none⟩) (n+1) c7))/\j_t (w7.setCell ⟨q,2,none⟩ (.slice (some ⟨g7,0,none⟩) (n+1) c7)) q=n+1):=fun g7 c7 w7 ho7 hg7=>by
    rw[<-hW3]at hg7 n3;have m3:New wr W3.drew:=n3.drew;have hq3:Blk W3.drew q 100 #[ptr vb,.int .i64 (sz:Nat),.slice R n cv]:=hqb.new m3;have ho3:=c_ hro m3;have hA7:Alt (fun k=>(Value.slice R n cv).ownBlock=some k) W3.drew w7:=(Alt.refl _).grown hg7 fun r e=>.inl e;have hA8:Alt (fun k=>(Value.slice R n cv).ownBlock=some k\/k=q) W3.drew (w7.setCell ⟨q,2,none⟩ (.slice (some ⟨g7,0,none⟩) (n+1) c7)):=(hA7.weak fun k hk=>.inl hk).set (.inl (.inr rfl)) _;have hvq:(Value.slice R n cv).ownBlock≠some q:=b_ ho3 hq3 (by decide)
    have hq7:=hA7.blk hq3 hvq;have hq8:=hq7.put 2 (.slice (some ⟨g7,0,none⟩) (n+1) c7);have hge:=hO.o.ge;have hlen9:(g.bl++(nb++[wr.heap.size+1])).length=n+1:=by rw[<-List.append_assoc,List.length_append,<-hn.o];rfl
    have hNw:New w W3.drew:=hN.o.next m3;refine⟨⟨hge,_,by simpa using hq8,?_⟩,fun b hb=>?_,?_,⟨hA8.os.trans hNw.os,hA8.tape.trans hNw.tape,hA8.output.trans hNw.output,Nat.le_trans hNw.size hA8.size,fun k hk=>(hA8.same k (Nat.lt_of_lt_of_le hk hNw.size) fun e=>?_).trans (hNw.block k hk)⟩,?_⟩
    ·rw[hlen9]
     have h9:=Alt.own (Alt.set (K:=fun k=>k=q) (Alt.refl w7) (.inl rfl) (k:=2) (.slice (some ⟨g7,0,none⟩) (n+1) c7)) ho7 fun k hk e=>by
      subst e;exact b_ ho7 hq7 (by decide) hk
     rw[<-List.append_assoc,a_2,List.map_append];exact h9
    ·have hb3:BlN B W3.drew b fun _=>0:=by
      rcases List.mem_append.1 hb with h|h
      ·exact(hbn.o b h).new m3
      · rw[List.mem_singleton]at h
        subst h;exact hbN.new ((New.refl W3).drew)
     obtain⟨cs,hbk⟩:=hb3.blk;refine hb3.alt hA8 (fun e=>?_) fun d cs hd e=>?_
     ·rcases e with e|e
      ·exact b_ ho3 hbk (by decide) e
      ·exact e_ hbk hq3 (by decide) e
     ·rcases e with e|e
      ·exact b_ ho3 hd (by decide) e
      ·exact e_ hd hq3 (by decide) e
    ·rw[List.nodup_append]
     refine⟨hnd.o,by simp,fun a ha b hb e=>?_⟩
     rw[List.mem_singleton]at hb;obtain⟨cs,hbk⟩:=(hbn.o a ha).blk;have:=hbk.lt;omega
    ·rcases e with e|e
     ·have:=(ho3.lt k e).1
      rw[hB.o]at this;omega
     ·rw[hB.o]at hge
      omega
    ·have h9:=hq8.cell 2
     simp at h9;unfold j_t;rw[h9]
   clear hqb hro hC0 hS b1 b2 b3 s1 s2 hbN hW3;go_wp2_with fail;go_region_law
    (first
     |(refine step_append_lies _ (by rfl) _ _ 98 (by rfl) B 112 i0 _ 1 8 underlying98 hi0 hy0 hy1 hy2 rfl (by decide) (.slice R n cv) n (a_2 (g.bl++nb)) (by rfl) hro3.o ⟨wr.heap.size+1+1,0,none⟩ 1 1 [ptr (wr.heap.size+1)] (by rfl) (by rfl) hnews.o (by simp[Value.oneCell']) (by omega) (by unfold maxLen;omega) (by omega) hBw.o (wr.heap.size+1+1+1) (by simp) ?_;intro g7 c7 w7 hown7 hgr7 hat7 hlt7
       have hq7:Blk w7 q 100 #[ptr vb,.int .i64 (sz:Nat),.slice R n cv]:=hqb3.o.grown hgr7 (b_ hro3.o hqb3.o (by decide))
       have y2:=hq7.cell 2;have y3:=hq7.frozen 2;simp at y2;have hown7:=Hd hown7;have hgr7:=Hd hgr7;have hq7:=Hd hq7;have hfin:=Hd (key.o g7 c7 w7 hown7.o hgr7.o);clear hown7 hgr7 hq7))
   all_goals
    go_wp2;go_roundw;case rel=>exact⟨nb++[wr.heap.size+1],by rw[<-List.append_assoc,List.length_append,<-hn.o];simp;omega,Hd hfin.o.1,Hd hfin.o.2.1,Hd hfin.o.2.2.1,Hd hfin.o.2.2.2.1⟩
    case measure=>
     have h1:=hfin.o.2.2.2.2;have h2:j_t wr q=n:=by unfold j_t;rw[d2]
     rw[h1,h2];omega
  ·have hiI:¬(n:Int)*256<(sz:Int):=by omega
   have hfin:Hid (GrP vb g.bl sz w wr q):=by
    refine⟨nb,hB.o▸hO.o,hB.o▸hbn.o,hnd.o,?_,hN.o⟩;rw[<-hn.o];have h1:g.bl.length<=n:=by rw[hn.o,List.length_append];omega
    omega
   clear hO hbn hnd hN hqb hro;go_wp2;go_ret;exact⟨q,rfl,hfin.o⟩
def tag2(o:Nat->Nat)(w:World):Nat->Nat:=fun b=>if b<w.heap.size then o b else 2
theorem a_w(o:Nat->Nat)(w:World):s_ o (tag2 o w) w:=fun b hb=>if_pos hb
theorem a_7(o:Nat->Nat)(w:World){b:Nat}(h:w.heap.size<=b):tag2 o w b=2:=if_neg (by omega)
theorem VM.tag2{A:VA}{o:Nat->Nat}{s:VS}{w w':World}(h:VM A o s w)(hn:New w w'):VM A (tag2 o w) s w':=h.keep (K:=fun _=>False) (Alt.of_new hn) (fun _ _ f=>f.elim) (a_w o w)
theorem BlN.blm{o:Nat->Nat}{w w':World}{b:Nat}{f:Nat->Nat}(h:BlN w.heap.size w' b f):BlM (tag2 o w) w' b f none:=by
 obtain⟨h1,d,c,cs,h2,h3,h4,h5,h6,h7⟩:=h;exact⟨a_7 o w h1,d,0,cs,c,h2,a_7 o w h3,h4,fun i hi=>by rw[Nat.zero_add];exact h5 i hi,h6,h7⟩
theorem BlM.old{o:Nat->Nat}{w w':World}{b:Nat}{f:Nat->Nat}{at_:Option Ptr}(h:BlM o w b f at_)(hn:New w w'):BlM (tag2 o w) w' b f at_:=h.alt (K:=fun _=>False) (Alt.of_new hn) (fun _ _ f=>f) (a_w o w)
theorem ObN.obv{o:Nat->Nat}{vb q sz:Nat}{l:List Nat}{w w':World}(h:ObN w.heap.size vb q sz l w'):ObV vb (tag2 o w) w' (ptr q) ⟨sz,l⟩:=by
 obtain⟨v,h1,h2⟩:=h.ob;refine⟨q,v,rfl,a_7 o w h.ge,h1,?_⟩;rcases h2.2 with⟨rfl,h0⟩|⟨g,cap,cur,rfl,hb,hg,k1,k2,k3,k4⟩
 ·have:l=[]:=List.eq_nil_of_length_eq_zero h0
  subst this;exact a_v.nil _ _
 ·refine⟨_,cap,rfl,k1,k2,(fun e=>by cases e),fun h0=>⟨g,0,cur,rfl,a_7 o w hb,hg,fun i b hi=>?_⟩⟩
  have hil:i<l.length:=(List.getElem?_eq_some_iff.1 hi).1;have h5:=congrArg (fun l:List Value=>l[i]?) k4;simp only[List.getElem?_take,Nat.mul_one]at h5;rw[if_pos hil]at h5;rw[Nat.zero_add,<-Array.getElem?_toList,h5,a_2,List.getElem?_map,hi];rfl
theorem m_Z(bc:Nat->Nat->Nat)(l:List Nat)(k x:Nat)(f:Nat->Nat)(hk:k<l.length)(hx:x ∉ l)(i:Nat)(hi:i<256*l.length):byF (fun b=>if b=x then f else bc b) (l.set k x) i=if i/256=k then f (i%256)else byF bc l i:=by
 unfold byF
 by_cases h:i/256=k
 ·rw[if_pos h,h,List.getD,List.getElem?_set_self hk]
  simp
 ·rw[if_neg h,List.getD,List.getElem?_set_ne (Ne.symm h)]
  have hl:i/256<l.length:=by omega
  have hm:l[i/256]∈l:=List.getElem_mem hl;rw[List.getD,List.getElem?_eq_getElem hl];simp only[Option.getD_some];rw[if_neg fun e=>hx (by rw[<-e];exact hm)]
structure WrS(A:VA)(o:Nat->Nat)(s:VS)(bad:List Nat)(w:World)(q sz:Nat)(bc0 bc:Nat->Nat->Nat)(l:List Nat)(w':World):Prop where
 ob:ObN w.heap.size A.v q sz l w'
 bl:∀b,b∈l->∃at_,BlM (tag2 o w) w' b (bc b) at_/\f_l A s bad (bc b) at_
 old:∀b,b<w.heap.size->bc b=bc0 b
 nw:New w w'
theorem WrS.grown{A:VA}{o:Nat->Nat}{s:VS}{bad:List Nat}{w w':World}{q sz:Nat}{bc:Nat->Nat->Nat}{l nb:List Nat}(ho:ObN w.heap.size A.v q sz (l++nb) w')(hb:∀b,b∈nb->BlN w.heap.size w' b fun _=>0)(hl:f_k A o s bad bc w l)(hn:New w w') :
  WrS A o s bad w q sz bc (fun b=>if b<w.heap.size then bc b else fun _=>0) (l++nb) w':=by
 refine⟨ho,fun b hb'=>?_,fun b hb'=>if_pos hb',hn⟩;rcases List.mem_append.1 hb' with h|h
 ·obtain⟨at_,h1,h2⟩:=hl b h
  obtain⟨cs,hk⟩:=h1.blk;rw[if_pos hk.lt];exact⟨at_,h1.old hn,h2⟩
 ·have h1:=hb b h
  rw[if_neg (by have:=h1.1;omega)]
  exact⟨none,h1.blm,fun _=>(by show 0<256;omega),trivial⟩
theorem h_D{A:VA}{o:Nat->Nat}{s:VS}{bad:List Nat}{w w':World}{bc:Nat->Nat->Nat}{l nb:List Nat}(hb:∀b,b∈nb->BlN w.heap.size w' b fun _=>0)(hl:f_k A o s bad bc w l)(i:Nat)(hi:i<256*(l++nb).length) :
  byF (fun b=>if b<w.heap.size then bc b else fun _=>0) (l++nb) i=if i<256*l.length then byF bc l i else 0:=by
 unfold byF
 by_cases h:i<256*l.length
 ·have hil:i/256<l.length:=by omega
  rw[if_pos h,List.getD,List.getD,List.getElem?_append_left hil,List.getElem?_eq_getElem hil];simp only[Option.getD_some];obtain⟨at_,h1,_⟩:=hl _ (List.getElem_mem hil);obtain⟨cs,hk⟩:=h1.blk;rw[if_pos hk.lt]
 ·have hil:i/256<(l++nb).length:=by omega
  have hge:l.length<=i/256:=by omega
  rw[if_neg h,List.getD,List.getElem?_eq_getElem hil];simp only[Option.getD_some];have hm:(l++nb)[i/256]∈nb:=by
   rw[List.getElem_append_right hge];exact List.getElem_mem _
  rw[if_neg (by have:=(hb _ hm).1;omega)]
theorem BlM.far{o:Nat->Nat}{w:World}{b gr k:Nat}{f:Nat->Nat}{at_:Option Ptr}{cs:Array Value}(h:BlM o w b f at_)(hg:Blk w gr 112 cs)(u:Value):BlM o (w.setCell ⟨gr,k,none⟩ u) b f at_:=by
 obtain⟨h0,h⟩:=h;refine⟨h0,?_⟩;cases at_ with
 |none=>obtain⟨g,off,ds,c,h1,h2,h3,h4⟩:=h;exact⟨g,off,ds,c,h1.far (p:=⟨gr,k,none⟩) (e_ h1 hg (by decide)) u,h2,h3.far (p:=⟨gr,k,none⟩) (e_ h3 hg (by decide)) u,h4⟩
 |some q=>obtain⟨g,h1,h2,h3⟩:=h;exact⟨g,h1.far (p:=⟨gr,k,none⟩) (e_ h1 hg (by decide)) u,h2,h3.far (p:=⟨gr,k,none⟩) (e_ h3 hg (by decide)) u⟩
theorem r_k{w:World}{base n k gr c:Nat}{l:List Nat}{x:Nat}(h:w.ownsRow base 112 1 (.slice (some ⟨gr,0,none⟩) n c) l.length (a_2 l)):(w.setCell ⟨gr,k,none⟩ (ptr x)).ownsRow base 112 1 (.slice (some ⟨gr,0,none⟩) n c) (l.set k x).length (a_2 (l.set k x)):=by
 refine⟨by simp[a_2],?_⟩
 rcases h.2 with⟨h0,_⟩|⟨g',cap,cur,h0,hb,hg,h1,h2,h3,h4⟩
 ·cases h0
 ·injection h0 with h0 hn hc
  injection h0 with h0;injection h0 with h0 _ _;subst h0;refine .inr ⟨gr,cap,cur.setIfInBounds k (ptr x),by rw[List.length_set,hn,hc],hb,by simp[World.setCell,Array.getElem?_modify,hg],by rw[List.length_set];exact h1,h2,by simpa using h3,?_⟩
  rw[Array.toList_setIfInBounds,List.length_set,List.take_set,h4,a_2,a_2,List.map_set]
theorem WrS.put{A:VA}{o:Nat->Nat}{s:VS}{bad:List Nat}{w wr w3:World}{q sz k x gr c:Nat}{bc0 bc:Nat->Nat->Nat}{l:List Nat}{f:Nat->Nat}(h:WrS A o s bad w q sz bc0 bc l wr)(hn:New wr w3)(hx:wr.heap.size<=x)(hb:BlN w.heap.size w3 x f)(hf:∀i,f i<256)(hk:k<l.length)
  (hq:Blk w3 q 100 #[ptr A.v,.int .i64 (sz:Nat),.slice (some ⟨gr,0,none⟩) l.length c]) (ho:w3.ownsRow w.heap.size 112 1 (.slice (some ⟨gr,0,none⟩) l.length c) l.length (a_2 l)) :
  WrS A o s bad w q sz bc0 (fun b=>if b=x then f else bc b) (l.set k x) (w3.setCell ⟨gr,k,none⟩ (ptr x)):=by
 have hgr:w.heap.size<=gr:=(ho.lt gr rfl).1;obtain⟨cs,hgk⟩:∃cs,Blk w3 gr 112 cs:=by
  rcases ho.2 with⟨h0,_⟩|⟨g',cap,cur,h0,_,hg,_⟩
  ·cases h0
  ·injection h0 with h0 _ _
   injection h0 with h0;injection h0 with h0 _ _;subst h0;exact⟨cur,hg⟩
 have hxl:∀b,b∈l->b≠x:=fun b hb' e=>by
  obtain⟨at_,h1,_⟩:=h.bl b hb';obtain⟨cs,hk⟩:=h1.blk;have:=hk.lt;omega
 have hnw:=h.nw.next hn;refine⟨⟨h.ob.ge,_,hq.far (p:=⟨gr,k,none⟩) (e_ hq hgk (by decide)) _,r_k ho⟩,fun b hb'=>?_,fun b hb'=>?_,hnw.set (p:=⟨gr,k,none⟩) hgr _⟩
 ·rcases List.mem_or_eq_of_mem_set hb' with hm|rfl
  ·obtain⟨at_,h1,h2⟩:=h.bl b hm
   rw[if_neg (hxl b hm)];exact⟨at_,(h1.new hn).far hgk _,h2⟩
  ·rw[if_pos rfl]
   exact⟨none,hb.blm.far hgk _,hf,trivial⟩
 ·rw[if_neg (by have:=h.nw.size;omega)]
  exact h.old b hb'
section
variable {α β:Type}
abbrev F_(f:α->β)(l:List (Nm×α)):List (Nm×β):=l.map fun p=>(p.1,f p.2)
theorem b_h(f:α->β)(l:List (Nm×α))(x:Nm):pool.get (F_ f l) x=(pool.get l x).map f:=by
 induction l with
 |nil=>rfl
 |cons p l ih=>
  show pool.get ((p.1,f p.2)::F_ f l) x=_;unfold pool.get;show(if p.1=x then _ else _)=_;split
  ·rfl
  ·exact ih
theorem f_X(f:α->β)(l:List (Nm×α))(x:Nm)(v:α):put (F_ f l) x (f v)=F_ f (put l x v):=by
 induction l with
 |nil=>rfl
 |cons p l ih=>
  show put ((p.1,f p.2)::F_ f l) x (f v)=_;unfold put;show(if x<p.1 then _ else if p.1=x then _ else _)=_;split
  ·rfl
  ·split
   ·rfl
   ·rw[ih];rfl
theorem j_Y(f:α->β)(l:List (Nm×α))(x:Nm):del (F_ f l) x=F_ f (del l x):=by
 unfold del F_;rw[List.filter_map];rfl
theorem g_d(f:α->β)(l:List (Nm×α)):(F_ f l).map (·.1)=l.map (·.1):=by
 rw[F_,List.map_map];rfl
theorem n_N{γ:Type}(f:α->β)(h:β->γ)(l:List (Nm×α)):F_ h (F_ f l)=F_ (fun a=>h (f a)) l:=by
 rw[F_,F_,List.map_map];rfl
theorem b_5{f h:α->β}{l:List (Nm×α)}(e:∀p,p∈l->f p.2=h p.2):F_ f l=F_ h l:=List.map_congr_left fun p hp=>by rw[e p hp]
end
def a_X(b:By):By:=⟨b.n,fun i=>if i<b.n then b.f i else 0⟩
def c_T(s:PS):PS:=⟨F_ a_X s.ths,F_ (F_ a_X) s.shs⟩
theorem f_3(b:By):a_X (a_X b)=a_X b:=by
 unfold a_X;congr 1;funext i;dsimp only;split<;>rfl
def byT(bc:Nat->Nat->Nat)(g:OG):By:=a_X (byO bc g)
def a_c(bc:Nat->Nat->Nat)(l:GT):Ths:=F_ (byT bc) l
def absG(bc:Nat->Nat->Nat)(g:GS):PS:=⟨a_c bc g.ths,F_ (a_c bc) g.shs⟩
theorem b_a(bc:Nat->Nat->Nat)(g:GS):c_T (absG bc g)=absG bc g:=by
 unfold c_T absG a_c;simp only[n_N];congr 1
 ·exact b_5 fun p _=>f_3 _
 ·refine b_5 fun p _=>?_
  exact b_5 fun p _=>f_3 _
structure d_o(bc:Nat->Nat->Nat)(g:OG):Prop where
 sz:g.sz<=1024
 len:g.bl.length=(g.sz+255)/256
 tail:∀i,g.sz<=i->i<256*g.bl.length->byF bc g.bl i=0
theorem h_Q{bc bc':Nat->Nat->Nat}{l:List Nat}(h:∀b,b∈l->bc' b=bc b){i:Nat}(hi:i<256*l.length):byF bc' l i=byF bc l i:=by
 unfold byF;have hl:i/256<l.length:=by omega
 rw[List.getD,List.getElem?_eq_getElem hl];simp only[Option.getD_some];rw[h _ (List.getElem_mem hl)]
theorem d_o.congr{bc bc':Nat->Nat->Nat}{g:OG}(h:d_o bc g)(hb:∀b,b∈g.bl->bc' b=bc b):d_o bc' g:=
 ⟨h.sz,h.len,fun i h1 h2=>by rw[h_Q hb h2];exact h.tail i h1 h2⟩
theorem h_P{bc bc':Nat->Nat->Nat}{g:OG}(h:d_o bc g)(hb:∀b,b∈g.bl->bc' b=bc b):byT bc' g=byT bc g:=by
 unfold byT a_X byO;congr 1;funext i;dsimp only;split
 ·exact h_Q hb (by have:=h.len;omega)
 ·rfl
theorem m_H{l:GT}{p:Nm×OG}(hp:p∈l){b:Nat}(hb:b∈p.2.bl):b∈gBl l:=List.mem_flatMap.2 ⟨p,hp,hb⟩
theorem e_i{g:GS}{p:Nm×OG}(hp:p∈g.ths){b:Nat}(hb:b∈p.2.bl):b∈g.all:=List.mem_append_left _ (m_H hp hb)
theorem n_1{g:GS}{q:Nm×GT}(hq:q∈g.shs){p:Nm×OG}(hp:p∈q.2){b:Nat}(hb:b∈p.2.bl):b∈g.all:=List.mem_append_right _ (List.mem_flatMap.2 ⟨q,hq,m_H hp hb⟩)
def InG(g:GS)(G:OG):Prop:=(∃x,(x,G)∈g.ths)\/∃q,q∈g.shs/\∃x,(x,G)∈q.2
theorem InG.bl{g:GS}{G:OG}(h:InG g G){b:Nat}(hb:b∈G.bl):b∈g.all:=by
 rcases h with⟨x,h⟩|⟨q,hq,x,h⟩
 ·exact e_i h hb
 ·exact n_1 hq h hb
theorem InG.ths{g:GS}{x:Nm}{G:OG}(h:pool.get g.ths x=some G):InG g G:=.inl ⟨x,a_R h⟩
theorem InG.shs{g:GS}{x y:Nm}{l:GT}{G:OG}(h:pool.get g.shs x=some l)(h2:pool.get l y=some G):InG g G:=.inr ⟨_,a_R h,y,a_R h2⟩
theorem l_C{bc bc':Nat->Nat->Nat}{g:GS}(hk:∀G,InG g G->d_o bc G)(hb:∀b,b∈g.all->bc' b=bc b):absG bc' g=absG bc g:=by
 unfold absG a_c;congr 1
 ·exact b_5 fun p hp=>h_P (hk _ (.inl ⟨p.1,hp⟩)) fun b h=>hb b (e_i hp h)
 ·refine b_5 fun q hq=>b_5 fun p hp=>h_P (hk _ (.inr ⟨q,hq,p.1,hp⟩)) fun b h=>hb b (n_1 hq hp h)
def Tg(o:Nat->Nat)(w:World)(o':Nat->Nat):Prop:=∀b,if b<w.heap.size then o' b=o b else o' b=0\/o' b=2
theorem Tg.same{o o':Nat->Nat}{w:World}(h:Tg o w o'):s_ o o' w:=fun b hb=>by
 have:=h b
 rwa [if_pos hb]at this
theorem Tg.ge{o o':Nat->Nat}{w:World}(h:Tg o w o'){b:Nat}(hb:w.heap.size<=b):o' b=0\/o' b=2:=by
 have:=h b
 rwa [if_neg (by omega)]at this
theorem Tg.trans{o o1 o2:Nat->Nat}{w w1:World}(h:Tg o w o1)(k:Tg o1 w1 o2)(hs:w.heap.size<=w1.heap.size):Tg o w o2:=fun b=>by
 by_cases hb:b<w.heap.size
 ·rw[if_pos hb,k.same b (by omega),h.same b hb]
 ·rw[if_neg hb]
  by_cases h1:b<w1.heap.size
  ·rw[k.same b h1]
   exact h.ge (by omega)
  ·exact k.ge (by omega)
theorem C_(o:Nat->Nat)(w:World):Tg o w (tag0 o w):=fun b=>by
 by_cases hb:b<w.heap.size
 ·rw[if_pos hb];exact if_pos hb
 ·rw[if_neg hb];exact .inl (if_neg hb)
theorem z_(o:Nat->Nat)(w:World){b:Nat}(h:w.heap.size<=b):tag0 o w b=0:=if_neg (by omega)
theorem c_0(o:Nat->Nat){w w1:World}(hs:w.heap.size<=w1.heap.size):Tg (tag0 o w) w1 (tag0 o w):=fun b=>by
 by_cases hb:b<w1.heap.size
 ·rw[if_pos hb]
 ·rw[if_neg hb];exact .inl (if_neg (by omega))
theorem c_j(o:Nat->Nat)(w:World):Tg o w (tag2 o w):=fun b=>by
 by_cases hb:b<w.heap.size
 ·rw[if_pos hb];exact if_pos hb
 ·rw[if_neg hb];exact .inr (if_neg hb)
theorem Tg.tag2{o o1:Nat->Nat}{w w1:World}(h:Tg o w o1)(hs:w.heap.size<=w1.heap.size):Tg o w (tag2 o1 w1):=h.trans (c_j o1 w1) hs
section
variable {vb:Nat}{o o':Nat->Nat}{w w':World}{K:Nat->Prop}
theorem a_v.altB{v:Value}{l:List Nat}(h:a_v o w v l)(ha:Alt K w w')(hK:∀b t cs,Blk w b t cs->¬K b)(hs:s_ o o' w):a_v o' w' v l:=by
 obtain⟨A,c,h1,h2,h3,h4,h5⟩:=h;refine⟨A,c,h1,h2,h3,h4,fun h0=>?_⟩;obtain⟨g,off,cs,e1,e2,e3,e4⟩:=h5 h0;exact⟨g,off,cs,e1,(hs g e3.lt).trans e2,ha.blk e3 (hK g _ _ e3),e4⟩
theorem ObV.altB{v:Value}{g:OG}(h:ObV vb o w v g)(ha:Alt K w w')(hK:∀b t cs,Blk w b t cs->¬K b)(hs:s_ o o' w):ObV vb o' w' v g:=by
 obtain⟨ob,bv,h1,h2,h3,h4⟩:=h;exact⟨ob,bv,h1,(hs ob h3.lt).trans h2,ha.blk h3 (hK ob _ _ h3),h4.altB ha hK hs⟩
theorem BlM.altB{b:Nat}{f:Nat->Nat}{at_:Option Ptr}(h:BlM o w b f at_)(ha:Alt K w w')(hK:∀b t cs,Blk w b t cs->¬K b)(hs:s_ o o' w):BlM o' w' b f at_:=by
 obtain⟨h0,h⟩:=h;cases at_ with
 |none=>obtain⟨g,off,cs,c,h1,h2,h3,h4⟩:=h;exact⟨(hs b h1.lt).trans h0,g,off,cs,c,ha.blk h1 (hK b _ _ h1),(hs g h3.lt).trans h2,ha.blk h3 (hK g _ _ h3),h4⟩
 |some q=>obtain⟨g,h1,h2,h3⟩:=h;exact⟨(hs b h1.lt).trans h0,g,ha.blk h1 (hK b _ _ h1),(hs g h3.lt).trans h2,ha.blk h3 (hK g _ _ h3)⟩
theorem MP.weak{α:Type}{rd rd':Value->α->Prop}{w:World}{b c:Nat}{l:List (Nm×α)}(h:MP rd w b c l)(hr:∀k y,pool.get l k=some y->∀v,rd v y->rd' v y):MP rd' w b c l:=
 h.alt (K:=fun _=>False) (Alt.refl w) (fun f=>f) hr
theorem SnV.mono{xb yb c c':Nat}{v:Value}{l:GT}(h:SnV vb xb yb c o w v l)(hc:c<=c'):SnV vb xb yb c' o w v l:=by
 obtain⟨b,h1,h2,h3,h4,h5⟩:=h;exact⟨b,h1,h2,h3,h4,h5.mono hc⟩
theorem PlM.mono{sb xb yb c c':Nat}{g:GS}(h:PlM vb sb xb yb c o g w)(hc:c<=c'):PlM vb sb xb yb c' o g w:=
 ⟨h.bk,h.om.mono hc,(MP.weak h.nm fun _ _ _ _ hv=>hv.mono hc).mono hc,h.ts,h.tx,h.ty,h.ne⟩
theorem w_{g:Nat}{t:TypeId}{cs:Array Value}(h:Blk w g t cs){b:Nat}(hm:∃es k,w.heap[b]?=some (.map es k)):b≠g:=fun e=>by
 subst e;obtain⟨es,k,h1⟩:=hm;unfold Blk at h;rw[h]at h1;cases h1
end
structure VSt(A:VA)(s:VS)(bad:List Nat)(o:Nat->Nat)(bc:Nat->Nat->Nat)(xb yb c:Nat)(g:GS)(w:World):Prop where
 vm:VM A o s w
 pl:PlM A.v s.st xb yb c o g w
 bl:f_k A o s bad bc w g.all
 ok:∀G,InG g G->d_o bc G
section
variable {A:VA}{s:VS}{bad:List Nat}{o o':Nat->Nat}{bc bc':Nat->Nat->Nat}{xb yb c:Nat}{g:GS}{w w':World}{K:Nat->Prop}
theorem VSt.alt(h:VSt A s bad o bc xb yb c g w)(ha:Alt K w w')(h2:∀b,b<w.heap.size->K b->o b=0)(hs:s_ o o' w):VSt A s bad o' bc xb yb c g w':=by
 have hlt:∀b,K b/\b<w.heap.size->o b=0:=fun b hb=>h2 b hb.2 hb.1;have ha':Alt (fun b=>K b/\b<w.heap.size) w w':=⟨ha.os,ha.tape,ha.output,ha.size,fun i hi hn=>ha.same i hi fun hk=>hn ⟨hk,hi⟩⟩;have h3:∀b,o b=2->¬(K b/\b<w.heap.size):=fun b hb hk=>by have:=hlt b hk;omega
 exact⟨h.vm.keep ha' (fun b hb hk=>by have:=hlt b hk;omega) hs,h.pl.alt ha' h3 hs,fun b hb=>by obtain⟨at_,h1,h4⟩:=h.bl b hb;exact⟨at_,h1.alt ha' h3 hs,h4⟩,h.ok⟩
theorem VSt.new(h:VSt A s bad o bc xb yb c g w)(hn:New w w'):VSt A s bad o bc xb yb c g w':=h.alt (K:=fun _=>False) (Alt.of_new hn) (fun _ _ f=>f.elim) (s_.refl o w)
theorem VSt.new'(h:VSt A s bad o bc xb yb c g w)(hn:New w w')(hs:Tg o w o'):VSt A s bad o' bc xb yb c g w':=h.alt (K:=fun _=>False) (Alt.of_new hn) (fun _ _ f=>f.elim) hs.same
theorem VSt.mono(h:VSt A s bad o bc xb yb c g w){c':Nat}(hc:c<=c'):VSt A s bad o bc xb yb c' g w:=⟨h.vm,h.pl.mono hc,h.bl,h.ok⟩
theorem VSt.bcs(h:VSt A s bad o bc xb yb c g w)(hb:∀b,b<w.heap.size->bc' b=bc b):VSt A s bad o bc' xb yb c g w:=by
 have h1:∀b,b∈g.all->bc' b=bc b:=fun b hm=>by
  obtain⟨at_,h1,_⟩:=h.bl b hm;obtain⟨cs,hk⟩:=h1.blk;exact hb b hk.lt
 exact⟨h.vm,h.pl,fun b hm=>by rw[h1 b hm];exact h.bl b hm,fun G hG=>(h.ok G hG).congr fun b hb=>h1 b (hG.bl hb)⟩
theorem VSt.absG(h:VSt A s bad o bc xb yb c g w)(hb:∀b,b<w.heap.size->bc' b=bc b):absG bc' g=absG bc g:=l_C h.ok fun b hm=>by
 obtain⟨at_,h1,_⟩:=h.bl b hm;obtain⟨cs,hk⟩:=h1.blk;exact hb b hk.lt
theorem VSt.bk(h:VSt A s bad o bc xb yb c g w):∃eb,Blk w s.st 153 #[.map (some xb),.map (some yb),ptr eb]:=by
 obtain⟨eb,h1,_⟩:=h.pl.bk;exact⟨eb,h1⟩
theorem VSt.c0(h:VSt A s bad o bc xb yb c g w):w.cell? ⟨s.st,0,none⟩=some (.map (some xb)):=by
 obtain⟨eb,h1⟩:=h.bk;exact h1.cell 0
theorem VSt.c1(h:VSt A s bad o bc xb yb c g w):w.cell? ⟨s.st,1,none⟩=some (.map (some yb)):=by
 obtain⟨eb,h1⟩:=h.bk;exact h1.cell 1
theorem VSt.apart(h:VSt A s bad o bc xb yb c g w){p:Nat}{t:TypeId}{cs:Array Value}(hb:Blk w p t cs)(ht:t≠153):¬PK s.st xb yb p:=by
 obtain⟨eb,h1⟩:=h.bk;rintro(rfl|rfl|rfl)
 ·exact e_ hb h1 ht rfl
 ·exact w_ hb h.pl.om.obj rfl
 ·exact w_ hb h.pl.nm.obj rfl
theorem VSt.map_alt(h:VSt A s bad o bc xb yb c g w){m:Nat}(hm:∃es k,w.heap[m]?=some (.map es k))(ho:o m=2)(hg:w.grownBy w' (some m)) :
  Alt (fun k=>k=m) w w'/\(∀b t cs,Blk w b t cs->¬b=m)/\VM A o s w'/\(∀b f at_,BlM o w b f at_->BlM o w' b f at_)/\(∀v G,ObV A.v o w v G->ObV A.v o w' v G):=by
 have ha:Alt (fun k=>k=m) w w':=Alt.grown (Alt.refl w) hg fun r e=>.inl (Option.some.inj e).symm;have hK:∀b t cs,Blk w b t cs->¬b=m:=fun b t cs hb e=>w_ hb hm e.symm;exact⟨ha,hK,h.vm.keep ha (fun b hb e=>by subst e;omega) (s_.refl o w),fun b f at_ hb=>hb.altB ha hK (s_.refl o w),fun v G hv=>hv.altB ha hK (s_.refl o w)⟩
theorem VSt.objs(h:VSt A s bad o bc xb yb c g w)(hg:w.grownBy w' (some xb)){l:GT}{c':Nat}(hc:c<=c')(hm:MP (ObV A.v o w') w' xb c' l)(hb:f_k A o s bad bc w (gBl l))(hok:∀p,p∈l->d_o bc p.2):VSt A s bad o bc xb yb c' ⟨l,g.shs⟩ w':=by
 obtain⟨ha,hK,hvm,hbl,hov⟩:=h.map_alt h.pl.om.obj h.pl.tx hg;obtain⟨eb,e1,e2,e3⟩:=h.pl.bk;refine⟨hvm,⟨⟨eb,ha.blk e1 (hK _ _ _ e1),e2,ha.blk e3 (hK _ _ _ e3)⟩,hm,(h.pl.nm.alt (rd':=SnV A.v xb yb c' o w') ha (fun e=>h.pl.ne e.symm) fun k y _ v hv=>?_).mono hc,h.pl.ts,h.pl.tx,h.pl.ty,h.pl.ne⟩,fun b hbm=>?_,fun G hG=>?_⟩
 ·obtain⟨b,h1,h2,h3,h4,h5⟩:=hv
  exact⟨b,h1,h2,h3,h4,(h5.alt ha h3 fun _ _ _ _ hv=>hov _ _ hv).mono hc⟩
 ·rcases List.mem_append.1 hbm with hbm|hbm
  ·obtain⟨at_,h1,h2⟩:=hb b hbm
   exact⟨at_,hbl _ _ _ h1,h2⟩
  ·obtain⟨at_,h1,h2⟩:=h.bl b (List.mem_append_right _ hbm)
   exact⟨at_,hbl _ _ _ h1,h2⟩
 ·rcases hG with⟨x,hG⟩|hG
  ·exact hok _ hG
  ·exact h.ok G (.inr hG)
theorem VSt.snps(h:VSt A s bad o bc xb yb c g w)(hg:w.grownBy w' (some yb)){l:List (Nm×GT)}{c':Nat}(hc:c<=c')(hm:MP (SnV A.v xb yb c' o w') w' yb c' l)(hb:∀q,q∈l->f_k A o s bad bc w (gBl q.2))(hok:∀q,q∈l->∀p,p∈q.2->d_o bc p.2):VSt A s bad o bc xb yb c' ⟨g.ths,l⟩ w':=by
 obtain⟨ha,hK,hvm,hbl,hov⟩:=h.map_alt h.pl.nm.obj h.pl.ty hg;obtain⟨eb,e1,e2,e3⟩:=h.pl.bk;refine⟨hvm,⟨⟨eb,ha.blk e1 (hK _ _ _ e1),e2,ha.blk e3 (hK _ _ _ e3)⟩,(h.pl.om.alt (rd':=ObV A.v o w') ha h.pl.ne fun _ _ _ _ hv=>hov _ _ hv).mono hc,hm,h.pl.ts,h.pl.tx,h.pl.ty,h.pl.ne⟩,fun b hbm=>?_,fun G hG=>?_⟩
 ·rcases List.mem_append.1 hbm with hbm|hbm
  ·obtain⟨at_,h1,h2⟩:=h.bl b (List.mem_append_left _ hbm)
   exact⟨at_,hbl _ _ _ h1,h2⟩
  ·obtain⟨q,hq,hbq⟩:=List.mem_flatMap.1 hbm
   obtain⟨at_,h1,h2⟩:=hb q hq b hbq;exact⟨at_,hbl _ _ _ h1,h2⟩
 ·rcases hG with hG|⟨q,hq,x,hG⟩
  ·exact h.ok G (.inl hG)
  ·exact hok q hq _ hG
end
abbrev cmV(C:Cm)(drive keep:Int)(R:Option Addr)(dc:Nat):Value:=.agg (cmL C.kind C.name C.other C.off C.count drive keep R C.dn dc)
structure a_q(w:World)(C:Cm)(R:Option Addr)(dc:Nat):Prop where
 nl:C.name.length<=maxLen
 ol:C.other.length<=maxLen
 o1:C.off<=9223372036854775807
 c1:C.count<=9223372036854775807
 dat:RdI .u8 w R C.dn (fun i=>(C.df i:Nat))
 dcm:C.dn<=dc/\dc<=maxLen
 d8:∀i,C.df i<256
theorem a_q.new{w w':World}{C:Cm}{R:Option Addr}{dc:Nat}(h:a_q w C R dc)(hn:New w w'):a_q w' C R dc:=⟨h.nl,h.ol,h.o1,h.c1,h.dat.new hn,h.dcm,h.d8⟩
structure e_R(A:VA)(s:VS)(bad:List Nat):Prop where
 va:VOk A
 dok:DOk A s
 pb:bad.length<=mxB A
def VDo(A:VA)(s:VS)(bad:List Nat)(o:Nat->Nat)(xb yb c:Nat)(t:Td)(P:PS)(w:World)(e:Ending)(w':World):Prop:=
 ∃v xb' o' bc' g',e=.returned v/\TdN w.heap.size w' v t/\VSt A s bad o' bc' xb' yb (c+1) g' w'/\absG bc' g'=c_T P/\Alt (PK s.st xb yb) w w'/\Tg o w o'
theorem VDo.told{A:VA}{s:VS}{bad:List Nat}{o o2:Nat->Nat}{bc bc':Nat->Nat->Nat}{xb xb' yb c p:Nat}{g g':GS}{t:Td}{P:PS}{w W1 w2:World}{a0 a1 a2 a3 a4:Value}{cs:Array Value}(h1:VSt A s bad (tag0 o w) bc xb yb c g W1)(hN:New w W1)(hp:Blk W1 p 38 cs)(hge:w.heap.size<=p)(hst:VSt A s bad o2 bc' xb' yb (c+1) g' w2)(hT:Tg (tag0 o w) W1 o2)(ht:TdN w.heap.size w2 (.agg #[a0,a1,a2,a3,a4]) t)(hab:absG bc' g'=c_T P)(ha:Alt (PK s.st xb yb) W1 w2) :
  VDo A s bad o xb yb c t P w (.returned (.agg #[a0,a1,a2,a3,a4])) (f_d w2 p a0 a1 a2 a3 a4):=by
 have hp2:=ha.blk hp (h1.apart hp (by decide))
 have h0:o2 p=0:=(hT.same p hp.lt).trans (z_ o w hge);exact⟨_,xb',o2,bc',g',rfl,b_Y ⟨_,hp2⟩ ht,hst.alt (a_s _ _ _ _ _ _ _) (fun b _ e=>by subst e;exact h0) (s_.refl _ _),hab,((Alt.of_new hN).trans ha).trans' (a_s _ _ _ _ _ _ _) (fun i hi=>.inr (by omega)),(C_ o w).trans hT hN.size⟩
theorem VDo.same{A:VA}{s:VS}{bad:List Nat}{o:Nat->Nat}{bc:Nat->Nat->Nat}{xb yb c p:Nat}{g:GS}{t:Td}{w W1 w2:World}{a0 a1 a2 a3 a4:Value}{cs:Array Value}(h1:VSt A s bad (tag0 o w) bc xb yb c g W1)(hN:New w W1)(hp:Blk W1 p 38 cs)(hge:w.heap.size<=p)(hn:New W1 w2)(ht:TdN w.heap.size w2 (.agg #[a0,a1,a2,a3,a4]) t) :
  VDo A s bad o xb yb c t (absG bc g) w (.returned (.agg #[a0,a1,a2,a3,a4])) (f_d w2 p a0 a1 a2 a3 a4):=
 VDo.told h1 hN hp hge ((h1.new' hn (c_j (tag0 o w) W1)).mono (Nat.le_succ _)) (c_j (tag0 o w) W1) ht (b_a _ _).symm (Alt.of_new hn)
theorem VDo.lift{A:VA}{s:VS}{bad:List Nat}{o:Nat->Nat}{bc:Nat->Nat->Nat}{xb yb c p:Nat}{g:GS}{t:Td}{P:PS}{w W1 w2:World}{a0 a1 a2 a3 a4:Value}{cs:Array Value}(h1:VSt A s bad (tag0 o w) bc xb yb c g W1)(hN:New w W1)(hp:Blk W1 p 38 cs)(hge:w.heap.size<=p)(h:VDo A s bad (tag0 o w) xb yb c t P W1 (.returned (.agg #[a0,a1,a2,a3,a4])) w2) :
  VDo A s bad o xb yb c t P w (.returned (.agg #[a0,a1,a2,a3,a4])) (f_d w2 p a0 a1 a2 a3 a4):=by
 obtain⟨v,xb',o',bc',g',e,ht,hst,hab,ha,hT⟩:=h;cases e;exact VDo.told h1 hN hp hge hst hT (ht.mono hN.size) hab ha
theorem VDo.blk{A:VA}{s:VS}{bad:List Nat}{o:Nat->Nat}{bc:Nat->Nat->Nat}{xb yb c p:Nat}{g:GS}{t:Td}{P:PS}{W1 w2:World}{e:Ending}{cs:Array Value}(h1:VSt A s bad o bc xb yb c g W1)(hp:Blk W1 p 38 cs)(h:VDo A s bad o xb yb c t P W1 e w2):Blk w2 p 38 cs:=by
 obtain⟨v,xb',o',bc',g',e,ht,hst,hab,ha,hT⟩:=h;exact ha.blk hp (h1.apart hp (by decide))
theorem VDo.form{A:VA}{s:VS}{bad:List Nat}{o:Nat->Nat}{xb yb c:Nat}{t:Td}{P:PS}{W1 w2:World}{e:Ending}(h:VDo A s bad o xb yb c t P W1 e w2):∃A n k B m j,e=.returned (.agg #[.int .i64 t.code,.bool false,.int .i64 (t.size:Nat),.slice A n k,.slice B m j]):=by
 obtain⟨v,xb',o',bc',g',rfl,ht,_⟩:=h;obtain⟨A,n,k,B,m,j,rfl⟩:=ht.form;exact⟨_,_,_,_,_,_,rfl⟩
theorem h_I{bc:Nat->Nat->Nat}{G:OG}{off count:Int}{base:Nat}{w:World}{v:Value}(h:TdN base w v (a_T (byO bc G) off count)):TdN base w v (a_T (byT bc G) off count):=by
 unfold a_T at h ⊢
 by_cases hc:off<0\/count<0
 ·rw[if_pos hc]at h ⊢
  exact h
 ·rw[if_neg hc]at h ⊢
  obtain⟨dv,nv,h1,h2,h3⟩:=h;refine⟨dv,nv,h1,h2.congr rfl fun i hi=>?_,h3⟩;show byF bc G.bl (off.toNat+i)=if off.toNat+i<G.sz then byF bc G.bl (off.toNat+i)else 0;have hi:i<(if G.sz<=off.toNat then 0 else min count.toNat (G.sz-off.toNat)):=hi;rw[if_pos];split at hi<;>omega
theorem i_P{bc bc':Nat->Nat->Nat}{g:GS}{x:Nm}{G':OG}{y:By}(hab:absG bc' g=absG bc g)(hy:a_X y=byT bc' G'):absG bc' ⟨put g.ths x G',g.shs⟩=c_T ⟨put (absG bc g).ths x y,(absG bc g).shs⟩:=by
 rw[<-hab];have h1:=b_a bc' g;unfold c_T at h1 ⊢;have e1:F_ a_X (absG bc' g).ths=(absG bc' g).ths:=congrArg PS.ths h1;have e2:F_ (F_ a_X) (absG bc' g).shs=(absG bc' g).shs:=congrArg PS.shs h1;show _=PS.mk (F_ a_X (put (absG bc' g).ths x y)) (F_ (F_ a_X) (absG bc' g).shs);rw[e2,<-f_X,e1,hy];show PS.mk (a_c bc' (put g.ths x G')) (F_ (a_c bc') g.shs)=PS.mk (put (a_c bc' g.ths) x (byT bc' G')) (F_ (a_c bc') g.shs);rw[a_c,a_c,f_X]
theorem o_u{bc bc':Nat->Nat->Nat}{G:OG}{l':List Nat}{off dn:Nat}{df:Nat->Nat}(hG:d_o bc G)(ho:off+dn<=1024)(hl:l'.length=(max G.sz (off+dn)+255)/256)(hF:∀i,i<256*l'.length->byF bc' l' i=if off<=i/\i<off+dn then df (i-off)else if i<256*G.bl.length then byF bc G.bl i else 0) :
  d_o bc' ⟨max G.sz (off+dn),l'⟩/\a_X (d_t (byT bc G) off dn df)=byT bc' ⟨max G.sz (off+dn),l'⟩:=by
 have h1:=hG.sz;refine⟨⟨by show max _ _<=_;omega,hl,fun i hi hi2=>?_⟩,?_⟩
 ·have hi:max G.sz (off+dn)<=i:=hi
  rw[hF i hi2,if_neg (by omega)]
  split
  ·exact hG.tail i (by omega) (by assumption)
  ·rfl
 ·unfold byT a_X byO d_t
  dsimp only;congr 1;funext i
  by_cases hi:i<max G.sz (off+dn)
  ·rw[if_pos hi,if_pos hi,hF i (by omega)]
   by_cases h2:off<=i/\i<off+dn
   ·rw[if_pos h2,if_pos h2]
   ·rw[if_neg h2,if_neg h2]
    by_cases h3:i<G.sz
    ·have:=hG.len
     rw[if_pos h3,if_pos h3,if_pos (by omega)]
    ·rw[if_neg h3]
     split
     ·exact(hG.tail i (by omega) (by assumption)).symm
     ·rfl
  ·rw[if_neg hi,if_neg hi]
theorem t_x{bc bc':Nat->Nat->Nat}{G:OG}{l':List Nat}{m:Nat}(hG:d_o bc G)(ho:m<=1024)(hl:l'.length=(m+255)/256)(hF:∀i,i<256*l'.length->byF bc' l' i=if m<G.sz/\m<=i then 0 else if i<256*G.bl.length then byF bc G.bl i else 0) :
  d_o bc' ⟨m,l'⟩/\a_X (m_0 (byT bc G) m)=byT bc' ⟨m,l'⟩:=by
 refine⟨⟨ho,hl,fun i hi hi2=>?_⟩,?_⟩
 ·have hi:m<=i:=hi
  rw[hF i hi2];split
  ·rfl
  ·split
   ·exact hG.tail i (by omega) (by assumption)
   ·rfl
 ·unfold byT a_X byO m_0
  dsimp only;congr 1;funext i
  by_cases hi:i<m
  ·rw[if_pos hi,if_pos hi,hF i (by omega),if_neg (show ¬(m<G.sz/\m<=i) by omega)]
   by_cases h3:i<G.sz
   ·have:=hG.len
    rw[if_pos h3,if_pos h3,if_pos (by omega)]
   ·rw[if_neg h3]
    split
    ·exact(hG.tail i (by omega) (by assumption)).symm
    ·rfl
  ·rw[if_neg hi,if_neg hi]
theorem j_b{A:VA}{s:VS}{bad:List Nat}{o:Nat->Nat}{bc bc':Nat->Nat->Nat}{xb yb c q sz:Nat}{g:GS}{l':List Nat}{W1 w2:World}{x:Nm}(hS1:VSt A s bad o bc xb yb c g W1)(hw:WrS A o s bad W1 q sz bc bc' l' w2)(hc:c<maxLen)(hx:x.length<=maxLen)(hok:d_o bc' ⟨sz,l'⟩) :
  ∃w7,(Instr.mapUpdate 150 (.map (some xb)) (encStr x) (ptr q)).run prog w2.drew=.ok () w7/\Hid (VSt A s bad (tag2 o W1) bc' xb yb (c+1) ⟨put g.ths x ⟨sz,l'⟩,g.shs⟩ w7)/\Hid (Alt (PK s.st xb yb) W1 w7)/\Hid (∃cs,Blk w7 q 100 cs/\cs[1]?=some (.int .i64 (sz:Nat)))/\Hid (absG bc' g=absG bc g):=by
 have hn:=hw.nw;have hSd:=(hS1.bcs hw.old).new' (hn.drew) (c_j o W1);have hq:ObV A.v (tag2 o W1) w2.drew (ptr q) ⟨sz,l'⟩:=hw.ob.obv.altB (K:=fun _=>False) (Alt.of_new (New.refl w2).drew) (fun _ _ _ _ f=>f) (s_.refl _ _);obtain⟨w7,hup,hg7,hm7⟩:=hSd.pl.om.put underlying150 hc hx (ptr q) (⟨sz,l'⟩:OG);obtain⟨ha,hK,_,_,hov⟩:=hSd.map_alt hSd.pl.om.obj hSd.pl.tx hg7;refine⟨w7,hup,?_,((Alt.of_new hn).drew.grown hg7 fun r e=>.inl (.inr (.inl (Option.some.inj e).symm))),?_,hS1.absG hw.old⟩
 ·refine hSd.objs hg7 (Nat.le_succ c) (hm7 (ObV A.v (tag2 o W1) w7) (hov _ _ hq) fun k y _ v hv=>hov _ _ hv) (fun b hb=>?_) fun p hp=>?_
  ·obtain⟨p,hp,hb⟩:=List.mem_flatMap.1 hb
   rcases a_C hp with rfl|hp
   ·obtain⟨at_,h1,h2⟩:=hw.bl b hb
    exact⟨at_,h1.new (New.refl w2).drew,h2⟩
   ·exact hSd.bl b (e_i hp hb)
  ·rcases a_C hp with rfl|hp
   ·exact hok
   ·exact hSd.ok _ (.inl ⟨p.1,hp⟩)
 ·obtain⟨ob,bv,e,_,h3,_⟩:=hov _ _ hq
  injection e with e;injection e with e;injection e with e;subst e;exact⟨_,h3,rfl⟩
end vault
end Go.Proofs.YtojcoaekhiadcaaGreat
