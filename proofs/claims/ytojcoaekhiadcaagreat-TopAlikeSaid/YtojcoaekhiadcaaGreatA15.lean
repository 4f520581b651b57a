import Derived.Test.YtojcoaekhiadcaaGreatA01
import Derived.Test.YtojcoaekhiadcaaGreatA12
import Derived.Test.YtojcoaekhiadcaaGreatA14
import Derived.Test.YtojcoaekhiadcaaGreatA08
set_option linter.unusedVariables false
set_option linter.unusedSimpArgs false
namespace Go.Proofs.YtojcoaekhiadcaaGreat
open Tryz Go.RowKit
namespace vault
set_option maxRecDepth 100000
open Go.ChangeShapes Go.WideShapes Go.ChangeAt kit drive geom stripe Go.Deep
section
variable {A:VA}{o:Nat->Nat}{s:VS}
theorem colL_at(dr pa ad:Nat)(C:Nat->Nat):∀(k c:Nat),c<k->(a_U dr pa ad C k)[c*4]?=some (.int .i64 (((ad+c)%dr:Nat):Int))/\(a_U dr pa ad C k)[c*4+1]?=some (.int .i64 (((ad+c)/dr:Nat):Int))/\(a_U dr pa ad C k)[c*4+2]?=some (.int .i64 (C c:Nat))/\(a_U dr pa ad C k)[c*4+3]?=some (.bool (decide (c<pa)))
 |0,c,h=>absurd h (Nat.not_lt_zero c)
 |k+1,c,h=>by
  have hl:(a_U dr pa ad C k).length=k*4:=by
   clear h
   induction k with
   |zero=>rfl
   |succ k ih=>rw[c_g,List.length_append,ih];simp[k_2];omega
  rw[c_g]
  by_cases e:c<k
  ·rw[List.getElem?_append_left (by omega),List.getElem?_append_left (by omega),List.getElem?_append_left (by omega),List.getElem?_append_left (by omega)]
   exact colL_at dr pa ad C k c e
  ·obtain rfl:c=k:=by omega
   rw[List.getElem?_append_right (by omega),List.getElem?_append_right (by omega),List.getElem?_append_right (by omega),List.getElem?_append_right (by omega),hl]
   simp[k_2]
theorem PcP.form{q:Ptr}{i:Nat}{w w':World}{e:Ending}(h:PcP (a_a A q.ct i) (pcR A s q i) w e w'):∃r c,e=.returned (.agg #[.bool (a_A A s q i),.slice r (d_C A s q i) c])/\PcM A s q w' i r c/\New w w':=by
 obtain⟨h1,h2⟩:=h;unfold PcM d_C a_A pcD;cases hr:pcR A s q i with
 |none=>
  rw[hr]at h1;exact⟨none,0,h1,by simp,h2⟩
 |some D=>
  rw[hr]at h1;obtain⟨g,c,he,hk,hc1,hc2⟩:=h1;refine⟨some ⟨g,0,none⟩,c,by simpa using he,?_,h2⟩
  rw[if_neg (by simp)]
  exact⟨g,rfl,by simpa using hk,by simpa using hc1,hc2⟩
set_option maxHeartbeats 4000000 in
theorem k_N(hA:VOk A)(w:World)(h:VM A o s w)(q:Ptr)(h1:1<=q.ct)(h2:q.ct<=32)(hq:q.ad+b_X A q.ct<=512*A.n)(hm:∀i,i<A.n->(s.ds i).ws.length<300)(hb:∀i j F,rdS (s.ds i) j=some F->∀k,F k<256) :
  Calls prog 96 #[ptr A.v,.agg (x_ q)] w (n_4 A s q w):=by
 obtain⟨i1,hi1,hz0,hz1,hz2⟩:=info_parts n_P;have hn8:=hA.n8;have hcs:=Hd (fun(w':World) (hn:New w w')=>f_7 hA w' (h.new hn) q h1 h2 (by omega))
 obtain⟨num,hnum⟩:∃num,Hid (num=L_ A q.ct):=⟨_,rfl⟩;obtain⟨hnm1,hnm2,_⟩:=c_P hA h1;have hpc:=Hd (fun(w':World) (hn:New w w') (c:Nat) (hc:c<L_ A q.ct)=>n_y hA w' (h.new hn) ((q.ad+c)%A.n) ((q.ad+c)/A.n) (a_a A q.ct c) (decide (c<A.p)) (g_F hA h1 h2 hc hq).2 (f_D hA h1 h2 hc).1 (f_D hA h1 h2 hc).2 (g_F hA h1 h2 hc hq).1 (hm _ (g_F hA h1 h2 hc hq).2));have hcl:=Hd (colL_at A.n A.p q.ad (a_a A q.ct) (L_ A q.ct));have hfin:Hid (∀(w':World) P c R C,w'.ownsRow 0 205 2 (.slice P (L_ A q.ct) c) (L_ A q.ct) (pcL A s q R C (L_ A q.ct))->(∀i,i<L_ A q.ct->PcM A s q w' i (R i) (C i))->New w w'->n_4 A s q w (.returned (.slice P (L_ A q.ct) c)) w'):=fun w' P c R C ho hp hn=>by
  obtain⟨P',c',he,k1,k2,k3,k4⟩:=h_ ho;cases he;have hsec:∀d a j,c_2 (s.ds d) a j<256:=fun d a j=>by
   unfold c_2;split
   ·rename_i D hD
    exact hb _ _ D hD _
   ·omega
  have hD:∀i k,pcD A s q i k<256:=fun i k=>by
   unfold pcD pcR e_x;split
   ·show(0:Nat)<256;omega
   ·exact hsec _ _ _
  refine⟨P,c,R,C,rfl,⟨by omega,fun h0=>?_,fun i hi=>?_⟩,hn⟩
  ·obtain⟨g,rfl,_,hg⟩:=k3 h0
   refine⟨g,0,rfl,hg,fun i hi=>?_⟩;obtain⟨e1,e2⟩:=g_y (fun i=>(.bool (a_A A s q i),.slice (R i) (d_C A s q i) (C i))) (L_ A q.ct) i hi;have f1:=k4 g rfl _ _ e1;have f2:=k4 g rfl _ _ e2;rw[Nat.zero_add];exact⟨f1,f2⟩
  ·have hM:=hp i hi
   unfold PcM at hM;split at hM
   ·rename_i e
    obtain⟨h3,h4⟩:=hM;have hl:d_C A s q i=0:=if_pos e;rw[h3,h4,hl];exact⟨⟨Nat.zero_le _,fun h=>absurd h (Nat.lt_irrefl 0)⟩,Nat.le_refl _,Nat.zero_le _,hD i⟩
   ·obtain⟨g,h3,h4,h5,h6⟩:=hM
    rw[h3];exact⟨h4.rdI (by omega),h5,h6,hD i⟩
 have hWq:Hid (Blk (w.alloc (.cells (x_ q) 107)) w.heap.size 107 (x_ q)):=c_k w q;obtain⟨ad,ct,by_,birth,s0,s1,s2,s3⟩:=q;have k0:=hWq.o.cell 0;have k1:=hWq.o.cell 1;have k2:=hWq.o.cell 2;have k3:=hWq.o.cell 3;have k4:=hWq.o.cell 4;have k5:=hWq.o.cell 5;have k6:=hWq.o.cell 6;have k7:=hWq.o.cell 7;simp at k0 k1 k2 k3 k4 k5 k6 k7;rw[<-hnum.o]at hcs hpc hcl hfin hnm1 hnm2;have hN0:Hid (New w (w.alloc (.cells #[.int .i64 ad,.int .i64 ct,.int .i64 by_,.int .i64 birth,.int .i64 s0,.int .i64 s1,.int .i64 s2,.int .i64 s3] 107))):=(New.refl w).alloc _;clear h hWq;dsimp only at hcs hpc hcl hfin;have hnn:num<=8:=by omega
 clear hnm2 hn8;go_enter func96,ntmps96;go_wp2_with fail;refine(hcs.o _ hN0.o).mono ?_;rintro e W1 ⟨R,c,rfl,hown,hn1⟩;have hN1:=Hd (hN0.o.next hn1);obtain⟨R',c',he,_,_,hRc,hcells⟩:=h_ hown;cases he;obtain⟨g,rfl,_,hg⟩:=hRc (by omega)
 have hcw:Hid (∀j u,(a_U A.n A.p ad (a_a A ct) num)[j]?=some u->W1.cell? ⟨g,j,none⟩=some u):=fun j u hu=>hcells g rfl j u hu;clear hn1 hown hcells hRc k0 k1 k2 k3 k4 k5 k6 k7;go_wp2_with fail;go_loopw [5,12] (fun dv x wr=>∃(i:Nat) (u:Value) (R:Nat->Option Addr) (C:Nat->Nat),u=dv/\x=.int .i64 i/\i<=num/\Hid (New W1 wr)/\Hid (wr.ownsRow W1.heap.size 205 2 u i (pcL A s ⟨ad,ct,by_,birth,s0,s1,s2,s3⟩ R C i))/\Hid (∀j,j<i->PcM A s ⟨ad,ct,by_,birth,s0,s1,s2,s3⟩ wr j (R j) (C j))) (fun _ x _=>num-(intOf x).toNat);case atStart=>exact⟨0,_,fun _=>none,fun _=>0,rfl,rfl,by omega,New.refl _,World.ownsRow_nil _ _ _ _,fun k hk=>absurd hk (Nat.not_lt_zero k)⟩
 case round=>
  obtain⟨i,u,R,C,rfl,rfl,hi,hNW,hO,hM⟩:=hrel
  by_cases hlt:i<num
  ·have hiI:(i:Int)<(num:Int):=by omega
   have hi0:(0:Int)<=(i:Int):=by omega
   obtain⟨a0,a1,a2,a3⟩:=hcl.o i hlt;have b0:=(hNW.o.cell (p:=⟨g,i*4,none⟩) hg).trans (hcw.o _ _ a0);have b1:=(hNW.o.cell (p:=⟨g,i*4+1,none⟩) hg).trans (hcw.o _ _ a1);have b2:=(hNW.o.cell (p:=⟨g,i*4+2,none⟩) hg).trans (hcw.o _ _ a2);have b3:=(hNW.o.cell (p:=⟨g,i*4+3,none⟩) hg).trans (hcw.o _ _ a3);have hp:=Hd (fun(w':World) (hn:New wr w')=>hpc.o w' (hN1.o.next (hNW.o.next hn)) i hlt);clear a0 a1 a2 a3;obtain⟨dd,hdd⟩:∃dd,Hid (dd=(ad+i)%A.n):=⟨_,rfl⟩;obtain⟨aa,haa⟩:∃aa,Hid (aa=(ad+i)/A.n):=⟨_,rfl⟩;obtain⟨cc,hcc⟩:∃cc,Hid (cc=a_a A ct i):=⟨_,rfl⟩;obtain⟨pp,hpp⟩:∃pp,Hid (pp=decide (i<A.p)):=⟨_,rfl⟩;rw[<-hdd.o]at b0;rw[<-haa.o]at b1;rw[<-hcc.o]at b2;rw[<-hpp.o]at b3;have hp2:=Hd (fun(w':World) (hn:New wr w')=>(hp.o w' hn).mono fun _ _ h=>PcP.form (q:=⟨ad,ct,by_,birth,s0,s1,s2,s3⟩) (i:=i) h);rw[<-hdd.o,<-haa.o,<-hcc.o,<-hpp.o]at hp2;obtain⟨ls,hls⟩:∃ls,Hid (ls=a_A A s ⟨ad,ct,by_,birth,s0,s1,s2,s3⟩ i):=⟨_,rfl⟩;obtain⟨ln,hln⟩:∃ln,Hid (ln=d_C A s ⟨ad,ct,by_,birth,s0,s1,s2,s3⟩ i):=⟨_,rfl⟩;have hmore:=Hd (p_h A s ⟨ad,ct,by_,birth,s0,s1,s2,s3⟩ R C i);rw[<-hls.o,<-hln.o]at hp2 hmore;clear hp;go_wp2_with fail;refine(hp2.o _ ((New.refl wr).alloc _)).mono ?_;rintro e W6 ⟨r,c6,rfl,hM6,hn6⟩;have hN6:=Hd (New.of_alloc hn6);have hO6:=Hd (c_ hO.o hN6.o);have hM6H:=Hd hM6;obtain⟨Rv,kv,rfl⟩:=j_ hO.o;clear hn6 hM6;go_wp2_with (at_builtin;refine wpList_append_own _ rfl _ _ 201 rfl W1.heap.size 205 i1 _ 2 32 underlying201 hi1 hz0 hz1 hz2 rfl (by decide) (.slice Rv i kv) i (pcL A s ⟨ad,ct,by_,birth,s0,s1,s2,s3⟩ R C i) rfl (hO6.o.alloc _) ⟨W6.heap.size,0,none⟩ 1 1 [.bool ls,.slice r ln c6] rfl rfl (World.news_of_block (cs:=#[.bool _,.slice _ _ _]) (t:=205) (fr:=(0,0)) (heap_alloc_new W6 _)) (by simp[Value.oneCell']) (by unfold maxLen;omega) (by omega) (by have:=hN6.o.size;have:=hNW.o.size;simp;omega) ?_;intro v3 w3 hown3 hgrow hnil)
   rw[<-hmore.o]at hown3;have hN3:Hid (New W1 w3):=(hNW.o.next hN6.o).append' hgrow fun g hg=>(hO.o.lt g hg).1;have hM3:Hid (∀j,j<i+1->PcM A s ⟨ad,ct,by_,birth,s0,s1,s2,s3⟩ w3 j ((fun k=>if k=i then r else R k) j) ((fun k=>if k=i then c6 else C k) j)):=fun j hj=>by
    have hne:∀{W:World} {g m:Nat} {f:Nat->Nat},m_ 5 .u8 W g m f->W.ownsRow W1.heap.size 205 2 (.slice Rv i kv) i (pcL A s ⟨ad,ct,by_,birth,s0,s1,s2,s3⟩ R C i)->(Value.slice Rv i kv).ownBlock≠some g:=fun hf ho=>hf.ne_own ho (by decide)
    by_cases e:j=i
    ·subst e
     simp only[if_true];exact(hM6H.o.new ((New.refl W6).alloc _)).grown hgrow fun g f hf=>hne hf (hO6.o.alloc _)
    ·simp only[if_neg e]
     exact((hM.o j (by omega)).new (hN6.o.alloc _)).grown hgrow fun g f hf=>hne hf (hO6.o.alloc _)
   have hO3:=Hd hown3;clear hown3 hgrow hnil;go_roundw;case rel=>exact⟨i+1,_,_,_,rfl,by go_num,by omega,hN3,hO3,hM3⟩
   case measure=>simp[intOf];omega
  ·obtain rfl:i=num:=by omega
   have hiI:¬(i:Int)<(i:Int):=by omega
   obtain⟨Rv,kv,rfl⟩:=j_ hO.o;have hend:=Hd (hfin.o wr Rv kv R C (a_8 hO.o (Nat.zero_le _)) hM.o (hN1.o.next hNW.o));go_wp2;go_ret;exact hend.o
end
def tag0(o:Nat->Nat)(w:World):Nat->Nat:=fun b=>if b<w.heap.size then o b else 0
theorem f_(o:Nat->Nat)(w:World):s_ o (tag0 o w) w:=fun b hb=>if_pos hb
theorem b_b(o:Nat->Nat)(w:World){b:Nat}(h:w.heap.size<=b):¬16<=tag0 o w b:=by
 unfold tag0;rw[if_neg (by omega)]
 decide
theorem VM.tag0{A:VA}{o:Nat->Nat}{s:VS}{w w':World}(h:VM A o s w)(hn:New w w'):VM A (tag0 o w) s w':=h.keep (K:=fun _=>False) (Alt.of_new hn) (fun _ _ f=>f.elim) (f_ o w)
theorem s_P(G m c lo hi:Nat)(l h:Int)(hl:l=(lo:Nat))(hh:h=(hi:Nat))(h1:lo<hi)(h2:hi<=c)(w':World):(Instr.slice 35 (.slice (some ⟨G,0,none⟩) m c) (some (.int .i64 l)) (some (.int .i64 h)) none).run prog w'=.ok (.slice (some ⟨G,lo,none⟩) (hi-lo) (c-lo)) w':=by
 subst hl hh;have he:prog.elem 35=5:=by kernel_rfl
 have hs:(sizeOf 5).run prog w'=.ok 1 w':=Tryz.sizeOf5 w';rw[run_slice_lh (P:=prog) (w:=w') 35 (some ⟨G,0,none⟩) m c (by rw[he];exact underlying35) .i64 .i64 (lo:Nat) (hi:Nat) (by omega) (by omega) (by omega),he,hs]
 simp only[Result.andThen,sliced,Int.toNat_natCast];rw[if_neg (by omega)]
 have:=i_ G 0 lo;rw[Nat.zero_add]at this;rw[Nat.mul_one,Option.map_some,this]
def k_E(A:VA)(q:Ptr)(X:Nat->Nat)(c k:Nat):Nat->Nat:=fun j=>c_W X q.by_ A.p q.ct (wdA A) c (128*k+j)
def b_B(A:VA)(q:Ptr)(X:Nat->Nat)(s:VS)(c:Nat):Nat->VS
 |0=>s
 |k+1=>(b_B A q X s c k).at ((q.ad+c)%A.n) (a_E ((b_B A q X s c k).ds ((q.ad+c)%A.n)) ((q.ad+c)/A.n+k) (k_E A q X c k))
def Z_(A:VA)(q:Ptr)(X:Nat->Nat)(wb:Nat->Bool)(s:VS):Nat->VS
 |0=>s
 |c+1=>if wb c=true then b_B A q X (Z_ A q X wb s c) c (a_a A q.ct c)else Z_ A q X wb s c
abbrev t_z(A:VA)(q:Ptr)(c:Nat):Value:=.agg #[.int .i64 (((q.ad+c)%A.n:Nat):Int),.int .i64 (((q.ad+c)/A.n:Nat):Int),.int .i64 (a_a A q.ct c:Nat),.bool (decide (c<A.p))]
section
variable {A:VA}{o:Nat->Nat}{s:VS}
theorem d_D(q:Ptr)(X:Nat->Nat)(s:VS)(c:Nat){d:Nat}(hd:d≠(q.ad+c)%A.n):∀k,(b_B A q X s c k).ds d=s.ds d
 |0=>rfl
 |k+1=>(if_neg hd).trans (d_D q X s c hd k)
theorem c_l(q:Ptr)(X:Nat->Nat)(wb:Nat->Bool)(s:VS){d:Nat}:∀c,(∀i,i<c->d≠(q.ad+i)%A.n)->(Z_ A q X wb s c).ds d=s.ds d
 |0,_=>rfl
 |c+1,h=>by
  unfold Z_;split
  ·rw[d_D q X _ c (h c (by omega)),c_l q X wb s c fun i hi=>h i (by omega)]
  ·exact c_l q X wb s c fun i hi=>h i (by omega)
theorem r_a(x:DS)(a:Nat)(D:Nat->Nat):(a_E x a D).ws.length<=x.ws.length+1:=by
 unfold a_E;split
 ·omega
 ·simp
theorem g_h(q:Ptr)(X:Nat->Nat)(s:VS)(c:Nat):∀k,((b_B A q X s c k).ds ((q.ad+c)%A.n)).ws.length<=(s.ds ((q.ad+c)%A.n)).ws.length+k
 |0=>Nat.le_refl _
 |k+1=>by
  have:=g_h q X s c k;show(if _=_ then _ else _:DS).ws.length<=_;rw[if_pos rfl];have h2:=r_a ((b_B A q X s c k).ds ((q.ad+c)%A.n)) ((q.ad+c)/A.n+k) (k_E A q X c k);omega
theorem c_a{n ad i c:Nat}(h:i<c)(hc:c<n):(ad+c)%n≠(ad+i)%n:=fun e=>by
 have h1:=Nat.div_add_mod (ad+c) n;have h2:=Nat.div_add_mod (ad+i) n;rw[e]at h1;have h3:(ad+c)/n=(ad+i)/n:=by
  rcases Nat.lt_trichotomy ((ad+c)/n) ((ad+i)/n)with h4|h4|h4
  ·have:=Nat.mul_le_mul_left n (Nat.succ_le_of_lt h4);rw[Nat.mul_succ]at this;omega
  ·exact h4
  ·have:=Nat.mul_le_mul_left n (Nat.succ_le_of_lt h4);rw[Nat.mul_succ]at this;omega
 rw[h3]at h1;omega
theorem e_C(q:Ptr)(X:Nat->Nat)(s:VS)(c:Nat):∀k,(b_B A q X s c k).puts=s.puts
 |0=>rfl
 |k+1=>e_C q X s c k
theorem e_D(q:Ptr)(X:Nat->Nat)(wb:Nat->Bool)(s:VS):∀c,(Z_ A q X wb s c).puts=s.puts
 |0=>rfl
 |c+1=>by
  unfold Z_;split
  ·rw[e_C,e_D q X wb s c]
  ·exact e_D q X wb s c
set_option maxHeartbeats 4000000 in
theorem r_B(hA:VOk A)(w:World)(h:VM A o s w)(q:Ptr)(X:Nat->Nat)(wb:Nat->Bool)(b off cd:Nat)(fk:FuncId)(eg:∀args w,(callFunc fk args).run prog w=.ok (.enter fk args) w)(caps:Array Value)
  (b1:1<=q.by_) (b2:q.by_<=4096) (hct:q.ct=(q.by_+127)/128) (hq:q.ad+b_X A q.ct<=512*A.n) (hX:∀k,k<q.by_->w.cell? ⟨b,off+k,none⟩=some (.int .u8 (X k:Nat))) (hX8:∀k,X k<256) (hb:b<w.heap.size)
  (hm:∀i,i<A.n->(s.ds i).ws.length+q.ct<300) (hp:s.puts<0)
  (hW:∀c w1,c<L_ A q.ct->Alt (fun b=>16<=o b) w w1->Calls prog fk (#[t_z A q c]++caps) w1 fun e w'=>e=.returned (.bool (wb c))/\New w1 w') :
  Calls prog 80 #[ptr A.v,.agg (x_ q),.slice (some ⟨b,off,none⟩) q.by_ cd,.func (.func fk) #[] caps] w fun e w'=>e=.returned (.tuple #[])/\P_ A o (Z_ A q X wb s (L_ A q.ct)) w w':=by
 have hc1:1<=q.ct:=by omega
 have hc2:q.ct<=32:=by omega
 obtain⟨hw,hnw⟩:=b_P hA;obtain⟨hnm1,hnm2,hnm3⟩:=c_P hA hc1;clear hnm3;have hn8:=hA.n8;obtain⟨num,hnum⟩:∃num,Hid (num=L_ A q.ct):=⟨_,rfl⟩;have hlay:=Hd (fun(w':World) (hn:New w w')=>t_G A.n A.p q.ad (wdA A) q.ct b off q.by_ cd X hA.n2 hA.n8 hA.p1 hA.p3 hnw hw (by omega) ⟨b1,b2⟩ hct w' (fun k hk=>(hn.cell (p:=⟨b,off+k,none⟩) hb).trans (hX k hk)) hX8 (Nat.lt_of_lt_of_le hb hn.size))
 have hcs:=Hd (fun(w':World) (hn:New w w')=>f_7 hA w' (h.new hn) q hc1 hc2 (by omega))
 have hcl:=Hd (colL_at A.n A.p q.ad (a_a A q.ct) (L_ A q.ct));have hca:=Hd (fun(c:Nat) (hc:c<L_ A q.ct)=>And.intro (g_F hA hc1 hc2 hc hq) (f_D hA hc1 hc2 hc));have hWH:=Hd hW;have hvH:=Hd h;have hmH:Hid (∀c k,c<L_ A q.ct->k<a_a A q.ct c->((b_B A q X (Z_ A q X wb s c) c k).ds ((q.ad+c)%A.n)).ws.length<300):=fun c k hc hk=>by
  have h1:=g_h (A:=A) q X (Z_ A q X wb s c) c k;rw[c_l q X wb s c fun i hi=>c_a hi (by omega)]at h1
  have h2:=hm _ (g_F hA hc1 hc2 hc hq).2;have h3:=d_5 (pa:=A.p) hw hc1 hA.p1 c;have h4:a_a A q.ct c<=q.ct:=by
   unfold a_a G_;have:=Nat.div_add_mod q.ct (wdA A);have h5:q.ct/wdA A<=wdA A*(q.ct/wdA A):=Nat.le_mul_of_pos_left _ hw;unfold a_P;split<;>split<;>omega
  omega
 have v0:=h.v0;have v1:=h.v1;obtain⟨W0,hW0⟩:∃W0,W0=w.alloc (.cells (x_ q) 107):=⟨_,rfl⟩;have hN0:New w W0:=by rw[hW0];exact(New.refl w).alloc _
 have hb0:Blk W0 w.heap.size 107 (x_ q):=by rw[hW0];exact c_k w _
 have hkeep:Hid (∀w',New W0 w'->w'.cell? ⟨A.v,0,none⟩=some (.int .i64 A.n)/\w'.cell? ⟨A.v,1,none⟩=some (.int .i64 A.p)/\w'.cell? ⟨w.heap.size,0,none⟩=some (.int .i64 q.ad)):=fun w' hn=>⟨((hN0.next hn).cell (a_ v0)).trans v0,((hN0.next hn).cell (a_ v1)).trans v1,(hb0.new hn).cell 0⟩;have hN0H:=Hd hN0;have hb0H:=Hd hb0;obtain⟨k0,k1,k2⟩:=hkeep.o W0 (New.refl _);rw[<-hnum.o]at hnm1 hnm2 hcs hcl hca hmH hWH ⊢;have egH:=Hd eg;have hX8H:=Hd hX8;clear hb0 hN0 v0 v1 h hW hX hb hm hct hnw hw eg hX8;go_enter func80,ntmps80;go_wp2_with fail;rw[<-hW0];clear hW0;go_cut [8] from 14 to 29 (fun t wx=>∃ob cO R C,t=.slice (some ⟨ob,0,none⟩) num cO/\Hid (RdM .u8 wx (some ⟨ob,0,none⟩) num R (e_B A.p q.ct (wdA A)) C (fun i k=>(c_W X q.by_ A.p q.ct (wdA A) i k:Nat)))/\w.heap.size<=ob/\Hid (∀i,i<num->∃g,R i=some ⟨g,0,none⟩/\w.heap.size<=g)/\Hid (New W0 wx));case first=>
  go_region_held3 (fun w'=>w'.cell? ⟨A.v,0,none⟩=some (.int .i64 A.n)/\w'.cell? ⟨A.v,1,none⟩=some (.int .i64 A.p)/\w'.cell? ⟨w.heap.size,0,none⟩=some (.int .i64 q.ad))
   (first
    |with_reducible exact hkeep.o _ (New.refl _).drew
    |with_reducible exact hkeep.o _ hN6.o)
   ((go_at_call 129;(with_reducible refine(hlay.o _ (hN0H.o.next (New.refl W0).drew)).mono ?_);rintro e W6 ⟨⟨ob,cO,R,C,rfl,hM,hob,hR⟩,hn6⟩;have hN6:=Hd (New.next (New.refl W0).drew hn6);have hfin:=Hd (And.intro hM (And.intro hob hR));clear hn6 hM hob hR))
  all_goals go_wp2
  all_goals go_meet
  all_goals
   have hsz0:=hN0H.o.size;obtain⟨f1,f2,f3⟩:=hfin.o;have f2':W0.heap.size<=ob:=f2;refine⟨ob,cO,R,C,by rw[hnum.o],by rw[hnum.o];exact f1,by omega,fun i hi=>?_,hN6⟩
   obtain⟨g,e1,e2⟩:=f3 i (Nat.lt_of_lt_of_eq hi hnum.o);have e2':W0.heap.size<=g:=e2;exact⟨g,e1,by omega⟩
 case rest=>
  obtain⟨ob,cO,R,C,rfl,hMr,hob,hRn,hNc⟩:=hcut;have hbc:=hb0H.o.new hNc.o;have k0:=hbc.cell 0;have k1:=hbc.cell 1;have k2:=hbc.cell 2;have k3:=hbc.cell 3;have k4:=hbc.cell 4;have k5:=hbc.cell 5;have k6:=hbc.cell 6;have k7:=hbc.cell 7;simp at k0 k1 k2 k3 k4 k5 k6 k7;clear hbc;go_wp2_with fail;refine(hcs.o _ (hN0H.o.next hNc.o)).mono ?_;rintro e W1 ⟨Rc,cc,rfl,hown,hn1⟩;have hN1:=Hd ((hN0H.o.next hNc.o).next hn1);obtain⟨Rc',cc',he,_,_,hRc,hcells⟩:=h_ hown;cases he;obtain⟨g,rfl,hgl,hg⟩:=hRc (by omega)
  have hcw:Hid (∀j u,(a_U A.n A.p q.ad (a_a A q.ct) num)[j]?=some u->W1.cell? ⟨g,j,none⟩=some u):=fun j u hu=>hcells g rfl j u hu;have hrw:Hid (ob<W1.heap.size/\∀i,i<num->∃G,w.heap.size<=G/\G<W1.heap.size/\W1.cell? ⟨ob,i,none⟩=some (.slice (some ⟨G,0,none⟩) (e_B A.p q.ct (wdA A) i) (C i))/\e_B A.p q.ct (wdA A) i<=C i/\C i<=maxLen/\∀j,j<e_B A.p q.ct (wdA A) i->W1.cell? ⟨G,j,none⟩=some (.int .u8 (c_W X q.by_ A.p q.ct (wdA A) i j:Nat))):=by
   have hM:=hMr.o.new hn1;obtain⟨b',o',e,hb',hc'⟩:=hM.2.1 (by omega)
   cases e;refine⟨hb',fun i hi=>?_⟩;obtain⟨G,e1,e2⟩:=hRn.o i hi;obtain⟨r1,r2,r3⟩:=hM.2.2 i hi;have hc2:=hc' i hi;rw[Nat.zero_add,e1]at hc2;have hpos:0<e_B A.p q.ct (wdA A) i:=by
    have h1:=e_f (pa:=A.p) (b_P hA).1 hc1 hA.p1;have h2:=(hca.o i hi).2.1;unfold e_B;unfold a_a at h2;split<;>omega
   obtain⟨b2',o2',e3,h3,h4⟩:=r1.2 hpos;rw[e1]at e3;cases e3;exact⟨G,e2,h3,hc2,r2,r3,fun j hj=>by simpa using h4 j hj⟩
  have hV1:=Hd (hvH.o.tag0 hN1.o);have hD0:Hid (P_ A (vault.tag0 o w) (Z_ A q X wb s 0) W1 W1):=P_.start hV1.o;clear hn1 hown hcells hRc k0 k1 k2 k3 k4 k5 k6 k7 hMr hRn hcs hlay hkeep;go_wp2_with fail;go_loopw [34] (fun x wr=>∃c:Nat,x=.int .i64 c/\c<=num/\Hid (P_ A (vault.tag0 o w) (Z_ A q X wb s c) W1 wr)) (fun x _=>num-(intOf x).toNat);case atStart=>exact⟨0,rfl,by omega,hD0⟩
  case round=>
   obtain⟨c,rfl,hi,hD⟩:=hrel;clear hD0
   by_cases hlt:c<num
   ·have hcI:(c:Int)<(num:Int):=by omega
    have hc0:(0:Int)<=(c:Int):=by omega
    obtain⟨wo,rfl⟩:∃wo,wo=wr:=⟨_,rfl⟩;obtain⟨o1,s1,hV,a1⟩:=hD.o;obtain⟨a0',a1',a2',a3'⟩:=hcl.o c hlt;have hg16:¬16<=vault.tag0 o w g:=b_b o w (by have:=hN0H.o.size;have:=hNc.o.size;omega)
    have c0:=a1.cell (hcw.o _ _ a0') hg16;have c1:=a1.cell (hcw.o _ _ a1') hg16;have c2:=a1.cell (hcw.o _ _ a2') hg16;have c3:=a1.cell (hcw.o _ _ a3') hg16;obtain⟨dd,hdd⟩:∃dd,Hid (dd=(q.ad+c)%A.n):=⟨_,rfl⟩;obtain⟨aa,haa⟩:∃aa,Hid (aa=(q.ad+c)/A.n):=⟨_,rfl⟩;obtain⟨cn,hcn⟩:∃cn,Hid (cn=a_a A q.ct c):=⟨_,rfl⟩;obtain⟨pp,hpp⟩:∃pp,Hid (pp=decide (c<A.p)):=⟨_,rfl⟩;rw[<-hdd.o]at c0;rw[<-haa.o]at c1;rw[<-hcn.o]at c2;rw[<-hpp.o]at c3;have hsH:=Hd s1;have hVH:=Hd hV;have haH:=Hd a1;clear a0' a1' a2' a3' s1 hV a1 hD;go_wp2_with fail;obtain⟨G,hG1,hG2,hG3,hG4,hG5,hG6⟩:=hrw.o.2 c hlt;have hll:e_B A.p q.ct (wdA A) c=128*cn:=by
     rw[hcn.o];unfold e_B;split
     ·rename_i h
      rw[a_a,d_K (b_P hA).1 hc1 hA.p1 c h]
     ·rfl
    rw[hll]at hG3 hG4 hG6;obtain⟨ci1,ci2⟩:=hca.o c hlt;rw[<-haa.o,<-hcn.o,<-hdd.o]at ci1;rw[<-hcn.o]at ci2;have hN2:Hid (New wo (wo.alloc (.cells #[.int .i64 dd,.int .i64 aa,.int .i64 cn,.bool pp] 175))):=(New.refl wo).alloc _;obtain⟨W2,hW2⟩:∃W2,W2=wo.alloc (.cells #[.int .i64 dd,.int .i64 aa,.int .i64 cn,.bool pp] 175):=⟨_,rfl⟩;have hB2:Hid (Blk W2 wo.heap.size 175 #[.int .i64 dd,.int .i64 aa,.int .i64 cn,.bool pp]):=by rw[hW2];exact Blk.fresh wo _ _
    rw[<-hW2]at hN2;have hsz1:=haH.o.size;have hD2:Hid (P_ A (vault.tag0 o1 wo) (b_B A q X (Z_ A q X wb s c) c 0) W2 W2):=P_.start (hVH.o.tag0 hN2.o);have hs2:Hid (s_ (vault.tag0 o w) (vault.tag0 o1 wo) W1):=hsH.o.trans (f_ o1 wo) hsz1;have ha2:Hid (Alt (fun b=>16<=vault.tag0 o w b) W1 W2):=haH.o.next hN2.o;have hrow2:Hid (W2.cell? ⟨ob,c,none⟩=some (.slice (some ⟨G,0,none⟩) (128*cn) (C c))/\(∀j,j<128*cn->W2.cell? ⟨G,j,none⟩=some (.int .u8 (c_W X q.by_ A.p q.ct (wdA A) c j:Nat)))/\¬16<=vault.tag0 o1 wo ob/\¬16<=vault.tag0 o1 wo G):=by
     have t1:=b_b o w hob;have t2:=b_b o w hG1;refine⟨ha2.o.cell hG3 t1,fun j hj=>ha2.o.cell (hG6 j hj) t2,?_,?_⟩
     ·rw[hs2.o ob hrw.o.1];exact t1
     ·rw[hs2.o G hG2];exact t2
    have hsz2:G<W2.heap.size:=Nat.lt_of_lt_of_le hG2 ha2.o.size;have hb16:¬16<=vault.tag0 o1 wo wo.heap.size:=b_b o1 wo (Nat.le_refl _);have hcell2:Hid (∀{s'} (w':World),P_ A (vault.tag0 o1 wo) s' W2 w'->Blk w' wo.heap.size 175 #[.int .i64 dd,.int .i64 aa,.int .i64 cn,.bool pp]/\w'.cell? ⟨ob,c,none⟩=some (.slice (some ⟨G,0,none⟩) (128*cn) (C c))):=fun {s'} w' h=>by
     obtain⟨_,_,_,a⟩:=h;exact⟨a.blk hB2.o hb16,a.cell hrow2.o.1 hrow2.o.2.2.1⟩
    have hback:Hid (∀{s'} (w':World),P_ A (vault.tag0 o1 wo) s' W2 w'->P_ A (vault.tag0 o w) s' W1 w'):=fun {s'} w' h=>P_.trans hs2.o ha2.o h;have hwant:Hid (∀{s'} (w':World),P_ A (vault.tag0 o1 wo) s' W2 w'->Calls prog fk (#[.agg #[.int .i64 dd,.int .i64 aa,.int .i64 cn,.bool pp]]++caps) w' fun e w''=>e=.returned (.bool (wb c))/\New w' w''):=fun {s'} w' h=>by
     obtain⟨o9,s9,_,a9⟩:=hback.o w' h;have:=hWH.o c w' hlt ((Alt.of_new hN1.o).trans' a9 fun b hb=>(Nat.lt_or_ge b w.heap.size).imp (fun hl=>by rw[f_ o w b hl]at hb;exact hb) id)
     rw[hdd.o,haa.o,hcn.o,hpp.o];exact this
    rw[<-hW2];clear hW2 hG3 hG6 hsH hVH haH c0 c1 c2 c3 hll;obtain⟨bb,hbb⟩:∃bb,Hid (bb=wb c):=⟨_,rfl⟩;rw[<-hbb.o]at hwant;go_loopw [12] (fun x wq=>∃k:Nat,x=.int .i64 k/\k<=cn/\Hid (P_ A (vault.tag0 o1 wo) (b_B A q X (Z_ A q X wb s c) c k) W2 wq)/\Hid (0<k->bb=true)) (fun x _=>cn-(intOf x).toNat);case atStart=>exact⟨0,rfl,by omega,hD2,fun h0=>absurd h0 (Nat.lt_irrefl 0)⟩
    case round=>
     obtain⟨k,rfl,hk,hD,hkb⟩:=hrel;have hbx:=(hcell2.o _ hD.o).1;have x0:=hbx.cell 0;have x1:=hbx.cell 1;have x2:=hbx.cell 2;have x3:=hbx.cell 3;simp at x0 x1 x2 x3;have eg:=egH.o;clear hbx
     by_cases hkc:k<cn
     ·have hkI:(k:Int)<(cn:Int):=by omega
      have hwn:=Hd (hwant.o _ hD.o);cases bb with
      |false=>
       go_wp2_with fail;refine hwn.o.mono ?_;rintro e w3 ⟨rfl,hn3⟩;obtain rfl:k=0:=by
        rcases Nat.eq_zero_or_pos k with h0|h0
        ·exact h0
        ·have:=hkb.o h0;cases this
       have hfin:Hid (P_ A (vault.tag0 o w) (Z_ A q X wb s (c+1)) W1 w3):=by
        have h1:Z_ A q X wb s (c+1)=Z_ A q X wb s c:=if_neg (by rw[<-hbb.o];simp)
        rw[h1];exact(hback.o _ hD.o).new hn3
       clear hn3;show _;dsimp only;go_wp2;go_roundw;case rel=>exact⟨c+1,by go_num,by omega,hfin⟩
       case measure=>simp[intOf];omega
      |true=>
       go_wp2_with fail;refine hwn.o.mono ?_;rintro e w3 ⟨rfl,hn3⟩;have hbo:=hcell2.o _ (hD.o.new hn3);have y0:=hbo.1.cell 0;have y1:=hbo.1.cell 1;have y2:=hbo.2;simp at y0 y1;obtain⟨o3,s3,hV3,a3⟩:=hD.o.new hn3;have hput:Hid (∀w',New w3 w'->Calls prog 90 #[ptr A.v,.int .i64 dd,.int .i64 ((aa:Int)+(k:Int)),.slice (some ⟨G,128*k,none⟩) 128 (C c-128*k)] w' fun e w''=>e=.returned (.tuple #[])/\P_ A (vault.tag0 o1 wo) (b_B A q X (Z_ A q X wb s c) c (k+1)) W2 w''):=fun w' hn=>by
        have hm2:=hmH.o c k hlt (by rw[<-hcn.o];exact hkc)
        rw[<-hdd.o]at hm2;have hpt:=m_5 (hV3.new hn) hA dd (aa+k) (some ⟨G,128*k,none⟩) (C c-128*k) (k_E A q X c k) ci1.2 (by omega) hm2 ⟨by unfold maxLen;omega,fun _=>⟨G,128*k,rfl,?_,fun j hj=>?_⟩⟩ (by omega) (by omega) (by rw[e_C,e_D];exact hp)
        ·rw[Int.natCast_add]at hpt
         refine hpt.mono ?_;rintro e w'' ⟨he,hd⟩;refine⟨he,?_⟩;have hd2:=P_.trans s3 (a3.next hn) hd.drs;have e9:(b_B A q X (Z_ A q X wb s c) c k).at dd (a_E ((b_B A q X (Z_ A q X wb s c) c k).ds dd) (aa+k) (k_E A q X c k))=b_B A q X (Z_ A q X wb s c) c (k+1):=by rw[hdd.o,haa.o];rfl
         rw[e9]at hd2;exact hd2
        ·have:=hsz2;have:=a3.size;have:=hn.size;omega
        ·exact(hn.cell (a_ (a3.cell (hrow2.o.2.1 _ (by omega)) hrow2.o.2.2.2))).trans (a3.cell (hrow2.o.2.1 (128*k+j) (by omega)) hrow2.o.2.2.2)
       clear hV3 a3 s3 hbo;have hkm:IntKind.i64.wrap ((k:Int)*128)=(k:Int)*128:=IntWalk.i64_in _ (by omega)
       have hk1:IntKind.i64.wrap ((k:Int)+1)=(k:Int)+1:=IntWalk.i64_in _ (by omega)
       have hk2:IntKind.i64.wrap (((k:Int)+1)*128)=((k:Int)+1)*128:=IntWalk.i64_in _ (by omega)
       have hk3:IntKind.i64.wrap ((aa:Int)+(k:Int))=(aa:Int)+(k:Int):=IntWalk.i64_in _ (by omega)
       show _;dsimp only;go_wp2_with fail;have hkeep:Hid (∀w',New w3 w'->w'.cell? ⟨wo.heap.size,0,none⟩=some (.int .i64 dd)/\w'.cell? ⟨wo.heap.size,1,none⟩=some (.int .i64 aa)/\w'.cell? ⟨ob,c,none⟩=some (.slice (some ⟨G,0,none⟩) (128*cn) (C c))):=fun w' hn=>⟨(hn.cell (a_ y0)).trans y0,(hn.cell (a_ y1)).trans y1,(hn.cell (a_ y2)).trans y2⟩;have hkeep2:Hid (∀{s'} (w':World),P_ A (vault.tag0 o1 wo) s' W2 w'->w'.cell? ⟨wo.heap.size,0,none⟩=some (.int .i64 dd)/\w'.cell? ⟨wo.heap.size,1,none⟩=some (.int .i64 aa)/\w'.cell? ⟨ob,c,none⟩=some (.slice (some ⟨G,0,none⟩) (128*cn) (C c))):=fun {s'} w' h=>by
        have hb:=hcell2.o w' h;have b0:=hb.1.cell 0;have b1:=hb.1.cell 1;simp at b0 b1;exact⟨b0,b1,hb.2⟩
       have hsl:=fun w'=>s_P G (128*cn) (C c) (128*k) (128*k+128) ((k:Int)*128) (((k:Int)+1)*128) (by omega) (by omega) (by omega) (by omega) w'
       rw[show 128*k+128-128*k=128 by omega]at hsl
       go_region_held3 (fun w'=>w'.cell? ⟨wo.heap.size,0,none⟩=some (.int .i64 dd)/\w'.cell? ⟨wo.heap.size,1,none⟩=some (.int .i64 aa)/\w'.cell? ⟨ob,c,none⟩=some (.slice (some ⟨G,0,none⟩) (128*cn) (C c)))
        (first
         |with_reducible exact hkeep.o _ (New.refl _).drew
         |with_reducible exact hkeep2.o _ hdx.o)
        ((go_at_call 90;(with_reducible refine(hput.o _ (New.refl w3).drew).mono ?_);rintro e w8 ⟨rfl,hdx0⟩;have hdx:=Hd hdx0;clear hdx0))
       all_goals go_wp2
       all_goals go_roundw
       case rel=>exact⟨k+1,by go_num,by omega,hdx,fun _=>by first|trivial|rfl⟩
       case measure=>simp[intOf];omega
     ·obtain rfl:k=cn:=by omega
      have hkI:¬(k:Int)<(k:Int):=by omega
      have hfin:Hid (P_ A (vault.tag0 o w) (Z_ A q X wb s (c+1)) W1 wr):=by
       have h1:Z_ A q X wb s (c+1)=b_B A q X (Z_ A q X wb s c) c k:=by rw[hcn.o];exact if_pos (by rw[<-hbb.o];exact hkb.o (by omega))
       rw[h1];exact hback.o _ hD.o
      go_wp2;go_roundw;case rel=>exact⟨c+1,by go_num,by omega,hfin⟩
      case measure=>simp[intOf];omega
   ·obtain rfl:c=num:=by omega
    have hcI:¬(c:Int)<(c:Int):=by omega
    have hfin:Hid (P_ A o (Z_ A q X wb s c) w wr):=P_.trans (f_ o w) (Alt.of_new hN1.o) hD.o;go_wp2;exact Great.bodyPost_end0 rfl rfl ⟨rfl,hfin.o⟩
end
end vault
namespace vault
abbrev Bk:=Nat×Nat
def inB(b:Bk)(y:Nat):Prop:=b.1<=y/\y<b.1+b.2
def b_k(l:List Bk)(y:Nat):Prop:=∃b,b∈l/\inB b y
def a_6:List Bk->Nat
 |[]=>0
 |b::l=>b.2+a_6 l
theorem b_s:∀(a b:List Bk),a_6 (a++b)=a_6 a+a_6 b
 |[],b=>by simp[a_6]
 |x::a,b=>by simp[a_6,b_s a b];omega
theorem b_C{a b:List Bk}{y:Nat}:b_k (a++b) y↔b_k a y\/b_k b y:=by
 constructor
 ·rintro⟨x,hx,h⟩
  rcases List.mem_append.1 hx with h1|h1
  ·exact .inl ⟨x,h1,h⟩
  ·exact .inr ⟨x,h1,h⟩
 ·rintro(⟨x,hx,h⟩|⟨x,hx,h⟩)
  ·exact⟨x,List.mem_append_left _ hx,h⟩
  ·exact⟨x,List.mem_append_right _ hx,h⟩
theorem q_o(lo:Nat):∀(n:Nat) (M:List Nat),(∀y,lo<=y->y<lo+n->y∈M)->n<=M.length
 |0,M,_=>Nat.zero_le _
 |n+1,M,h=>by
  have h1:lo+n∈M:=h _ (by omega) (by omega)
  have h2:=q_o lo n (M.erase (lo+n)) fun y h3 h4=>(List.mem_erase_of_ne (by omega)).2 (h y h3 (by omega))
  rw[List.length_erase_of_mem h1]at h2;have:=List.length_pos_of_mem h1;omega
def d_w:List Bk->List Nat
 |[]=>[]
 |b::l=>List.range' b.1 b.2++d_w l
theorem d_v:∀l,(d_w l).length=a_6 l
 |[]=>rfl
 |b::l=>by simp[d_w,a_6,d_v l]
theorem d_u{y:Nat}:∀{l:List Bk},b_k l y->y∈d_w l
 |[],⟨b,hb,_⟩=>by cases hb
 |b::l,⟨x,hx,h⟩=>by
  unfold d_w;rcases List.mem_cons.1 hx with rfl|hx
  ·exact List.mem_append_left _ (List.mem_range'_1.2 ⟨h.1,h.2⟩)
  ·exact List.mem_append_right _ (d_u ⟨x,hx,h⟩)
def h_2(A N:List Bk):Prop:=∀y,¬b_k (A++N) y->b_k (A++N) (y+1)->∃b,b∈A/\b.1=y+1
theorem h_2.start(A:List Bk):h_2 A []:=by
 intro y h1 h2;rw[List.append_nil]at h1 h2;obtain⟨b,hb,h3,h4⟩:=h2;refine⟨b,hb,?_⟩;rcases Nat.lt_or_ge y b.1 with h|h
 ·omega
 ·exact absurd ⟨b,hb,h,by omega⟩ h1
theorem h_2.next{A N:List Bk}(h:h_2 A N)(x c:Nat)(hx:x=0\/b_k (A++N) (x-1)):h_2 A (N++[(x,c)]):=by
 intro y h1 h2;rw[<-List.append_assoc]at h1 h2;have h3:¬b_k (A++N) y:=fun e=>h1 (b_C.2 (.inl e));rcases b_C.1 h2 with h2|⟨b,hb,h4,h5⟩
 ·exact h y h3 h2
 ·obtain rfl:=List.mem_singleton.1 hb
  have h6:¬inB (x,c) y:=fun e=>h1 (b_C.2 (.inr ⟨_,List.mem_singleton.2 rfl,e⟩));have h7:y+1=x:=by
   unfold inB at h6;simp only at h4 h5 h6;omega
  rcases hx with hx|hx
  ·omega
  ·rw[<-h7]at hx
   exact absurd hx h3
def c_z(L:List Bk)(c y:Nat):Prop:=∀j,j<c->¬b_k L (y+j)
theorem n_n{A N:List Bk}(hJ:h_2 A N)(ha:a_6 A<=173)(hl:A.length<=71)(hn:a_6 N<=126):∃y,y<=370/\c_z (A++N) 2 y:=by
 apply Classical.byContradiction;intro hno;have h:=q_o 0 371 (d_w (A++N)++A.map fun b=>b.1-1) fun y _ hy=>by
  by_cases hf:b_k (A++N) y
  ·exact List.mem_append_left _ (d_u hf)
  ·apply List.mem_append_right
   by_cases hg:b_k (A++N) (y+1)
   ·obtain⟨b,hb,e⟩:=hJ y hf hg
    exact List.mem_map.2 ⟨b,hb,by omega⟩
   ·refine absurd ⟨y,by omega,fun j hj=>?_⟩ hno
    rcases j with _|_|j
    ·exact hf
    ·exact hg
    ·omega
 rw[List.length_append,d_v,b_s,List.length_map]at h;omega
def ahead(c:Nat):List Nat->List Nat
 |[]=>[]
 |s::l=>(List.range (c-1)).map (fun t=>s-1-t)++ahead c l
theorem h_U(c:Nat):∀l,(ahead c l).length=l.length*(c-1)
 |[]=>by simp[ahead]
 |s::l=>by simp[ahead,h_U c l,Nat.succ_mul];omega
theorem h_T{c s t:Nat}(ht:t<c-1):∀{l:List Nat},s∈l->s-1-t∈ahead c l
 |[],h=>by cases h
 |x::l,h=>by
  unfold ahead;rcases List.mem_cons.1 h with rfl|h
  ·exact List.mem_append_left _ (List.mem_map.2 ⟨t,List.mem_range.2 ht,rfl⟩)
  ·exact List.mem_append_right _ (h_T ht h)
theorem e_H(L:List Bk)(y:Nat):∀c,¬c_z L c y->∃t,t<c/\b_k L (y+t)/\∀j,j<t->¬b_k L (y+j)
 |0,h=>absurd (fun j hj=>absurd hj (Nat.not_lt_zero j)) h
 |c+1,h=>by
  by_cases hc:c_z L c y
  ·refine⟨c,Nat.lt_succ_self c,Classical.byContradiction fun hn=>h fun j hj=>?_,hc⟩
   rcases Nat.lt_or_ge j c with h1|h1
   ·exact hc j h1
   ·obtain rfl:j=c:=by omega
    exact hn
  ·obtain⟨t,h1,h2⟩:=e_H L y c hc
   exact⟨t,by omega,h2⟩
theorem n_o{P B Q C:List Bk}{c:Nat}(hc:1<=c)(hJ:h_2 (P++B) (Q++C))(hp:∀b,b∈P->b.1+b.2<=372/\0<b.2)(hq:∀b,b∈Q->b.1+b.2<=372)(hb:a_6 B<=45)(hl:B.length<=7)(hcs:a_6 C+8*(c-1)<=90) :
  ∃y,y+c<=508/\c_z ((P++B)++(Q++C)) c y:=by
 apply Classical.byContradiction;intro hno;have h:=q_o 372 136 (d_w (B++C)++ahead c (508::B.map (·.1))) fun y h1 h2=>by
  have hpq:∀z,372<=z->b_k ((P++B)++(Q++C)) z->b_k (B++C) z:=fun z hz hin=>by
   rcases b_C.1 hin with h|h<;>rcases b_C.1 h with⟨b,hb,h3,h4⟩|h
   ·have:=hp b hb;omega
   ·exact b_C.2 (.inl h)
   ·have:=hq b hb;omega
   ·exact b_C.2 (.inr h)
  by_cases hf:b_k ((P++B)++(Q++C)) y
  ·exact List.mem_append_left _ (d_u (hpq y h1 hf))
  ·apply List.mem_append_right
   have key:∀c',c'<=c->(∀j,j<c'->¬b_k ((P++B)++(Q++C)) (y+j))->y+c'<=508->1<=c'->(c'<c->(b_k ((P++B)++(Q++C)) (y+c')\/y+c'=508))->c'<c->∃s,s∈508::B.map (·.1)/\s=y+c':=by
    intro c' _ hj hle h1' hlast hlt;rcases hlast hlt with hin|he
    ·obtain⟨b,hb,e⟩:=hJ (y+(c'-1)) (hj (c'-1) (by omega)) (by rw[show y+(c'-1)+1=y+c' by omega];exact hin)
     rcases List.mem_append.1 hb with hb|hb
     ·have:=hp b hb;omega
     ·exact⟨b.1,List.mem_cons_of_mem _ (List.mem_map.2 ⟨b,hb,rfl⟩),by omega⟩
    ·exact⟨508,List.mem_cons_self ..,by omega⟩
   have:∃c',1<=c'/\c'<c/\y+c'<=508/\(∀j,j<c'->¬b_k ((P++B)++(Q++C)) (y+j))/\(b_k ((P++B)++(Q++C)) (y+c')\/y+c'=508):=by
    rcases Nat.lt_or_ge 508 (y+c)with h5|h5
    ·by_cases hr:c_z ((P++B)++(Q++C)) (508-y) y
     ·exact⟨508-y,by omega,by omega,by omega,hr,.inr (by omega)⟩
     ·obtain⟨t,t1,t2,t3⟩:=e_H _ y _ hr
      refine⟨t,?_,by omega,by omega,t3,.inl t2⟩
      rcases Nat.eq_zero_or_pos t with h0|h0
      ·subst h0;exact absurd t2 hf
      ·exact h0
    ·by_cases hr:c_z ((P++B)++(Q++C)) c y
     ·exact absurd ⟨y,h5,hr⟩ hno
     ·obtain⟨t,t1,t2,t3⟩:=e_H _ y _ hr
      refine⟨t,?_,t1,by omega,t3,.inl t2⟩
      rcases Nat.eq_zero_or_pos t with h0|h0
      ·subst h0;exact absurd t2 hf
      ·exact h0
   obtain⟨c',g1,g2,g3,g4,g5⟩:=this;obtain⟨s,hs,e⟩:=key c' (by omega) g4 g3 g1 (fun _=>g5) g2
   have:=h_T (c:=c) (t:=c'-1) (by omega) hs
   rwa [show s-1-(c'-1)=y by omega]at this
 rw[List.length_append,d_v,b_s,h_U,List.length_cons,List.length_map]at h;have:(B.length+1)*(c-1)<=8*(c-1):=Nat.mul_le_mul_right _ (by omega)
 omega
end vault
namespace spans
abbrev Rs:=List (Int×Int)
def inR(R:Rs)(x:Int):Prop:=∃p∈R,p.1<=x/\x<p.2
def b_z(R:Rs):Prop:=R.Pairwise (fun a b=>a.2<b.1)/\∀p∈R,p.1<p.2
theorem r_K(x:Int):¬inR [] x:=fun⟨p,hp,_⟩=>by cases hp
theorem p_R(p:Int×Int)(R:Rs)(x:Int):inR (R++[p]) x↔inR R x\/(p.1<=x/\x<p.2):=by
 unfold inR;constructor
 ·rintro⟨q,hq,h⟩
  rcases List.mem_append.1 hq with h1|h1
  ·exact .inl ⟨q,h1,h⟩
  ·rw[List.mem_singleton.1 h1]at h;exact .inr h
 ·rintro(⟨q,hq,h⟩|h)
  ·exact⟨q,List.mem_append_left _ hq,h⟩
  ·exact⟨p,by simp,h⟩
theorem e_y{p:Int×Int}{R:Rs}(h:b_z (p::R)):b_z R/\p.1<p.2/\∀q∈R,p.2<q.1:=
 ⟨⟨(List.pairwise_cons.1 h.1).2,fun q hq=>h.2 q (List.mem_cons_of_mem _ hq)⟩,h.2 p (by simp),(List.pairwise_cons.1 h.1).1⟩
theorem n_I{R:Rs}{f t:Int}(h:b_z R)(hl:∀q∈R,q.2<f)(ht:f<t):b_z (R++[(f,t)]):=by
 refine⟨List.pairwise_append.2 ⟨h.1,by simp,fun a ha b hb=>?_⟩,fun p hp=>?_⟩
 ·rw[List.mem_singleton.1 hb];exact hl a ha
 ·rcases List.mem_append.1 hp with h1|h1
  ·exact h.2 p h1
  ·rw[List.mem_singleton.1 h1];exact ht
def dep:List (Int×Int)->Int->Int
 |[],_=>0
 |e::E,x=>(if e.1<=x then e.2 else 0)+dep E x
def c_x:List (Int×Int)->Int
 |[]=>0
 |e::E=>e.2+c_x E
theorem q_h{E E':List (Int×Int)}(h:E.Perm E')(x:Int):dep E x=dep E' x:=by
 induction h with
 |nil=>rfl
 |cons e _ ih=>simp only[dep,ih]
 |swap e e' l=>simp only[dep];omega
 |trans _ _ h1 h2=>rw[h1,h2]
theorem d_J(E E':List (Int×Int))(x:Int):dep (E++E') x=dep E x+dep E' x:=by
 induction E with
 |nil=>simp[dep]
 |cons e E ih=>simp only[List.cons_append,dep,ih];omega
theorem c_E(E E':List (Int×Int)):c_x (E++E')=c_x E+c_x E':=by
 induction E with
 |nil=>simp[c_x]
 |cons e E ih=>simp only[List.cons_append,c_x,ih];omega
def f_i(P Q:Nat->Int):Nat->Int->Int
 |0,_=>0
 |k+1,x=>f_i P Q k x+(if P k<=x then Q k else 0)
def b_v(Q:Nat->Int):Nat->Int
 |0=>0
 |k+1=>b_v Q k+Q k
theorem m_a{Q:Nat->Int}{N:Nat}(h:∀k,k<N->-1<=Q k/\Q k<=1):∀i,i<=N->-(i:Int)<=b_v Q i/\b_v Q i<=i
 |0,_=>by simp[b_v]
 |i+1,hi=>by
  have h1:=m_a h i (by omega)
  have h2:=h i (by omega)
  unfold b_v;omega
theorem e_d{P Q:Nat->Int}{x:Int}{i:Nat}:∀N,i<=N->(∀k,k<i->P k<=x)->(∀k,i<=k->k<N->x<P k)->f_i P Q N x=b_v Q i
 |0,hi,_,_=>by
  have:i=0:=by omega
  subst this;rfl
 |N+1,hi,h1,h2=>by
  rcases Nat.lt_or_ge N i with hlt|hge
  ·have he:i=N+1:=by omega
   subst he;unfold f_i b_v;rw[if_pos (h1 N (by omega)),e_d (i:=N) N (Nat.le_refl _) (fun k hk=>h1 k (by omega)) (fun k hk hk2=>by omega)]
  ·unfold f_i
   rw[if_neg (by have:=h2 N hge (by omega);omega),e_d N hge h1 fun k hk hk2=>h2 k hk (by omega)]
   omega
theorem m_R(D:List (Int×Int))(x:Int):∀k,k<=D.length->f_i (fun i=>(D.getD i (0,0)).1) (fun i=>(D.getD i (0,0)).2) k x=dep (D.take k) x
 |0,_=>by simp[f_i,dep]
 |k+1,h=>by
  have hk:k<D.length:=by omega
  rw[List.take_succ_eq_append_getElem hk,d_J,<-m_R D x k (by omega)]
  have e:D.getD k (0,0)=D[k]:=by simp[hk]
  show f_i _ _ k x+(if(D.getD k (0,0)).1<=x then(D.getD k (0,0)).2 else 0)=_;rw[e];simp only[dep];omega
theorem m_9(D:List (Int×Int)):∀k,k<=D.length->b_v (fun i=>(D.getD i (0,0)).2) k=c_x (D.take k)
 |0,_=>by simp[b_v,c_x]
 |k+1,h=>by
  have hk:k<D.length:=by omega
  rw[List.take_succ_eq_append_getElem hk,c_E,<-m_9 D k (by omega)]
  have e:D.getD k (0,0)=D[k]:=by simp[hk]
  show b_v _ k+(D.getD k (0,0)).2=_;rw[e];simp only[c_x];omega
structure c_y(P Q:Nat->Int)(N:Nat)(want:Int->Bool)(i:Nat)(R:Rs)(f:Int):Prop where
 norm:b_z R
 is:∀x,(i<N->x<P i)->(want (f_i P Q N x)=true↔inR R x\/(0<=f/\f<=x))
 far:0<=f->∀q∈R,q.2<f
 near:f<0->i<N->∀q∈R,q.2<P i
 open_:0<=f->i<N->f<P i
 now:want (b_v Q i)=true↔0<=f
theorem o_J{P Q:Nat->Int}{N:Nat}{want:Int->Bool}(h0:want 0=false)(hs:∀i j,i<=j->j<N->P i<=P j):c_y P Q N want 0 [] (-1) where
 norm:=⟨List.Pairwise.nil,fun p hp=>by cases hp⟩
 is:=fun x hx=>by
  have:f_i P Q N x=b_v Q 0:=e_d N (Nat.zero_le _) (fun k hk=>absurd hk (Nat.not_lt_zero k)) (fun k _ hk=>by
   have h1:=hs 0 k (Nat.zero_le _) hk;have h2:=hx (by omega)
   omega)
  rw[this];show want 0=true↔_;rw[h0];constructor
  ·intro h;cases h
  ·rintro(h|h)
   ·exact absurd h (r_K x)
   ·omega
 far:=fun h=>by omega
 near:=fun _ _ q hq=>by cases hq
 open_:=fun h=>by omega
 now:=by
  show want 0=true↔_;rw[h0];constructor
  ·intro h;cases h
  ·intro h;omega
theorem f_K{P Q:Nat->Int}{N:Nat}{want:Int->Bool}{i i':Nat}{R:Rs}{f p:Int}(h:c_y P Q N want i R f)(hs:∀i j,i<=j->j<N->P i<=P j)(hi:i<N)(hp:P i=p)(hi':i<i')(hN:i'<=N)
  (hin:∀k,i<=k->k<i'->P k=p) (hnext:i'<N->p<P i') (x:Int) (hx:i'<N->x<P i') (hpx:p<=x):f_i P Q N x=b_v Q i'/\¬inR R x:=by
 refine⟨e_d N hN (fun k hk=>?_) (fun k hk hk2=>?_),?_⟩
 ·rcases Nat.lt_or_ge k i with h1|h1
  ·have:=hs k i (by omega) hi;omega
  ·have:=hin k h1 hk;omega
 ·have h1:=hx (by omega)
  have h2:=hs i' k hk hk2;omega
 ·rintro⟨q,hq,h1,h2⟩
  rcases Int.lt_or_le f 0 with hf|hf
  ·have:=h.near hf hi q hq;omega
  ·have h3:=h.far hf q hq
   have h4:=h.open_ hf hi;omega
theorem l_T{P Q:Nat->Int}{N:Nat}{want:Int->Bool}{i i':Nat}{R:Rs}{f p:Int}(h:c_y P Q N want i R f)(hs:∀i j,i<=j->j<N->P i<=P j)(hi:i<N)(hp:P i=p)(hi':i<i')(hN:i'<=N)
  (hin:∀k,i<=k->k<i'->P k=p) (hnext:i'<N->p<P i') (hp0:0<=p) (hw:want (b_v Q i')=true) (hf:f<0):c_y P Q N want i' R p where
 norm:=h.norm
 is:=fun x hx=>by
  rcases Int.lt_or_le x p with h1|h1
  ·rw[h.is x (fun _=>by omega)]
   constructor
   ·rintro(h2|h2)
    ·exact .inl h2
    ·omega
   ·rintro(h2|h2)
    ·exact .inl h2
    ·omega
  ·obtain⟨e,hn⟩:=f_K h hs hi hp hi' hN hin hnext x hx h1
   rw[e];exact⟨fun _=>.inr ⟨hp0,h1⟩,fun _=>hw⟩
 far:=fun _ q hq=>by have:=h.near hf hi q hq;omega
 near:=fun h1=>by omega
 open_:=fun _ h1=>hnext h1
 now:=⟨fun _=>hp0,fun _=>hw⟩
theorem j_2{P Q:Nat->Int}{N:Nat}{want:Int->Bool}{i i':Nat}{R:Rs}{f p:Int}(h:c_y P Q N want i R f)(hs:∀i j,i<=j->j<N->P i<=P j)(hi:i<N)(hp:P i=p)(hi':i<i')(hN:i'<=N)
  (hin:∀k,i<=k->k<i'->P k=p) (hnext:i'<N->p<P i') (hw:want (b_v Q i')=false) (hf:0<=f):c_y P Q N want i' (R++[(f,p)]) (-1) where
 norm:=n_I h.norm (h.far hf) (by have:=h.open_ hf hi;omega)
 is:=fun x hx=>by
  rw[p_R];rcases Int.lt_or_le x p with h1|h1
  ·rw[h.is x (fun _=>by omega)]
   constructor
   ·rintro(h2|h2)
    ·exact .inl (.inl h2)
    ·exact .inl (.inr ⟨h2.2,h1⟩)
   ·rintro((h2|h2)|h2)
    ·exact .inl h2
    ·exact .inr ⟨hf,h2.1⟩
    ·omega
  ·obtain⟨e,hn⟩:=f_K h hs hi hp hi' hN hin hnext x hx h1
   rw[e,hw];constructor
   ·intro h2;cases h2
   ·rintro((h2|h2)|h2)
    ·exact absurd h2 hn
    ·have:=h2.2;simp only at this;omega
    ·omega
 far:=fun h1=>by omega
 near:=fun _ h1 q hq=>by
  have h2:=hnext h1;rcases List.mem_append.1 hq with h3|h3
  ·have:=h.far hf q h3;have:=h.open_ hf hi;omega
  ·rw[List.mem_singleton.1 h3];exact h2
 open_:=fun h1=>by omega
 now:=by
  rw[hw];constructor
  ·intro h;cases h
  ·intro h;omega
theorem f_n{P Q:Nat->Int}{N:Nat}{want:Int->Bool}{i i':Nat}{R:Rs}{f p:Int}(h:c_y P Q N want i R f)(hs:∀i j,i<=j->j<N->P i<=P j)(hi:i<N)(hp:P i=p)(hi':i<i')(hN:i'<=N)
  (hin:∀k,i<=k->k<i'->P k=p) (hnext:i'<N->p<P i') (hw:want (b_v Q i')=true↔0<=f):c_y P Q N want i' R f where
 norm:=h.norm
 is:=fun x hx=>by
  rcases Int.lt_or_le x p with h1|h1
  ·exact h.is x fun _=>by omega
  ·obtain⟨e,hn⟩:=f_K h hs hi hp hi' hN hin hnext x hx h1
   rw[e,hw];constructor
   ·intro hf;exact .inr ⟨hf,by have:=h.open_ hf hi;omega⟩
   ·rintro(h2|h2)
    ·exact absurd h2 hn
    ·exact h2.1
 far:=h.far
 near:=fun hf h1 q hq=>by have:=h.near hf hi q hq;have:=hnext h1;omega
 open_:=fun hf h1=>by have:=h.open_ hf hi;have:=hnext h1;omega
 now:=hw
theorem s_N{P Q:Nat->Int}{N:Nat}{want:Int->Bool}{R:Rs}{f:Int}(h:c_y P Q N want N R f)(hf:f<0):b_z R/\∀x,want (f_i P Q N x)=true↔inR R x:=
 ⟨h.norm,fun x=>by
  rw[h.is x fun h=>absurd h (Nat.lt_irrefl N)];constructor
  ·rintro(h1|h1)
   ·exact h1
   ·omega
  ·exact .inl⟩
end spans
end Go.Proofs.YtojcoaekhiadcaaGreat
