import Derived.Test.YtojcoaekhiadcaaGreatA01
import Derived.Test.YtojcoaekhiadcaaGreatA05
import Derived.Test.YtojcoaekhiadcaaGreatA11
import Derived.Test.YtojcoaekhiadcaaGreatA02
import Derived.Great.Walk
import Derived.Laws.OwnMore
import Derived.Deep.AppendLies
import Derived.Lib.AppendStr
set_option linter.unusedVariables false
set_option linter.unusedSimpArgs false
namespace Go.Proofs.YtojcoaekhiadcaaGreat
open Tryz Go.RowKit
namespace vault
set_option maxRecDepth 100000
open Go.ChangeShapes Go.WideShapes Go.ChangeAt kit drive geom stripe Go.Deep
structure Ptr where
 ad:Nat
 ct:Nat
 by_:Nat
 birth:Int
 sum:Int×Int×Int×Int
abbrev x_(q:Ptr):Array Value:=#[.int .i64 q.ad,.int .i64 q.ct,.int .i64 q.by_,.int .i64 q.birth,.int .i64 q.sum.1,.int .i64 q.sum.2.1,.int .i64 q.sum.2.2.1,.int .i64 q.sum.2.2.2]
abbrev wdA(A:VA):Nat:=A.n-A.p
abbrev L_(A:VA)(ct:Nat):Nat:=c_Q A.n A.p ct (wdA A)
abbrev a_a(A:VA)(ct c:Nat):Nat:=G_ A.p ct (wdA A) c
theorem c_k(w:World)(q:Ptr):Blk (w.alloc (.cells (x_ q) 107)) w.heap.size 107 (x_ q):=Blk.fresh w _ _
section
variable {A:VA}{o:Nat->Nat}{s:VS}
theorem f_7(hA:VOk A)(w:World)(h:VM A o s w)(q:Ptr)(h1:1<=q.ct)(h2:q.ct<=32)(h3:q.ad<=65536) :
  Calls prog 100 #[ptr A.v,.agg (x_ q)] w fun e w'=>∃R c,e=.returned (.slice R (L_ A q.ct) c)/\w'.ownsRow w.heap.size 175 4 (.slice R (L_ A q.ct) c) (L_ A q.ct) (a_U A.n A.p q.ad (a_a A q.ct) (L_ A q.ct))/\New w w':=by
 have hc:=Hd (fun w=>g_P A.n A.p q.ad q.ct (wdA A) hA.n2 hA.n8 hA.p1 hA.p3 (by have:=hA.pn;unfold wdA;omega) (by have:=hA.pn;unfold wdA;omega) h3 h1 h2 w)
 obtain⟨num,hnum⟩:∃num,Hid (num=L_ A q.ct):=⟨_,rfl⟩;obtain⟨cL,hcL⟩:∃cL,Hid (cL=a_U A.n A.p q.ad (a_a A q.ct) (L_ A q.ct)):=⟨_,rfl⟩;replace hc:Hid (∀w,_):=hc;have v0:=h.v0;have v1:=h.v1;obtain⟨ad,ct,by_,birth,s0,s1,s2,s3⟩:=q;obtain⟨W0,hW0⟩:∃W0,W0=w.alloc (.cells (x_ ⟨ad,ct,by_,birth,s0,s1,s2,s3⟩) 107):=⟨_,rfl⟩;have hN0:New w W0:=by rw[hW0];exact(New.refl w).alloc _
 have hb0:Blk W0 w.heap.size 107 (x_ ⟨ad,ct,by_,birth,s0,s1,s2,s3⟩):=by rw[hW0];exact c_k w _
 have hkeep:Hid (∀w',New W0 w'->w'.cell? ⟨A.v,0,none⟩=some (.int .i64 A.n)/\w'.cell? ⟨A.v,1,none⟩=some (.int .i64 A.p)/\w'.cell? ⟨w.heap.size,0,none⟩=some (.int .i64 ad)/\w'.cell? ⟨w.heap.size,1,none⟩=some (.int .i64 ct)):=fun w' hn=>⟨((hN0.next hn).cell (a_ v0)).trans v0,((hN0.next hn).cell (a_ v1)).trans v1,(hb0.new hn).cell 0,(hb0.new hn).cell 1⟩;have hN0H:=Hd hN0;obtain⟨k0,k1,k2,k3⟩:=hkeep.o W0 (New.refl _);clear hb0 hN0 v0 v1 h;dsimp only at hc hnum hcL h1 h2 h3;go_enter func100,ntmps100;go_wp2_with fail;rw[<-hW0];clear hW0;go_region_held3 (fun w'=>w'.cell? ⟨A.v,0,none⟩=some (.int .i64 A.n)/\w'.cell? ⟨A.v,1,none⟩=some (.int .i64 A.p)/\w'.cell? ⟨w.heap.size,0,none⟩=some (.int .i64 ad)/\w'.cell? ⟨w.heap.size,1,none⟩=some (.int .i64 ct))
  (first
   |with_reducible exact hkeep.o _ (New.refl _).drew
   |with_reducible exact hkeep.o _ hN6.o)
  ((go_at_call 149;refine(hc.o _).mono ?_;rintro e W6 ⟨v,rfl,hown,hn6⟩;have hN6:=Hd (New.next (New.refl W0).drew hn6);obtain⟨R,c,rfl,_⟩:=h_ hown;have hfin:=Hd (And.intro (a_8 hown hN0H.o.size) (hN0H.o.next hN6.o));clear hown hn6))
 all_goals go_wp2
 all_goals go_ret
 all_goals exact⟨R,c,rfl,hfin.o.1,hfin.o.2⟩
def d_4(s:DS)(at_:Nat):Int:=if s.dead=true then 13 else(b_G s at_).1
theorem h_G(s:DS)(at_:Nat):b_G s at_=(12,none)\/∃D,b_G s at_=(0,some D):=by
 unfold b_G b_3;split
 ·exact .inr ⟨_,rfl⟩
 ·split
  ·exact .inl rfl
  ·exact .inr ⟨_,rfl⟩
theorem l_l{s:DS}{at_:Nat}(h:rdS s at_=none):d_4 s at_≠0:=by
 unfold rdS at h;unfold d_4;split
 ·decide
 ·rename_i hd
  rw[if_neg hd]at h;rcases h_G s at_ with e|⟨D,e⟩
  ·rw[e];decide
  ·rw[e]at h;cases h
theorem g_G{s:DS}{at_:Nat}{D:Nat->Nat}(h:rdS s at_=some D):d_4 s at_=0:=by
 unfold rdS at h;unfold d_4;split at h
 ·cases h
 ·rename_i hd
  rw[if_neg hd];rcases h_G s at_ with e|⟨E,e⟩
  ·rw[e]at h;cases h
  ·rw[e]
theorem d_z(w:World)(D:Nat->Nat):RdI .u8 w none 0 (fun i=>(D i:Nat)):=⟨Nat.zero_le _,fun h=>absurd h (Nat.lt_irrefl 0)⟩
theorem j_a(P:Nat->Prop)(d:Nat)(s:DS)(at_:Nat)(w:World)(h:DrP P d s w)(hat:at_<512)(hm:s.ws.length<300) :
  Calls prog 88 #[ptr d,.agg #[.int .i64 2,.int .i64 at_,.int .i64 0,.slice none 0 0]] w fun e w'=>∃rv,e=.returned (.agg #[.int .i64 (d_4 s at_),rv])/\Dat w' rv (rdS s at_)/\New w w':=by
 obtain⟨g,pv,wv,dv,h⟩:=h
 by_cases hd:s.dead=true
 ·have hf:v_ 512 s.dead 2 at_ 0=13:=by
   unfold v_;rw[if_neg (by omega),if_pos ⟨hd,by decide⟩]
  refine(e_j P 0 d g 512 s.ws.length s pv wv dv 2 at_ 0 none 0 0 (fun _=>0) w h (Nat.le_refl _) rfl hm (d_z w _) (Nat.le_refl _) (by unfold maxLen;omega) (Nat.zero_le _) (by rw[hf];decide)).mono ?_
  rintro e w' ⟨rv,rfl,h1,h2⟩;have hs:a_5 512 s 2 at_ 0 0 (fun _=>0)=(s,13,none):=by unfold a_5;rw[if_pos (by rw[hf];decide),hf]
  rw[hs]at h1 ⊢;refine⟨rv,?_,?_,h2⟩
  ·unfold d_4;rw[if_pos hd]
  ·unfold rdS;rw[if_pos hd];exact h1
 ·have hdf:s.dead=false:=by simpa using hd
  have hf:v_ 512 s.dead 2 at_ 0=0:=by
   unfold v_ Q_;rw[if_neg (by omega),if_neg (fun e=>hd e.1),if_neg (by omega),if_neg (by omega)]
  refine(t_J P 0 d g 512 s.ws.length s pv wv dv at_ 0 none 0 0 (fun _=>0) w h (Nat.le_refl _) rfl hm (d_z w _) (Nat.le_refl _) (by unfold maxLen;omega) (Nat.zero_le _) hat hf).mono ?_
  rintro e w' ⟨rv,rfl,h1,h2⟩;have hs:a_5 512 s 2 at_ 0 0 (fun _=>0)=(s,b_G s at_):=by
   unfold a_5;rw[if_neg (by rw[hf];simp),if_neg (by decide),if_pos rfl]
   rfl
  rw[hs]at h1 ⊢;refine⟨rv,?_,?_,h2⟩
  ·unfold d_4;rw[if_neg hd]
  ·unfold rdS;rw[if_neg hd];exact h1
def c_2(s:DS)(at_:Nat)(j:Nat):Nat:=match rdS s (at_+j/128)with|some D=>D (j%128)|none=>0
def e_x(s:VS)(d at_ cnt:Nat):Option (Nat->Nat):=if(s.fresh d||(List.range cnt).any fun k=>(rdS (s.ds d) (at_+k)).isNone)=true then none else some (c_2 (s.ds d) at_)
def PcP(cnt:Nat)(r:Option (Nat->Nat))(w:World)(e:Ending)(w':World):Prop:=
 (match r with
  |none=>e=.returned (.agg #[.bool true,.slice none 0 0])
  |some D=>∃g c,e=.returned (.agg #[.bool false,.slice (some ⟨g,0,none⟩) (128*cnt) c])/\m_ 5 .u8 w' g (128*cnt) D/\128*cnt<=c/\c<=maxLen)/\New w w'
theorem p_n(s:DS)(at_ i:Nat){D:Nat->Nat}(h:rdS s (at_+i)=some D):E_ .u8 (c_2 s at_) (128*i)++E_ .u8 D 128=E_ .u8 (c_2 s at_) (128*(i+1)):=by
 unfold E_;rw[Nat.mul_succ,List.range_add,List.map_append,List.map_map];congr 1;apply List.map_congr_left;intro j hj;have hj:=List.mem_range.1 hj;show Value.int .u8 _=.int .u8 _;have:c_2 s at_ (128*i+j)=D j:=by
  unfold c_2;rw[show(128*i+j)/128=i by omega,show(128*i+j)%128=j by omega,h]
 simp only[Function.comp,this]
end
theorem j_{w:World}{base n:Nat}{e:TypeId}{size:Nat}{v:Value}{xs:List Value}(h:w.ownsRow base e size v n xs):∃R c,v=.slice R n c:=by
 rcases h.2 with⟨h0,h1⟩|⟨g',cap,cur,h0,_⟩
 ·exact⟨none,0,by rw[h0,h1]⟩
 ·exact⟨_,_,h0⟩
theorem n_P:(prog.info? 205).map (fun i=>(i.zero,i.size,i.bytes))=some (some (.agg #[.bool false,.slice none 0 0]),2,32):=by kernel_rfl
section
variable {A:VA}{o:Nat->Nat}{s:VS}
set_option maxHeartbeats 4000000 in
theorem n_y(hA:VOk A)(w:World)(h:VM A o s w)(d at_ cnt:Nat)(pb:Bool)(hd:d<A.n)(hc:1<=cnt)(hc2:cnt<=32)(hat:at_+cnt<=512)(hm:(s.ds d).ws.length<300) :
  Calls prog 146 #[ptr A.v,.agg #[.int .i64 d,.int .i64 at_,.int .i64 cnt,.bool pb]] w (PcP cnt (e_x s d at_ cnt) w):=by
 obtain⟨i1,hi1,hz0,hz1,hz2⟩:=info_parts drive.infoU8;have hA8:=hA.n8;have hrd:=Hd (fun(w':World) (hn:New w w') (k:Nat) (hk:k<cnt)=>j_a _ _ _ (at_+k) w' ((h.new hn).dr d hd) (by omega) hm)
 have hvm:=Hd h;obtain⟨dr,hdr⟩:∃dr,Hid (dr=A.dr d):=⟨_,rfl⟩;obtain⟨r,hr⟩:∃r,Hid (r=e_x s d at_ cnt):=⟨_,rfl⟩;obtain⟨sd,hsd⟩:∃sd,Hid (sd=s.ds d):=⟨_,rfl⟩;obtain⟨fr,hfr⟩:∃fr,Hid (fr=s.fresh d):=⟨_,rfl⟩;rw[<-hr.o];rw[<-hsd.o,<-hdr.o]at hrd;have hB0:Hid (Blk ((w.alloc (.cells #[.int .i64 d,.int .i64 at_,.int .i64 cnt,.bool pb] 175)).alloc (.cells #[.bool false,.slice none 0 0] 205)) w.heap.size 175 #[.int .i64 d,.int .i64 at_,.int .i64 cnt,.bool pb]):=(Blk.fresh w _ _).alloc _;have hB1:Hid (Blk ((w.alloc (.cells #[.int .i64 d,.int .i64 at_,.int .i64 cnt,.bool pb] 175)).alloc (.cells #[.bool false,.slice none 0 0] 205)) (w.heap.size+1) 205 #[.bool false,.slice none 0 0]):=by
  have:=Blk.fresh (w.alloc (.cells #[.int .i64 d,.int .i64 at_,.int .i64 cnt,.bool pb] 175)) 205 #[.bool false,.slice none 0 0];show Blk _ _ _ _;simpa using this
 have hN0:Hid (New w ((w.alloc (.cells #[.int .i64 d,.int .i64 at_,.int .i64 cnt,.bool pb] 175)).alloc (.cells #[.bool false,.slice none 0 0] 205))):=((New.refl w).alloc _).alloc _;have k0:=hB0.o.cell 2;simp at k0;have hd0:(0:Int)<=(d:Int):=by omega
 have hdn:(d:Int)<(A.n:Int):=by omega
 obtain⟨N,hN⟩:∃N,Hid (N=A.n):=⟨_,rfl⟩;rw[<-hN.o]at hdn hA8;have hnone:Hid (∀k,k<cnt->rdS sd (at_+k)=none->r=none):=fun k hk e=>by
  rw[hr.o];unfold e_x;rw[if_pos];rw[hsd.o]at e;simp only[Bool.or_eq_true,List.any_eq_true,List.mem_range];exact .inr ⟨k,hk,by rw[e];rfl⟩
 have hfresh:Hid (fr=true->r=none):=fun e=>by
  rw[hr.o];unfold e_x;rw[if_pos];rw[hfr.o]at e;simp[e]
 have hsome:Hid (fr=false->(∀k,k<cnt->rdS sd (at_+k)≠none)->r=some (c_2 sd at_)):=fun e1 e2=>by
  rw[hr.o];unfold e_x;rw[hfr.o]at e1;rw[hsd.o]at e2 ⊢;rw[if_neg];simp only[Bool.or_eq_true,List.any_eq_true,List.mem_range,e1];rintro(e|⟨k,hk,e⟩)
  ·cases e
  ·exact e2 k hk (by simpa using e)
 clear h hd;go_enter func146,ntmps146;go_wp2_with fail;go_loopw [5,10] (fun dv x wr=>∃(i:Nat) (u:Value),u=dv/\x=.int .i64 i/\i<=cnt/\Hid (New w wr)/\Hid (Blk wr w.heap.size 175 #[.int .i64 d,.int .i64 at_,.int .i64 cnt,.bool pb])/\Hid (Blk wr (w.heap.size+1) 205 #[.bool false,.slice none 0 0])/\Hid (wr.ownsRow (w.heap.size+2) 5 1 u (128*i) (E_ .u8 (c_2 sd at_) (128*i)))/\Hid (∀k,k<i->rdS sd (at_+k)≠none)/\Hid (0<i->fr=false)) (fun _ x _=>cnt-(intOf x).toNat);case atStart=>exact⟨0,_,rfl,rfl,by omega,hN0,hB0,hB1,World.ownsRow_nil _ _ _ _,fun k hk=>absurd hk (Nat.not_lt_zero k),fun h0=>absurd h0 (Nat.lt_irrefl 0)⟩
 case round=>
  obtain⟨i,u,rfl,rfl,hi,hNW,hBc,hBp,hO,hall,hff⟩:=hrel;clear hN0 hB0 hB1 k0
  by_cases hlt:i<cnt
  ·have hiI:(i:Int)<(cnt:Int):=by omega
   have c0:=hBc.o.cell 0;have c1:=hBc.o.cell 1;have c2:=hBc.o.cell 2;simp at c0 c1 c2;have hv:=hvm.o.new hNW.o;have v2:=hv.v2;have v4:=hv.v4;have vd:=hv.drive (i:=d) (by have:=hN.o;omega)
   have vf:=hv.isFresh (i:=d) (by have:=hN.o;omega)
   rw[<-hN.o]at v2 v4;rw[<-hdr.o]at vd;rw[<-hfr.o]at vf;have hkeep:Hid (∀w',New wr w'->w'.cell? ⟨A.v,2,none⟩=some (.slice (some ⟨A.db,0,none⟩) N A.dc)/\w'.cell? ⟨w.heap.size,0,none⟩=some (.int .i64 d)/\w'.cell? ⟨w.heap.size,1,none⟩=some (.int .i64 at_)/\w'.cell? ⟨A.db,d,none⟩=some (ptr dr)):=fun w' hn=>⟨(hn.cell (a_ v2)).trans v2,(hn.cell (a_ c0)).trans c0,(hn.cell (a_ c1)).trans c1,(hn.cell (a_ vd)).trans vd⟩;have hsum:IntKind.i64.wrap ((at_:Int)+(i:Int))=(at_:Int)+(i:Int):=IntWalk.i64_in _ (by omega)
   obtain⟨cd,hcd⟩:∃cd,Hid (cd=d_4 sd (at_+i)):=⟨_,rfl⟩;have hget:=Hd (fun(w':World) (hn:New wr w')=>hrd.o w' (hNW.o.next hn) i hlt);rw[<-hcd.o,Int.natCast_add]at hget;clear hv c2;cases hrk:rdS sd (at_+i)with
   |none=>
    rw[hrk]at hget;have hrkH:=Hd hrk;clear hrk;go_wp2_with fail;go_cut [7] from 13 to 26 (fun t wx=>∃g,t=ptr g/\Hid (New wr wx)/\Hid (Blk wx g 187 #[.int .i64 cd,.slice none 0 0]));case first=>
     obtain⟨q2,q3,q4,q5⟩:=hkeep.o wr (New.refl _);clear vf v4;go_region_held3 (fun w'=>w'.cell? ⟨A.v,2,none⟩=some (.slice (some ⟨A.db,0,none⟩) N A.dc)/\w'.cell? ⟨w.heap.size,0,none⟩=some (.int .i64 d)/\w'.cell? ⟨w.heap.size,1,none⟩=some (.int .i64 at_)/\w'.cell? ⟨A.db,d,none⟩=some (ptr dr))
      (first
       |with_reducible exact hkeep.o _ (New.refl _).drew
       |with_reducible exact hkeep.o _ ((New.refl _).drew.alloc _)
       |with_reducible exact hkeep.o _ (((New.refl _).alloc _).drew)
       |with_reducible exact hkeep.o _ hN6.o
       |with_reducible exact hkeep.o _ (hN6.o.alloc _)
       |with_reducible exact hkeep.o _ ((hN6.o.set (Nat.le_refl _) _).set (Nat.le_refl _) _))
      (first
       |((go_at_call 88;(with_reducible refine(hget.o _ (New.refl _).drew).mono ?_);rintro e W6 ⟨rv,rfl,hdat,hn6⟩;have hN6:=Hd (New.next (New.refl wr).drew hn6);obtain rfl:rv=.slice none 0 0:=hdat;clear hn6))
       |((go_at_call 88;(with_reducible refine(hget.o _ ((New.refl _).alloc _).drew).mono ?_);rintro e W6 ⟨rv,rfl,hdat,hn6⟩;have hN6:=Hd (New.next ((New.refl wr).alloc _).drew hn6);have hy:=(Blk.fresh wr 187 #[.int .i64 0,.slice none 0 0]).drew.new hn6;have y0:=hy.cell 0;have y1:=hy.cell 1;have y2:=hy.frozen 0;have y3:=hy.frozen 1;simp at y0 y1;have hyH:=Hd hy;obtain rfl:rv=.slice none 0 0:=hdat;clear hn6 hy)))
     all_goals go_wp2
     all_goals go_meet
     ·exact⟨_,rfl,hN6.o.alloc _,Blk.fresh W6 _ _⟩
     ·exact⟨_,rfl,(hN6.o.set (Nat.le_refl _) _).set (Nat.le_refl _) _,(hyH.o.put 0 _).put 1 _⟩
    case rest=>
     obtain⟨g,rfl,hN7,hB7⟩:=hcut;have x0:=hB7.o.cell 0;simp at x0;have hcn:(cd != 0)=true:=by rw[hcd.o];simpa using l_l hrkH.o
     clear vf v4;go_wp2_with fail;go_quiet (fail);clear x0;obtain⟨W8,hW8⟩:∃W8,W8=wc.drewN nq:=⟨_,rfl⟩;have hN8:Hid (New wr W8):=by rw[hW8];exact hN7.o.drewN nq
     have hB8:=hBp.o.new hN8.o;rw[<-hW8];clear hW8;have b0:=hB8.cell 0;have b1:=hB8.cell 1;have b2:=hB8.frozen 0;have b3:=hB8.frozen 1;have hx:=(hB8.put 0 (.bool true)).put 1 (.slice none 0 0);have x0:=hx.cell 0;have x1:=hx.cell 1;simp at b0 b1 x0 x1;have hxH:=Hd (And.intro x0 x1);clear x0 x1 hx hB8;go_wp2;refine bodyPost_ret (v:=.agg #[.bool true,.slice none 0 0]) (by simp[results,results146,go_sem,hxH.o.1,hxH.o.2]) rfl ?_
     rw[hnone.o i hlt hrkH.o];exact⟨rfl,((hNW.o.next hN8.o).set (Nat.le_succ _) _).set (Nat.le_succ _) _⟩
   |some D=>
    rw[hrk]at hget;have hrkH:=Hd hrk;clear hrk;go_wp2_with fail;go_cut [7] from 13 to 26 (fun t wx=>∃g b c,t=ptr g/\Hid (New wr wx)/\Hid (Blk wx g 187 #[.int .i64 cd,.slice (some ⟨b,0,none⟩) 128 c])/\Hid (m_ 5 .u8 wx b 128 D)/\128<=c/\c<=maxLen);case first=>
     obtain⟨q2,q3,q4,q5⟩:=hkeep.o wr (New.refl _);clear vf v4;go_region_held3 (fun w'=>w'.cell? ⟨A.v,2,none⟩=some (.slice (some ⟨A.db,0,none⟩) N A.dc)/\w'.cell? ⟨w.heap.size,0,none⟩=some (.int .i64 d)/\w'.cell? ⟨w.heap.size,1,none⟩=some (.int .i64 at_)/\w'.cell? ⟨A.db,d,none⟩=some (ptr dr))
      (first
       |with_reducible exact hkeep.o _ (New.refl _).drew
       |with_reducible exact hkeep.o _ ((New.refl _).drew.alloc _)
       |with_reducible exact hkeep.o _ (((New.refl _).alloc _).drew)
       |with_reducible exact hkeep.o _ hN6.o
       |with_reducible exact hkeep.o _ (hN6.o.alloc _)
       |with_reducible exact hkeep.o _ ((hN6.o.set (Nat.le_refl _) _).set (Nat.le_refl _) _))
      (first
       |((go_at_call 88;(with_reducible refine(hget.o _ (New.refl _).drew).mono ?_);rintro e W6 ⟨rv,rfl,hdat,hn6⟩;have hN6:=Hd (New.next (New.refl wr).drew hn6);obtain⟨b,c,rfl,hb1,hb2,hrow⟩:=hdat;have hrowH:=Hd hrow;clear hrow;clear hn6))
       |((go_at_call 88;(with_reducible refine(hget.o _ ((New.refl _).alloc _).drew).mono ?_);rintro e W6 ⟨rv,rfl,hdat,hn6⟩;have hN6:=Hd (New.next ((New.refl wr).alloc _).drew hn6);have hy:=(Blk.fresh wr 187 #[.int .i64 0,.slice none 0 0]).drew.new hn6;have y0:=hy.cell 0;have y1:=hy.cell 1;have y2:=hy.frozen 0;have y3:=hy.frozen 1;simp at y0 y1;have hyH:=Hd hy;obtain⟨b,c,rfl,hb1,hb2,hrow⟩:=hdat;have hrowH:=Hd hrow;clear hrow;clear hn6 hy)))
     all_goals go_wp2
     all_goals go_meet
     ·exact⟨_,b,c,rfl,hN6.o.alloc _,Blk.fresh W6 _ _,hrowH.o.new ((New.refl _).alloc _),hb1,hb2⟩
     ·have g1:=k_ W6 wr.heap.size 0 (.int .i64 cd)
      have g2:=k_ (W6.setCell ⟨wr.heap.size,0,none⟩ (.int .i64 cd)) wr.heap.size 1 (.slice (some ⟨b,0,none⟩) 128 c);have hne:(some wr.heap.size:Option Nat)≠some b:=fun e=>m_.ne_blk hrowH.o hyH.o (by decide) (Option.some.inj e)
      exact⟨_,b,c,rfl,(hN6.o.set (Nat.le_refl _) _).set (Nat.le_refl _) _,(hyH.o.put 0 _).put 1 _,(hrowH.o.grown g1 hne).grown g2 hne,hb1,hb2⟩
    case rest=>
     obtain⟨g,b,c,rfl,hN7,hB7,hR7,hc1,hc3⟩:=hcut;obtain rfl:cd=0:=hcd.o.trans (g_G hrkH.o);have x0:=hB7.o.cell 0;have x1:=hB7.o.cell 1;simp at x0 x1;have z1:=(hN7.o.cell (a_ v4)).trans v4;have z2:=(hN7.o.cell (a_ vf)).trans vf;have z3:=(hN7.o.cell (a_ c0)).trans c0;cases fr with
     |true=>
      go_wp2_with fail;go_quiet (fail);clear x0 x1 z1 z2 z3;obtain⟨W8,hW8⟩:∃W8,W8=wc.drewN nq:=⟨_,rfl⟩;have hN8:Hid (New wr W8):=by rw[hW8];exact hN7.o.drewN nq
      have hB8:=hBp.o.new hN8.o;rw[<-hW8];clear hW8;have b0:=hB8.cell 0;have b1:=hB8.cell 1;have b2:=hB8.frozen 0;have b3:=hB8.frozen 1;have hx:=(hB8.put 0 (.bool true)).put 1 (.slice none 0 0);have x0:=hx.cell 0;have x1:=hx.cell 1;simp at b0 b1 x0 x1;have hxH:=Hd (And.intro x0 x1);clear x0 x1 hx hB8;go_wp2;refine bodyPost_ret (v:=.agg #[.bool true,.slice none 0 0]) (by simp[results,results146,go_sem,hxH.o.1,hxH.o.2]) rfl ?_
      rw[hfresh.o (by first|trivial|rfl)]
      exact⟨rfl,((hNW.o.next hN8.o).set (Nat.le_succ _) _).set (Nat.le_succ _) _⟩
     |false=>
      go_wp2_with fail;go_quiet (fail);obtain⟨W8,hW8⟩:∃W8,W8=wc.drewN nq:=⟨_,rfl⟩;have hN78:New wc W8:=by rw[hW8];exact New.of_drewN wc nq
      have hN8:=Hd (hN7.o.next hN78);have hR8:=Hd (hR7.o.new hN78);have y1:=(hN78.cell (a_ x1)).trans x1;rw[<-hW8];clear hW8 hN78 x0 x1 z1 z2 z3;have hO8:=Hd (c_ hO.o hN8.o);obtain⟨R,k,hu⟩:=j_ hO.o;subst hu;have hlen:Hid ((E_ .u8 D 128).length=128):=b_y .u8 D 128;have hone:=Hd (c_S .u8 D 128);have hsrc:=Hd (c_R (k:=.u8) (b:=b) (off:=0) (m:=128) (f:=D) (w:=W8) (fun j hj=>by rw[Nat.zero_add];exact hR8.o.cell hj))
      go_wp2_with (at_builtin;refine wpList_append_own _ rfl _ _ 35 rfl (w.heap.size+2) 5 i1 _ 1 1 underlying35 hi1 hz0 hz1 hz2 rfl (by decide) (.slice R (128*i) k) (128*i) (E_ .u8 (c_2 sd at_) (128*i)) rfl hO8.o ⟨b,0,none⟩ 128 c (E_ .u8 D 128) rfl (by rw[hlen.o]) hsrc.o hone.o (by unfold maxLen;omega) (by omega) (by have:=hN8.o.size;have:=hBp.o.lt;omega) ?_;intro v3 w3 hown3 hgrow hnil)
      rw[p_n sd at_ i hrkH.o]at hown3;have hN3:Hid (New w w3):=(hNW.o.next hN8.o).grown hgrow fun g hg=>by have:=(hO8.o.lt g hg).1;omega
      have hC3:Hid (Blk w3 w.heap.size 175 #[.int .i64 d,.int .i64 at_,.int .i64 cnt,.bool pb]):=(hBc.o.new hN8.o).grown hgrow (m_g hO8.o (by omega))
      have hP3:Hid (Blk w3 (w.heap.size+1) 205 #[.bool false,.slice none 0 0]):=(hBp.o.new hN8.o).grown hgrow (m_g hO8.o (by omega))
      have hO3:=Hd hown3;clear hown3 hgrow hnil;go_roundw;case rel=>
       refine⟨i+1,_,rfl,by go_num,by omega,hN3,hC3,hP3,hO3,fun k hk=>?_,fun _=>by first|trivial|rfl⟩
       by_cases e:k=i
       ·subst e;rw[hrkH.o];exact fun e=>by cases e
       ·exact hall.o k (by omega)
      case measure=>simp[intOf];omega
  ·obtain rfl:i=cnt:=by omega
   have hiI:¬(i:Int)<(i:Int):=by omega
   have b0:=hBp.o.cell 0;have b1:=hBp.o.cell 1;have b2:=hBp.o.frozen 0;have b3:=hBp.o.frozen 1;obtain⟨R,k,rfl⟩:=j_ hO.o;have hx:=(hBp.o.put 0 (.bool false)).put 1 (.slice R (128*i) k);have x0:=hx.cell 0;have x1:=hx.cell 1;simp at b0 b1 x0 x1;have hxH:=Hd (And.intro x0 x1);clear x0 x1;have hfin:Hid (PcP i r w (.returned (.agg #[.bool false,.slice R (128*i) k])) ((wr.setCell ⟨w.heap.size+1,0,none⟩ (.bool false)).setCell ⟨w.heap.size+1,1,none⟩ (.slice R (128*i) k))):=by
    show PcP _ _ _ _ _;rw[hsome.o (hff.o (by omega)) hall.o]
    have g1:=k_ wr (w.heap.size+1) 0 (.bool false);have g2:=k_ (wr.setCell ⟨w.heap.size+1,0,none⟩ (.bool false)) (w.heap.size+1) 1 (.slice R (128*i) k);obtain⟨A',c',he,h1,h2,h3,h4⟩:=h_ hO.o;cases he;obtain⟨gg,rfl,hge,hgl⟩:=h3 (by omega)
    have hne:(some (w.heap.size+1):Option Nat)≠some gg:=fun e=>by injection e;omega
    exact⟨⟨gg,k,rfl,((m_.of_own hO.o).grown g1 hne).grown g2 hne,h1,h2⟩,(hNW.o.set (Nat.le_succ _) _).set (Nat.le_succ _) _⟩
   go_wp2;exact bodyPost_ret (v:=.agg #[.bool false,.slice R (128*i) k]) (by simp[results,results146,go_sem,hxH.o.1,hxH.o.2]) rfl hfin.o
def pcR(A:VA)(s:VS)(q:Ptr)(i:Nat):Option (Nat->Nat):=e_x s ((q.ad+i)%A.n) ((q.ad+i)/A.n) (a_a A q.ct i)
def a_A(A:VA)(s:VS)(q:Ptr)(i:Nat):Bool:=(pcR A s q i).isNone
def d_C(A:VA)(s:VS)(q:Ptr)(i:Nat):Nat:=if a_A A s q i=true then 0 else 128*a_a A q.ct i
def pcD(A:VA)(s:VS)(q:Ptr)(i:Nat):Nat->Nat:=(pcR A s q i).getD fun _=>0
def PcM(A:VA)(s:VS)(q:Ptr)(w:World)(i:Nat)(R:Option Addr)(c:Nat):Prop:=
 if a_A A s q i=true then R=none/\c=0 else ∃g,R=some ⟨g,0,none⟩/\m_ 5 .u8 w g (d_C A s q i) (pcD A s q i)/\d_C A s q i<=c/\c<=maxLen
def pcL(A:VA)(s:VS)(q:Ptr)(R:Nat->Option Addr)(C:Nat->Nat)(k:Nat):List Value:=(List.range k).flatMap fun i=>[.bool (a_A A s q i),.slice (R i) (d_C A s q i) (C i)]
def n_4(A:VA)(s:VS)(q:Ptr)(w:World)(e:Ending)(w':World):Prop:=
 ∃P c R C,e=.returned (.slice P (L_ A q.ct) c)/\RdP w' P (L_ A q.ct) (a_A A s q) R (d_C A s q) C (pcD A s q)/\New w w'
theorem PcM.grown{q:Ptr}{w w':World}{i:Nat}{R:Option Addr}{c:Nat}{row:Option Nat}(h:PcM A s q w i R c)(hg:w.grownBy w' row)(hr:∀g f,m_ 5 .u8 w g (d_C A s q i) f->row≠some g):PcM A s q w' i R c:=by
 unfold PcM at h ⊢;split
 ·rename_i e
  rw[if_pos e]at h;exact h
 ·rename_i e
  rw[if_neg e]at h;obtain⟨g,h1,h2,h3⟩:=h;exact⟨g,h1,h2.grown hg (hr g _ h2),h3⟩
theorem PcM.new{q:Ptr}{w w':World}{i:Nat}{R:Option Addr}{c:Nat}(h:PcM A s q w i R c)(hn:New w w'):PcM A s q w' i R c:=
 h.grown (row:=none) (b_7 hn none) fun g f hf e=>by cases e
theorem p_h(A:VA)(s:VS)(q:Ptr)(R:Nat->Option Addr)(C:Nat->Nat)(k:Nat)(r:Option Addr)(c:Nat):pcL A s q (fun i=>if i=k then r else R i) (fun i=>if i=k then c else C i) (k+1)=pcL A s q R C k++[.bool (a_A A s q k),.slice r (d_C A s q k) c]:=by
 unfold pcL;rw[List.range_succ,List.flatMap_append];congr 1
 ·rw[List.flatMap_def,List.flatMap_def]
  congr 1;apply List.map_congr_left;intro i hi;have hi:=List.mem_range.1 hi;simp[show i≠k by omega]
 ·simp
end
end vault
namespace vault
set_option maxRecDepth 100000
open Go.ChangeShapes Go.WideShapes Go.ChangeAt kit label Go.Deep
def bL(l:List Nat):List Value:=l.map fun b=>.int .u8 (b:Nat)
theorem q_C(l:List Nat):(bL l).length=l.length:=by simp[bL]
theorem l_x(a b:List Nat):bL (a++b)=bL a++bL b:=by simp[bL]
def n_(x:Int):List Nat:=(List.range 8).map (N_ x)
theorem l_(x:Int):(n_ x).length=8:=rfl
theorem n_H(x:Int)(q:Nat)(h:q<8):(n_ x).take (q+1)=(n_ x).take q++[N_ x q]:=by
 rw[List.take_add_one];congr 1;unfold n_;rw[List.getElem?_map,List.getElem?_range h];rfl
structure Pen(base g:Nat)(v:Value)(l:List Nat)(w:World):Prop where
 bk:Blk w g 177 #[v]
 own:w.ownsRow base 5 1 v l.length (bL l)
def a_y(base g:Nat)(v:Value)(l':List Nat)(w w':World):Prop:=∃v',Pen base g v' l' w'/\(∀k,v'.ownBlock=some k->v.ownBlock=some k\/w.heap.size<=k)/\Alt (fun k=>k=g\/v.ownBlock=some k) w w'
theorem a_y.refl{base g:Nat}{v:Value}{l:List Nat}{w:World}(h:Pen base g v l w):a_y base g v l w w:=⟨v,h,fun k hk=>.inl hk,Alt.refl _⟩
theorem a_y.step{base g:Nat}{v v1:Value}{l2:List Nat}{w w1 w2:World}(h2:∀k,v1.ownBlock=some k->v.ownBlock=some k\/w.heap.size<=k)(h3:Alt (fun k=>k=g\/v.ownBlock=some k) w w1)(k:a_y base g v1 l2 w1 w2):a_y base g v l2 w w2:=by
 obtain⟨v2,k1,k2,k3⟩:=k;refine⟨v2,k1,fun i hi=>?_,h3.trans' k3 fun i hi=>?_⟩
 ·rcases k2 i hi with h|h
  ·exact h2 i h
  ·exact .inr (Nat.le_trans h3.size h)
 ·rcases hi with h|h
  ·exact .inl (.inl h)
  ·exact(h2 i h).imp .inr id
theorem a_y.trans{base g:Nat}{v:Value}{l1 l2:List Nat}{w w1 w2:World}(h:a_y base g v l1 w w1)(k:∀v1,Pen base g v1 l1 w1->a_y base g v1 l2 w1 w2):a_y base g v l2 w w2:=by
 obtain⟨v1,h1,h2,h3⟩:=h;exact a_y.step h2 h3 (k v1 h1)
theorem Pen.alt{base g:Nat}{v:Value}{l:List Nat}{w w':World}(h:Pen base g v l w){K:Nat->Prop}(ha:Alt K w w')(h1:¬K g)(h2:∀k,v.ownBlock=some k->¬K k):Pen base g v l w':=⟨ha.blk h.bk h1,ha.own h.own h2⟩
theorem a_y.alt{base g:Nat}{v:Value}{l:List Nat}{w w':World}(h:Pen base g v l w)(ha:New w w'):a_y base g v l w w':=⟨v,h.alt (K:=fun _=>False) (Alt.of_new ha) (fun f=>f) fun _ _ f=>f,fun k hk=>.inl hk,Alt.of_new ha⟩
theorem number_any(base g:Nat)(v:Value)(l:List Nat)(x:Int)(w:World)(h:Pen base g v l w)(hl:l.length<=100000)(hb:base<=w.heap.size)(h1 : -9223372036854775808<=x)(h2:x<=9223372036854775807) :
  Calls prog 82 #[.pointer (some ⟨g,0,none⟩),.int .i64 x] w fun e w'=>e=.returned (.tuple #[])/\a_y base g v (l++n_ x) w w':=by
 obtain⟨v0,hv0⟩:∃v0,v0=v:=⟨_,rfl⟩;obtain⟨hb0,ho0⟩:=h;rw[<-hv0]at hb0 ho0 ⊢;clear hv0 v;obtain⟨i1,hi1,hz0,hz1,hz2⟩:=info_parts infoU8;have hbd:=Hd (i_8 h1 h2);have hb0:=Hd hb0;have ho0:=Hd ho0;go_enter func82,ntmps82;go_wp2;go_loopw [1,4] (fun n c wr=>∃(q:Nat) (v:Value),c=.int .i64 (q:Nat)/\q<=8/\n=.int .i64 (b_c x q)/\Hid (Blk wr g 177 #[v])/\Hid (wr.ownsRow base 5 1 v (l.length+q) (bL (l++(n_ x).take q)))/\Hid (∀k,v.ownBlock=some k->v0.ownBlock=some k\/w.heap.size<=k)/\Hid (Alt (fun k=>k=g\/v0.ownBlock=some k) w wr)) (fun _ c _=>8-(intOf c).toNat);case atStart=>exact⟨0,v0,rfl,by decide,rfl,hb0,Hd (by simpa using ho0.o),Hd (fun k hk=>.inl hk),Hd (Alt.refl _)⟩
 case round=>
  obtain⟨q,v,rfl,hq,rfl,hB,hO,hvk,hA⟩:=hrel
  by_cases hlt:q<8
  ·have hli:(q:Int)<8:=by omega
   obtain⟨y,hy⟩:∃y,Hid (b_c x q=y):=⟨_,rfl⟩;have hyb:=hbd.o q;rw[hy.o]at hyb ⊢;obtain⟨y1,y2⟩:=hyb;obtain⟨R,c,hv⟩:=j_ hO.o;subst hv;have hsz:=hA.o.size;have cz:=hB.o.cell 0;have fz:=hB.o.frozen 0;simp at cz;have hll:Hid (l.length+q<=100008):=by show _<=_;omega
   have hne:Hid ((5:TypeId)≠177):=by show _≠_;decide
   have hkeep:Hid (∀w7,(wr.alloc (.cells #[.int .u8 ((N_ x q:Nat):Int)] 5)).grownBy w7 (Value.slice R (l.length+q) c).ownBlock->Blk w7 g 177 #[.slice R (l.length+q) c]/\Alt (fun k=>k=g\/v0.ownBlock=some k) w w7):=fun w7 hg=>
    ⟨(hB.o.alloc _).grown hg (b_ hO.o hB.o hne.o),(hA.o.alloc _).grown hg fun r e=>(hvk.o r e).imp .inr id⟩
   have hyl:y%256=((N_ x q:Nat):Int):=by rw[e_3,hy.o]
   have hym:IntKind.u8.wrap y=((N_ x q:Nat):Int):=by rw[<-hyl];rfl
   have hnx:Hid (bL (l++(n_ x).take q)++[.int .u8 ((N_ x q:Nat):Int)]=bL (l++(n_ x).take (q+1))):=by
    show _=_;rw[n_H x q hlt,<-List.append_assoc,l_x (l++(n_ x).take q)];rfl
   go_wp2_with (first
    |(at_builtin;refine wpList_append_lies _ rfl (.tmp 9) (.tmp 12) 177 rfl base 5 i1 _ 1 1 underlying177 hi1 hz0 hz1 hz2 rfl (by decide) (.slice R (l.length+q) c) (l.length+q) (bL (l++(n_ x).take q)) rfl (hO.o.alloc _) ⟨wr.heap.size,0,none⟩ 1 1 [.int .u8 ((N_ x q:Nat):Int)] rfl rfl (World.news_of_block (cs:=#[.int .u8 _]) (t:=5) (fr:=(0,0)) (heap_alloc_new wr _)) (by simp[Value.oneCell']) (by omega) (by unfold maxLen;omega) (by omega) (by simp;omega) _ rfl ?_
      intro g6 c6' w6 hown6 hgr6 hat6 hlt6;obtain⟨hb6,hA6⟩:=hkeep.o w6 hgr6;have hb6:=Hd hb6;have hA6:=Hd hA6;have hown6:=Hd hown6;have hat6:=Hd hat6;have fz:=hb6.o.frozen 0;have cz:=hb6.o.cell 0;simp at cz;clear hgr6 hlt6))
   have hb8:=Hd (hb6.o.put 0 (.slice (some ⟨g6,0,none⟩) (l.length+q+1) c6'));have hO8:=Hd (Alt.own (Alt.set (K:=fun k=>k=g) (Alt.refl w6) (.inl rfl) (k:=0) (.slice (some ⟨g6,0,none⟩) (l.length+q+1) c6')) hown6.o fun k hk e=>by
    subst e;exact b_ hown6.o hb6.o hne.o hk)
   have hA8:Hid (Alt (fun k=>k=g\/v0.ownBlock=some k) w (w6.setCell ⟨g,0,none⟩ (.slice (some ⟨g6,0,none⟩) (l.length+q+1) c6'))):=hA6.o.set (.inl (.inl rfl)) _;go_roundw;case rel=>
    refine⟨q+1,.slice (some ⟨g6,0,none⟩) (l.length+q+1) c6',by go_num,by omega,by rw[<-hy.o];rfl,?_,?_,fun k hk=>?_,hA8⟩
    ·show Blk _ _ _ _
     have h:=hb8.o;simpa using h
    ·show World.ownsRow _ _ _ _ _ _ _
     rw[<-hnx.o];exact hO8.o
    ·have e:g6=k:=by simpa [Value.ownBlock]using hk
     subst e;rcases hat6.o with h|h
     ·exact hvk.o g6 h
     · have h2:=hA.o.size
       simp at h;exact .inr (by omega)
   case measure=>simp[intOf];omega
  ·have hq8:q=8:=by omega
   subst hq8;have hli:¬((8:Nat):Int)<8:=by decide
   have hfin:Hid (a_y base g v0 (l++n_ x) w wr):=by
    refine⟨v,⟨hB.o,?_⟩,hvk.o,hA.o⟩;have h:=hO.o;rw[List.take_of_length_le (by rw[l_];exact Nat.le_refl _)]at h
    rw[List.length_append,l_];exact h
   go_wp2;exact Great.bodyPost_end0 rfl rfl ⟨rfl,hfin.o⟩
abbrev Nm:=List UInt8
theorem o_5(x:Nm):Lib.strCells ⟨x.toArray⟩=bL (x.map (·.toNat)):=by
 unfold Lib.strCells bL;rw[List.map_map];rfl
theorem q_6(x:Nm):(⟨x.toArray⟩:ByteArray).size=x.length:=by show x.toArray.size=_;simp
theorem s_O{P:Program}{w w':World}{base t u ty e n:Nat}{i:TypeInfo}{v v':Value}{xs:List Value}{s:ByteArray}(ht:P.underlying t=some (.slice e))(hu:P.underlying u=some .string)(hi:P.info? e=some i)(hz:i.zero=some (.int .u8 0))(hsize:i.size=1)(hby:i.bytes=1)
  (hown:w.ownsRow base e 1 v n xs) (h63:n+s.size<=maxLen) (hbytes:n+s.size<=140737488355328) (hr:(Builtin.append_ #[t,u] ty #[v,.string s]).run P w=.ok v' w'):∀k,v'.ownBlock=some k->v.ownBlock=some k\/w.heap.size<=k:=by
 intro k hk;have hsmall:n+s.size<=9223372036854775807:=by simp only[maxLen]at h63;omega
 rcases hown.2 with⟨rfl,rfl⟩|⟨g,cap,cur,rfl,hbg,hg,hnc,hcm,hcs,htake⟩
 ·by_cases hm:s.size=0
  ·have hf:=Lib.run_firstCells_string (P:=P) w 1 s
   rw[hm]at hf;simp[Builtin.append_,run_underlying ht,run_underlying hu,sizeOf,typeInfo,hi,hsize,Builtin.lenOf,hm,hf]at hr;rw[<-hr.1]at hk;cases hk
  ·rw[run_append_nil_string (P:=P) w t u ty e i (.int .u8 0) ht hu hi hz s (by omega) (by omega) (by rw[hby];omega)]at hr
   injection hr with hr _;rw[<-hr]at hk;injection hk with hk;exact .inr (Nat.le_of_eq hk)
 ·by_cases hroom:n+s.size<=cap
  ·have hcs':cur.size=cap:=by simpa using hcs
   rw[Lib.run_append_room_string (P:=P) w t u ty e i ht hu hi hsize g n cap cur hg s hroom (by omega)]at hr
   injection hr with hr _;rw[<-hr]at hk;exact .inl hk
  ·have hxl:xs.length=n:=by simpa using hown.1
   have holds:∀j u,xs[j]?=some u->w.cell? ((⟨g,0,none⟩:Addr).add j)=some u:=hown.cells (g:=g) rfl;rw[Lib.run_append_grow_string (P:=P) w t u ty e i (.int .u8 0) ht hu hi hz ⟨g,0,none⟩ n cap xs (by rw[hsize];simpa using hxl) holds s (by omega) (by omega) (by rw[hby];exact growslice_fits (by omega) (by omega))]at hr
   injection hr with hr _;rw[<-hr]at hk;injection hk with hk;exact .inr (Nat.le_of_eq hk)
theorem d_R{P:Program}{w:World}{ops:Array Oper}{rest:List Oper}{o:Oper}{a:Act}{Q:Exit->Act->World->Prop}(hgd:o.guard=none)(sl x:Operand)(t u:TypeId)
  (ho:o.op=.call {callee:=.builtin .append,args:=#[sl,x],argTypes:=#[t,u]})
  (base:Nat) (e:TypeId) (i:TypeInfo) (ht:P.underlying t=some (.slice e)) (hu:P.underlying u=some .string) (hi:P.info? e=some i) (hz:i.zero=some (.int .u8 0))
  (hsize:i.size=1) (hby:i.bytes=1)
  (v:Value) (n:Nat) (xs:List Value) (hs:a.eval sl=v) (hown:w.ownsRow base e 1 v n xs) (s:ByteArray) (hx:a.eval x=.string s)
  (h63:n+s.size<=maxLen) (hbytes:n+s.size<=140737488355328) (hbase:base<=w.heap.size)
  (h:∀v' w',w'.ownsRow base e 1 v' (n+s.size) (xs++Lib.strCells s)->w.grownBy w' v.ownBlock->(∀k,v'.ownBlock=some k->v.ownBlock=some k\/w.heap.size<=k)->wpList P ops Q rest (a.put o.dst v') w'):wpList P ops Q (o::rest) a w:=by
 refine wpList_plain hgd fun K hK=>?_;obtain⟨v',w',hr,h2,h3,_⟩:=Lib.run_append_own_string (P:=P) w base t u o.type e i ht hu hi hz hsize hby v n xs hown s h63 hbytes hbase;have h5:=s_O ht hu hi hz hsize hby hown h63 hbytes hr;unfold Oper.wp execOp;simp only[ho,resolve,invoke,builtin,Sem.run_bind,Sem.run_pure,Result.andThen_ok,List.map_toArray,List.map_cons,List.map_nil,hs,hx,hr];exact hK _ _ (h v' w' h2 h3 h5)
def c_i(x:Nm):List Nat:=n_ (x.length:Int)++x.map (·.toNat)
theorem a_L(x:Nm):(c_i x).length=8+x.length:=by simp[c_i,l_]
theorem i_Y(base g:Nat)(v:Value)(l:List Nat)(x:Nm)(w:World)(h:Pen base g v l w)(hl:l.length+x.length<=90000)(hb:base<=w.heap.size) :
  Calls prog 85 #[.pointer (some ⟨g,0,none⟩),encStr x] w fun e w'=>e=.returned (.tuple #[])/\a_y base g v (l++c_i x) w w':=by
 have hnum:=Hd (fun w h hb=>number_any base g v l (x.length:Int) w h (by omega) hb (by omega) (by omega))
 replace hnum:Hid (∀w,_):=hnum;have h:=Hd h;obtain⟨i1,hi1,hz0,hz1,hz2⟩:=info_parts infoU8;have hlx:(⟨x.toArray⟩:ByteArray).size=x.length:=q_6 x;obtain⟨n2,hn2⟩:∃n2,Hid (n2=(l++c_i x).length):=⟨_,rfl⟩;go_enter func85,ntmps85;go_wp2_with (first
  |(go_at_call 82
    (with_reducible refine(hnum.o _ h.o hb).mono ?_)
    rintro e w1 ⟨rfl,hp⟩;have hsz:=Hd (show w.heap.size<=w1.heap.size from by obtain⟨_,_,_,ha⟩:=hp;exact ha.size)
    obtain⟨v1,h1,h2,h3⟩:=hp;have h1:=Hd h1;have h2:=Hd h2;have h3:=Hd h3;have cz:=h1.o.bk.cell 0;have fz:=h1.o.bk.frozen 0;simp at cz)
  |(at_builtin;refine d_R rfl (.tmp 11) (.tmp 12) 177 9 rfl base 5 i1 underlying177 underlying9 hi1 hz0 hz1 hz2 v1 (l++n_ (x.length:Int)).length (bL (l++n_ (x.length:Int))) rfl h1.o.own ⟨x.toArray⟩ rfl (by rw[hlx];simp[l_,maxLen];omega) (by rw[hlx];simp[l_];omega) (by have:=hsz.o;omega) ?_
    intro v2 w2 ho2 hg2 ha2;rw[show(l++n_ (x.length:Int)).length+(⟨x.toArray⟩:ByteArray).size=n2 by rw[hlx,hn2.o];simp[a_L,l_];omega]at ho2
    obtain⟨R2,c2,rfl⟩:=j_ ho2;have hne:v1.ownBlock≠some g:=b_ h1.o.own h1.o.bk (by decide)
    have hb2:=Hd (h1.o.bk.grown hg2 hne);have ho2:=Hd ho2;have hA2:=Hd (show Alt (fun k=>k=g\/v1.ownBlock=some k) w1 w2 from(Alt.refl w1).grown hg2 fun r e=>.inl (.inr e))
    have ha2:=Hd ha2;have cz2:=hb2.o.cell 0;have fz2:=hb2.o.frozen 0;simp at cz2;clear hg2 hne))
 refine Great.bodyPost_end0 rfl rfl ⟨rfl,a_y.step h2.o h3.o ⟨_,⟨?_,?_⟩,ha2.o,hA2.o.set (.inl (.inl rfl)) _⟩⟩
 ·have h:=hb2.o.put 0 (.slice R2 n2 c2)
  simpa using h
 ·have h:=Alt.own (Alt.set (K:=fun k=>k=g) (Alt.refl w2) (.inl rfl) (k:=0) (.slice R2 n2 c2)) ho2.o fun k hk e=>by
   subst e;exact b_ ho2.o hb2.o (by decide) hk
  rw[o_5,<-l_x]at h;rw[<-hn2.o,c_i,<-List.append_assoc];exact h
def a_J(q:Ptr):List Int:=[q.ad,q.ct,q.by_,q.birth,q.sum.1,q.sum.2.1,q.sum.2.2.1,q.sum.2.2.2]
def b_1(q:Ptr):List Nat:=(a_J q).flatMap n_
theorem b_f(q:Ptr):(b_1 q).length=64:=rfl
theorem n_u(q:Ptr)(i:Nat)(x:Int)(h:(a_J q)[i]?=some x):((a_J q).take (i+1)).flatMap n_=((a_J q).take i).flatMap n_++n_ x:=by
 rw[List.take_add_one,h,List.flatMap_append];simp
def BdI(x:Int):Prop := -9223372036854775808<=x/\x<=9223372036854775807
theorem f_2(base g:Nat)(v:Value)(l:List Nat)(q:Ptr)(w:World)(h:Pen base g v l w)(hl:l.length<=90000)(hb:base<=w.heap.size)(hq:∀x∈a_J q,BdI x) :
  Calls prog 83 #[.pointer (some ⟨g,0,none⟩),.agg (x_ q)] w fun e w'=>e=.returned (.tuple #[])/\a_y base g v (l++b_1 q) w w':=by
 have hnum:=Hd (fun v (l:List Nat) (hl:l.length<=100000) x (hx:BdI x) w h hb=>number_any base g v l x w h hl hb hx.1 hx.2);replace hnum:Hid (∀v,_):=hnum;obtain⟨ad,ct,by_,birth,s0,s1,s2,s3⟩:=q;obtain⟨L,hL⟩:∃L,Hid (L=a_J ⟨ad,ct,by_,birth,s0,s1,s2,s3⟩):=⟨_,rfl⟩;have hlen:Hid (L.length=8):=by rw[hL.o];rfl
 have hqH:Hid (∀x∈L,BdI x):=by rw[hL.o];exact Hd hq
 obtain⟨W1,hW1⟩:∃W1,W1=(w.alloc (.cells (x_ ⟨ad,ct,by_,birth,s0,s1,s2,s3⟩) 107)).alloc (.cells #[.int .i64 ad,.int .i64 ct,.int .i64 by_,.int .i64 birth,.int .i64 s0,.int .i64 s1,.int .i64 s2,.int .i64 s3] 3):=⟨_,rfl⟩;have hN1:Hid (New w W1):=by rw[hW1];exact((New.refl w).alloc _).alloc _
 have hB1:Hid (Blk W1 (w.heap.size+1) 3 (L.toArray.map (.int .i64 ·))):=by
  have:=Blk.fresh (w.alloc (.cells (x_ ⟨ad,ct,by_,birth,s0,s1,s2,s3⟩) 107)) 3 #[.int .i64 ad,.int .i64 ct,.int .i64 by_,.int .i64 birth,.int .i64 s0,.int .i64 s1,.int .i64 s2,.int .i64 s3];rw[hW1,hL.o];show Blk _ _ _ ((a_J ⟨ad,ct,by_,birth,s0,s1,s2,s3⟩).toArray.map _);simpa [a_J]using this
 have hP:Hid (a_y base g v (l++(L.take 0).flatMap n_) w W1):=by
  show a_y _ _ _ _ _ _;simpa using a_y.alt h hN1.o
 obtain⟨bs,hbs⟩:∃bs,Hid (bs=w.heap.size+1):=⟨_,rfl⟩;rw[<-hbs.o]at hB1;clear hq h;go_enter func83,ntmps83;go_wp2_with fail;rw[<-hW1];clear hW1
 try simp only[<-hbs.o]
 go_loopw [28] (fun x wr=>∃i:Nat,x=.int .i64 i/\i<=8/\Hid (a_y base g v (l++(L.take i).flatMap n_) w wr)/\Hid (Blk wr bs 3 (L.toArray.map (.int .i64 ·)))) (fun x _=>8-(intOf x).toNat);case atStart=>exact⟨0,rfl,by omega,hP,hB1⟩
 case round=>
  obtain⟨i,rfl,hi,hD,hB⟩:=hrel;clear hP hN1 hB1
  by_cases hlt:i<8
  ·have hiI:(i:Int)<8:=by omega
   have hi0:(0:Int)<=(i:Int):=by omega
   obtain⟨x,hx⟩:∃x,L[i]?=some x:=⟨_,List.getElem?_eq_getElem (by rw[hlen.o];exact hlt)⟩
   have hxL:x∈L:=List.mem_of_getElem? hx;have ck:=hB.o.cell i;simp[hx]at ck;obtain⟨v1,p1,p2,p3⟩:=hD.o;have hll:(l++List.flatMap n_ (List.take i L)).length<=100000:=by
    have:∀l:List Int,(l.flatMap n_).length=8*l.length:=fun l=>by
     induction l with
     |nil=>rfl
     |cons a l ih=>rw[List.flatMap_cons,List.length_append,ih,l_,List.length_cons];omega
    rw[List.length_append,this,List.length_take];omega
   have hcall:=Hd (hnum.o v1 _ hll x (hqH.o x hxL) wr p1 (Nat.le_trans hb p3.size));have p2:=Hd p2;have p3:=Hd p3;have hne:Hid (bs≠g/\v1.ownBlock≠some bs):=Hd ⟨e_ hB.o p1.bk (by decide),b_ p1.own hB.o (by decide)⟩
   have hxt:=Hd hx;clear hxL hll p1 hD hx;go_wp2_with fail;refine hcall.o.mono ?_;rintro e w2 ⟨rfl,hp⟩;have hB2:Hid (Blk w2 bs 3 (L.toArray.map (.int .i64 ·))):=by
    obtain⟨_,_,_,ha⟩:=hp;refine ha.blk hB.o fun h=>?_;rcases h with h|h
    ·exact hne.o.1 h
    ·exact hne.o.2 h
   have hD2:Hid (a_y base g v (l++(L.take (i+1)).flatMap n_) w w2):=by
    show a_y _ _ _ _ _ _;rw[hL.o]at hxt hp ⊢;rw[n_u _ i x hxt.o,<-List.append_assoc];exact a_y.step p2.o p3.o hp
   clear hp;go_wp2;go_roundw;case rel=>exact⟨i+1,by go_num,by omega,hD2,hB2⟩
   case measure=>simp[intOf];omega
  ·obtain rfl:i=8:=by omega
   have hiI:¬((8:Nat):Int)<8:=by decide
   rw[List.take_of_length_le (by rw[hlen.o];exact Nat.le_refl _),hL.o]at hD
   go_wp2;exact Great.bodyPost_end0 rfl rfl ⟨rfl,hD.o⟩
end vault
end Go.Proofs.YtojcoaekhiadcaaGreat
