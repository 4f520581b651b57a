import Derived.Test.YtojcoaekhiadcaaGreatA01
import Derived.Test.YtojcoaekhiadcaaGreatA20
import Derived.Test.YtojcoaekhiadcaaGreatA14
import Derived.Test.YtojcoaekhiadcaaGreatA18
set_option linter.unusedVariables false
set_option linter.unusedSimpArgs false
namespace Go.Proofs.YtojcoaekhiadcaaGreat
open Tryz Go.RowKit
namespace vault
set_option maxRecDepth 100000
open Go.ChangeShapes Go.WideShapes Go.ChangeAt kit pool Go.Deep Go.Maps
def cmL(k:Int)(n o:Nm)(off count drive keep:Int)(R:Option Addr)(dl dc:Nat):Array Value:=#[.int .i64 k,encStr n,encStr o,.int .i64 off,.int .i64 count,.int .i64 drive,.int .i64 keep,.slice R dl dc]
abbrev f_d(W:World)(p:Nat)(a0 a1 a2 a3 a4:Value):World:=((((W.setCell ⟨p,0,none⟩ a0).setCell ⟨p,1,none⟩ a1).setCell ⟨p,2,none⟩ a2).setCell ⟨p,3,none⟩ a3).setCell ⟨p,4,none⟩ a4
theorem g_{W:World}{p:Nat}{x0 x1 x2 x3 x4:Value}(h:Blk W p 38 #[x0,x1,x2,x3,x4]):(W.cell? ⟨p,0,none⟩=some x0/\W.cell? ⟨p,1,none⟩=some x1/\W.cell? ⟨p,2,none⟩=some x2/\W.cell? ⟨p,3,none⟩=some x3/\W.cell? ⟨p,4,none⟩=some x4)/\(W.frozen? ⟨p,0,none⟩=false/\W.frozen? ⟨p,1,none⟩=false/\W.frozen? ⟨p,2,none⟩=false/\W.frozen? ⟨p,3,none⟩=false/\W.frozen? ⟨p,4,none⟩=false) /\
  Hid (∀a0 a1 a2 a3 a4,(f_d W p a0 a1 a2 a3 a4).cell? ⟨p,0,none⟩=some a0/\(f_d W p a0 a1 a2 a3 a4).cell? ⟨p,1,none⟩=some a1/\(f_d W p a0 a1 a2 a3 a4).cell? ⟨p,2,none⟩=some a2/\(f_d W p a0 a1 a2 a3 a4).cell? ⟨p,3,none⟩=some a3/\(f_d W p a0 a1 a2 a3 a4).cell? ⟨p,4,none⟩=some a4):=by
 have r0:=h.cell 0;have r1:=h.cell 1;have r2:=h.cell 2;have r3:=h.cell 3;have r4:=h.cell 4;simp at r0 r1 r2 r3 r4;refine⟨⟨r0,r1,r2,r3,r4⟩,⟨h.frozen 0,h.frozen 1,h.frozen 2,h.frozen 3,h.frozen 4⟩,fun a0 a1 a2 a3 a4=>?_⟩;have hb:=((((h.put 0 a0).put 1 a1).put 2 a2).put 3 a3).put 4 a4;have x0:=hb.cell 0;have x1:=hb.cell 1;have x2:=hb.cell 2;have x3:=hb.cell 3;have x4:=hb.cell 4;simp at x0 x1 x2 x3 x4;exact⟨x0,x1,x2,x3,x4⟩
theorem a_s(W:World)(p:Nat)(a0 a1 a2 a3 a4:Value):Alt (fun k=>k=p) W (f_d W p a0 a1 a2 a3 a4):=
 Alt.set (K:=fun k=>k=p) (Alt.set (K:=fun k=>k=p) (Alt.set (K:=fun k=>k=p) (Alt.set (K:=fun k=>k=p) (Alt.set (K:=fun k=>k=p) (Alt.refl W) (.inl rfl) a0) (.inl rfl) a1) (.inl rfl) a2) (.inl rfl) a3) (.inl rfl) a4
theorem H_{w:World}{cs:Array Value}:∃W1,W1=(w.alloc (.cells cs 45)).alloc (.cells #[.int .i64 0,.bool false,.int .i64 0,.slice none 0 0,.slice none 0 0] 38)/\New w W1/\Hid (Blk W1 (w.heap.size+1) 38 #[.int .i64 0,.bool false,.int .i64 0,.slice none 0 0,.slice none 0 0])/\Hid (Blk W1 w.heap.size 45 cs)/\Hid (W1.heap.size=w.heap.size+2):=by
 have hb:Blk ((w.alloc (.cells cs 45)).alloc (.cells #[.int .i64 0,.bool false,.int .i64 0,.slice none 0 0,.slice none 0 0] 38)) w.heap.size 45 cs:=(Blk.fresh w _ _).alloc _;have hg:=Blk.fresh (w.alloc (.cells cs 45)) 38 #[.int .i64 0,.bool false,.int .i64 0,.slice none 0 0,.slice none 0 0];exact⟨_,rfl,((New.refl w).alloc _).alloc _,Hd (by simpa using hg),hb,Hd (by simp)⟩
theorem p_{W:World}{p:Nat}{k:Int}{n o:Nm}{off count drive keep:Int}{R:Option Addr}{dl dc:Nat}(h:Blk W p 45 (cmL k n o off count drive keep R dl dc)) :
  W.cell? ⟨p,0,none⟩=some (.int .i64 k)/\W.cell? ⟨p,1,none⟩=some (encStr n)/\W.cell? ⟨p,2,none⟩=some (encStr o)/\W.cell? ⟨p,3,none⟩=some (.int .i64 off)/\W.cell? ⟨p,4,none⟩=some (.int .i64 count)/\W.cell? ⟨p,5,none⟩=some (.int .i64 drive)/\W.cell? ⟨p,6,none⟩=some (.int .i64 keep)/\W.cell? ⟨p,7,none⟩=some (.slice R dl dc):=by
 refine⟨?_,?_,?_,?_,?_,?_,?_,?_⟩<;>(rw[h.cell];rfl)
def TdN(base:Nat)(w:World)(v:Value)(t:Td):Prop:=∃dv nv,v=.agg #[.int .i64 t.code,.bool false,.int .i64 (t.size:Nat),dv,nv]/\Bs w dv t.dat/\Ns w nv t.names/\b_l base dv/\b_l base nv
theorem TdN.alt{base:Nat}{w w':World}{v:Value}{t:Td}(h:TdN base w v t){K:Nat->Prop}(ha:Alt K w w')(h1:∀g cs,Blk w g 5 cs->¬K g)(h2:∀g cs,Blk w g 9 cs->¬K g):TdN base w' v t:=by
 obtain⟨dv,nv,h3,h4,h5,h6⟩:=h;exact⟨dv,nv,h3,h4.alt ha h1,h5.alt ha h2,h6⟩
theorem TdN.mono{base base':Nat}{w:World}{v:Value}{t:Td}(h:TdN base w v t)(hb:base'<=base):TdN base' w v t:=by
 obtain⟨dv,nv,h3,h4,h5,h6,h7⟩:=h;exact⟨dv,nv,h3,h4,h5,h6.mono hb,h7.mono hb⟩
theorem TdN.no(base:Nat)(w:World)(c:Int):TdN base w (.agg #[.int .i64 c,.bool false,.int .i64 0,.slice none 0 0,.slice none 0 0]) (Td.no c):=⟨_,_,rfl,Bs.nil w,Ns.nil w,b_l.nil _,b_l.nil _⟩
theorem TdN.form{base:Nat}{w:World}{v:Value}{t:Td}(h:TdN base w v t):∃A n k B m j,v=.agg #[.int .i64 t.code,.bool false,.int .i64 (t.size:Nat),.slice A n k,.slice B m j]:=by
 obtain⟨dv,nv,rfl,⟨A,k,rfl,_⟩,hn,_⟩:=h;obtain⟨B,j,rfl,_⟩:=h_ hn;exact⟨_,_,_,_,_,_,rfl⟩
theorem b_Y{base:Nat}{W:World}{p:Nat}{a0 a1 a2 a3 a4:Value}{t:Td}(hp:∃cs,Blk W p 38 cs)(h:TdN base W (.agg #[a0,a1,a2,a3,a4]) t):TdN base (f_d W p a0 a1 a2 a3 a4) (.agg #[a0,a1,a2,a3,a4]) t:=by
 obtain⟨c0,hp⟩:=hp;exact h.alt (a_s W p a0 a1 a2 a3 a4) (fun g cs hb e=>by subst e;exact e_ hb hp (by decide) rfl) fun g cs hb e=>by subst e;exact e_ hb hp (by decide) rfl
theorem f_H{A:VA}{oo:Nat->Nat}{s:VS}(hA:VOk A)(bad:List Nat)(bc:Nat->Nat->Nat)(ob:Nat)(g:OG)(k:Int)(nm o:Nm)(off count drive keep:Int)(R:Option Addr)(dl dc:Nat)(w:World)(h:VM A oo s w)(hd:DOk A s)(hbad:bad.length<=mxB A)(hv:ObV A.v oo w (ptr ob) g)(hg:g.sz<=100000)(hgl:g.sz<=256*g.bl.length)(hb:f_k A oo s bad bc w g.bl)(ho:off<=9223372036854775807)(hc:count<=9223372036854775807) :
  Calls prog 145 #[ptr ob,.agg (cmL k nm o off count drive keep R dl dc)] w fun e w'=>∃u,e=.returned u/\TdN w.heap.size w' u (a_T (byO bc g) off count)/\New w w':=by
 obtain⟨W1,hW1,hN1,hr,hcm,hz⟩:=H_ (w:=w) (cs:=cmL k nm o off count drive keep R dl dc);obtain⟨_,_,_,c3,c4,_,_,_⟩:=p_ hcm.o;have hNH:=Hd hN1;have hVH:=Hd (h.new hN1);have hvH:=Hd (hv.alt (K:=fun _=>False) (Alt.of_new hN1) (fun _ _ f=>f) (s_.refl oo w));have hbH:Hid (f_k A oo s bad bc W1 g.bl):=fun b hb'=>by obtain⟨at_,h1,h2⟩:=hb b hb';exact⟨at_,h1.new hN1,h2⟩
 have hdH:=Hd hd;obtain⟨cso,hob,hob1⟩:∃cso,Hid (Blk W1 ob 100 cso)/\cso[1]?=some (.int .i64 (g.sz:Nat)):=by
  obtain⟨ob',bv,e,_,h3,_⟩:=hvH.o;injection e with e;injection e with e;injection e with e;subst e;exact⟨_,h3,rfl⟩
 obtain⟨b,hbe⟩:∃b,b=byO bc g:=⟨_,rfl⟩;have hbn:b.n=g.sz:=by rw[hbe];rfl
 rw[<-hbe];clear hN1 h hv hb hd;go_enter func145,ntmps145;go_upto_region 1 with fail;rw[<-hW1];clear hW1
 by_cases hneg:off<0\/count<0
 ·have hft:Hid (a_T b off count=Td.no 2):=by show _=_;unfold a_T;rw[if_pos hneg]
  rcases hneg with h1|h1
  ·skip
   go_wp2_with (go_at_call 53;refine(X_ 2 _).mono ?_;rintro e w2 ⟨rfl,hn2⟩;have hn2H:=Hd hn2;obtain⟨⟨r0,r1,r2,r3,r4⟩,⟨y0,y1,y2,y3,y4⟩,hx⟩:=g_ (hr.o.new hn2);have hr2:=Hd (hr.o.new hn2));exact bodyPost_ret (v:=.agg #[.int .i64 2,.bool false,.int .i64 0,.slice none 0 0,.slice none 0 0]) (by simp[results,results145,go_sem,hx.o]) rfl ⟨_,rfl,by rw[hft.o];exact b_Y ⟨_,hr2.o⟩ (TdN.no _ _ _),((hNH.o.next hn2H.o).trans ((a_s _ _ _ _ _ _ _).below (by have:=(hNH.o.next hn2H.o).size;omega) fun k hk=>by omega))⟩
  ·by_cases h0:off<0
   ·skip
    go_wp2_with (go_at_call 53;refine(X_ 2 _).mono ?_;rintro e w2 ⟨rfl,hn2⟩;have hn2H:=Hd hn2;obtain⟨⟨r0,r1,r2,r3,r4⟩,⟨y0,y1,y2,y3,y4⟩,hx⟩:=g_ (hr.o.new hn2);have hr2:=Hd (hr.o.new hn2));exact bodyPost_ret (v:=.agg #[.int .i64 2,.bool false,.int .i64 0,.slice none 0 0,.slice none 0 0]) (by simp[results,results145,go_sem,hx.o]) rfl ⟨_,rfl,by rw[hft.o];exact b_Y ⟨_,hr2.o⟩ (TdN.no _ _ _),((hNH.o.next hn2H.o).trans ((a_s _ _ _ _ _ _ _).below (by have:=(hNH.o.next hn2H.o).size;omega) fun k hk=>by omega))⟩
   ·skip
    go_wp2_with (go_at_call 53;refine(X_ 2 _).mono ?_;rintro e w2 ⟨rfl,hn2⟩;have hn2H:=Hd hn2;obtain⟨⟨r0,r1,r2,r3,r4⟩,⟨y0,y1,y2,y3,y4⟩,hx⟩:=g_ (hr.o.new hn2);have hr2:=Hd (hr.o.new hn2));exact bodyPost_ret (v:=.agg #[.int .i64 2,.bool false,.int .i64 0,.slice none 0 0,.slice none 0 0]) (by simp[results,results145,go_sem,hx.o]) rfl ⟨_,rfl,by rw[hft.o];exact b_Y ⟨_,hr2.o⟩ (TdN.no _ _ _),((hNH.o.next hn2H.o).trans ((a_s _ _ _ _ _ _ _).below (by have:=(hNH.o.next hn2H.o).size;omega) fun k hk=>by omega))⟩
 ·obtain⟨off,rfl⟩:∃k:Nat,off=k:=⟨off.toNat,by omega⟩
  obtain⟨count,rfl⟩:∃k:Nat,count=k:=⟨count.toNat,by omega⟩
  have hft:Hid (a_T b (off:Int) (count:Int)=⟨0,b.n,h_m b off count,[]⟩):=by show _=_;unfold a_T;rw[if_neg hneg];rfl
  have a1:¬(off:Int)<0:=by omega
  have a2:¬(count:Int)<0:=by omega
  have hread:=Hd (k_S hA W1 hVH.o hdH.o hbad bc ob g off count hvH.o hg hgl hbH.o (by omega) (by omega))
  rw[<-hbe]at hread;have hsz:=Hd (fun w' (hn:New W1 w')=>size_any ob cso g.sz w' (hob.o.new hn) hob1);rw[<-hbn]at hsz;clear hneg;go_wp2_with fail;refine hread.o.mono ?_;rintro e w2 ⟨u,rfl,hu,huo,hn2⟩;have huoH:=Hd (huo.mono hNH.o.size);have huH:=Hd hu;have hn2H:=Hd hn2;obtain⟨⟨r0,r1,r2,r3,r4⟩,⟨y0,y1,y2,y3,y4⟩,hx⟩:=g_ (hr.o.new hn2);have hr2:=Hd (hr.o.new hn2);obtain⟨nb,hnb⟩:∃nb,Hid (nb=b.n):=⟨_,rfl⟩;rw[<-hnb.o]at hsz hft;have hu2:∃A n c,u=.slice A n c:=by
   obtain⟨A,c,h,_⟩:=hu;exact⟨A,_,c,h⟩
  obtain⟨A,n,c,rfl⟩:=hu2;have hsz2:=Hd (hsz.o w2 hn2);clear hu huo hn2 hread hsz;show _;dsimp only;go_wp2_with (go_at_call 290;refine hsz2.o.mono ?_;rintro e w3 ⟨rfl,rfl⟩);exact bodyPost_ret (v:=.agg #[.int .i64 0,.bool false,.int .i64 nb,.slice A n c,.slice none 0 0]) (by simp[results,results145,go_sem,hx.o]) rfl ⟨_,rfl,by rw[hft.o];exact b_Y ⟨_,hr2.o⟩ ⟨_,_,rfl,huH.o,Ns.nil _,huoH.o,b_l.nil _⟩,((hNH.o.next hn2H.o).trans ((a_s _ _ _ _ _ _ _).below (by have:=(hNH.o.next hn2H.o).size;omega) fun k hk=>by omega))⟩
abbrev a_2(l:List Nat):List Value:=l.map ptr
structure US(w0:World)(sx ox m:Nat)(out:List Nat)(n:Nat)(w:World):Prop where
 nw:New w0 w
 sb:Blk w sx 163 #[.map (some m)]
 ge:w0.heap.size<=sx/\w0.heap.size<=ox/\w0.heap.size<=m
 pm:∃L,PM w m L/\(∀b,b∈L.map (·.1)↔b∈out)/\∀b v,a_n L b=some v->∃k:Nat,v=.int .i64 k/\1<=k/\k<=n
 ob:∃v,Blk w ox 98 #[v]/\w.ownsRow w0.heap.size 112 1 v out.length (a_2 out)
 kn:∀b,b∈out->∃cs,Blk w0 b 115 cs
 ln:out.length<=n
theorem US.new{w0 w w':World}{sx ox m n:Nat}{out:List Nat}(h:US w0 sx ox m out n w)(hn:New w w'):US w0 sx ox m out n w':=by
 obtain⟨L,h1,h2⟩:=h.pm;obtain⟨v,h3,h4⟩:=h.ob;exact⟨h.nw.next hn,h.sb.new hn,h.ge,⟨L,h1.alt (K:=fun _=>False) (Alt.of_new hn) fun f=>f,h2⟩,⟨v,h3.new hn,c_ h4 hn⟩,h.kn,h.ln⟩
theorem f_y:(prog.info? 115).map (fun i=>(i.zero,i.size,i.bytes))=some (some (.agg #[.slice none 0 0,.pointer none]),2,32):=by kernel_rfl
theorem d_f:(prog.info? 112).map (fun i=>(i.zero,i.size,i.bytes))=some (some (.pointer none),1,8):=by kernel_rfl
theorem i_n{w:World}{m:Nat}{L:PL}(h:PM w m L){b:Nat}{cb:Array Value}(hb:Blk w b 115 cb)(hk:b_O w L):(Instr.lookup 163 (.map (some m)) (ptr b) false).run prog w=.ok ((a_n L b).getD (.int .i64 0)) w:=by
 obtain⟨i1,hi1,hz0,hz1,hz2⟩:=info_parts f_y;exact h.look underlying163 underlying112 hi1 (by rw[hz1];decide) hb hk (by rfl)
theorem p_4{w:World}{m:Nat}{L:PL}(h:PM w m L){b:Nat}{cb:Array Value}(hb:Blk w b 115 cb)(hk:b_O w L)(v:Value):∃w',(Instr.mapUpdate 163 (.map (some m)) (ptr b) v).run prog w=.ok () w'/\PM w' m (b_2 L b v)/\Alt (fun k=>k=m) w w':=by
 obtain⟨i1,hi1,hz0,hz1,hz2⟩:=info_parts f_y;exact h.put underlying163 underlying112 hi1 (by rw[hz1];decide) hb hk v
theorem US.keys{w0 w:World}{sx ox m n:Nat}{out:List Nat}(h:US w0 sx ox m out n w){L:PL}(hL:∀b,b∈L.map (·.1)↔b∈out):b_O w L:=fun p hp=>by
 obtain⟨cs,hb⟩:=h.kn p.1 ((hL _).1 (List.mem_map_of_mem hp));exact⟨_,cs,hb.new h.nw⟩
theorem j_M{l:GT}{i:Nat}{nm:Nm}{g:OG}(h:l[i]?=some (nm,g)):gBl (l.take (i+1))=gBl (l.take i)++g.bl:=by
 unfold gBl;rw[List.take_add_one,h,List.flatMap_append];simp
theorem t_n{l:GT}{i:Nat}{nm:Nm}{g:OG}(h:l[i]?=some (nm,g)):(gBl (l.take i)).length+g.bl.length<=(gBl l).length:=by
 have h1:=congrArg List.length (j_M h);rw[List.length_append]at h1;rw[<-h1];have:gBl l=gBl (l.take (i+1))++gBl (l.drop (i+1)):=by
  unfold gBl;rw[<-List.flatMap_append,List.take_append_drop]
 rw[this,List.length_append];omega
set_option maxHeartbeats 4000000 in
theorem n_2(vb:Nat)(o:Nat->Nat)(c mb:Nat)(l:GT)(w0 w:World)(sx ox m n:Nat)(out:List Nat)(hu:US w0 sx ox m out n w)(hm:MP (ObV vb o w0) w0 mb c l)(hl:l.length<=100)(hnm:∀p,p∈l->p.1.length<=100)(hbl:∀b,b∈gBl l->∃cs,Blk w0 b 115 cs)(hn:n+(gBl l).length<=100000) :
  Calls prog 74 #[.map (some mb),ptr sx,ptr ox] w fun e w'=>e=.returned (.tuple #[])/\US w0 sx ox m (r_ out (gBl l)) (n+(gBl l).length) w'/\∀u ls,Ns w u ls->Ns w' u ls:=by
 have huH:=Hd hu;have hmH:=Hd hm;have hk:=Hd (p_M (some mb) w);have hmw:MP (ObV vb o w0) w mb c l:=hm.new hu.nw fun _ _ _ _ h=>h;have hs:=Hd (j_5 mb c l w hmw (by omega))
 clear hu hm hmw;go_enter func74,ntmps74;go_wp2_with fail;refine hk.o.mono ?_;rintro e w1 ⟨rfl,rfl⟩;go_wp2_with fail;refine hs.o.mono ?_;rintro e w2 ⟨v,rfl,hN,hn2⟩;have hN2:Hid (New w w2):=New.of_alloc hn2;obtain⟨N,cN,rfl,hc1,hc2,hc3,hc4⟩:=h_ hN;have hNs:=Hd hN;have hU2:=Hd (huH.o.new hN2.o);obtain⟨T,hT⟩:∃T,Hid (T=l.length):=⟨_,rfl⟩;have hT100:T<=100:=by rw[hT.o];exact hl
 have hlm:(l.map (·.1)).length=T:=by rw[List.length_map,hT.o]
 rw[hlm]at hc1 hc3 hNs ⊢;clear hk hs hn2 hN hc4 huH hlm;go_wp2_with fail;go_loopw [12] (fun x wr=>∃i:Nat,x=.int .i64 i/\i<=T/\Hid (US w0 sx ox m (r_ out (gBl (l.take i))) (n+(gBl (l.take i)).length) wr)/\Hid (∀u ls,Ns w2 u ls->Ns wr u ls)) (fun x _=>T-(intOf x).toNat);case atStart=>exact⟨0,rfl,by omega,by simpa [gBl,r_]using hU2,Hd fun _ _ h=>h⟩
 case round=>
  obtain⟨i,rfl,hi,hU,hNr⟩:=hrel;clear hU2
  by_cases hlt:i<T
  ·have hiI:(     i:Int)<(T:Int):=by omega
   have hi0:(0:Int)<=(i:Int):=by omega
   obtain⟨g,rfl,_⟩:=hc3 (by omega)
   obtain⟨nm,og,hli⟩:∃nm og,l[i]?=some (nm,og):=⟨_,_,List.getElem?_eq_getElem (by rw[<-hT.o];exact hlt)⟩
   have ci:=World.ownsRow.cells (hNr.o _ _ hNs.o) rfl i (encStr nm) (by simp[hli])
   rw[i_,Nat.zero_add]at ci;have hnl:=hnm (nm,og) (List.mem_of_getElem? hli);obtain⟨v1,hlk,hob⟩:=m_s (hmH.o.new hU.o.nw (rd':=ObV vb o w0) fun _ _ _ _ h=>h) underlying150 (z:=.pointer none) (by rfl) (x:=nm) (by have:nm.length<=100:=hnl;unfold maxLen;omega) (get_mem hmH.o.1 (List.mem_of_getElem? hli))
   obtain⟨obb,bv,rfl,_,hbo,A1,c1,rfl,q1,q2,_,q4⟩:=hob;dsimp only at hbo q1 q4;have co:=(hbo.new hU.o.nw).cell 2;simp at co;have hle:=t_n hli;have hnx:=Hd (j_M hli);have hsub:Hid (∀b,b∈og.bl->∃cs,Blk w0 b 115 cs):=fun b hb=>hbl b (List.mem_flatMap.2 ⟨_,List.mem_of_getElem? hli,hb⟩);obtain⟨bl,hbl'⟩:∃bl,Hid (bl=og.bl):=⟨_,rfl⟩;obtain⟨J,hJ⟩:∃J,Hid (J=og.bl.length):=⟨_,rfl⟩;obtain⟨OUT,hOUT⟩:∃OUT,Hid (OUT=r_ out (gBl (l.take i))):=⟨_,rfl⟩;obtain⟨M,hM⟩:∃M,Hid (M=n+(gBl (l.take i)).length):=⟨_,rfl⟩;have hMJ:M+J<=100000:=by rw[hM.o,hJ.o];omega
   rw[<-hOUT.o,<-hM.o]at hU;rw[<-hJ.o]at co q1 q4;rw[<-hbl'.o]at q4 hsub;have q4:=Hd q4;have hst:Hid (US w0 sx ox m (r_ OUT (bl.take 0)) (M+0) wr/\(∀u ls,Ns w2 u ls->Ns wr u ls)):=Hd ⟨by simpa [r_]using hU.o,hNr.o⟩
   obtain⟨wo,rfl⟩:∃wo,wo=wr:=⟨_,rfl⟩;clear hU hle hbo hc3;go_wp2_with fail;go_loopw [23] (fun x wr=>∃j:Nat,x=.int .i64 j/\j<=J/\Hid (US w0 sx ox m (r_ OUT (bl.take j)) (M+j) wr/\(∀u ls,Ns w2 u ls->Ns wr u ls))) (fun x _=>J-(intOf x).toNat);case atStart=>exact⟨0,rfl,by omega,hst⟩
   case round=>
    obtain⟨j,rfl,hj,hS⟩:=hrel;clear hst
    by_cases hlj:j<J
    ·have hjI:(j:Int)<(J:Int):=by omega
     have hj0:(0:Int)<=(j:Int):=by omega
     obtain⟨g2,off,cs,rfl,_,hrow,hcs⟩:=q4.o (by omega)
     obtain⟨b,hb⟩:∃b,bl[j]?=some b:=⟨_,List.getElem?_eq_getElem (by rw[hbl'.o,<-hJ.o];exact hlj)⟩
     obtain⟨cb,hbk⟩:=hsub.o b (List.mem_of_getElem? hb);have hU:=hS.o.1;have hNw:=hS.o.2;have cj:=(hrow.new hU.nw).cell (off+j);rw[hcs j b hb]at cj;have hbw:=hbk.new hU.nw;obtain⟨L,hPM,hLk,hLv⟩:=hU.pm;have hkb:=hU.keys hLk;have c0:=hU.sb.cell 0;simp at c0;have hl1:=i_n hPM hbw hkb;have htk:Hid (r_ OUT (bl.take (j+1))=e_Q (r_ OUT (bl.take j)) b):=by
      show _=_;rw[List.take_add_one,hb,c_q];rfl
     obtain⟨O,hO⟩:∃O,Hid (O=r_ OUT (bl.take j)):=⟨_,rfl⟩;rw[<-hO.o]at htk hU hLk;have htk1:b∈O->e_Q O b=O:=fun h=>if_pos h;have htk2:b ∉ O->e_Q O b=O++[b]:=fun h=>if_neg h;have hkn:=hU.kn;have hln:=hU.ln;have hge:=hU.ge;have hnw:=hU.nw;have hsb:=hU.sb;obtain⟨v,hox,hrv⟩:=hU.ob;have hne:sx≠ox:=e_ hsb hox (by decide)
     have hmx:m≠sx:=hPM.ne_blk hsb;have hmo:m≠ox:=hPM.ne_blk hox;have hmv:v.ownBlock≠some m:=hPM.ne_own hrv
     by_cases hin:b∈O
     ·obtain⟨k,hk1,hk2,hk3⟩:∃k:Nat,a_n L b=some (.int .i64 k)/\1<=k/\k<=M+j:=by
       cases hq:a_n L b with
       |none=>exact absurd ((hLk b).2 hin) (c_8.1 hq)
       |some u=>obtain⟨k,e1,e2,e3⟩:=hLv b u hq;exact⟨k,by rw[e1],e2,e3⟩
      rw[hk1,Option.getD_some]at hl1;obtain⟨w5,hup,hP5,hA5⟩:=p_4 hPM hbw hkb (.int .i64 ((k+1:Nat):Int));have e5:((k+1:Nat):Int)=(k:Int)+1:=by omega
      have hk5:b_O w5 (b_2 L b (.int .i64 ((k+1:Nat):Int))):=fun p hp=>by
       have h1:p.1∈(b_2 L b (.int .i64 ((k+1:Nat):Int))).map (·.1):=List.mem_map_of_mem hp;rw[c_7 _ hk1]at h1;obtain⟨cs',h2⟩:=hkn _ ((hLk _).1 h1);exact⟨_,cs',hA5.blk (h2.new hnw) fun e=>by have:=h2.lt;omega⟩
      have hl5:=i_n hP5 (hA5.blk hbw fun e=>by have:=hbk.lt;omega) hk5
      rw[a_l,Option.getD_some]at hl5;rw[e5]at hup hl5;have c5:=hA5.cell c0 (Ne.symm hmx);have hkI:((k:Int)+1==1)=false:=by simp;omega
      have hfin:Hid (US w0 sx ox m (r_ OUT (bl.take (j+1))) (M+(j+1)) w5/\(∀u ls,Ns w2 u ls->Ns w5 u ls)):=by
       refine⟨?_,fun u ls hh=>(hNw u ls hh).alt hA5 fun gg cs hg e=>hPM.ne_blk (by rw[e]at hg;exact hg) rfl⟩
       rw[htk.o,htk1 hin];refine⟨⟨hA5.os.trans hnw.os,hA5.tape.trans hnw.tape,hA5.output.trans hnw.output,Nat.le_trans hnw.size hA5.size,fun q hq=>(hA5.same q (Nat.lt_of_lt_of_le hq hnw.size) (fun e=>by omega)).trans (hnw.block q hq)⟩,hA5.blk hsb (Ne.symm hmx),hge,⟨_,hP5,fun x=>by rw[c_7 _ hk1];exact hLk x,fun x u hx=>?_⟩,⟨v,hA5.blk hox (Ne.symm hmo),hA5.own hrv fun q hq e=>by subst e;exact hmv hq⟩,hkn,by omega⟩
       by_cases e:x=b
       ·subst e
        rw[a_l]at hx;cases hx;exact⟨k+1,rfl,by omega,by omega⟩
       ·rw[a_M e]at hx
        obtain⟨k',e1,e2,e3⟩:=hLv x u hx;exact⟨k',e1,e2,by omega⟩
      clear hU hS hNw hPM hLk hLv hkb htk htk1 htk2 hkn hge hnw hsb hox hrv hP5 hk5 hA5;go_wp2;go_roundw;case rel=>exact⟨j+1,by go_num,by omega,hfin⟩
      case measure=>simp[intOf];omega
     ·have hk1:a_n L b=none:=by
       cases hq:a_n L b with
       |none=>rfl
       |some u=>exact absurd ((hLk b).1 (by
                  refine Classical.byContradiction fun h=>?_;rw[c_8.2 h]at hq;cases hq)) hin
      rw[hk1,Option.getD_none]at hl1;obtain⟨w5,hup,hP5,hA5⟩:=p_4 hPM hbw hkb (.int .i64 1);have hput:=c_6 (.int .i64 1) hk1;have hk5:b_O w5 (b_2 L b (.int .i64 1)):=fun p hp=>by
       rw[hput]at hp;rcases List.mem_append.1 hp with hp|hp
       ·obtain⟨cs',h2⟩:=hkn _ ((hLk _).1 (List.mem_map_of_mem hp))
        exact⟨_,cs',hA5.blk (h2.new hnw) fun e=>by have:=h2.lt;omega⟩
       ·rw[List.mem_singleton]at hp
        subst hp;exact⟨_,cb,hA5.blk hbw fun e=>by have:=hbk.lt;omega⟩
      have hl5:=i_n hP5 (hA5.blk hbw fun e=>by have:=hbk.lt;omega) hk5
      rw[a_l,Option.getD_some]at hl5;have c5:=hA5.cell c0 (Ne.symm hmx);have hox5:=Hd (hA5.blk hox (Ne.symm hmo));have hr5:=Hd (hA5.own hrv fun q hq e=>by subst e;exact hmv hq)
      have d5:=hox5.o.cell 0;have f5:=hox5.o.frozen 0;simp at d5;obtain⟨Rv,kv,rfl⟩:=j_ hrv;obtain⟨z,hz⟩:∃z,Hid (z=O.length):=⟨_,rfl⟩;rw[<-hz.o]at d5 hr5 hox5;have hz5:z<=100000:=by rw[hz.o];omega
      have hsz5:Hid (w0.heap.size<=w5.heap.size):=Nat.le_trans hnw.size hA5.size;obtain⟨i1,hi1,hz0,hz1,hz2⟩:=info_parts d_f;have hkeep:Hid (∀g6 c6 w6,w6.ownsRow w0.heap.size 112 1 (.slice (some ⟨g6,0,none⟩) (z+1) c6) (z+1) (a_2 O++[ptr b])->(w5.alloc (.cells #[ptr b] 112)).grownBy w6 (Value.slice Rv z kv).ownBlock->Blk w6 ox 98 #[.slice Rv z kv]/\US w0 sx ox m (r_ OUT (bl.take (j+1))) (M+(j+1)) (w6.setCell ⟨ox,0,none⟩ (.slice (some ⟨g6,0,none⟩) (z+1) c6))/\∀u ls,Ns w2 u ls->Ns (w6.setCell ⟨ox,0,none⟩ (.slice (some ⟨g6,0,none⟩) (z+1) c6)) u ls):=fun g6 c6 w6 ho6 hg6=>by
       have hr5':=hr5.o;have hvo:(Value.slice Rv z kv).ownBlock≠some ox:=b_ hr5' hox5.o (by decide)
       have hvs:(Value.slice Rv z kv).ownBlock≠some sx:=b_ hr5' (hA5.blk hsb (Ne.symm hmx)) (by decide)
       have hvm:(Value.slice Rv z kv).ownBlock≠some m:=hP5.ne_own hr5';have hA6:Alt (fun k=>(Value.slice Rv z kv).ownBlock=some k) w5 w6:=((Alt.refl w5).alloc _).grown hg6 fun r e=>.inl e;have hA7:Alt (fun k=>(Value.slice Rv z kv).ownBlock=some k\/k=ox) w5 (w6.setCell ⟨ox,0,none⟩ (.slice (some ⟨g6,0,none⟩) (z+1) c6)):=(hA6.weak fun k hk=>.inl hk).set (.inl (.inr rfl)) _;have hb6:=hA6.blk hox5.o hvo;have hA56:Alt (fun k=>k=m\/(Value.slice Rv z kv).ownBlock=some k\/k=ox) wr (w6.setCell ⟨ox,0,none⟩ (.slice (some ⟨g6,0,none⟩) (z+1) c6)):=(hA5.weak fun k hk=>.inl hk).trans (hA7.weak fun k hk=>.inr hk);have hvg:∀q,(Value.slice Rv z kv).ownBlock=some q->w0.heap.size<=q:=fun q hq=>(hr5'.lt q hq).1;have hnl:O.length+1=(O++[b]).length:=by simp
       refine⟨hb6,?_,fun u ls hh=>(hNw u ls hh).alt hA56 fun gg cs hg e=>?_⟩
       ·rw[htk.o,htk2 hin]
        refine⟨⟨hA56.os.trans hnw.os,hA56.tape.trans hnw.tape,hA56.output.trans hnw.output,Nat.le_trans hnw.size hA56.size,fun q hq=>(hA56.same q (Nat.lt_of_lt_of_le hq hnw.size) (fun e=>?_)).trans (hnw.block q hq)⟩,hA7.blk (hA5.blk hsb (Ne.symm hmx)) (fun e=>e.elim (fun e=>hvs e) fun e=>hne e),hge,⟨_,hP5.alt hA7 (fun e=>e.elim (fun e=>hvm e) fun e=>hmo e),fun x=>?_,fun x u hx=>?_⟩,⟨_,(by simpa using hb6.put 0 (.slice (some ⟨g6,0,none⟩) (z+1) c6)),?_⟩,fun x hx=>?_,by rw[List.length_append];simp;omega⟩
        ·         rcases e with e|e|e
                  ·omega
                  ·have:=hvg q e;omega
                  ·omega
        ·         rw[hput,List.map_append,List.mem_append,List.mem_append,hLk x]
                  simp
        ·         by_cases e:x=b
                  ·subst e
                   rw[a_l]at hx;cases hx;exact⟨1,rfl,by omega,by omega⟩
                  ·rw[a_M e]at hx
                   obtain⟨k',e1,e2,e3⟩:=hLv x u hx;exact⟨k',e1,e2,by omega⟩
        ·         have h9:=Alt.own (Alt.set (K:=fun k=>k=ox) (Alt.refl w6) (.inl rfl) (k:=0) (.slice (some ⟨g6,0,none⟩) (z+1) c6)) ho6 fun q hq e=>by
                   subst e;exact b_ ho6 hb6 (by decide) hq
                  rw[<-hnl,<-hz.o];rw[a_2,List.map_append];exact h9
        ·         rcases List.mem_append.1 hx with hx|hx
                  ·exact hkn x hx
                  ·rw[List.mem_singleton]at hx
                   subst hx;exact⟨cb,hbk⟩
       ·rcases e with e|e|e
        ·exact hPM.ne_blk (by rw[e]at hg;exact hg) rfl
        ·exact b_ hr5' (hA5.blk hg fun h=>hPM.ne_blk (by rw[h]at hg;exact hg) rfl) (by decide) e
        ·exact e_ hg hox (by decide) e
      clear hU hS hNw hPM hLk hLv hkb htk htk1 htk2 hkn hge hnw hsb hox hrv hP5 hk5 hA5 hput;go_wp2_with (first
       |(        at_builtin;refine wpList_append_lies _ rfl (.tmp 35) (.tmp 37) 98 rfl w0.heap.size 112 i1 _ 1 8 underlying98 hi1 hz0 hz1 hz2 rfl (by decide) (.slice Rv z kv) z (a_2 O) rfl (hr5.o.alloc _) ⟨w5.heap.size,0,none⟩ 1 1 [ptr b] rfl rfl (World.news_of_block (cs:=#[ptr b]) (t:=112) (fr:=(0,0)) (heap_alloc_new w5 _)) (by simp[Value.oneCell']) (by omega) (by unfold maxLen;omega) (by omega) (by have:=hsz5.o;simp;omega) _ rfl ?_
                 intro g6 c6 w6 ho6 hg6 ha6 hl6;obtain⟨hb6,hfin⟩:=hkeep.o g6 c6 w6 ho6 hg6;have hfin:=Hd hfin;have d6:=hb6.cell 0;have f6:=hb6.frozen 0;simp at d6;clear ho6 hg6 ha6 hl6 hb6))
      go_roundw;case rel=>exact⟨j+1,by go_num,by omega,hfin⟩
      case measure=>simp[intOf];omega
    ·obtain rfl:j=J:=by omega
     have hjI:¬(j:Int)<(j:Int):=by omega
     have hfin:Hid (US w0 sx ox m (r_ out (gBl (l.take (i+1)))) (n+(gBl (l.take (i+1))).length) wr/\(∀u ls,Ns w2 u ls->Ns wr u ls)):=by
      have h:=hS.o;rw[List.take_of_length_le (by rw[hbl'.o,hJ.o];exact Nat.le_refl _)]at h
      rw[hnx.o];refine⟨?_,h.2⟩;rw[c_q,<-hOUT.o,List.length_append,<-Nat.add_assoc,<-hM.o,<-hbl'.o,hbl'.o,<-hJ.o,<-hbl'.o];exact h.1
     clear hS hjI;go_wp2;go_roundw;case rel=>exact⟨i+1,by go_num,by omega,hfin.o.1,hfin.o.2⟩
     case measure=>simp[intOf];omega
  ·obtain rfl:i=T:=by omega
   have hiI:¬(i:Int)<(i:Int):=by omega
   have hfin:Hid (US w0 sx ox m (r_ out (gBl l)) (n+(gBl l).length) wr):=by
    have h:=hU.o;rw[List.take_of_length_le (by rw[hT.o];exact Nat.le_refl _)]at h
    exact h
   clear hU;go_wp2;exact Great.bodyPost_end0 rfl rfl ⟨rfl,hfin.o,fun u ls hh=>hNr.o u ls (hh.new hN2.o)⟩
structure GSm(g:GS):Prop where
 th:g.ths.length<=100
 sh:g.shs.length<=100
 tn:∀p,p∈g.ths->p.1.length<=100
 sn:∀p,p∈g.shs->p.1.length<=100/\p.2.length<=100/\∀q,q∈p.2->q.1.length<=100
 al:g.all.length<=100000
theorem all_any(av sb xb yb c:Nat)(o:Nat->Nat)(g:GS)(w:World)(hv:w.cell? ⟨av,9,none⟩=some (ptr sb))(h:PlM av sb xb yb c o g w)(hg:GSm g)(hbl:∀b,b∈g.all->∃cs,Blk w b 115 cs) :
  Calls prog 39 #[ptr av] w fun e w'=>∃v,e=.returned v/\w'.ownsRow w.heap.size 112 1 v (r_ [] g.all).length (a_2 (r_ [] g.all))/\New w w':=by
 obtain⟨B,hB⟩:∃B,Hid (B=w.heap.size):=⟨_,rfl⟩;obtain⟨W1,hW1⟩:∃W1,W1=((w.alloc (.cells #[.slice none 0 0] 98)).alloc (.map #[] 0)).alloc (.cells #[.map (some (w.heap.size+1))] 163):=⟨_,rfl⟩;have hU1:Hid (US w (B+1+1) B (B+1) [] 0 W1):=by
  rw[hW1,hB.o];have s1:(w.alloc (.cells #[.slice none 0 0] 98)).heap.size=w.heap.size+1:=by simp
  have s2:((w.alloc (.cells #[.slice none 0 0] 98)).alloc (.map #[] 0)).heap.size=w.heap.size+2:=by simp
  have n1:New w (((w.alloc (.cells #[.slice none 0 0] 98)).alloc (.map #[] 0)).alloc (.cells #[.map (some (w.heap.size+1))] 163)):=(((New.refl w).alloc _).alloc _).alloc _;have b3:=Blk.fresh ((w.alloc (.cells #[.slice none 0 0] 98)).alloc (.map #[] 0)) 163 #[.map (some (w.heap.size+1))];rw[s2]at b3;have b1:Blk (((w.alloc (.cells #[.slice none 0 0] 98)).alloc (.map #[] 0)).alloc (.cells #[.map (some (w.heap.size+1))] 163)) w.heap.size 98 #[.slice none 0 0]:=((Blk.fresh w _ _).alloc _).alloc _;have m2:=PM.made (w.alloc (.cells #[.slice none 0 0] 98));rw[s1]at m2;have m3:PM (((w.alloc (.cells #[.slice none 0 0] 98)).alloc (.map #[] 0)).alloc (.cells #[.map (some (w.heap.size+1))] 163)) (w.heap.size+1) []:=m2.alt (K:=fun _=>False) ((Alt.refl _).alloc _) fun f=>f;refine⟨n1,b3,⟨by omega,by omega,by omega⟩,⟨[],m3,fun b=>by simp,fun b v hb=>(by cases hb)⟩,⟨_,b1,World.ownsRow_nil _ _ _ _⟩,fun b hb=>(by cases hb),Nat.le_refl _⟩
 obtain⟨eb,hbk,_,_⟩:=h.bk;have hom:=Hd h.om;have hnm:=Hd h.nm;have hgH:=Hd hg;have hblH:=Hd hbl;have hbkH:=Hd hbk;have hkeep:Hid (∀w',New w w'->w'.cell? ⟨av,9,none⟩=some (ptr sb)/\w'.cell? ⟨sb,0,none⟩=some (.map (some xb))/\w'.cell? ⟨sb,1,none⟩=some (.map (some yb))):=fun w' hn=>⟨(hn.cell (a_ hv)).trans hv,(hbk.new hn).cell 0,(hbk.new hn).cell 1⟩;have hlth:Hid ((gBl g.ths).length<=100000/\(gBl g.ths).length+(g.shs.flatMap fun p=>gBl p.2).length<=100000):=by
  have:=hg.al;unfold GS.all at this;rw[List.length_append]at this;exact⟨by omega,this⟩
 obtain⟨k0,k1,k2⟩:=hkeep.o W1 hU1.o.nw;have hadd:=Hd (n_2 av o c xb g.ths w W1 (B+1+1) B (B+1) 0 [] hU1.o hom.o hg.th hg.tn (fun b hb=>hbl b (List.mem_append.2 (.inl hb))) (by have:=hlth.o.1;omega))
 have hmk:(Instr.makeMap 163 none).run prog (w.alloc (.cells #[.slice none 0 0] 98))=.ok (.map (some (w.heap.size+1))) ((w.alloc (.cells #[.slice none 0 0] 98)).alloc (.map #[] 0)):=by
  have:=run_makeMap (P:=prog) 163 (w.alloc (.cells #[.slice none 0 0] 98));rw[show(w.alloc (.cells #[.slice none 0 0] 98)).heap.size=w.heap.size+1 by simp]at this
  exact this
 clear h hbk hg hbl hv;go_enter func39,ntmps39;go_upto_region 4 with fail;rw[<-hW1]
 try simp only[<-hB.o]
 clear hW1 hmk;go_wp2_with fail;refine hadd.o.mono ?_;rintro e w1 ⟨rfl,hU,_⟩;rw[Nat.zero_add]at hU;have hUH:=Hd hU;obtain⟨k3,k4,k5⟩:=hkeep.o w1 hU.nw;have hmw:MP (SnV av xb yb c o w) w1 yb c g.shs:=hnm.o.new hU.nw fun _ _ _ _ h=>h;have hk:=Hd (l_4 (some yb) w1);have hs:=Hd (j_4 yb c g.shs w1 hmw (by have:=hgH.o.sh;omega))
 clear hadd hU hmw k0 k1 k2;go_wp2_with fail;refine hk.o.mono ?_;rintro e w2 ⟨rfl,rfl⟩;go_wp2_with fail;refine hs.o.mono ?_;rintro e w3 ⟨v,rfl,hN,hn2⟩;have hN2:Hid (New w1 w3):=New.of_alloc hn2;obtain⟨N,cN,rfl,hc1,hc2,hc3,hc4⟩:=h_ hN;have hNs:=Hd hN;have hU2:=Hd (hUH.o.new hN2.o);obtain⟨T,hT⟩:∃T,Hid (T=g.shs.length):=⟨_,rfl⟩;have hT100:T<=100:=by rw[hT.o];exact hgH.o.sh
 have hlm:(g.shs.map (·.1)).length=T:=by rw[List.length_map,hT.o]
 rw[hlm]at hc1 hc3 hNs ⊢;obtain⟨OUT,hOUT⟩:∃OUT,Hid (OUT=r_ [] (gBl g.ths)):=⟨_,rfl⟩;obtain⟨M,hM⟩:∃M,Hid (M=(gBl g.ths).length):=⟨_,rfl⟩;rw[<-hOUT.o,<-hM.o]at hU2;clear hk hs hn2 hN hc4 hUH hlm k3 k4 k5;go_wp2_with fail;go_loopw [29] (fun x wr=>∃i:Nat,x=.int .i64 i/\i<=T/\Hid (US w (B+1+1) B (B+1) (r_ OUT ((g.shs.take i).flatMap fun p=>gBl p.2)) (M+((g.shs.take i).flatMap fun p=>gBl p.2).length) wr)/\Hid (Ns wr (.slice N T cN) (g.shs.map (·.1)))) (fun x _=>T-(intOf x).toNat);case atStart=>exact⟨0,rfl,by omega,by simpa [r_]using hU2,hNs⟩
 case round=>
  obtain⟨i,rfl,hi,hU,hNr⟩:=hrel;clear hU2 hNs hN2
  by_cases hlt:i<T
  ·have hiI:(i:Int)<(T:Int):=by omega
   have hi0:(0:Int)<=(i:Int):=by omega
   obtain⟨gn,rfl,_⟩:=hc3 (by omega)
   obtain⟨nm,og,hli⟩:∃nm og,g.shs[i]?=some (nm,og):=⟨_,_,List.getElem?_eq_getElem (by rw[<-hT.o];exact hlt)⟩
   have ci:=World.ownsRow.cells hNr.o rfl i (encStr nm) (by simp[hli])
   rw[i_,Nat.zero_add]at ci;have hmem:=List.mem_of_getElem? hli;obtain⟨hn1,hn2,hn3⟩:=hgH.o.sn (nm,og) hmem;obtain⟨v1,hlk,hob⟩:=m_s (hnm.o.new hU.o.nw (rd':=SnV av xb yb c o w) fun _ _ _ _ h=>h) underlying151 (z:=.map none) (by rfl) (x:=nm) (by have:nm.length<=100:=hn1;unfold maxLen;omega) (get_mem hnm.o.1 hmem)
   obtain⟨mb,rfl,_,_,_,hmb⟩:=hob;obtain⟨k0,k1,k2⟩:=hkeep.o wr hU.o.nw;have htk:(g.shs.take (i+1)).flatMap (fun p=>gBl p.2)=(g.shs.take i).flatMap (fun p=>gBl p.2)++gBl og:=by
    rw[List.take_add_one,hli,List.flatMap_append];simp
   have hlen:((g.shs.take i).flatMap fun p=>gBl p.2).length+(gBl og).length<=(g.shs.flatMap fun p=>gBl p.2).length:=by
    have h1:(g.shs.flatMap fun p=>gBl p.2)=(g.shs.take (i+1)).flatMap (fun p=>gBl p.2)++(g.shs.drop (i+1)).flatMap (fun p=>gBl p.2):=by rw[<-List.flatMap_append,List.take_append_drop]
    rw[h1,htk,List.length_append,List.length_append];omega
   have hadd:=Hd (n_2 av o c mb og w wr (B+1+1) B (B+1) _ _ hU.o hmb hn2 hn3 (fun b hb=>hblH.o b (List.mem_append.2 (.inr (List.mem_flatMap.2 ⟨_,hmem,hb⟩)))) (by have:=hlth.o.2;rw[hM.o];omega))
   rw[<-c_q,Nat.add_assoc M,<-List.length_append,<-htk]at hadd;have hNrH:=hNr;clear hU hNr htk hlen hmb hn1 hn2 hn3 hmem hc3;go_wp2_with fail;refine hadd.o.mono ?_;rintro e w4 ⟨rfl,hU4,hst⟩;have hU4:=Hd hU4;have hN4:=Hd (hst _ _ hNrH.o);clear hst hadd;go_wp2;go_roundw;case rel=>exact⟨i+1,by go_num,by omega,hU4,hN4⟩
   case measure=>simp[intOf];omega
  ·obtain rfl:i=T:=by omega
   have hiI:¬(i:Int)<(i:Int):=by omega
   have hU8:=hU.o;rw[List.take_of_length_le (by rw[hT.o];exact Nat.le_refl _),hOUT.o,<-c_q]at hU8
   obtain⟨v,hvb,hvo⟩:=hU8.ob;have hfin:Hid (wr.ownsRow w.heap.size 112 1 v (r_ [] g.all).length (a_2 (r_ [] g.all))/\New w wr):=⟨hvo,hU8.nw⟩;have cv:=hvb.cell 0;simp at cv;clear hU hNr hU8 hvb hvo;go_wp2;go_ret;exact⟨v,rfl,hfin.o⟩
end vault
end Go.Proofs.YtojcoaekhiadcaaGreat
