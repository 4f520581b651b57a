import Derived.Test.YtojcoaekhiadcaaGreatA01
import Derived.Test.YtojcoaekhiadcaaGreatA32
import Derived.Great.Walk
import Derived.Deep.CutRange
import Derived.Deep.AppendLies
import Derived.Test.YtojcoaekhiadcaaGreatA02
import Derived.Test.YtojcoaekhiadcaaGreatA13
import Derived.Deep.RegionHeld3
import Derived.Shelf.RegionOpen
import Derived.Test.YtojcoaekhiadcaaGreatA31
import Derived.Test.YtojcoaekhiadcaaGreatA20
import Derived.Test.YtojcoaekhiadcaaGreatA29
set_option linter.unusedSectionVars false
set_option linter.unusedVariables false
set_option linter.unusedSimpArgs false
namespace Go.Proofs.YtojcoaekhiadcaaGreat
open Tryz Go.RowKit
namespace top
set_option maxRecDepth 100000
open Go.ChangeShapes Go.WideShapes Go.ChangeAt kit pool vault Go.Deep
theorem m_k{w:World}{v:Value}{l:List pool.Nm}(h:Ns w v l):∃A c,v=.slice A l.length c/\l.length<=maxLen/\(0<l.length->∃b off,A=some ⟨b,off,none⟩/\b<w.heap.size/\∀i,i<l.length->w.cell? ⟨b,off+i,none⟩=some (encStr (l.getD i []))):=by
 obtain⟨A,c,rfl,h1,h2,h3,h4⟩:=h_ h;refine⟨A,c,rfl,by omega,fun h0=>?_⟩
 obtain⟨g,e,_,hl⟩:=h3 h0;refine⟨g,0,e,hl,fun i hi=>?_⟩;rw[Nat.zero_add];refine h4 g e i _ ?_;rw[List.getElem?_map,List.getElem?_eq_getElem hi,List.getD,List.getElem?_eq_getElem hi];rfl
abbrev tdV(t:Td)(d n:Value):Value:=.agg #[.int .i64 t.code,.bool false,.int .i64 (t.size:Nat),d,n]
set_option maxHeartbeats 2000000 in
theorem k_d(t:Td)(da db na nb:Value)(w:World)(h1:Bs w da t.dat)(h2:Bs w db t.dat)(h3:Ns w na t.names)(h4:Ns w nb t.names) :
  Calls prog 11 #[tdV t da na,tdV t db nb] w fun e w'=>e=.returned (.bool true)/\New w w':=by
 obtain⟨A1,c1,rfl,_,_,_,r1⟩:=h1.read;obtain⟨A2,c2,rfl,_,_,_,r2⟩:=h2.read;obtain⟨A3,c3,rfl,hl,r3⟩:=m_k h3;obtain⟨A4,c4,rfl,_,r4⟩:=m_k h4;clear h1 h2 h3 h4;have hb:=Hd (fun w' (hn:New w w')=>i_a A1 A2 t.dat.n c1 c2 _ _ w' (r1.new hn) (r2.new hn) fun _ _=>rfl);have ht:=Hd (fun w' (hn:New w w')=>i_9 A3 A4 t.names.length c3 c4 (fun i=>t.names.getD i []) w' hl (fun h0=>by
  obtain⟨b,off,e,h5,h6⟩:=r3 h0;exact⟨b,off,e,Nat.lt_of_lt_of_le h5 hn.size,fun i hi=>(hn.cell h5).trans (h6 i hi)⟩) (fun h0=>by
  obtain⟨b,off,e,h5,h6⟩:=r4 h0;exact⟨b,off,e,Nat.lt_of_lt_of_le h5 hn.size,fun i hi=>(hn.cell h5).trans (h6 i hi)⟩))
 clear r1 r2 r3 r4 hl;obtain⟨x1,hx1⟩:∃x,Hid (x=t.code):=⟨_,rfl⟩;obtain⟨x2,hx2⟩:∃x,Hid (x=t.size):=⟨_,rfl⟩;obtain⟨x3,hx3⟩:∃x,Hid (x=t.dat.n):=⟨_,rfl⟩;obtain⟨x4,hx4⟩:∃x,Hid (x=t.names.length):=⟨_,rfl⟩;rw[<-hx3.o]at hb ⊢;rw[<-hx4.o]at ht ⊢;show Calls _ _ #[.agg #[.int .i64 t.code,.bool false,.int .i64 (t.size:Nat),_,_],.agg #[.int .i64 t.code,.bool false,.int .i64 (t.size:Nat),_,_]] _ _;rw[<-hx1.o,<-hx2.o];obtain⟨W1,hW1⟩:∃W1,W1=(w.alloc (.cells #[.int .i64 x1,.bool false,.int .i64 (x2:Nat),.slice A1 x3 c1,.slice A3 x4 c3] 38)).alloc (.cells #[.int .i64 x1,.bool false,.int .i64 (x2:Nat),.slice A2 x3 c2,.slice A4 x4 c4] 38):=⟨_,rfl⟩;have hn1:New w W1:=by rw[hW1];exact((New.refl w).alloc _).alloc _
 have k1:Blk W1 w.heap.size 38 #[.int .i64 x1,.bool false,.int .i64 (x2:Nat),.slice A1 x3 c1,.slice A3 x4 c3]:=by rw[hW1];exact(Blk.fresh _ _ _).alloc _
 have k2:Blk W1 (w.heap.size+1) 38 #[.int .i64 x1,.bool false,.int .i64 (x2:Nat),.slice A2 x3 c2,.slice A4 x4 c4]:=by
  have:w.heap.size+1=(w.alloc (.cells #[.int .i64 x1,.bool false,.int .i64 (x2:Nat),.slice A1 x3 c1,.slice A3 x4 c3] 38)).heap.size:=by rw[World.size_alloc]
  rw[hW1,this];exact Blk.fresh _ _ _
 go_enter func11,ntmps11;go_wp2_with fail;rw[<-hW1];refine(hb.o W1 hn1).mono ?_;rintro e w2 ⟨rfl,hn2⟩;have v1:=(k1.new hn2).cell 4;have v2:=(k2.new hn2).cell 4;simp at v1 v2;have hc:=Hd (ht.o w2 (New.next hn1 hn2));have hn:=Hd (New.next hn1 hn2);clear hb ht k1 k2 hn1 hn2 hW1;go_wp2_with fail;refine hc.o.mono ?_;rintro e w3 ⟨rfl,hn3⟩;go_wp2_with fail;go_ret;exact⟨rfl,New.next hn.o hn3⟩
end top
namespace top
set_option maxRecDepth 100000
open Go.ChangeShapes Go.WideShapes Go.ChangeAt kit pool Go.Deep
def k_T:List Nm:=[[97],[98],[99,51],[122,122],[101]]
def k_F:List Nm:=[[115],[116],[117,48],[118]]
def d_Z(n:Int):Nm:=k_T.getD (n%5).toNat []
def d_W(n:Int):Nm:=k_F.getD (n%4).toNat []
theorem g_9(n:Int)(w:World)(hn:I64 n) :
  Calls prog 33 #[.int .i64 n] w fun e w'=>e=.returned (encStr (d_Z n))/\New w w':=by
 have h1:=Hd (fun w=>a_F n 5 w (by omega) (by omega) hn)
 replace h1:Hid (∀w,_):=h1;have hb1:0<=n%5:=by omega
 have hb2:n%5<5:=by omega
 obtain⟨k,hk⟩:∃k:Nat,n%5=(k:Int):=⟨(n%5).toNat,by omega⟩
 have hk5:k<5:=by omega
 have hT:Hid (encStr (d_Z n)=encStr (k_T.getD k [])):=by
  show _=_;unfold d_Z;rw[hk];rfl
 rw[hk]at h1 hb1 hb2;rw[hT.o];obtain⟨V,hV⟩:∃V,Hid (V=encStr (k_T.getD k [])):=⟨_,rfl⟩;rw[<-hV.o];obtain⟨W1,hW1⟩:∃W1,W1=w.alloc (.cells #[.string {data:=#[97]},.string {data:=#[98]},.string {data:=#[99,51]},.string {data:=#[122,122]},.string {data:=#[101]}] 9):=⟨_,rfl⟩;have hn1:Hid (New w W1):=by show New w W1;rw[hW1];exact(New.refl w).alloc _
 have hc:Hid (W1.cell? ⟨w.heap.size,k,none⟩=some V):=by
  have h:=(Blk.fresh w 9 #[.string {data:=#[97]},.string {data:=#[98]},.string {data:=#[99,51]},.string {data:=#[122,122]},.string {data:=#[101]}]).cell k;rw[<-hW1]at h;show _=_;rw[h,hV.o]
  match k,hk5 with
  |0,_=>rfl
  |1,_=>rfl
  |2,_=>rfl
  |3,_=>rfl
  |4,_=>rfl
 have hlt:=a_ hc.o;clear hk hn hk5;go_enter func33,ntmps33;go_wp2_with fail;rw[<-hW1];clear hW1;refine(h1.o W1).mono ?_;rintro e w2 ⟨rfl,hn2⟩;have c2:=(hn2.cell hlt).trans hc.o;have hn2:=Hd (hn1.o.next hn2);go_wp2;go_ret;exact⟨rfl,hn2.o⟩
theorem i_7(n:Int)(w:World)(hn:I64 n) :
  Calls prog 34 #[.int .i64 n] w fun e w'=>e=.returned (encStr (d_W n))/\New w w':=by
 have h1:=Hd (fun w=>a_F n 4 w (by omega) (by omega) hn)
 replace h1:Hid (∀w,_):=h1;have hb1:0<=n%4:=by omega
 have hb2:n%4<4:=by omega
 obtain⟨k,hk⟩:∃k:Nat,n%4=(k:Int):=⟨(n%4).toNat,by omega⟩
 have hk5:k<4:=by omega
 have hT:Hid (encStr (d_W n)=encStr (k_F.getD k [])):=by
  show _=_;unfold d_W;rw[hk];rfl
 rw[hk]at h1 hb1 hb2;rw[hT.o];obtain⟨V,hV⟩:∃V,Hid (V=encStr (k_F.getD k [])):=⟨_,rfl⟩;rw[<-hV.o];obtain⟨W1,hW1⟩:∃W1,W1=w.alloc (.cells #[.string {data:=#[115]},.string {data:=#[116]},.string {data:=#[117,48]},.string {data:=#[118]}] 9):=⟨_,rfl⟩;have hn1:Hid (New w W1):=by show New w W1;rw[hW1];exact(New.refl w).alloc _
 have hc:Hid (W1.cell? ⟨w.heap.size,k,none⟩=some V):=by
  have h:=(Blk.fresh w 9 #[.string {data:=#[115]},.string {data:=#[116]},.string {data:=#[117,48]},.string {data:=#[118]}]).cell k;rw[<-hW1]at h;show _=_;rw[h,hV.o]
  match k,hk5 with
  |0,_=>rfl
  |1,_=>rfl
  |2,_=>rfl
  |3,_=>rfl
 have hlt:=a_ hc.o;clear hk hn hk5;go_enter func34,ntmps34;go_wp2_with fail;rw[<-hW1];clear hW1;refine(h1.o W1).mono ?_;rintro e w2 ⟨rfl,hn2⟩;have c2:=(hn2.cell hlt).trans hc.o;have hn2:=Hd (hn1.o.next hn2);go_wp2;go_ret;exact⟨rfl,hn2.o⟩
theorem infoU8:(prog.info? 5).map (fun i=>(i.zero,i.size,i.bytes))=some (some (.int .u8 0),1,1):=by kernel_rfl
def e_6:List Int:=[1,2,3,4,5,6,7,8,9,10,11,12,1,2,2,2,3,8,4,4,2,3]
def Kds(w:World)(g:Nat):Prop:=g<w.heap.size/\∀i,i<22->w.cell? ⟨g,i,none⟩=some (.int .i64 (e_6.getD i 0))
theorem Kds.new{w w':World}{g:Nat}(h:Kds w g)(hn:New w w'):Kds w' g:=⟨Nat.lt_of_lt_of_le h.1 hn.size,fun i hi=>(hn.cell (p:=⟨g,i,none⟩) h.1).trans (h.2 i hi)⟩
theorem p_L:∀i,i<22->1<=e_6.getD i 0/\e_6.getD i 0<=12:=by decide
theorem i_S(w:World) :
  Calls prog 8 #[] w fun e w'=>∃g,e=.returned (.slice (some ⟨g,0,none⟩) 22 22)/\Kds w' g/\New w w':=by
 obtain⟨W1,hW1⟩:∃W1,W1=w.alloc (.cells #[.int .i64 1,.int .i64 2,.int .i64 3,.int .i64 4,.int .i64 5,.int .i64 6,.int .i64 7,.int .i64 8,.int .i64 9,.int .i64 10,.int .i64 11,.int .i64 12,.int .i64 1,.int .i64 2,.int .i64 2,.int .i64 2,.int .i64 3,.int .i64 8,.int .i64 4,.int .i64 4,.int .i64 2,.int .i64 3] 3):=⟨_,rfl⟩;have hb:Blk W1 w.heap.size 3 #[.int .i64 1,.int .i64 2,.int .i64 3,.int .i64 4,.int .i64 5,.int .i64 6,.int .i64 7,.int .i64 8,.int .i64 9,.int .i64 10,.int .i64 11,.int .i64 12,.int .i64 1,.int .i64 2,.int .i64 2,.int .i64 2,.int .i64 3,.int .i64 8,.int .i64 4,.int .i64 4,.int .i64 2,.int .i64 3]:=by rw[hW1];exact Blk.fresh w _ _
 have hn1:Hid (New w W1):=by show New w W1;rw[hW1];exact(New.refl w).alloc _
 have hk:Hid (Kds W1 w.heap.size):=⟨hb.lt,fun i hi=>by
  rw[hb.cell];have:i=0\/i=1\/i=2\/i=3\/i=4\/i=5\/i=6\/i=7\/i=8\/i=9\/i=10\/i=11\/i=12\/i=13\/i=14\/i=15\/i=16\/i=17\/i=18\/i=19\/i=20\/i=21:=by omega
  rcases this with rfl|rfl|rfl|rfl|rfl|rfl|rfl|rfl|rfl|rfl|rfl|rfl|rfl|rfl|rfl|rfl|rfl|rfl|rfl|rfl|rfl|rfl<;>rfl⟩
 clear hb;go_enter func8,ntmps8;go_wp2_with fail;rw[<-hW1];clear hW1;go_ret;exact⟨_,rfl,hk.o,hn1.o⟩
def g_H(n m:Nat):Nat:=if n=0 then 1 else min n m
def g_Y(n:Nat)(D:Nat->Nat)(i:Nat):Nat:=if n=0 then 7 else if i<n then D i else 0
theorem o_o(n m c:Nat)(R:Option Addr)(D:Nat->Nat)(w:World)(hr:RdI .u8 w R n (fun i=>(D i:Nat)))(hc:n<=c/\c<=maxLen)(hm:1<=m/\m<=1000) :
  Calls prog 35 #[.slice R n c,.int .i64 (m:Nat)] w fun e w'=>∃R' c',e=.returned (.slice R' (g_H n m) c')/\Bs w' (.slice R' (g_H n m) c') ⟨g_H n m,g_Y n D⟩/\New w w':=by
 have h63:=hc.2;unfold maxLen at h63
 by_cases h0:n=0
 ·subst h0
  obtain⟨W1,hW1⟩:∃W1,W1=w.alloc (.cells #[.int .u8 7] 5):=⟨_,rfl⟩;have hb:Blk W1 w.heap.size 5 #[.int .u8 7]:=by rw[hW1];exact Blk.fresh w _ _
  have hn1:Hid (New w W1):=by show New w W1;rw[hW1];exact(New.refl w).alloc _
  have hk:Hid (Bs W1 (.slice (some ⟨w.heap.size,0,none⟩) (g_H 0 m) 1) ⟨g_H 0 m,g_Y 0 D⟩):=⟨_,_,rfl,Nat.le_refl 1,by unfold maxLen;omega,fun h=>(by cases h),fun _=>⟨_,0,_,rfl,hb,fun i hi=>by
   have hi:i<1:=hi;obtain rfl:i=0:=by omega
   rfl⟩⟩
  clear hb hr;go_enter func35,ntmps35;go_wp2_with fail;rw[<-hW1];clear hW1;go_ret;exact⟨_,_,rfl,hk.o,hn1.o⟩
 ·obtain⟨b,off,rfl,hb,hcs⟩:=hr.2 (by omega)
  have hn0:(n==0)=false:=by simp;omega
  obtain⟨k,hk⟩:∃k,Hid (k=min n m):=⟨_,rfl⟩;have hkm:min (n:Int) (m:Int)=(k:Int):=by rw[hk.o];omega
  have hk1:0<k:=by rw[hk.o];omega
  have hkn:k<=n:=by rw[hk.o];omega
  have hkc:(k:Int)<=(c:Int):=by omega
  have hbk:Hid (g_H n m=k):=by show _=_;unfold g_H;rw[if_neg h0,hk.o]
  rw[hbk.o];have hk1000:k<=1000:=by rw[hk.o];omega
  obtain⟨i0,hi0,hz0,hz1,hz2⟩:=info_parts infoU8;have hcsH:=Hd hcs;clear hcs hr;go_enter func35,ntmps35;go_wp2_with (first
   |(at_builtin;refine wpList_append_lies _ rfl (.const (.slice none 0 0)) (.tmp 14) 35 rfl w.heap.size 5 i0 _ 1 1 underlying35 hi0 hz0 hz1 hz2 rfl (by decide) (.slice none 0 0) 0 [] rfl (World.ownsRow_nil _ _ _ _) ⟨b,off,none⟩ k c (E_ .u8 D k) rfl (by rw[b_y];omega) (c_R fun j hj=>hcsH.o j (by omega)) (c_S _ _ _) hk1 (by unfold maxLen;omega) (by omega) (Nat.le_refl _) _ rfl ?_
     intro g9 c9 w9 ho9 hg9 h9 hl9;rw[List.nil_append,Nat.zero_add]at ho9;rw[Nat.zero_add];have hfin:=Hd (And.intro ho9 (And.intro (show New w w9 from⟨hg9.os,hg9.tape,hg9.output,hg9.size,fun i hi=>hg9.block i hi (fun e=>by cases e)⟩) hl9))
     clear ho9 hg9 h9 hl9))
  go_ret;obtain⟨h1,h2,h3⟩:=hfin.o;refine⟨_,_,rfl,(Bs.own h1).congr rfl fun i hi=>?_,h2⟩;have hi:i<k:=hi;show D i=g_Y n D i;rw[g_Y,if_neg h0,if_pos (by omega)]
def h_y(O:Od):Int:=e_6.getD (O.kind%22).toNat 0
def cmO(O:Od):Cm:=⟨h_y O,d_Z O.name,d_W O.other,O.off%1100,O.count%1100,if h_y O=2 then g_H O.dn 400 else 0,if h_y O=2 then g_Y O.dn O.df else fun _=>0⟩
abbrev t_Y(C:Cm)(R:Option Addr)(dc:Nat):Array Value:=#[.int .i64 C.kind,encStr C.name,encStr C.other,.int .i64 C.off,.int .i64 C.count,.int .i64 0,.int .i64 0,.slice R C.dn dc]
def t_M(C:Cm)(w:World)(e:Ending)(w':World):Prop:=∃R dc,e=.returned (.agg (t_Y C R dc))/\Bs w' (.slice R C.dn dc) ⟨C.dn,C.df⟩/\New w w'
theorem l_t{w:World}{p:Nat}{t:TypeId}{a0 a1 a2 a3 a4 a5 a6 a7:Value}(h:Blk w p t #[a0,a1,a2,a3,a4,a5,a6,a7]):(w.cell? ⟨p,0,none⟩=some a0/\w.cell? ⟨p,1,none⟩=some a1/\w.cell? ⟨p,2,none⟩=some a2/\w.cell? ⟨p,3,none⟩=some a3/\w.cell? ⟨p,4,none⟩=some a4/\w.cell? ⟨p,5,none⟩=some a5/\w.cell? ⟨p,6,none⟩=some a6/\w.cell? ⟨p,7,none⟩=some a7) /\
  (w.frozen? ⟨p,0,none⟩=false/\w.frozen? ⟨p,1,none⟩=false/\w.frozen? ⟨p,2,none⟩=false/\w.frozen? ⟨p,3,none⟩=false/\w.frozen? ⟨p,4,none⟩=false/\w.frozen? ⟨p,5,none⟩=false/\w.frozen? ⟨p,6,none⟩=false/\w.frozen? ⟨p,7,none⟩=false):=
 ⟨⟨h.cell 0,h.cell 1,h.cell 2,h.cell 3,h.cell 4,h.cell 5,h.cell 6,h.cell 7⟩,⟨h.frozen 0,h.frozen 1,h.frozen 2,h.frozen 3,h.frozen 4,h.frozen 5,h.frozen 6,h.frozen 7⟩⟩
abbrev p_7(w:World)(p:Nat)(a0 a1 a2 a3 a4 a5 a6 a7:Value):World:=(((((((w.setCell ⟨p,0,none⟩ a0).setCell ⟨p,1,none⟩ a1).setCell ⟨p,2,none⟩ a2).setCell ⟨p,3,none⟩ a3).setCell ⟨p,4,none⟩ a4).setCell ⟨p,5,none⟩ a5).setCell ⟨p,6,none⟩ a6).setCell ⟨p,7,none⟩ a7
theorem g_I{w:World}{p:Nat}{t:TypeId}{b0 b1 b2 b3 b4 b5 b6 b7:Value}(h:Blk w p t #[b0,b1,b2,b3,b4,b5,b6,b7])(a0 a1 a2 a3 a4 a5 a6 a7:Value):Blk (p_7 w p a0 a1 a2 a3 a4 a5 a6 a7) p t #[a0,a1,a2,a3,a4,a5,a6,a7]:=by
 simpa using(((((((h.put 0 a0).put 1 a1).put 2 a2).put 3 a3).put 4 a4).put 5 a5).put 6 a6).put 7 a7
theorem e_1{w0 w:World}(h:New w0 w){p:Nat}(hp:w0.heap.size<=p)(a0 a1 a2 a3 a4 a5 a6 a7:Value):New w0 (p_7 w p a0 a1 a2 a3 a4 a5 a6 a7):=
 ((((((((h.set (p:=⟨p,0,none⟩) hp a0).set (p:=⟨p,1,none⟩) hp a1).set (p:=⟨p,2,none⟩) hp a2).set (p:=⟨p,3,none⟩) hp a3).set (p:=⟨p,4,none⟩) hp a4).set (p:=⟨p,5,none⟩) hp a5).set (p:=⟨p,6,none⟩) hp a6).set (p:=⟨p,7,none⟩) hp a7)
theorem p_6(w:World)(p:Nat)(a0 a1 a2 a3 a4 a5 a6 a7:Value):Alt (fun b=>b=p) w (p_7 w p a0 a1 a2 a3 a4 a5 a6 a7):=
 (((((((Alt.refl (K:=fun b=>b=p) w).set (.inl rfl) a0).set (.inl rfl) a1).set (.inl rfl) a2).set (.inl rfl) a3).set (.inl rfl) a4).set (.inl rfl) a5).set (.inl rfl) a6 |>.set (.inl rfl) a7
set_option maxHeartbeats 4000000 in
theorem h_3(O:Od)(R:Option Addr)(dc g:Nat)(w:World)(hO:o_h w O R dc)(hK:Kds w g) :
  Calls prog 18 #[.agg #[.int .i64 O.kind,.int .i64 O.name,.int .i64 O.other,.int .i64 O.off,.int .i64 O.count,.slice R O.dn dc],.slice (some ⟨g,0,none⟩) 22 22] w (t_M (cmO O) w):=by
 have p1:=Hd (fun w=>a_F O.kind 22 w (by omega) (by omega) hO.ki)
 have p2:=Hd (fun w=>g_9 O.name w hO.na);have p3:=Hd (fun w=>i_7 O.other w hO.ot);have p4:=Hd (fun w=>a_F O.off 1100 w (by omega) (by omega) hO.of)
 have p5:=Hd (fun w=>a_F O.count 1100 w (by omega) (by omega) hO.co)
 replace p1:Hid (∀w,_):=p1;replace p2:Hid (∀w,_):=p2;replace p3:Hid (∀w,_):=p3;replace p4:Hid (∀w,_):=p4;replace p5:Hid (∀w,_):=p5;have pb:=Hd (fun w' (hn:New w w')=>o_o O.dn 400 dc R O.df w' (hO.new hn).dat hO.dcm (by omega))
 replace pb:Hid (∀w',New w w'->_):=pb;obtain⟨ix,hix⟩:∃ix:Nat,O.kind%22=(ix:Int):=⟨(O.kind%22).toNat,by omega⟩
 have hix2:ix<22:=by omega
 have hkk:h_y O=e_6.getD ix 0:=by unfold h_y;rw[hix];rfl
 rw[hix]at p1;have hC:Hid (cmO O=⟨e_6.getD ix 0,d_Z O.name,d_W O.other,O.off%1100,O.count%1100,if e_6.getD ix 0=2 then g_H O.dn 400 else 0,if e_6.getD ix 0=2 then g_Y O.dn O.df else fun _=>0⟩):=by show _=_;rw[<-hkk];rfl
 have hkc:=hK.2 ix hix2;rw[hC.o];obtain⟨kk,hkk2⟩:∃kk,Hid (kk=e_6.getD ix 0):=⟨_,rfl⟩;rw[<-hkk2.o]at hkc ⊢;obtain⟨x1,hx1⟩:∃x,Hid (x=O.kind):=⟨_,rfl⟩;obtain⟨x2,hx2⟩:∃x,Hid (x=O.name):=⟨_,rfl⟩;obtain⟨x3,hx3⟩:∃x,Hid (x=O.other):=⟨_,rfl⟩;obtain⟨x4,hx4⟩:∃x,Hid (x=O.off):=⟨_,rfl⟩;obtain⟨x5,hx5⟩:∃x,Hid (x=O.count):=⟨_,rfl⟩;obtain⟨n1,hn1⟩:∃x,Hid (x=d_Z O.name):=⟨_,rfl⟩;obtain⟨n2,hn2⟩:∃x,Hid (x=d_W O.other):=⟨_,rfl⟩;obtain⟨n3,hn3⟩:∃x,Hid (x=O.off%1100):=⟨_,rfl⟩;obtain⟨n4,hn4⟩:∃x,Hid (x=O.count%1100):=⟨_,rfl⟩;rw[<-hn1.o,<-hn2.o,<-hn3.o,<-hn4.o];rw[<-hn1.o]at p2;rw[<-hn2.o]at p3;obtain⟨z1,hz1⟩:∃x,Hid (Value.string x=encStr n1):=⟨_,rfl⟩;obtain⟨z2,hz2⟩:∃x,Hid (Value.string x=encStr n2):=⟨_,rfl⟩;rw[<-hz1.o]at p2;rw[<-hz2.o]at p3;rw[<-hn3.o]at p4;rw[<-hn4.o]at p5;rw[<-hx1.o]at p1 ⊢;rw[<-hx2.o]at p2 ⊢;rw[<-hx3.o]at p3 ⊢;rw[<-hx4.o]at p4 ⊢;rw[<-hx5.o]at p5 ⊢;obtain⟨dn,hdn⟩:∃x,Hid (x=O.dn):=⟨_,rfl⟩;rw[<-hdn.o]at pb ⊢;obtain⟨dN,hdN⟩:∃x,Hid (x=if kk=2 then g_H dn 400 else 0):=⟨_,rfl⟩;obtain⟨dF,hdF⟩:∃x,Hid (x=if kk=2 then g_Y dn O.df else fun _=>0):=⟨_,rfl⟩;rw[<-hdN.o,<-hdF.o];obtain⟨W1,hW1⟩:∃W1,W1=(w.alloc (.cells #[.int .i64 x1,.int .i64 x2,.int .i64 x3,.int .i64 x4,.int .i64 x5,.slice R dn dc] 55)).alloc (.cells #[.int .i64 0,.string {data:=#[]},.string {data:=#[]},.int .i64 0,.int .i64 0,.int .i64 0,.int .i64 0,.slice none 0 0] 45):=⟨_,rfl⟩;have hN1:New w W1:=by rw[hW1];exact((New.refl w).alloc _).alloc _
 have hb0:Blk W1 w.heap.size 55 #[.int .i64 x1,.int .i64 x2,.int .i64 x3,.int .i64 x4,.int .i64 x5,.slice R dn dc]:=by rw[hW1];exact(Blk.fresh w _ _).alloc _
 have hb1:Blk W1 (w.heap.size+1) 45 #[.int .i64 0,.string {data:=#[]},.string {data:=#[]},.int .i64 0,.int .i64 0,.int .i64 0,.int .i64 0,.slice none 0 0]:=by
  have:w.heap.size+1=(w.alloc (.cells #[.int .i64 x1,.int .i64 x2,.int .i64 x3,.int .i64 x4,.int .i64 x5,.slice R dn dc] 55)).heap.size:=by rw[World.size_alloc]
  rw[hW1,this];exact Blk.fresh _ _ _
 have hb1H:=Hd hb1;have hN1H:=Hd hN1;have hix0:(0:Int)<=(ix:Int):=by omega
 have hix3:(ix:Int)<22:=by omega
 have hkeep:Hid (∀w',New W1 w'->w'.cell? ⟨g,ix,none⟩=some (.int .i64 kk)/\w'.cell? ⟨w.heap.size,0,none⟩=some (.int .i64 x1)/\w'.cell? ⟨w.heap.size,1,none⟩=some (.int .i64 x2)/\w'.cell? ⟨w.heap.size,2,none⟩=some (.int .i64 x3)/\w'.cell? ⟨w.heap.size,3,none⟩=some (.int .i64 x4)/\w'.cell? ⟨w.heap.size,4,none⟩=some (.int .i64 x5)):=fun w' hn'=>⟨((hN1.next hn').cell (a_ hkc)).trans hkc,(hn'.cell (p:=⟨w.heap.size,0,none⟩) hb0.lt).trans (hb0.cell 0),(hn'.cell (p:=⟨w.heap.size,1,none⟩) hb0.lt).trans (hb0.cell 1),(hn'.cell (p:=⟨w.heap.size,2,none⟩) hb0.lt).trans (hb0.cell 2),(hn'.cell (p:=⟨w.heap.size,3,none⟩) hb0.lt).trans (hb0.cell 3),(hn'.cell (p:=⟨w.heap.size,4,none⟩) hb0.lt).trans (hb0.cell 4)⟩;have hb0H:=Hd hb0;have hsz1:w.heap.size+1<W1.heap.size:=hb1.lt;clear hO hK hix hkk hN1 hb0 hb1 hkc;go_enter func18,ntmps18;go_upto_region 1 with fail;rw[<-hW1];clear hW1;go_cut [5] from 6 to 26 (fun v wx=>∃p,v=.pointer (some ⟨p,0,none⟩)/\Hid (Blk wx p 45 #[.int .i64 kk,.string z1,.string z2,.int .i64 n3,.int .i64 n4,.int .i64 0,.int .i64 0,.slice none 0 0])/\Hid (New W1 wx)/\W1.heap.size<=p);case first=>
  go_region_held3 (fun w'=>w'.cell? ⟨g,ix,none⟩=some (.int .i64 kk)/\w'.cell? ⟨w.heap.size,0,none⟩=some (.int .i64 x1)/\w'.cell? ⟨w.heap.size,1,none⟩=some (.int .i64 x2)/\w'.cell? ⟨w.heap.size,2,none⟩=some (.int .i64 x3)/\w'.cell? ⟨w.heap.size,3,none⟩=some (.int .i64 x4)/\w'.cell? ⟨w.heap.size,4,none⟩=some (.int .i64 x5))
   (first
    |(with_reducible exact hkeep.o _ (e_1 qe hzB.o.1 _ _ _ _ _ _ _ _))
    |(with_reducible exact hkeep.o _ (New.refl _).drew)
    |(with_reducible exact hkeep.o _ ((New.refl _).alloc _).drew)
    |(with_reducible exact hkeep.o _ qa)
    |(with_reducible exact hkeep.o _ qb)
    |(with_reducible exact hkeep.o _ qc)
    |(with_reducible exact hkeep.o _ qd)
    |(with_reducible exact hkeep.o _ qe)
    |(with_reducible exact hkeep.o _ (qa.alloc _))
    |(with_reducible exact hkeep.o _ (qb.alloc _))
    |(with_reducible exact hkeep.o _ (qc.alloc _))
    |(with_reducible exact hkeep.o _ (qd.alloc _))
    |(with_reducible exact hkeep.o _ (qe.alloc _)))
   (first
    |(go_at_call 17;(with_reducible refine(p1.o _).mono ?_);rintro e wa ⟨rfl,ha⟩;have qa:New W1 wa:=(by first|with_reducible exact New.next (New.refl _).drew ha|with_reducible exact New.next ((New.refl _).alloc _).drew ha);(first|(with_reducible have Z:=Hd (show ∃p,p=W1.heap.size/\W1.heap.size<=p/\Blk wa p 45 #[.int .i64 0,.string {data:=#[]},.string {data:=#[]},.int .i64 0,.int .i64 0,.int .i64 0,.int .i64 0,.slice none 0 0] from⟨_,rfl,Nat.le_refl _,(Blk.fresh W1 _ _).drew.new ha⟩))|skip);clear ha)
    |(go_at_call 33;(with_reducible refine(p2.o _).mono ?_);rintro e wb ⟨rfl,hb⟩;have qb:New W1 wb:=(by first|with_reducible exact New.next qa hb|with_reducible exact New.next (qa.alloc _) hb);(first|(with_reducible have Z:=Hd (show ∃p,p=wa.heap.size/\W1.heap.size<=p/\Blk wb p 45 #[.int .i64 0,.string {data:=#[]},.string {data:=#[]},.int .i64 0,.int .i64 0,.int .i64 0,.int .i64 0,.slice none 0 0] from⟨_,rfl,qa.size,(Blk.fresh wa _ _).new hb⟩))|(obtain⟨zp,hz1,hz2,hz3⟩:=Z.o;with_reducible have Z:=Hd (show ∃p,p=zp/\W1.heap.size<=p/\Blk wb p 45 #[.int .i64 0,.string {data:=#[]},.string {data:=#[]},.int .i64 0,.int .i64 0,.int .i64 0,.int .i64 0,.slice none 0 0] from⟨zp,rfl,hz2,hz3.new hb⟩);subst hz1;clear hz2 hz3)|skip);clear hb)
    |(go_at_call 34;(with_reducible refine(p3.o _).mono ?_);rintro e wc ⟨rfl,hc⟩;have qc:New W1 wc:=(by first|with_reducible exact New.next qb hc|with_reducible exact New.next (qb.alloc _) hc);(first|(with_reducible have Z:=Hd (show ∃p,p=wb.heap.size/\W1.heap.size<=p/\Blk wc p 45 #[.int .i64 0,.string {data:=#[]},.string {data:=#[]},.int .i64 0,.int .i64 0,.int .i64 0,.int .i64 0,.slice none 0 0] from⟨_,rfl,qb.size,(Blk.fresh wb _ _).new hc⟩))|(obtain⟨zp,hz1,hz2,hz3⟩:=Z.o;with_reducible have Z:=Hd (show ∃p,p=zp/\W1.heap.size<=p/\Blk wc p 45 #[.int .i64 0,.string {data:=#[]},.string {data:=#[]},.int .i64 0,.int .i64 0,.int .i64 0,.int .i64 0,.slice none 0 0] from⟨zp,rfl,hz2,hz3.new hc⟩);subst hz1;clear hz2 hz3)|skip);clear hc)
    |(go_at_call 17;(with_reducible refine(p4.o _).mono ?_);rintro e wd ⟨rfl,hd⟩;have qd:New W1 wd:=(by first|with_reducible exact New.next qc hd|with_reducible exact New.next (qc.alloc _) hd);(first|(with_reducible have Z:=Hd (show ∃p,p=wc.heap.size/\W1.heap.size<=p/\Blk wd p 45 #[.int .i64 0,.string {data:=#[]},.string {data:=#[]},.int .i64 0,.int .i64 0,.int .i64 0,.int .i64 0,.slice none 0 0] from⟨_,rfl,qc.size,(Blk.fresh wc _ _).new hd⟩))|(obtain⟨zp,hz1,hz2,hz3⟩:=Z.o;with_reducible have Z:=Hd (show ∃p,p=zp/\W1.heap.size<=p/\Blk wd p 45 #[.int .i64 0,.string {data:=#[]},.string {data:=#[]},.int .i64 0,.int .i64 0,.int .i64 0,.int .i64 0,.slice none 0 0] from⟨zp,rfl,hz2,hz3.new hd⟩);subst hz1;clear hz2 hz3)|skip);clear hd)
    |(go_at_call 17;(with_reducible refine(p5.o _).mono ?_);rintro e we ⟨rfl,he⟩;have qe:New W1 we:=(by first|with_reducible exact New.next qd he|with_reducible exact New.next (qd.alloc _) he);(first|(with_reducible have Z:=Hd (show ∃p,p=wd.heap.size/\W1.heap.size<=p/\Blk we p 45 #[.int .i64 0,.string {data:=#[]},.string {data:=#[]},.int .i64 0,.int .i64 0,.int .i64 0,.int .i64 0,.slice none 0 0] from⟨_,rfl,qd.size,(Blk.fresh wd _ _).new he⟩))|(obtain⟨zp,hz1,hz2,hz3⟩:=Z.o;with_reducible have Z:=Hd (show ∃p,p=zp/\W1.heap.size<=p/\Blk we p 45 #[.int .i64 0,.string {data:=#[]},.string {data:=#[]},.int .i64 0,.int .i64 0,.int .i64 0,.int .i64 0,.slice none 0 0] from⟨zp,rfl,hz2,hz3.new he⟩);subst hz1;clear hz2 hz3)|skip);clear he;(try (obtain⟨zp,rfl,hzp,hzb⟩:=Z.o;obtain⟨⟨_,_,_,_,_,_,_,_⟩,_,_,_,_,_,_,_,_⟩:=l_t hzb;have hzB:=Hd (And.intro hzp hzb);clear hzb hzp))))
  all_goals
   go_wp2;go_meet
   first
    |with_reducible exact⟨_,rfl,Hd (g_I hzB.o.2 _ _ _ _ _ _ _ _),Hd (e_1 qe hzB.o.1 _ _ _ _ _ _ _ _),hzB.o.1⟩
    |with_reducible exact⟨_,rfl,Hd (Blk.fresh we _ _),Hd (qe.alloc _),qe.size⟩
 case rest=>
  obtain⟨p,rfl,hB,hN,hp⟩:=hcut;obtain⟨⟨c0,c1,c2,c3,c4,c5,c6,c7⟩,⟨f0,f1,f2,f3,f4,f5,f6,f7⟩⟩:=l_t hB.o;obtain⟨_,⟨s0,s1,s2,s3,s4,s5,s6,s7⟩⟩:=l_t (hb1H.o.new hN.o);have r5:=(hb0H.o.new hN.o).cell 5;simp at r5;have hNw:Hid (New w wc):=New.next hN1H.o hN.o;have hb1c:=Hd (hb1H.o.new hN.o);clear p1 p2 p3 p4 p5 hkeep
  by_cases hk2:kk=2
  ·subst hk2
   have e1:dN=g_H dn 400:=by rw[hdN.o,if_pos rfl]
   have e2:dF=g_Y dn O.df:=by rw[hdF.o,if_pos rfl]
   rw[<-e1,<-e2]at pb;clear e1 e2 hdN hdF;go_wp2_with fail;refine(pb.o wc hNw.o).mono ?_;rintro e w5 ⟨R',c',rfl,hbs,hn5⟩;have hB5:=(hB.o.new hn5).put 7 (.slice R' dN c');simp at hB5;have f7':=(hB.o.new hn5).frozen 7;have c7':=(hB.o.new hn5).cell 7;simp at c7';obtain⟨W6,hW6⟩:∃W6,W6=w5.setCell ⟨p,7,none⟩ (.slice R' dN c'):=⟨_,rfl⟩;rw[<-hW6]at hB5;have hb16:Blk W6 (w.heap.size+1) 45 #[.int .i64 0,.string {data:=#[]},.string {data:=#[]},.int .i64 0,.int .i64 0,.int .i64 0,.int .i64 0,.slice none 0 0]:=by rw[hW6];exact((Alt.refl (K:=fun b=>b=p) w5).set (.inl rfl) _).blk (hb1c.o.new hn5) (by omega)
   have hbs6:Bs W6 (.slice R' dN c') ⟨dN,dF⟩:=by
    rw[hW6];exact hbs.alt ((Alt.refl (K:=fun b=>b=p) w5).set (.inl rfl) _) fun g cs hg e=>e_ hg (hB.o.new hn5) (by decide) e
   have hN6:New w W6:=by
    rw[hW6];exact(New.next hNw.o hn5).set (p:=⟨p,7,none⟩) (by show w.heap.size<=p;omega) _
   clear c0 c1 c2 c3 c4 c5 c6 c7 f0 f1 f2 f3 f4 f5 f6 f7 s0 s1 s2 s3 s4 s5 s6 s7 r5 hbs hn5 hNw pb;go_upto_region 4 with fail;rw[<-hW6];clear hW6 f7' c7';obtain⟨⟨c0,c1,c2,c3,c4,c5,c6,c7⟩,_⟩:=l_t hB5;obtain⟨_,⟨s0,s1,s2,s3,s4,s5,s6,s7⟩⟩:=l_t hb16;have hx:=Hd (l_t (g_I hb16 (.int .i64 2) (.string z1) (.string z2) (.int .i64 n3) (.int .i64 n4) (.int .i64 0) (.int .i64 0) (.slice R' dN c'))).1;have hf:Hid (t_M ⟨2,n1,n2,n3,n4,dN,dF⟩ w (.returned (.agg #[.int .i64 2,.string z1,.string z2,.int .i64 n3,.int .i64 n4,.int .i64 0,.int .i64 0,.slice R' dN c'])) (p_7 W6 (w.heap.size+1) (.int .i64 2) (.string z1) (.string z2) (.int .i64 n3) (.int .i64 n4) (.int .i64 0) (.int .i64 0) (.slice R' dN c'))):=by
    refine⟨R',c',by rw[hz1.o,hz2.o],?_,e_1 hN6 (by omega) _ _ _ _ _ _ _ _⟩
    exact hbs6.alt (p_6 _ _ _ _ _ _ _ _ _ _) fun g cs hg e=>e_ hg hb16 (by decide) e
   clear hB5 hb16 hbs6 hN6;go_wp2_with fail;exact bodyPost_ret (by simp[results,results18,go_sem,hx.o]) rfl hf.o
  ·have hx:=Hd (l_t (g_I hb1c.o (.int .i64 kk) (.string z1) (.string z2) (.int .i64 n3) (.int .i64 n4) (.int .i64 0) (.int .i64 0) (.slice none 0 0))).1
   have hf:Hid (t_M ⟨kk,n1,n2,n3,n4,dN,dF⟩ w (.returned (.agg #[.int .i64 kk,.string z1,.string z2,.int .i64 n3,.int .i64 n4,.int .i64 0,.int .i64 0,.slice none 0 0])) (p_7 wc (w.heap.size+1) (.int .i64 kk) (.string z1) (.string z2) (.int .i64 n3) (.int .i64 n4) (.int .i64 0) (.int .i64 0) (.slice none 0 0))):=
    by
    rw[hdN.o,hdF.o,if_neg hk2,if_neg hk2];exact⟨none,0,by rw[hz1.o,hz2.o],Bs.nil _,e_1 hNw.o (by omega) _ _ _ _ _ _ _ _⟩
   clear hdN hdF hB hN hNw hb1c pb;go_wp2_with fail;exact bodyPost_ret (by simp[results,results18,go_sem,hx.o]) rfl hf.o
open vault
theorem s_C{O:Od}{w w':World}{R R':Option Addr}{dc dc':Nat}(h:o_h w O R dc)(hB:Bs w' (.slice R' (cmO O).dn dc') ⟨(cmO O).dn,(cmO O).df⟩):a_q w' (cmO O) R' dc':=by
 obtain⟨A,c,e,h3,h4,_,h1⟩:=hB.read;have h2:(cmO O).dn<=c/\c<=maxLen:=⟨h3,h4⟩;cases e;refine⟨?_,?_,?_,?_,h1,h2,fun i=>?_⟩
 ·show(d_Z O.name).length<=maxLen
  have:(d_Z O.name).length<=2:=by
   unfold d_Z;have:(O.name%5).toNat=0\/(O.name%5).toNat=1\/(O.name%5).toNat=2\/(O.name%5).toNat=3\/(O.name%5).toNat=4:=by omega
   rcases this with e|e|e|e|e<;>rw[e]<;>decide
  unfold maxLen;omega
 ·show(d_W O.other).length<=maxLen
  have:(d_W O.other).length<=2:=by
   unfold d_W;have:(O.other%4).toNat=0\/(O.other%4).toNat=1\/(O.other%4).toNat=2\/(O.other%4).toNat=3:=by omega
   rcases this with e|e|e|e<;>rw[e]<;>decide
  unfold maxLen;omega
 ·show O.off%1100<=_
  omega
 ·show O.count%1100<=_
  omega
 ·show(if h_y O=2 then g_Y O.dn O.df else fun _=>0) i<256
  split
  ·unfold g_Y
   split
   ·omega
   ·split
    ·exact h.d8 i (by assumption)
    ·omega
  ·show 0<256
   omega
def s_t(Os:Nat->Od)(m:Nat)(w:World)(e:Ending)(w':World):Prop:=
 ∃A c R dc,e=.returned (.slice A m c)/\m<=c/\c<=maxLen/\RdC w' A m (fun i=>cmO (Os i)) (fun _=>0) (fun _=>0) R dc/\New w w'
theorem m_W{w w':World}{Os:Nat->Od}{k base:Nat}{v:Value}{R:Nat->Option Addr}{dc:Nat->Nat}(h:w'.ownsRow base 45 8 v k (cdL (fun i=>cmO (Os i)) (fun _=>0) (fun _=>0) R dc k))(hk:k<=1000)(hc:∀i,i<k->a_q w' (cmO (Os i)) (R i) (dc i))(hn:New w w'):s_t Os k w (.returned v) w':=by
 obtain⟨A,c,rfl,h1,h2,h3⟩:=m_3 h (by unfold maxLen;omega) hc
 exact⟨A,c,R,dc,rfl,h1,h2,h3,hn⟩
set_option maxHeartbeats 4000000 in
theorem i_U(Os:Nat->Od)(m mo c g:Nat)(B:Option Addr)(R:Nat->Option Addr)(dc:Nat->Nat)(w:World)(hO:RdO w B m Os R dc)(hK:Kds w g)(hmo:mo<=1000) :
  Calls prog 7 #[.slice B m c,.int .i64 (mo:Nat),.slice (some ⟨g,0,none⟩) 22 22] w (s_t Os (min m mo) w):=by
 obtain⟨i0,hi0,hz0,hz1,hz2⟩:=info_parts m_C;have hOH:=Hd hO;have hKH:=Hd hK;have hml:=hO.1;unfold maxLen at hml;have hN0:=Hd (New.refl w);clear hO hK;go_enter func7,ntmps7;go_wp2_with fail;go_loopw [8,7] (fun x ov wr=>∃(k:Nat) (R1:Nat->Option Addr) (d1:Nat->Nat),x=.int .i64 k/\k<=m/\k<=mo/\Hid (wr.ownsRow w.heap.size 45 8 ov k (cdL (fun i=>cmO (Os i)) (fun _=>0) (fun _=>0) R1 d1 k))/\Hid (∀j,j<k->Bs wr (.slice (R1 j) (cmO (Os j)).dn (d1 j)) ⟨(cmO (Os j)).dn,(cmO (Os j)).df⟩)/\Hid (New w wr)) (fun x _ _=>m-(intOf x).toNat);case atStart=>exact⟨0,fun _=>none,fun _=>0,rfl,by omega,by omega,World.ownsRow_nil _ _ _ _,fun j hj=>absurd hj (Nat.not_lt_zero j),hN0⟩
 case round=>
  obtain⟨k,R1,d1,rfl,hk,hko,hW,hR,hN⟩:=hrel;clear hN0
  by_cases hlt:k<m
  ·by_cases hlo:k<mo
   ·obtain⟨b,off,rfl,hb,hc⟩:=hOH.o.2.1 (by omega)
    obtain⟨e0,e1,e2,e3,e4,e5⟩:=hc k hlt;replace e0:=(hN.o.cell hb).trans e0;replace e1:=(hN.o.cell hb).trans e1;replace e2:=(hN.o.cell hb).trans e2;replace e3:=(hN.o.cell hb).trans e3;replace e4:=(hN.o.cell hb).trans e4;replace e5:=(hN.o.cell hb).trans e5;have hkl:(k:Int)<(m:Int):=by omega
    have hkm:(k:Int)<(mo:Int):=by omega
    have hcom:=Hd (h_3 (Os k) (R k) (dc k) g wr ((hOH.o.2.2 k hlt).new hN.o) (hKH.o.new hN.o));obtain⟨x0,hx0⟩:∃x,Hid (x=(Os k).kind):=⟨_,rfl⟩;obtain⟨x1,hx1⟩:∃x,Hid (x=(Os k).name):=⟨_,rfl⟩;obtain⟨x2,hx2⟩:∃x,Hid (x=(Os k).other):=⟨_,rfl⟩;obtain⟨x3,hx3⟩:∃x,Hid (x=(Os k).off):=⟨_,rfl⟩;obtain⟨x4,hx4⟩:∃x,Hid (x=(Os k).count):=⟨_,rfl⟩;obtain⟨xr,hxr⟩:∃x,Hid (x=R k):=⟨_,rfl⟩;obtain⟨xn,hxn⟩:∃x,Hid (x=(Os k).dn):=⟨_,rfl⟩;obtain⟨xc,hxc⟩:∃x,Hid (x=dc k):=⟨_,rfl⟩;rw[<-hx0.o]at e0;rw[<-hx1.o]at e1;rw[<-hx2.o]at e2;rw[<-hx3.o]at e3;rw[<-hx4.o]at e4;rw[<-hxr.o,<-hxn.o,<-hxc.o]at e5;rw[<-hx0.o,<-hx1.o,<-hx2.o,<-hx3.o,<-hx4.o,<-hxr.o,<-hxn.o,<-hxc.o]at hcom;clear hc;go_wp2_with fail;refine hcom.o.mono ?_;rintro e w4 ⟨R4,d4,rfl,hr4,hn4⟩;have hO4:w4.ownsRow w.heap.size 45 8 u7 k (cdL (fun i=>cmO (Os i)) (fun _=>0) (fun _=>0) R1 d1 k):=c_ hW.o hn4;have hN4:=Hd (hN.o.next hn4);have hz4:=hN4.o.size;have hcm:=Hd hr4;have hR4:=Hd (fun j hj=>(hR.o j hj).new hn4);have hnx:=Hd (q_w (fun i=>cmO (Os i)) (fun _=>0) (fun _=>0) R1 d1 k R4 d4);obtain⟨y0,hy0⟩:∃x,Hid (x=(cmO (Os k)).kind):=⟨_,rfl⟩;obtain⟨y1,hy1⟩:∃x,Hid (x=(cmO (Os k)).name):=⟨_,rfl⟩;obtain⟨y2,hy2⟩:∃x,Hid (x=(cmO (Os k)).other):=⟨_,rfl⟩;obtain⟨y3,hy3⟩:∃x,Hid (x=(cmO (Os k)).off):=⟨_,rfl⟩;obtain⟨y4,hy4⟩:∃x,Hid (x=(cmO (Os k)).count):=⟨_,rfl⟩;obtain⟨y7,hy7⟩:∃x,Hid (x=(cmO (Os k)).dn):=⟨_,rfl⟩;rw[<-hy0.o,<-hy1.o,<-hy2.o,<-hy3.o,<-hy4.o,<-hy7.o]at hnx;have hcc:t_Y (cmO (Os k)) R4 d4=#[.int .i64 y0,encStr y1,encStr y2,.int .i64 y3,.int .i64 y4,.int .i64 0,.int .i64 0,.slice R4 y7 d4]:=by
     rw[hy0.o,hy1.o,hy2.o,hy3.o,hy4.o,hy7.o]
    rw[hcc];clear hcc;clear hW hR hN hr4 hn4 hcom e0 e1 e2 e3 e4 e5;go_wp2_with (first
     |(at_builtin;refine wpList_append_lies _ rfl _ _ 25 rfl w.heap.size 45 i0 _ 8 96 underlying25 hi0 hz0 hz1 hz2 rfl (by decide) u7 k (cdL (fun i=>cmO (Os i)) (fun _=>0) (fun _=>0) R1 d1 k) rfl (hO4.alloc _) ⟨w4.heap.size,0,none⟩ 1 1 [.int .i64 y0,encStr y1,encStr y2,.int .i64 y3,.int .i64 y4,.int .i64 0,.int .i64 0,.slice R4 y7 d4] rfl rfl (World.news_of_block (cs:=#[.int .i64 _,encStr _,encStr _,.int .i64 _,.int .i64 _,.int .i64 0,.int .i64 0,.slice _ _ _]) (t:=45) (fr:=(0,0)) (heap_alloc_new w4 _)) (by simp[Value.oneCell',encStr]) (by omega) (by unfold maxLen;omega) (by omega) (by rw[World.size_alloc];omega) _ rfl ?_
       intro g6 c6 w6 hown6 hgr6 hgx6 hl6;have hn6:=fun(g:Nat) (cs:Array Value) (hb:Blk (w4.alloc (.cells #[.int .i64 y0,encStr y1,encStr y2,.int .i64 y3,.int .i64 y4,.int .i64 0,.int .i64 0,.slice R4 y7 d4] 45)) g 5 cs) (e:u7.ownBlock=some g)=>b_ (hO4.alloc _) hb (by decide) e
       have hfin:Hid (w6.ownsRow w.heap.size 45 8 (.slice (some ⟨g6,0,none⟩) (k+1) c6) (k+1) (cdL (fun i=>cmO (Os i)) (fun _=>0) (fun _=>0) (fun j=>if j=k then R4 else R1 j) (fun j=>if j=k then d4 else d1 j) (k+1))/\(∀j,j<k+1->Bs w6 (.slice (if j=k then R4 else R1 j) (cmO (Os j)).dn (if j=k then d4 else d1 j)) ⟨(cmO (Os j)).dn,(cmO (Os j)).df⟩)/\New w w6):=by
        refine⟨by rw[hnx.o];exact hown6,fun j hj=>?_,?_⟩
        ·by_cases e:j=k
         ·subst e
          rw[if_pos rfl,if_pos rfl];exact(hcm.o.new ((New.refl w4).alloc _)).grown hgr6 hn6
         ·rw[if_neg e,if_neg e]
          exact((hR4.o j (by omega)).new ((New.refl w4).alloc _)).grown hgr6 hn6
        ·exact(hN4.o.alloc _).grown hgr6 fun r e=>(hO4.lt r e).1
       clear hown6 hgr6 hgx6 hl6)
     |fail)
    go_roundw;case rel=>exact⟨k+1,_,_,by go_num,by omega,by omega,hfin.o.1,hfin.o.2.1,hfin.o.2.2⟩
    case measure=>simp[intOf];omega
   ·have hkm:¬(k:Int)<(mo:Int):=by omega
    have hkl:(k:Int)<(m:Int):=by omega
    have hmin:min m mo=k:=by omega
    have hf:Hid (s_t Os k w (.returned u7) wr):=m_W hW.o (by omega) (fun i hi=>s_C (hOH.o.2.2 i (by omega)) (hR.o i hi)) hN.o
    clear hW hR hN;go_wp2_with fail;go_ret;exact hf.o
  ·have hkl:¬(k:Int)<(m:Int):=by omega
   have hmin:min m mo=k:=by omega
   have hf:Hid (s_t Os k w (.returned u7) wr):=m_W hW.o (by omega) (fun i hi=>s_C (hOH.o.2.2 i (by omega)) (hR.o i hi)) hN.o
   clear hW hR hN;go_wp2_with fail;go_ret;exact hf.o
end top
namespace vault
open kit drive label Go.Deep
theorem b_x:∀(s:Nat) {B C:Nat->Nat},(∀i,i<s->B i=C i)->a_B B s=a_B C s
 |0,_,_,_=>rfl
 |s+1,B,C,h=>by
  rw[a_H,a_H,h 0 (by omega),b_x s fun i hi=>h (i+1) (by omega)]
theorem j_j(x:Int)(h1:0<=x)(h2:x<4294967296):((a_B (N_ x) 4:Nat):Int)=x:=by
 have e:∀(y:Int) (s:Nat),((a_B (N_ y) (s+1):Nat):Int)=y%256+256*((a_B (N_ (y/256)) s:Nat):Int):=by
  intro y s;rw[a_H];have h0:=e_3 y 0;have hf:(fun i=>N_ y (i+1))=N_ (y/256):=funext fun i=>e_A y i;rw[hf];unfold b_c at h0;omega
 rw[e,e,e,e,h_p];omega
theorem l_2{X Y se:Nat->Int}(h:∀i,i<13->X i=Y i)(i:Nat):a_h X se i=a_h Y se i:=by
 unfold a_h;split
 ·rw[h _ (by omega)]
 split
 ·rw[h _ (by omega)]
 rfl
section
variable {X:Nat->Int}(h:okX X)(hi:∀i,9<=i->i<13->a_0 (X i))
include h hi
theorem g_b(i:Nat)(hi13:i<13):b_w (a_h X (a_g X)) i=X i:=by
 unfold b_w;split
 ·rename_i h9
  rw[b_x 4 (C:=N_ (X i)) fun q hq=>d_F X _ i q h9 hq];have hb:0<=X i/\X i<4294967296:=by
   unfold okX okP at h;obtain⟨a0,a1,a2,a3,a4,a5,a6,a7,a8,a9⟩:=h;have:i=0\/i=1\/i=2\/i=3\/i=4\/i=5\/i=6\/i=7\/i=8:=by omega
   rcases this with rfl|rfl|rfl|rfl|rfl|rfl|rfl|rfl|rfl<;>omega
  exact j_j _ hb.1 hb.2
 ·rename_i h9
  rw[b_x 8 (C:=N_ (X i)) fun q hq=>by
   have:=j_A X (a_g X) (i-9) q (by omega) hq
   rw[show 9+(i-9)=i by omega]at this
   exact this]
  have:=hi i (by omega) hi13
  exact e_0 _ this.1 this.2
theorem m_T:D_ 128 (a_h X (a_g X))=0:=by
 refine j_Z (fun j hj=>?_) ⟨?_,fun i hi96=>?_⟩
 ·have e1:k_w (a_h X (a_g X))=j_7 X:=e_o (0,0,0,0) 24 fun i hi=>c_d X _ _ i (by omega)
  have hb:=f_T X j;rw[e1];unfold seB;rw[b_x 8 (C:=N_ (a_g X j)) fun q hq=>e_F X _ j q hj hq,e_0 _ hb.1 hb.2];rfl
 ·have e:=fun i hi13=>g_b h hi i hi13
  unfold okX at h ⊢;rw[e 0 (by omega),e 1 (by omega),e 2 (by omega),e 3 (by omega),e 4 (by omega),e 5 (by omega),e 6 (by omega),e 7 (by omega),e 8 (by omega)]
  exact h
 ·rw[l_2 fun i hi13=>g_b h hi i hi13]
  exact c_d X _ _ i hi96
theorem q_m(i:Nat)(hi13:i<13):b_D 128 (a_h X (a_g X)) i=X i:=by
 rw[e_L (m_T h hi)];exact g_b h hi i hi13
end
theorem q_i:D_ 128 (fun _=>0)≠0:=by
 unfold D_;rw[if_pos rfl];split
 ·rw[if_neg fun hb=>?_]
  ·decide
  ·have h1:=hb.1
   unfold okX okP at h1;have h2:b_w (fun _=>0) 0=0:=by unfold b_w;rw[if_pos (by omega)];rfl
   rw[h2]at h1;omega
 ·decide
theorem b_F.worse{A:VA}(hA:VOk A){s s':VS}{bad bad':List Nat}{q:Ptr}{Y:Nat->Nat}(h:b_F A s bad q Y)(h1:1<=q.ct)(hb:∀d,d∈bad->d∈bad')(hs:∀d,d<A.n->d ∉ bad'->(∀j,rdS (s'.ds d) j=rdS (s.ds d) j)/\s'.fresh d=s.fresh d)(hx:∀d,d<A.n->d∈bad'->(s'.ds d).dead=true\/s'.fresh d=true):b_F A s' bad' q Y:=by
 have hn:0<A.n:=by have:=hA.n2;omega
 have hpc:∀c,(q.ad+c)%A.n ∉ bad'->pcR A s' q c=pcR A s q c:=fun c hc=>by
  obtain⟨e1,e2⟩:=hs _ (Nat.mod_lt _ hn) hc;unfold pcR e_x;rw[e2];have e3:(fun k=>(rdS (s'.ds ((q.ad+c)%A.n)) ((q.ad+c)/A.n+k)).isNone)=fun k=>(rdS (s.ds ((q.ad+c)%A.n)) ((q.ad+c)/A.n+k)).isNone:=funext fun k=>by rw[e1]
  have e4:c_2 (s'.ds ((q.ad+c)%A.n)) ((q.ad+c)/A.n)=c_2 (s.ds ((q.ad+c)%A.n)) ((q.ad+c)/A.n):=funext fun k=>by unfold c_2;rw[e1]
  rw[e3,e4]
 refine⟨fun c hc hl=>?_,fun c hc hl k hk=>?_⟩
 ·by_cases hm:(q.ad+c)%A.n∈bad'
  ·exact hm
  ·unfold a_A at hl
   rw[hpc c hm]at hl;exact hb _ (h.lost c hc hl)
 ·have hm:(q.ad+c)%A.n ∉ bad':=fun hm=>by
   have hcn:0<a_a A q.ct c:=by
    rcases Nat.eq_zero_or_pos (a_a A q.ct c)with h0|h0
    ·rw[h0]at hk;omega
    ·exact h0
   have hls:a_A A s' q c=true:=by
    unfold a_A pcR e_x;rw[if_pos]
    ·rfl
    ·rcases hx _ (Nat.mod_lt _ hn) hm with hd|hf
     ·rw[Bool.or_eq_true]
      refine .inr (List.any_eq_true.2 ⟨0,List.mem_range.2 hcn,?_⟩);unfold rdS;rw[if_pos hd];rfl
     ·rw[hf]
      rfl
   rw[hls]at hl;cases hl
  have e:=hpc c hm;unfold a_A at hl;rw[e]at hl;have:=h.right c hc (by unfold a_A;exact hl) k hk
  unfold pcD at this ⊢;rw[e];exact this
end vault
end Go.Proofs.YtojcoaekhiadcaaGreat
