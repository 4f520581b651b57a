import Derived.Test.YtojcoaekhiadcaaGreatA01
import Derived.Test.YtojcoaekhiadcaaGreatA33
import Derived.Test.YtojcoaekhiadcaaGreatA12
import Derived.Test.YtojcoaekhiadcaaGreatA26
import Derived.Test.YtojcoaekhiadcaaGreatA28
import Derived.Laws.IdiomStrings
import Derived.Test.YtojcoaekhiadcaaGreatA29
import Derived.Test.YtojcoaekhiadcaaGreatA21
import Derived.Test.YtojcoaekhiadcaaGreatA22
import Derived.LoopN
import Derived.Test.YtojcoaekhiadcaaGreatA27
import Derived.Defers
import Derived.Recover
import Derived.Deep.RegionHeld3
set_option linter.unusedVariables false
set_option linter.unusedSimpArgs false
namespace Go.Proofs.YtojcoaekhiadcaaGreat
open Tryz Go.RowKit
namespace vault
set_option maxRecDepth 100000
open Go.ChangeShapes Go.WideShapes Go.ChangeAt kit drive label Go.Deep
def ltL(G C:Nat->Nat)(m:Nat):List Value:=(List.range m).map fun i=>Value.slice (some ⟨G i,0,none⟩) 128 (C i)
theorem p_C(G C:Nat->Nat)(m g c:Nat):ltL (fun i=>if i=m then g else G i) (fun i=>if i=m then c else C i) (m+1)=ltL G C m++[Value.slice (some ⟨g,0,none⟩) 128 c]:=by
 unfold ltL;rw[List.range_succ,List.map_append];congr 1
 ·apply List.map_congr_left
  intro i hi;have hi:=List.mem_range.1 hi;simp[show i≠m by omega]
 ·simp
def LtM(w:World)(base:Nat)(v:Value)(m:Nat)(F:Nat->Nat->Nat):Prop:=∃G C,w.ownsRow base 35 1 v m (ltL G C m)/\∀i,i<m->128<=C i/\C i<=maxLen/\m_ 5 .u8 w (G i) 128 (F i)
theorem LtM.nil(w:World)(base:Nat)(F:Nat->Nat->Nat):LtM w base (.slice none 0 0) 0 F:=⟨fun _=>0,fun _=>0,World.ownsRow_nil _ _ _ _,fun i hi=>absurd hi (Nat.not_lt_zero i)⟩
theorem LtM.rdM{w:World}{base:Nat}{v:Value}{m:Nat}{F:Nat->Nat->Nat}(h:LtM w base v m F):∃A c R C,v=.slice A m c/\RdM .u8 w A m R (fun _=>128) C (fun i j=>(F i j:Nat)):=by
 obtain⟨G,C,h1,h2⟩:=h;obtain⟨A,c,rfl,k1,k2,k3,k4⟩:=h_ h1;refine⟨A,c,fun i=>some ⟨G i,0,none⟩,C,rfl,Nat.le_trans k1 k2,fun h0=>?_,fun i hi=>⟨⟨(by show(128:Nat)<=maxLen;unfold maxLen;omega),fun h0=>?_⟩,(h2 i hi).1,(h2 i hi).2.1⟩⟩
 ·obtain⟨g,rfl,_,hg⟩:=k3 h0
  refine⟨g,0,rfl,hg,fun i hi=>?_⟩;rw[Nat.zero_add];exact k4 g rfl i _ (by simp[ltL,hi])
 ·obtain⟨cs,e1,e2⟩:=(h2 i hi).2.2
  exact⟨G i,0,rfl,(h2 i hi).2.2.lt,fun j hj=>by rw[Nat.zero_add];simp[World.cell?,e1,e2 j hj]⟩
theorem r_v{W w':World}{base j b c:Nat}{v v':Value}{G C:Nat->Nat}{F:Nat->Nat->Nat}{ob:Obj}(ho:W.ownsRow base 35 1 v j (ltL G C j))(h2:∀i,i<j->128<=C i/\C i<=maxLen/\m_ 5 .u8 W (G i) 128 (F i))(hr:m_ 5 .u8 W b 128 (F j))(hc:128<=c/\c<=maxLen)(hg:(W.alloc ob).grownBy w' v.ownBlock)(ho':w'.ownsRow base 35 1 v' (j+1) (ltL G C j++[Value.slice (some ⟨b,0,none⟩) 128 c])):LtM w' base v' (j+1) F:=by
 have hA:Alt (fun k=>v.ownBlock=some k) W w':=Alt.grown ((Alt.refl W).alloc _) hg fun r e=>.inl e;have key:∀g f,m_ 5 .u8 W g 128 f->m_ 5 .u8 w' g 128 f:=fun g f h=>by
  obtain⟨cs,e1,e2⟩:=h;exact⟨cs,(hA.same g (Blk.lt (t:=5) e1) (b_ ho (show Blk W g 5 cs from e1) (by decide))).trans e1,e2⟩
 refine⟨fun i=>if i=j then b else G i,fun i=>if i=j then c else C i,by rw[p_C];exact ho',fun i hi=>?_⟩
 dsimp only
 by_cases e:i=j
 ·subst e
  rw[if_pos rfl,if_pos rfl];exact⟨hc.1,hc.2,key _ _ hr⟩
 ·rw[if_neg e,if_neg e]
  obtain⟨k1,k2,k3⟩:=h2 i (by omega)
  exact⟨k1,k2,key _ _ k3⟩
theorem d_s{w:World}{p:Nat}{t:TypeId}{a0 a1 a2 a3 a4 a5 a6 a7 a8 a9 a10 a11 a12:Value}(h:Blk w p t #[a0,a1,a2,a3,a4,a5,a6,a7,a8,a9,a10,a11,a12]):(w.cell? ⟨p,0,none⟩=some a0/\w.cell? ⟨p,1,none⟩=some a1/\w.cell? ⟨p,2,none⟩=some a2/\w.cell? ⟨p,3,none⟩=some a3/\w.cell? ⟨p,4,none⟩=some a4/\w.cell? ⟨p,5,none⟩=some a5/\w.cell? ⟨p,6,none⟩=some a6/\w.cell? ⟨p,7,none⟩=some a7/\w.cell? ⟨p,8,none⟩=some a8/\w.cell? ⟨p,9,none⟩=some a9/\w.cell? ⟨p,10,none⟩=some a10/\w.cell? ⟨p,11,none⟩=some a11/\w.cell? ⟨p,12,none⟩=some a12)/\(w.frozen? ⟨p,0,none⟩=false/\w.frozen? ⟨p,1,none⟩=false/\w.frozen? ⟨p,2,none⟩=false/\w.frozen? ⟨p,3,none⟩=false/\w.frozen? ⟨p,4,none⟩=false/\w.frozen? ⟨p,5,none⟩=false/\w.frozen? ⟨p,6,none⟩=false/\w.frozen? ⟨p,7,none⟩=false/\w.frozen? ⟨p,8,none⟩=false/\w.frozen? ⟨p,9,none⟩=false/\w.frozen? ⟨p,10,none⟩=false/\w.frozen? ⟨p,11,none⟩=false/\w.frozen? ⟨p,12,none⟩=false):=
 ⟨⟨h.cell 0,h.cell 1,h.cell 2,h.cell 3,h.cell 4,h.cell 5,h.cell 6,h.cell 7,h.cell 8,h.cell 9,h.cell 10,h.cell 11,h.cell 12⟩,⟨h.frozen 0,h.frozen 1,h.frozen 2,h.frozen 3,h.frozen 4,h.frozen 5,h.frozen 6,h.frozen 7,h.frozen 8,h.frozen 9,h.frozen 10,h.frozen 11,h.frozen 12⟩⟩
abbrev p_8(w:World)(p:Nat)(a0 a1 a2 a3 a4 a5 a6 a7 a8 a9 a10 a11 a12:Value):World:=((((((((((((w.setCell ⟨p,0,none⟩ a0).setCell ⟨p,1,none⟩ a1).setCell ⟨p,2,none⟩ a2).setCell ⟨p,3,none⟩ a3).setCell ⟨p,4,none⟩ a4).setCell ⟨p,5,none⟩ a5).setCell ⟨p,6,none⟩ a6).setCell ⟨p,7,none⟩ a7).setCell ⟨p,8,none⟩ a8).setCell ⟨p,9,none⟩ a9).setCell ⟨p,10,none⟩ a10).setCell ⟨p,11,none⟩ a11).setCell ⟨p,12,none⟩ a12
theorem o_a{w:World}{p:Nat}{t:TypeId}{b0 b1 b2 b3 b4 b5 b6 b7 b8 b9 b10 b11 b12:Value}(h:Blk w p t #[b0,b1,b2,b3,b4,b5,b6,b7,b8,b9,b10,b11,b12])(a0 a1 a2 a3 a4 a5 a6 a7 a8 a9 a10 a11 a12:Value):Blk (p_8 w p a0 a1 a2 a3 a4 a5 a6 a7 a8 a9 a10 a11 a12) p t #[a0,a1,a2,a3,a4,a5,a6,a7,a8,a9,a10,a11,a12]:=by
 simpa using((((((((((((h.put 0 a0).put 1 a1).put 2 a2).put 3 a3).put 4 a4).put 5 a5).put 6 a6).put 7 a7).put 8 a8).put 9 a9).put 10 a10).put 11 a11).put 12 a12
theorem h_n(w:World)(p:Nat)(a0 a1 a2 a3 a4 a5 a6 a7 a8 a9 a10 a11 a12:Value):Alt (fun k=>k=p) w (p_8 w p a0 a1 a2 a3 a4 a5 a6 a7 a8 a9 a10 a11 a12):=Alt.set (K:=fun k=>k=p) (Alt.set (K:=fun k=>k=p) (Alt.set (K:=fun k=>k=p) (Alt.set (K:=fun k=>k=p) (Alt.set (K:=fun k=>k=p) (Alt.set (K:=fun k=>k=p) (Alt.set (K:=fun k=>k=p) (Alt.set (K:=fun k=>k=p) (Alt.set (K:=fun k=>k=p) (Alt.set (K:=fun k=>k=p) (Alt.set (K:=fun k=>k=p) (Alt.set (K:=fun k=>k=p) (Alt.set (K:=fun k=>k=p) (Alt.refl w) (.inl rfl) a0) (.inl rfl) a1) (.inl rfl) a2) (.inl rfl) a3) (.inl rfl) a4) (.inl rfl) a5) (.inl rfl) a6) (.inl rfl) a7) (.inl rfl) a8) (.inl rfl) a9) (.inl rfl) a10) (.inl rfl) a11) (.inl rfl) a12
def k_c(A:VA)(T:Int)(root:Ptr)(i:Nat)(F:Nat->Nat->Nat):Prop:=
 (∀j k,F j k<256)/\∃a,a<4/\D_ 128 (F a)=0/\(∀k,k<13->b_D 128 (F a) k=e_E A T root i k)/\∀j,j<4->j≠a->D_ 128 (F j)=0->b_D 128 (F j) 4<T
theorem l_3{X Y:Nat->Int}(h:∀k,k<13->X k=Y k):I_ X=I_ Y:=by
 unfold I_;rw[h 0 (by omega),h 1 (by omega),h 2 (by omega),h 3 (by omega),h 4 (by omega),h 5 (by omega),h 6 (by omega),h 7 (by omega),h 8 (by omega),h 9 (by omega),h 10 (by omega),h 11 (by omega),h 12 (by omega)]
theorem s_e{ok:Nat->Bool}{T:Nat->Int}{lo hi:Nat}:∀{r:Option Nat} {a:Nat},b_n ok T lo hi r->b_n ok T lo hi (some a)->r=some a
 |none,a,h,k=>by have:=h a k.1 k.2.1;rw[k.2.2.1]at this;cases this
 |some a,b,h,k=>by
  have h1:=h.2.2.2.1 b k.1 k.2.1 k.2.2.1;have h2:=k.2.2.2.1 a h.1 h.2.1 h.2.2.1;rcases Nat.lt_trichotomy a b with hl|he|hl
  ·have:=k.2.2.2.2 a h.1 hl h.2.2.1;omega
  ·rw[he]
  ·have:=h.2.2.2.2 b k.1 hl k.2.2.1;omega
theorem o_d{ok:Nat->Bool}{T:Nat->Int}{n a:Nat}{r:Option Nat}(h:b_n ok T 0 n r)(ha:a<n)(hk:ok a=true)(ho:∀j,j<n->j≠a->ok j=true->T j<T a):r=some a:=by
 refine s_e h ⟨Nat.zero_le _,ha,hk,fun j _ hj hd=>?_,fun j _ hj hd=>ho j (by omega) (by omega) hd⟩
 by_cases e:j=a
 ·rw[e]
  exact Int.le_refl _
 ·exact Int.le_of_lt (ho j hj e hd)
theorem q_B(Xs:Nat->Nat->Int)(a:Nat)(Y:Nat->Int)(hx:∀k,k<13->Xs a k=Y k):∃b:Int,Ending.returned (.tuple #[.agg (I_ (s_f Xs (some a))),.int .i64 (s_g (some a)),.int .i64 (s_h (some a))])=Ending.returned (.tuple #[.agg (I_ Y),.int .i64 b,.int .i64 0]):=⟨(a:Nat),by
 show Ending.returned (.tuple #[.agg (I_ (Xs a)),.int .i64 ((a:Nat):Int),.int .i64 0])=_;rw[l_3 hx]⟩
theorem o_c{A:VA}{T:Int}{root:Ptr}{i:Nat}{F:Nat->Nat->Nat}(hS:k_c A T root i F){w:World}{base:Nat}{v:Value}(h:LtM w base v 4 F) :
  Calls prog 151 #[v] w fun e w'=>(∃a:Int,e=.returned (.tuple #[.agg (I_ (e_E A T root i)),.int .i64 a,.int .i64 0]))/\New w w':=by
 obtain⟨Ad,c,R,C,rfl,hM⟩:=h.rdM;obtain⟨h8,a,ha,hc,hx,ho⟩:=hS;have hb:∀i,i<4->∀k,k<128->(0:Int)<=(F i k:Nat)/\((F i k:Nat):Int)<=255:=fun i hi k hk=>by have:=h8 i k;omega
 refine(k_l Ad 4 c R (fun _=>128) C (fun i j=>(F i j:Nat)) w hM hb).mono ?_;rintro e w' ⟨⟨r,hr,rfl⟩,hn⟩;simp only[Int.toNat_natCast]at hr ⊢;have h4:b_D 128 (F a) 4=T:=hx 4 (by omega)
 obtain rfl:=o_d hr ha (decide_eq_true hc) fun j hj e hd=>lt_of_lt_of_eq (ho j hj e (of_decide_eq_true hd)) h4.symm;exact⟨q_B (fun i=>b_D 128 fun k=>F i k) a _ hx,hn⟩
abbrev n_O(A:VA)(T:Int)(i ad ct by_:Nat)(birth s0 s1 s2 s3:Int):Array Value:=#[.int .i64 1,.int .i64 (i:Nat),.int .i64 (A.n:Nat),.int .i64 (A.p:Nat),.int .i64 T,.int .i64 (ad:Nat),.int .i64 (ct:Nat),.int .i64 (by_:Nat),.int .i64 birth,.int .i64 s0,.int .i64 s1,.int .i64 s2,.int .i64 s3]
theorem q_A{A:VA}{T:Int}{ad ct by_:Nat}{birth s0 s1 s2 s3:Int}{i:Nat}{F:Nat->Nat->Nat}(hS:k_c A T ⟨ad,ct,by_,birth,s0,s1,s2,s3⟩ i F){w:World}{base:Nat}{v:Value}(h:LtM w base v 4 F) :
  Calls prog 151 #[v] w fun e w'=>(∃a:Int,e=.returned (.tuple #[.agg #[.int .i64 1,.int .i64 (i:Nat),.int .i64 (A.n:Nat),.int .i64 (A.p:Nat),.int .i64 T,.int .i64 (ad:Nat),.int .i64 (ct:Nat),.int .i64 (by_:Nat),.int .i64 birth,.int .i64 s0,.int .i64 s1,.int .i64 s2,.int .i64 s3],.int .i64 a,.int .i64 0]))/\New w w':=(o_c hS h).mono fun e w' hh=>by
 obtain⟨⟨a,rfl⟩,hn⟩:=hh;exact⟨⟨a,rfl⟩,hn⟩
theorem o_e{w:World} :
  Calls prog 151 #[.slice none 0 0] w fun e w'=>e=.returned (.tuple #[.agg (I_ fun _=>0),.int .i64 0,.int .i64 6])/\New w w':=by
 have hM:RdM .u8 w none 0 (fun _=>none) (fun _=>0) (fun _=>0) (fun _ _=>0):=⟨Nat.zero_le _,fun h=>absurd h (Nat.lt_irrefl 0),fun i h=>absurd h (Nat.not_lt_zero i)⟩;refine(k_l none 0 0 _ _ _ _ w hM fun i hi=>absurd hi (Nat.not_lt_zero i)).mono ?_;rintro e w' ⟨⟨r,hr,rfl⟩,hn⟩;cases r with
 |none=>exact⟨rfl,hn⟩
 |some a=>exact absurd hr.2.1 (Nat.not_lt_zero a)
theorem o_b{w:World} :
 Calls prog 151 #[.slice none 0 0] w fun e w'=>e=.returned (.tuple #[.agg #[.int .i64 0,.int .i64 0,.int .i64 0,.int .i64 0,.int .i64 0,.int .i64 0,.int .i64 0,.int .i64 0,.int .i64 0,.int .i64 0,.int .i64 0,.int .i64 0,.int .i64 0],.int .i64 0,.int .i64 6])/\New w w':=o_e
end vault
namespace vault
set_option maxRecDepth 100000
open Go.ChangeShapes Go.WideShapes Go.ChangeAt kit flet label Go.Deep
def Eye(b g:Nat)(l:List Nat)(w:World):Prop:=∃off c,Blk w g 315 #[.slice (some ⟨b,off,none⟩) l.length c]/\l.length<=c/\c<=maxLen/\RdB w (some ⟨b,off,none⟩) l.length (fun i=>l.getD i 0)
theorem r_7{w:World}{A:Addr}{n:Nat}{B:Nat->Nat}{g:Nat}{t:TypeId}{s:Option Addr}{m c:Nat}(h:RdB w (some A) n B)(h0:0<n)(hb:Blk w g t #[.slice s m c]):A.block≠g:=by
 obtain⟨b,off,e,hbb,hcs⟩:=h.2.2 h0;injection e with e;subst e;rintro rfl;have h1:=hcs 0 (by omega)
 rw[hb.cell]at h1
 match hoff:off+0 with
 |0=>rw[hoff]at h1;simp at h1
 |k+1=>rw[hoff]at h1;simp at h1
theorem i_e{w w':World}{b off n:Nat}{B:Nat->Nat}{K:Nat->Prop}(h:RdB w (some ⟨b,off,none⟩) n B)(ha:Alt K w w')(hK:0<n->¬K b):RdB w' (some ⟨b,off,none⟩) n B:=by
 refine⟨h.1,h.2.1,fun h0=>?_⟩;obtain⟨b',off',e,hbb,hcs⟩:=h.2.2 h0;injection e with e;cases e;exact⟨_,_,rfl,Nat.lt_of_lt_of_le hbb ha.size,fun i hi=>ha.cell (hcs i hi) (hK h0)⟩
theorem Eye.alt{b g:Nat}{l:List Nat}{w w':World}(h:Eye b g l w){K:Nat->Prop}(ha:Alt K w w')(h1:¬K g)(h2:¬K b):Eye b g l w':=by
 obtain⟨off,c,e1,e2,e3,e4⟩:=h;exact⟨off,c,ha.blk e1 h1,e2,e3,i_e e4 ha fun _=>h2⟩
theorem j_I{a b c:World}{r:Option Nat}(h1:a.grownBy b r)(h2:b.grownBy c r):a.grownBy c r:=⟨h2.os.trans h1.os,h2.tape.trans h1.tape,h2.output.trans h1.output,Nat.le_trans h1.size h2.size,fun k hk hr=>(h2.block k (Nat.lt_of_lt_of_le hk h1.size) hr).trans (h1.block k hk hr)⟩
theorem p_T(a l:List Nat)(k:Nat)(hk:a.length=k)(i:Nat):(a++l).getD (k+i) 0=l.getD i 0:=by
 simp[List.getD,List.getElem?_append_right (show a.length<=k+i by omega),show k+i-a.length=i by omega]
theorem m_L{b g off c k:Nat}{a l:List Nat}{w:World}(hk:a.length=k)(hb:Blk w g 315 #[.slice (some ⟨b,off,none⟩) (k+l.length) c])(h0:0<k)(hc:k+l.length<=c)(hcm:c<=maxLen)(hr:RdB w (some ⟨b,off,none⟩) (k+l.length) (fun i=>(a++l).getD i 0))(A':Option Addr)(hA:(if c=k then some (⟨b,off,none⟩:Addr)else some ⟨b,off+k,none⟩)=A'):Eye b g l (w.setCell ⟨g,0,none⟩ (.slice A' l.length (c-k))):=by
 have hne:b≠g:=r_7 hr (by omega) hb
 have h1:=hr.cut (c:=c) (k:=k) (by omega) hc
 simp only[Option.map_some,i_]at h1;rw[hA,show k+l.length-k=l.length by omega]at h1
 have hp:Blk (w.setCell ⟨g,0,none⟩ (.slice A' l.length (c-k))) g 315 #[.slice A' l.length (c-k)]:=by simpa using hb.put 0 (.slice A' l.length (c-k))
 have ha:Alt (fun k=>k=g) w (w.setCell ⟨g,0,none⟩ (.slice A' l.length (c-k))):=Alt.set (K:=fun k=>k=g) (Alt.refl w) (.inl rfl) _;have he:(fun i=>(a++l).getD (k+i) 0)=fun i=>l.getD i 0:=funext fun i=>p_T a l k hk i;rw[he]at h1
 by_cases hck:c=k
 ·rw[if_pos hck]at hA
  subst hA;exact⟨_,_,hp,by omega,by omega,i_e h1 ha fun _=>hne⟩
 ·rw[if_neg hck]at hA
  subst hA;exact⟨_,_,hp,by omega,by omega,i_e h1 ha fun _=>hne⟩
theorem a_j(b g:Nat)(x:Int)(l:List Nat)(w:World)(h:Eye b g (n_ x++l) w)(hx:BdI x) :
  Calls prog 181 #[.pointer (some ⟨g,0,none⟩)] w fun e w'=>e=.returned (.int .i64 x)/\Eye b g l w'/\w.grownBy w' (some g):=by
 obtain⟨off,c,hb,hc,hcm,hr⟩:=h;rw[List.length_append,l_]at hb hc hr;obtain⟨n,hn⟩:∃n,Hid (n=l.length):=⟨_,rfl⟩;have hpost:=Hd (fun A' hA=>m_L (k:=8) (a:=n_ x) (l_ x) hb (by omega) hc hcm hr A' hA)
 rw[<-hn.o]at hb hc hpost;have hcs:Hid (∀i,i<8->w.cell? ⟨b,off+i,none⟩=some (.int .u8 (N_ x i:Nat))):=by
  obtain⟨b',off',e,hbb,hcs⟩:=hr.2.2 (by omega)
  injection e with e;cases e;intro i hi;have:=hcs i (by omega)
  have e:(n_ x++l).getD i 0=N_ x i:=by
   unfold List.getD;rw[List.getElem?_append_left (show i<(n_ x).length by rw[l_];exact hi)]
   unfold n_;rw[List.getElem?_map,List.getElem?_range hi];rfl
  rw[<-e];exact this
 have hxw:=Hd (e_0 x hx.1 hx.2);have c0:=hb.cell 0;simp at c0;have hf0:=hb.frozen 0;have hm:c<=maxLen:=hcm;unfold maxLen at hm;clear hb hr hcm;replace hpost:Hid (∀A',_):=hpost;go_enter func181,ntmps181;go_wp2;go_loop [3,4] (fun v c=>∃t:Nat,t<=8/\c=.int .i64 ((7:Int)-t)/\v=.int .i64 (wrap64 (c_B (N_ x) 8 t:Nat))) (fun _ c=>(intOf c+1).toNat);case atStart=>exact⟨0,by omega,j_C (by omega),j_C (IntWalk.wrap64_in _ (by simp)).symm⟩
 case round=>
  obtain⟨t,ht,rfl,rfl⟩:=hrel
  by_cases hlt:t<8
  ·have ci:=hcs.o (7-t) (by omega)
   have hbl:=f_v x (7-t);have hml:=d_d (s:=8) (fun i hi=>f_v x i) t (by omega)
   have hpl:=p_d (t:=t) (by omega)
   have hstep:Hid (c_B (N_ x) 8 (t+1)=c_B (N_ x) 8 t*256+N_ x (7-t)):=rfl;generalize c_B (N_ x) 8 t=m at *;generalize N_ x (7-t)=y at *;obtain⟨u,hu⟩:∃u:Nat,Hid ((7:Int)-t=u/\7-t=u):=⟨7-t,by constructor<;>omega⟩
   rw[hu.o.2]at ci;rw[hu.o.1];have hul:u<8+n:=by have:=hu.o.2;omega
   have hml2:m<72057594037927936:=by omega
   clear hml hpl;have hwm:wrap64 (wrap64 (m:Int)*256)=wrap64 ((m:Int)*256):=by rw[IntWalk.wrap64_in (m:Int) (by omega)]
   have hws:=Hd (f_G m y hml2 hbl);go_wp2;go_round;case rel=>
    refine⟨t+1,by omega,j_C (by have:=hu.o.1;omega),j_C ?_⟩
    rw[hws.o,hstep.o]
   case measure=>simp[intOf]
  ·have hts:t=8:=by omega
   subst hts;have hxe:wrap64 ((c_B (N_ x) 8 8:Nat):Int)=x:=hxw.o;rw[hxe]
   by_cases hct:c=8
   ·have hp:=hpost.o _ (if_pos hct)
    have h0:c-8=0:=by omega
    rw[h0]at hp;have hp:=Hd hp;clear hpost h0;go_wp2;go_ret;exact⟨rfl,hp.o,k_ _ _ _ _⟩
   ·have hp:=Hd (hpost.o _ (if_neg hct))
    clear hpost;go_wp2;go_ret;exact⟨rfl,hp.o,k_ _ _ _ _⟩
theorem j_P(b g:Nat)(x:Nm)(l:List Nat)(w:World)(h:Eye b g (c_i x++l) w)(hx:1<=x.length)(hx2:x.length<=90000) :
  Calls prog 184 #[.pointer (some ⟨g,0,none⟩)] w fun e w'=>e=.returned (encStr x)/\Eye b g l w'/\w.grownBy w' (some g):=by
 have hnum:=Hd (a_j b g (x.length:Int) (x.map (·.toNat)++l) w (by unfold c_i at h;rw[List.append_assoc]at h;exact h) ⟨by omega,by omega⟩)
 obtain⟨k,hk⟩:∃k,Hid (k=x.length):=⟨_,rfl⟩;obtain⟨n,hn⟩:∃n,Hid (n=l.length):=⟨_,rfl⟩;obtain⟨X,hX⟩:∃X,Hid (X=encStr x):=⟨_,rfl⟩;rw[<-hk.o]at hnum hx hx2;rw[<-hX.o];clear h;go_enter func184,ntmps184;go_wp2_with fail;refine hnum.o.mono ?_;rintro e w1 ⟨rfl,⟨off,c,hb,hc,hcm,hr⟩,hg⟩;have hll:(x.map (·.toNat)++l).length=k+n:=by rw[List.length_append,List.length_map,hk.o,hn.o]
 rw[hll]at hb hc hr;have hpost:=Hd (fun A' hA=>m_L (k:=k) (a:=x.map (·.toNat)) (by rw[List.length_map,hk.o]) (by rw[<-hn.o];exact hb) (by omega) (by rw[<-hn.o];exact hc) hcm (by rw[<-hn.o];exact hr) A' hA)
 rw[<-hn.o]at hpost;replace hpost:Hid (∀A',_):=hpost;have hcv:(convert 315 9 (.slice (some ⟨b,off,none⟩) k c)).run prog w1=.ok X w1:=by
  obtain⟨b',off',e,hbb,hcs⟩:=hr.2.2 (by omega)
  injection e with e;cases e;rw[hX.o,hk.o];refine run_convert_bytes_back w1 _ _ 5 ⟨b,off,none⟩ c x underlying315 rfl underlying9 fun j hj=>?_;have:=hcs j (by have:=hk.o;omega)
  simp only[List.getD,List.getElem?_append_left (show j<(x.map (·.toNat)).length by rw[List.length_map];exact hj),List.getElem?_map,List.getElem?_eq_getElem hj]at this
  rw[i_];simpa using this
 have c1:=hb.cell 0;simp at c1;have f1:=hb.frozen 0;have hg1:=Hd hg;have hm:c<=maxLen:=hcm;unfold maxLen at hm;have hkc:(k:Int)<=(c:Int):=by omega
 have hk0:(0:Int)<=(k:Int):=by omega
 have hkn:(k:Int)<=((k+n:Nat):Int):=by omega
 clear hb hr hcm hg hnum;have key:∀A':Option Addr,(if c=k then some (⟨b,off,none⟩:Addr)else some ⟨b,off+k,none⟩)=A'->Hid (Eye b g l (w1.setCell ⟨g,0,none⟩ (.slice A' n (c-k)))/\w.grownBy (w1.setCell ⟨g,0,none⟩ (.slice A' n (c-k))) (some g)):=fun A' hA=>⟨hpost.o A' hA,j_I hg1.o (k_ w1 g 0 (.slice A' n (c-k)))⟩
 by_cases hck:c=k
 ·have hp:=key _ (if_pos hck)
  rw[show c-k=0 by omega]at hp
  rw[hck]at hcv;clear key hpost;go_wp2;go_ret;exact⟨rfl,hp.o⟩
 ·have hp:=key _ (if_neg hck)
  clear key hpost;go_wp2;go_ret;exact⟨rfl,hp.o⟩
def b_T(L:List Int)(i:Nat):Array Value:=((List.range 8).map fun j=>Value.int .i64 (if j<i then L.getD j 0 else 0)).toArray
theorem l_n(L:List Int):∀i,i<8->(b_T L i).setIfInBounds i (.int .i64 (L.getD i 0))=b_T L (i+1)
 |0,_=>rfl|1,_=>rfl|2,_=>rfl|3,_=>rfl|4,_=>rfl|5,_=>rfl|6,_=>rfl|7,_=>rfl
 |i+8,h=>absurd h (by omega)
theorem l_o(L:List Int)(i j:Nat)(h:j<8):(b_T L i)[j]?=some (.int .i64 (if j<i then L.getD j 0 else 0)):=by
 unfold b_T;simp[h]
def l_B(b:Nat):Array Value:=((List.range 8).map fun j=>Value.pointer (some ⟨b,j,none⟩)).toArray
theorem q_K(b j:Nat)(h:j<8):(l_B b)[j]?=some (.pointer (some ⟨b,j,none⟩)):=by
 unfold l_B;simp[h]
theorem n_v(q:Ptr)(i:Nat)(x:Int)(h:(a_J q)[i]?=some x):((a_J q).drop i).flatMap n_=n_ x++((a_J q).drop (i+1)).flatMap n_:=by
 obtain⟨hi,e⟩:=List.getElem?_eq_some_iff.1 h;rw[List.drop_eq_getElem_cons hi,List.flatMap_cons,e]
theorem l_e(b g:Nat)(q:Ptr)(l:List Nat)(w:World)(h:Eye b g (b_1 q++l) w)(hq:∀x∈a_J q,BdI x)(hbw:b<w.heap.size)(hbg:b≠g) :
  Calls prog 182 #[.pointer (some ⟨g,0,none⟩)] w fun e w'=>e=.returned (.agg (x_ q))/\Eye b g l w'/\w.grownBy w' (some g):=by
 have hnum:=Hd (fun x l w h hx=>a_j b g x l w h hx);replace hnum:Hid (∀x:Int,_):=hnum;obtain⟨ad,ct,by_,birth,s0,s1,s2,s3⟩:=q;obtain⟨L,hL⟩:∃L,Hid (L=a_J ⟨ad,ct,by_,birth,s0,s1,s2,s3⟩):=⟨_,rfl⟩;have hlen:Hid (L.length=8):=by rw[hL.o];rfl
 have hqH:Hid (∀x∈L,BdI x):=by rw[hL.o];exact Hd hq
 obtain⟨rb,hrb⟩:∃rb,Hid (rb=w.heap.size):=⟨_,rfl⟩;obtain⟨W1,hW1⟩:∃W1,W1=(w.alloc (.cells #[.int .i64 0,.int .i64 0,.int .i64 0,.int .i64 0,.int .i64 0,.int .i64 0,.int .i64 0,.int .i64 0] 107)).alloc (.cells #[.pointer (some ⟨rb,0,none⟩),.pointer (some ⟨rb,1,none⟩),.pointer (some ⟨rb,2,none⟩),.pointer (some ⟨rb,3,none⟩),.pointer (some ⟨rb,4,none⟩),.pointer (some ⟨rb,5,none⟩),.pointer (some ⟨rb,6,none⟩),.pointer (some ⟨rb,7,none⟩)] 251):=⟨_,rfl⟩;have hN1:Hid (New w W1):=by rw[hW1];exact((New.refl w).alloc _).alloc _
 have hB1:Hid (Blk W1 (rb+1) 251 (l_B rb)):=by
  have:=Blk.fresh (w.alloc (.cells (b_T [] 0) 107)) 251 (l_B rb);rw[show(w.alloc (.cells (b_T [] 0) 107)).heap.size=rb+1 by rw[hrb.o];simp]at this
  rw[hW1];exact this
 have hP1:Hid (Blk W1 rb 107 (b_T L 0)):=by
  have:=(Blk.fresh w 107 (b_T [] 0)).alloc (.cells (l_B rb) 251);rw[<-hrb.o]at this;rw[hW1];exact this
 have hE1:Hid (Eye b g ((L.drop 0).flatMap n_++l) W1):=by
  obtain⟨off,c,e1,e2,e3,e4⟩:=h;rw[hL.o];exact⟨off,c,e1.new hN1.o,e2,e3,e4.new hN1.o⟩
 have hG1:Hid (w.grownBy W1 (some g)):=⟨hN1.o.os,hN1.o.tape,hN1.o.output,hN1.o.size,fun k hk _=>hN1.o.block k hk⟩;have hgw:Hid (g<rb):=by obtain⟨off,c,e1,_⟩:=h;rw[hrb.o];exact e1.lt
 have hbr:Hid (b<rb):=by rw[hrb.o];exact hbw
 clear hq h hN1;go_enter func182,ntmps182;go_wp2_with fail
 try simp only[<-hrb.o]
 rw[<-hW1];clear hW1;go_loopw [19] (fun x wr=>∃i:Nat,x=.int .i64 i/\i<=8/\Hid (Eye b g ((L.drop i).flatMap n_++l) wr)/\Hid (Blk wr (rb+1) 251 (l_B rb))/\Hid (Blk wr rb 107 (b_T L i))/\Hid (w.grownBy wr (some g))) (fun x _=>8-(intOf x).toNat);case atStart=>exact⟨0,rfl,by omega,hE1,hB1,hP1,hG1⟩
 case round=>
  obtain⟨i,rfl,hi,hE,hB,hP,hG⟩:=hrel;clear hE1 hB1 hP1 hG1
  by_cases hlt:i<8
  ·have hiI:(i:Int)<8:=by omega
   have hi0:(0:Int)<=(i:Int):=by omega
   obtain⟨x,hx⟩:∃x,L[i]?=some x:=⟨_,List.getElem?_eq_getElem (by rw[hlen.o];exact hlt)⟩
   have hxL:x∈L:=List.mem_of_getElem? hx;have ck:=hB.o.cell i;rw[q_K rb i hlt]at ck;have hE2:Eye b g (n_ x++((L.drop (i+1)).flatMap n_++l)) wr:=by
    have:=hE.o;rw[hL.o]at this hx ⊢;rw[n_v _ i x hx,List.append_assoc]at this;exact this
   have hcall:=Hd (hnum.o x _ wr hE2 (hqH.o x hxL));have hxt:=Hd hx;clear hxL hx hE hE2;go_wp2_with fail;refine hcall.o.mono ?_;rintro e w2 ⟨rfl,hE3,hg3⟩;have hB2:=hB.o.grown hg3 (fun e=>by injection e with e;have:=hgw.o;omega)
   have hP2:=hP.o.grown hg3 (fun e=>by injection e with e;have:=hgw.o;omega)
   have p0:=hP2.cell i;rw[l_o L i i hlt]at p0;have p1:=hP2.frozen i;have hP3:Hid (Blk (w2.setCell ⟨rb,i,none⟩ (.int .i64 x)) rb 107 (b_T L (i+1))):=by
    have:=hP2.put i (.int .i64 x);have e:x=L.getD i 0:=by rw[List.getD,hxt.o];rfl
    rw[e]at this ⊢;rw[l_n L i hlt]at this;exact this
   have hB3:Hid (Blk (w2.setCell ⟨rb,i,none⟩ (.int .i64 x)) (rb+1) 251 (l_B rb)):=hB2.far (p:=⟨rb,i,none⟩) (by show rb+1≠rb;omega) _
   have hA3:Alt (fun k=>k=rb) w2 (w2.setCell ⟨rb,i,none⟩ (.int .i64 x)):=Alt.set (K:=fun k=>k=rb) (Alt.refl w2) (.inl rfl) _;have hE4:Hid (Eye b g ((L.drop (i+1)).flatMap n_++l) (w2.setCell ⟨rb,i,none⟩ (.int .i64 x))):=hE3.alt hA3 (fun e=>by have:=hgw.o;omega) (fun e=>by have:=hbr.o;omega)
   have hG4:Hid (w.grownBy (w2.setCell ⟨rb,i,none⟩ (.int .i64 x)) (some g)):=by
    have h1:=j_I hG.o hg3;exact⟨hA3.os.trans h1.os,hA3.tape.trans h1.tape,hA3.output.trans h1.output,Nat.le_trans h1.size hA3.size,fun k hk hr=>(hA3.same k (Nat.lt_of_lt_of_le hk h1.size) (fun e=>by rw[hrb.o]at e;omega)).trans (h1.block k hk hr)⟩
   clear hE3 hg3 hB2 hP2 hA3 hB hP hG;go_wp2;go_roundw;case rel=>exact⟨i+1,by go_num,by omega,hE4,hB3,hP3,hG4⟩
   case measure=>simp[intOf];omega
  ·obtain rfl:i=8:=by omega
   have hiI:¬((8:Nat):Int)<8:=by decide
   have hE8:Hid (Eye b g l wr):=by
    have:=hE.o;rw[List.drop_of_length_le (by rw[hlen.o];exact Nat.le_refl _)]at this
    exact this
   have hP8:Hid (Blk wr rb 107 #[.int .i64 ad,.int .i64 ct,.int .i64 by_,.int .i64 birth,.int .i64 s0,.int .i64 s1,.int .i64 s2,.int .i64 s3]):=by
    have:=hP.o;rw[hL.o]at this;exact this
   have l0:=hP8.o.cell 0;have l1:=hP8.o.cell 1;have l2:=hP8.o.cell 2;have l3:=hP8.o.cell 3;have l4:=hP8.o.cell 4;have l5:=hP8.o.cell 5;have l6:=hP8.o.cell 6;have l7:=hP8.o.cell 7;simp at l0 l1 l2 l3 l4 l5 l6 l7;have hal:Alt (fun k=>k=rb) wr (wr.setRow rb #[.int .i64 ad,.int .i64 ct,.int .i64 by_,.int .i64 birth,.int .i64 s0,.int .i64 s1,.int .i64 s2,.int .i64 s3]):=Alt.row (K:=fun k=>k=rb) (Alt.refl wr) (.inl rfl) _;have hfin:Hid (Eye b g l (wr.setRow rb #[.int .i64 ad,.int .i64 ct,.int .i64 by_,.int .i64 birth,.int .i64 s0,.int .i64 s1,.int .i64 s2,.int .i64 s3])/\w.grownBy (wr.setRow rb #[.int .i64 ad,.int .i64 ct,.int .i64 by_,.int .i64 birth,.int .i64 s0,.int .i64 s1,.int .i64 s2,.int .i64 s3]) (some g)):=by
    refine⟨hE8.o.alt hal (fun e=>by have:=hgw.o;omega) (fun e=>by have:=hbr.o;omega),?_⟩
    have h1:=hG.o;exact⟨hal.os.trans h1.os,hal.tape.trans h1.tape,hal.output.trans h1.output,Nat.le_trans h1.size hal.size,fun k hk hr=>(hal.same k (Nat.lt_of_lt_of_le hk h1.size) (fun e=>by rw[hrb.o]at e;omega)).trans (h1.block k hk hr)⟩
   clear hal hE hP hB hG hE8;go_wp2_with (refine wpList_store_row rfl 107 _ _ rfl rb #[.int .i64 ad,.int .i64 ct,.int .i64 by_,.int .i64 birth,.int .i64 s0,.int .i64 s1,.int .i64 s2,.int .i64 s3] rfl rfl 107 _ hP8.o (by kernel_rfl) rfl (by simp[Value.oneCell']) ?_)
   exact bodyPost_ret (v:=.agg #[.int .i64 ad,.int .i64 ct,.int .i64 by_,.int .i64 birth,.int .i64 s0,.int .i64 s1,.int .i64 s2,.int .i64 s3]) (results_cell_row results182 _ _ rb 107 #[.int .i64 ad,.int .i64 ct,.int .i64 by_,.int .i64 birth,.int .i64 s0,.int .i64 s1,.int .i64 s2,.int .i64 s3] (0,0) _ rfl (hP8.o.row _) underlying107 rfl (by kernel_rfl)) rfl ⟨rfl,hfin.o⟩
open drive
theorem Eye.new{b g:Nat}{l:List Nat}{w w':World}(h:Eye b g l w)(hn:New w w'):Eye b g l w':=h.alt (K:=fun _=>False) (Alt.of_new hn) (fun f=>f) fun f=>f
theorem Eye.made{w:World}{b off n:Nat}{L:List Nat}{X:Nat->Nat}(h:RdI .u8 w (some ⟨b,off,none⟩) n (fun k=>(X k:Nat)))(hl:L.length=n)(h0:0<n)(hX:∀i,i<n->X i=L.getD i 0)(hL:∀i,i<n->L.getD i 0<256)(hm:n<=maxLen):Eye b w.heap.size L (w.alloc (.cells #[.slice (some ⟨b,off,none⟩) n n] 315)):=by
 have hr:RdI .u8 w (some ⟨b,off,none⟩) n (fun k=>(L.getD k 0:Nat)):=⟨h.1,fun h0=>by
  obtain⟨b',o',e1,e2,e3⟩:=h.2 h0;exact⟨b',o',e1,e2,fun i hi=>by rw[e3 i hi];dsimp only;rw[hX i hi]⟩⟩
 refine⟨off,n,by rw[hl];exact Blk.fresh w _ _,by rw[hl];exact Nat.le_refl n,hm,?_⟩
 rw[hl];have h1:=p_0 hr fun i hi=>⟨by omega,by have:=hL i hi;omega⟩
 simp only[Int.toNat_natCast]at h1;exact h1.new ((New.refl w).alloc _)
theorem p_G{A:VA}{o:Nat->Nat}{s:VS}(hA:VOk A)(w:World)(h:VM A o s w)(hd:DOk A s)(q:Ptr)(lv:Nat)(l:List Nat){bad:List Nat}(hp:d_O A s bad q lv l)(h1:1<=q.ct)(hb:bad.length<=mxB A)(hlv:lv<=1000)(h8:∀x,x∈l->x<256) :
  Calls prog 180 #[ptr A.v,.agg (x_ q)] w fun e w'=>∃b off c,e=.returned (.tuple #[.int .i64 (lv:Nat),.slice (some ⟨b,off,none⟩) l.length c,.int .i64 0])/\l.length<=c/\c<=maxLen/\RdB w' (some ⟨b,off,none⟩) l.length (fun i=>l.getD i 0)/\b<w'.heap.size/\New w w':=by
 have hft:=Hd (fun(w':World) (hn:New w w')=>h_J hA w' (h.new hn) hd q (pgX lv l) hp.pb (hp.kp.held hA h1 hb));replace hft:Hid (∀w',New w w'->_):=hft;have hb2:=hp.pb.b2;rw[hp.by_]at hft hb2;obtain⟨n,hn⟩:∃n,Hid (n=l.length):=⟨_,rfl⟩;rw[<-hn.o]at hft hb2 ⊢;have hX:Hid (∀i,i<16+n->pgX lv l i=(n_ (lv:Int)++(n_ (n:Int)++l)).getD i 0):=fun i hi=>by
  unfold pgX pgB;rw[List.append_assoc,hn.o]
 have hL:Hid (∀i,i<16+n->(n_ (lv:Int)++(n_ (n:Int)++l)).getD i 0<256):=fun i hi=>j_K (fun x hx=>by
  rcases List.mem_append.1 hx with hx|hx
  ·exact Y_ _ x hx
  rcases List.mem_append.1 hx with hx|hx
  ·exact Y_ _ x hx
  ·exact h8 x hx) i
 have hlen:Hid ((n_ (lv:Int)++(n_ (n:Int)++l)).length=16+n):=by show _=_;rw[List.length_append,List.length_append,l_,l_,hn.o];omega
 have e2:=Hd (fun b g w h=>a_j b g (n:Int) l w h ⟨by omega,by omega⟩)
 replace e2:Hid (∀b,_):=e2;have e1:=Hd (fun b g w h=>a_j b g (lv:Int) (n_ (n:Int)++l) w h ⟨by omega,by omega⟩)
 replace e1:Hid (∀b,_):=e1;obtain⟨L,hLv⟩:∃L,Hid (L=(lv:Int)):=⟨_,rfl⟩;rw[<-hLv.o]at e1 hX hL hlen ⊢;obtain⟨W0,hW0⟩:∃W0,W0=w.alloc (.cells (x_ q) 107):=⟨_,rfl⟩;have hN0:New w W0:=by rw[hW0];exact(New.refl w).alloc _
 have hb0:Blk W0 w.heap.size 107 (x_ q):=by rw[hW0];exact c_k w _
 clear h hd hp h1 hb hA h8;obtain⟨ad,ct,by_,birth,s0,s1,s2,s3⟩:=q;have k0:=hb0.cell 0;have k1:=hb0.cell 1;have k2:=hb0.cell 2;have k3:=hb0.cell 3;have k4:=hb0.cell 4;have k5:=hb0.cell 5;have k6:=hb0.cell 6;have k7:=hb0.cell 7;simp at k0 k1 k2 k3 k4 k5 k6 k7;have hft:=Hd (hft.o W0 hN0);have hN0H:=Hd hN0;clear hb0 hN0;go_enter func180,ntmps180;go_upto_region 1 with fail;rw[<-hW0];clear hW0;go_wp2_with fail;refine hft.o.mono ?_;rintro e w1 ⟨R,rfl,hr,hn1⟩;obtain⟨b,off,rfl,hbl,_⟩:=hr.2 (by omega)
 have hE:=Hd (Eye.made hr hlen.o (by omega) hX.o hL.o (by unfold maxLen;omega))
 have hn1:=Hd (hN0H.o.next hn1);clear hr;go_wp2_with fail;refine(e1.o b w1.heap.size _ hE.o).mono ?_;rintro e w2 ⟨rfl,hE2,hg2⟩;have hn2:=Hd ((hn1.o.alloc _).grown1 hg2 hn1.o.size);have hE2:=Hd hE2;have hs2:Hid (w1.heap.size<=w2.heap.size):=by have:=hg2.size;rw[World.size_alloc]at this;show _<=_;omega
 clear hg2;go_wp2_with fail;refine(e2.o b w1.heap.size _ hE2.o).mono ?_;rintro e w3 ⟨rfl,hE3,hg3⟩;have hn3:=Hd (hn2.o.grown1 hg3 hn1.o.size);have hl3:Hid (b<w3.heap.size):=Nat.lt_of_lt_of_le hbl (Nat.le_trans hs2.o hg3.size);clear hg3;obtain⟨off3,c3,hb3,hc3,hcm3,hr3⟩:=hE3;rw[<-hn.o]at hb3 hc3 hr3;have x0:=hb3.cell 0;simp at x0;clear hb3;have hnc:(n:Int)<=(c3:Int):=by omega
 have hn0:(0:Int)<=(n:Int):=by omega
 have hr3:=Hd hr3;unfold maxLen at hcm3;go_wp2_with fail;go_region;go_wp2;exact bodyPost_ret (by simp[results,results180,go_sem]) rfl ⟨b,off3,c3,rfl,hc3,hcm3,hr3.o,hl3.o,hn3.o.drew⟩
end vault
namespace vault
set_option maxRecDepth 100000
open Go.ChangeShapes Go.WideShapes Go.ChangeAt kit pool flet label Go.Deep Go.Maps
set_option maxHeartbeats 4000000 in
theorem p_k(vb b g rb nb cb sz:Nat)(x:Nm)(l:List Nat)(o:Nat->Nat)(w:World)(hE:Eye b g (n_ 1++(c_i x++(n_ (sz:Int)++(n_ 0++l)))) w)(hx:1<=x.length/\x.length<=8)(hs:1<=sz/\sz<=256)(hr:w.cell? ⟨rb,0,none⟩=some (ptr nb))(hrg:rb≠g)(hgb:b<w.heap.size) :
  Calls prog 183 #[ptr vb,.pointer (some ⟨g,0,none⟩),.slice (some ⟨rb,0,none⟩) 1 cb] w fun e w'=>∃xb,e=.returned (.map (some xb))/\w.heap.size<=xb/\MP (ObV vb (tag2 o w) w') w' xb 1 [(x,⟨sz,[nb]⟩)]/\Eye b g l w'/\Alt (fun k=>k=g) w w':=by
 have hmm := @run_makeMap prog;obtain⟨W1,hW1⟩:∃W1,W1=w.alloc (.map #[] 0):=⟨_,rfl⟩;have hN1:New w W1:=by rw[hW1];exact(New.refl w).alloc _
 have hg:g<w.heap.size:=by obtain⟨_,_,h,_⟩:=hE;exact h.lt
 have hM1:MP (α:=OG) (fun _ _=>False) W1 w.heap.size 0 []:=by rw[hW1];exact MP.made w
 have hE1:=Hd (hE.new hN1);have e1:=Hd (fun w h=>a_j b g 1 (c_i x++(n_ (sz:Int)++(n_ 0++l))) w h ⟨by omega,by omega⟩)
 replace e1:Hid (∀w,_):=e1;have e2:=Hd (fun w h=>j_P b g x (n_ (sz:Int)++(n_ 0++l)) w h hx.1 (by omega))
 replace e2:Hid (∀w,_):=e2;have e3:=Hd (fun w h=>a_j b g (sz:Int) (n_ 0++l) w h ⟨by omega,by omega⟩)
 replace e3:Hid (∀w,_):=e3;have e4:=Hd (fun w h=>a_j b g 0 l w h ⟨by omega,by omega⟩)
 replace e4:Hid (∀w,_):=e4;obtain⟨X,hX⟩:∃X,Hid (X=encStr x):=⟨_,rfl⟩;rw[<-hX.o]at e2;have hs1:(0:Int)<(sz:Int):=by omega
 have hs2:¬(256:Int)<(sz:Int):=by omega
 have hEH:=Hd hE;have hN1H:=Hd hN1;have hM1:=Hd hM1;have hgH:=Hd hg;have hrH:=Hd hr;clear hE hN1 hr hg;go_enter func183,ntmps183;go_wp2_with fail;rw[<-hW1];clear hW1;refine(e1.o W1 hE1.o).mono ?_;rintro e w2 ⟨rfl,hE2,hg2⟩;have hE2:=Hd hE2;have hA2:Hid (Alt (fun k=>k=g) W1 w2):=Alt.grown (Alt.refl W1) hg2 fun r e=>.inl (Option.some.inj e).symm;clear hg2;go_wp2_with fail;refine wp_loop_rounds 2 ?_;rw[rounds_succ];go_wp2_with fail;refine(e2.o w2 hE2.o).mono ?_;rintro e w3 ⟨rfl,hE3,hg3⟩;have hE3:=Hd hE3;have hA3:Hid (Alt (fun k=>k=g) W1 w3):=Alt.grown hA2.o hg3 fun r e=>.inl (Option.some.inj e).symm;clear hg3;go_wp2_with fail;refine(e3.o w3 hE3.o).mono ?_;rintro e w4 ⟨rfl,hE4,hg4⟩;have hE4:=Hd hE4;have hA4:Hid (Alt (fun k=>k=g) W1 w4):=Alt.grown hA3.o hg4 fun r e=>.inl (Option.some.inj e).symm;clear hg4;obtain⟨W5,hW5⟩:∃W5,W5=w4.alloc (.cells #[ptr vb,.int .i64 (sz:Nat),.slice none 0 0] 100):=⟨_,rfl⟩;have hb5:Blk W5 w4.heap.size 100 #[ptr vb,.int .i64 (sz:Nat),.slice none 0 0]:=by rw[hW5];exact Blk.fresh w4 _ _
 have hN5:New w4 W5:=by rw[hW5];exact(New.refl w4).alloc _
 have hE5:=Hd (hE4.o.new hN5);go_wp2_with fail;rw[<-hW5];clear hW5;have c1:=hb5.cell 1;have c2:=hb5.cell 2;simp at c1 c2;have hb5H:=Hd hb5;have hN5H:=Hd hN5;clear hb5 hN5;refine wp_loop_rounds 2 ?_;rw[rounds_succ];go_wp2_with fail;have hgo:Hid (w4.heap.size≠g):=by have h1:=hA4.o.size;have h2:=hN1H.o.size;have h3:=hgH.o;show _≠_;omega
 have hwo:Hid (w.heap.size<=w4.heap.size):=Nat.le_trans hN1H.o.size hA4.o.size;have hr5:Hid (W5.cell? ⟨rb,0,none⟩=some (ptr nb)):=((Alt.of_new (K:=fun k=>k=g) hN5H.o)).cell (hA4.o.cell ((Alt.of_new (K:=fun k=>k=g) hN1H.o).cell hrH.o hrg) hrg) hrg;have hA5:Hid (Alt (fun k=>k=g) W1 W5):=hA4.o.next hN5H.o;obtain⟨ib,hib,hbz,hbs,hby⟩:=info_parts d_f;go_region_law
  (first
    |(go_simp;go_at_call 181;(with_reducible refine(e4.o _ (hE5.o.new (New.refl _).drew)).mono ?_);rintro e w6 ⟨rfl,hE6,hg6⟩;have hA6:=Alt.grown (Alt.refl (K:=fun k=>k=g) W5).drew hg6 (fun r e=>.inl (Option.some.inj e).symm);have d2:=hA6.cell c2 hgo.o;have d3:=(hA6.alloc (.cells #[ptr nb] 112)).cell c2 hgo.o;have dr:=hA6.cell hr5.o hrg;have hb6:=hA6.blk hb5H.o hgo.o;have hs6:=hA6.size;have hA6:=Hd (hA5.o.trans hA6);have hE6:=Hd hE6;clear hg6)
    |(refine step_append_lies _ (by rfl) _ _ 98 (by rfl) w4.heap.size 112 ib _ 1 8 underlying98 hib hbz hbs hby rfl (by decide) (.slice none 0 0) 0 [] (by rfl) (World.ownsRow_nil _ _ _ _) ⟨w6.heap.size,0,none⟩ 1 1 [ptr nb] (by rfl) (by rfl) (World.news_of_block (cs:=#[ptr nb]) (t:=112) (fr:=(0,0)) (heap_alloc_new w6 _)) (by simp[Value.oneCell']) (by omega) (by unfold maxLen;omega) (by omega) (by rw[World.size_alloc];have:=hN5H.o.size;omega) _ rfl ?_;intro g7 c7 w7 ho7 hg7 h7 hl7;rw[Nat.zero_add];rw[Nat.zero_add,List.nil_append]at ho7;have hn7:New w6 w7:=New.of_alloc (New.of_grown hg7);have hb7:=hb6.new hn7;have f7:=hb7.frozen 2;have d7:=hb7.cell 2;simp at d7;have hx7:=Hd (And.intro ho7 (And.intro hn7 hb7));clear ho7 hg7 h7 hl7 hb7))
 all_goals
  have hb8:Blk (w7.setCell ⟨w4.heap.size,2,none⟩ (.slice (some ⟨g7,0,none⟩) 1 c7)) w4.heap.size 100 #[ptr vb,.int .i64 (sz:Nat),.slice (some ⟨g7,0,none⟩) 1 c7]:=by simpa using hx7.o.2.2.put 2 (.slice (some ⟨g7,0,none⟩) 1 c7)
  have q1:=hb8.cell 1;simp at q1;obtain⟨W8,hW8⟩:∃W8,W8=w7.setCell ⟨w4.heap.size,2,none⟩ (.slice (some ⟨g7,0,none⟩) 1 c7):=⟨_,rfl⟩;have hxo:w.heap.size<w4.heap.size:=by
   have h1:=hM1.o.lt;have h2:=hA4.o.size;omega
  have hob1:W1.heap.size<=w4.heap.size:=hA4.o.size;have hA8:Alt (fun k=>k=g) W1 W8:=by
   rw[hW8];exact(hA6.o.next hx7.o.2.1).set (.inr hob1) _
  have hxg:¬w.heap.size=g:=by have:=hgH.o;omega
  have hM8:=hM1.o.alt (rd':=fun _ _=>False) hA8 hxg fun k y h=>by cases h
  have ho8:W8.ownsRow w4.heap.size 112 1 (.slice (some ⟨g7,0,none⟩) 1 c7) 1 [ptr nb]:=by
   rw[hW8];exact ownsRow_setCell_other hx7.o.1 (a:=⟨w4.heap.size,2,none⟩) (b_ hx7.o.1 hx7.o.2.2 (by decide)) _
  have hE8:Eye b g l W8:=by
   have hgW:g<W1.heap.size:=Nat.lt_of_lt_of_le hgH.o hN1H.o.size;have hbW:b<W1.heap.size:=Nat.lt_of_lt_of_le hgb hN1H.o.size;rw[hW8];exact(hE6.o.new hx7.o.2.1).alt (K:=fun k=>k=w4.heap.size) (Alt.set (K:=fun k=>k=w4.heap.size) (Alt.refl w7) (.inl rfl) _) (by omega) (by omega)
  rw[<-hW8]at hb8 q1;obtain⟨w9,hup,hg9,hput⟩:=hM8.put (t:=150) underlying150 (by unfold maxLen;omega) (x:=x) (by have:=hx.2;unfold maxLen;omega) (ptr w4.heap.size) (⟨sz,[nb]⟩:OG)
  have hA9:Alt (fun k=>k=w.heap.size) W8 w9:=Alt.grown (Alt.refl W8) hg9 fun r e=>.inl (Option.some.inj e).symm;have hN9:ObN w.heap.size vb w4.heap.size sz [nb] w9:=⟨hwo.o,_,hA9.blk hb8 (by omega),(hA9.own ho8 fun k hk e=>by have:=(ho8.lt k hk).1;omega).mono hwo.o⟩
  have hfin:Hid (w.heap.size<=w.heap.size/\MP (ObV vb (tag2 o w) w9) w9 w.heap.size 1 [(x,⟨sz,[nb]⟩)]/\Eye b g l w9/\Alt (fun k=>k=g) w w9):=⟨Nat.le_refl _,hput _ hN9.obv (fun k y h=>by cases h),hE8.alt (K:=fun k=>k=w.heap.size) hA9 (fun e=>hxg e.symm) (by have:=hgb;omega),((Alt.of_new hN1H.o).trans' hA8 fun i hi=>.inl hi).trans' hA9 fun i hi=>.inr (by omega)⟩
  rw[<-hX.o]at hup;rw[<-hW8];clear hW8 hb8 hM8 ho8 hE8 hA8 hg9 hput hA9 hN9 hxo hob1 hxg;clear d7 f7 d2 dr d3;go_wp2_with fail;rw[rounds_succ];go_wp2_with fail;rw[rounds_succ];go_wp2;go_ret;exact⟨_,rfl,hfin.o⟩
open drive
def bk1(x:Nm)(sz:Nat)(q:Ptr):List Nat:=n_ 1++(b_1 q++(n_ 1++(c_i x++(n_ (sz:Int)++(n_ 0++(n_ 0++[]))))))
theorem l_r(p:Value)(w:World) :
  CallsD prog 179 #[p] .returning w fun e u' w'=>e=.returned (.tuple #[])/\u'=.returning/\w'=w:=by
 refine callsD_of_wpS func179 rfl fun c₀ cs hu=>?_;apply wpS_seq;apply wpS_region;simp[wpOpsS,go_sem,recoverD,hu,ntmps179,Exit.thenS];refine wpS_cond (t:=false) (by simp[Act.eval,Array.replicate]) ?_
 simp only[Bool.false_eq_true,if_false];refine wpS_of_wp (wp_skip ?_);cases c₀
 simp_all [bodyPostS,results,results179]
theorem a_t{w:World}{p:Nat}{t:TypeId}{a0 a1 a2 a3 a4 a5 a6 a7:Value}(h:Blk w p t #[a0,a1,a2,a3,a4,a5,a6,a7]):w.cell? ⟨p,0,none⟩=some a0/\w.cell? ⟨p,1,none⟩=some a1/\w.cell? ⟨p,2,none⟩=some a2/\w.cell? ⟨p,3,none⟩=some a3/\w.cell? ⟨p,4,none⟩=some a4/\w.cell? ⟨p,5,none⟩=some a5/\w.cell? ⟨p,6,none⟩=some a6/\w.cell? ⟨p,7,none⟩=some a7:=
 ⟨h.cell 0,h.cell 1,h.cell 2,h.cell 3,h.cell 4,h.cell 5,h.cell 6,h.cell 7⟩
theorem b_J{w:World}{base:Nat}{e:TypeId}{g c:Nat}{v:Value}(h:w.ownsRow base e 1 (.slice (some ⟨g,0,none⟩) 1 c) 1 [v]):w.cell? ⟨g,0,none⟩=some v/\g<w.heap.size/\base<=g:=by
 obtain⟨A,c',e,h1,h2,h3,h4⟩:=h_ h;cases e;obtain⟨g',e,hb,hl⟩:=h3 (by omega)
 cases e;exact⟨h4 g rfl 0 v rfl,hl,hb⟩
def RdP(A:VA)(o:Nat->Nat)(s:VS)(x:Nm)(sz:Nat)(q:Ptr)(w w':World):Prop:=∃st xb yb nb y,VM A (tag2 o w) {s with syn:=y,st:=st} w'/\PlM A.v st xb yb 1 (tag2 o w) ⟨[(x,⟨sz,[nb]⟩)],[]⟩ w'/\(∀f,BlM (tag2 o w) w' nb f (some q))/\Alt (fun b=>b=A.v) w w'
theorem ObV.altT{vb:Nat}{o:Nat->Nat}{w w':World}{K:Nat->Prop}{v:Value}{g:OG}(h:ObV vb o w v g)(ha:Alt K w w')(hK1:∀b cs,Blk w b 100 cs->¬K b)(hK2:∀b cs,Blk w b 112 cs->¬K b):ObV vb o w' v g:=by
 obtain⟨ob,bv,h1,h2,h3,h4⟩:=h;refine⟨ob,bv,h1,h2,ha.blk h3 (hK1 ob _ h3),?_⟩;obtain⟨A,c,h1,h2,h3,h4,h5⟩:=h4;refine⟨A,c,h1,h2,h3,h4,fun h0=>?_⟩;obtain⟨g,off,cs,e1,e2,e3,e4⟩:=h5 h0;exact⟨g,off,cs,e1,e2,ha.blk e3 (hK2 g _ e3),e4⟩
theorem s_T{A:VA}{o:Nat->Nat}{s:VS}{x:Nm}{sz:Nat}{q:Ptr}{w w9 wA W15:World}{st xb0 xb yb nb pb ge g8:Nat}{y:Value}{csE csC cs8:Array Value}(hov:o A.v=1)(hvb:Blk w9 A.v 62 (i_3 A s))(hn9:New w w9)(hpl:PlM A.v st xb0 yb 0 (tag2 o w) ⟨[],[]⟩ w9)(hM:MP (ObV A.v (tag2 o w) wA) wA xb 1 [(x,⟨sz,[nb]⟩)])(hxb:w9.heap.size<=xb)(hAA:Alt (fun k=>k=ge) w9 wA)(hge:Blk w9 ge 315 csE)(heA:∃cs,Blk wA ge 315 cs)(hco:Blk w9 (w.heap.size+1) 30 csC)(h8:Blk w9 g8 107 cs8)(hp8:pb≠g8)(hbn:Blk w9 nb 115 #[.slice none 0 0,ptr pb])(hbp:Blk w9 pb 107 (x_ q))(hg1:w.heap.size<=ge)(hg2:w.heap.size<=g8)(hg3:w.heap.size<=nb)(hg4:w.heap.size<=pb)(hg5:w.heap.size<=st)
  (hA15:Alt (fun k=>k=st\/k=ge\/k=g8\/k=A.v\/k=w.heap.size+1) wA W15) (hst:∀eb,Blk w9 st 153 #[.map (some xb0),.map (some yb),ptr eb]->Blk W15 st 153 #[.map (some xb),.map (some yb),ptr eb]) (hv15:VM A (tag2 o w) {s with syn:=y,st:=st} W15):RdP A o s x sz q w W15:=by
 have h15:Alt (fun k=>k=st\/k=ge\/k=g8\/k=A.v\/k=w.heap.size+1) w9 W15:=(hAA.weak fun k hk=>.inr (.inl hk)).trans hA15;obtain⟨eb,e1,e2,e3⟩:=hpl.bk;have hT:∀(u:TypeId),u≠153->u≠315->u≠107->u≠62->u≠30->∀b cs,Blk w9 b u cs->¬(b=st\/b=ge\/b=g8\/b=A.v\/b=w.heap.size+1):=fun u n1 n2 n3 n4 n5 b cs hb hk=>by
  rcases hk with rfl|rfl|rfl|rfl|rfl
  ·exact e_ hb e1 n1 rfl
  ·exact e_ hb hge n2 rfl
  ·exact e_ hb h8 n3 rfl
  ·exact e_ hb hvb n4 rfl
  ·exact e_ hb hco n5 rfl
 have hsA:Blk wA st 153 _:=hAA.blk e1 (e_ e1 hge (by decide))
 have h8A:=hAA.blk h8 (e_ h8 hge (by decide))
 have hcA:=hAA.blk hco (e_ hco hge (by decide))
 have hvA:=hAA.blk hvb (e_ hvb hge (by decide))
 have hxlt:=hM.lt;have hxc:¬(xb=st\/xb=ge\/xb=g8\/xb=A.v\/xb=w.heap.size+1):=fun hk=>by
  have h1:=e1.lt;have h2:=hge.lt;have h3:=h8.lt;have h4:=hvb.lt;have h5:=hco.lt;omega
 have hyc:¬(yb=st\/yb=ge\/yb=g8\/yb=A.v\/yb=w.heap.size+1):=fun hk=>by
  have hm:=hpl.nm.obj;rcases hk with rfl|rfl|rfl|rfl|rfl
  ·exact w_ e1 hm rfl
  ·exact w_ hge hm rfl
  ·exact w_ h8 hm rfl
  ·exact w_ hvb hm rfl
  ·exact w_ hco hm rfl
 have hTA:∀(u:TypeId),u≠153->u≠315->u≠107->u≠62->u≠30->(∃cs,Blk wA ge 315 cs)->∀b cs,Blk wA b u cs->¬(b=st\/b=ge\/b=g8\/b=A.v\/b=w.heap.size+1):=fun u n1 n2 n3 n4 n5 ⟨_,hE⟩ b cs hb hk=>by
  rcases hk with rfl|rfl|rfl|rfl|rfl
  ·exact e_ hb hsA n1 rfl
  ·exact e_ hb hE n2 rfl
  ·exact e_ hb h8A n3 rfl
  ·exact e_ hb hvA n4 rfl
  ·exact e_ hb hcA n5 rfl
 have hlt:xb≠yb:=fun e=>by have:=hpl.nm.lt;omega
 refine⟨st,xb,yb,nb,y,hv15,⟨⟨eb,hst eb e1,e2,h15.blk e3 (hT _ (by decide) (by decide) (by decide) (by decide) (by decide) _ _ e3)⟩,?_,?_,hpl.ts,a_7 o w (Nat.le_trans hn9.size hxb),hpl.ty,hlt⟩,fun f=>⟨a_7 o w hg3,pb,h15.blk hbn (hT _ (by decide) (by decide) (by decide) (by decide) (by decide) _ _ hbn),a_7 o w hg4,h15.blk hbp ?_⟩,(Alt.of_new hn9).trans' h15 fun i hi=>?_⟩
 ·exact hM.alt hA15 hxc fun k y hy v hv=>hv.altT hA15 (fun b cs hb=>hTA _ (by decide) (by decide) (by decide) (by decide) (by decide) heA b cs hb) fun b cs hb=>hTA _ (by decide) (by decide) (by decide) (by decide) (by decide) heA b cs hb
 ·exact(hpl.nm.alt h15 hyc fun k y hy v hv=>by cases hy).mono (Nat.zero_le _)
 ·intro hk
  rcases hk with rfl|rfl|hk|rfl|rfl
  ·exact e_ hbp e1 (by decide) rfl
  ·exact e_ hbp hge (by decide) rfl
  ·exact hp8 hk
  ·exact e_ hbp hvb (by decide) rfl
  ·exact e_ hbp hco (by decide) rfl
 ·rcases hi with rfl|rfl|rfl|rfl|rfl
  ·exact .inr hg5
  ·exact .inr hg1
  ·exact .inr hg2
  ·exact .inl rfl
  ·exact .inr (Nat.le_succ _)
end vault
end Go.Proofs.YtojcoaekhiadcaaGreat
