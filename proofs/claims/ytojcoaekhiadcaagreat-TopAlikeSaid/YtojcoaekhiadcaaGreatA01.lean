import Derived.WalkKit
import Derived.ProofKit
import Derived.OpenShut
import Derived.Deep.QuietTactic
import Derived.BigQuiet
import Derived.Lib.Hide
import Derived.Below
import Derived.Laws.OwnMore
import Derived.Laws.AppendOwn
import Derived.Laws.Rows
import Derived.Deep.LoopGhost
import Derived.WalkLawsBesides
import Derived.WalkSpells
import Derived.Outline
import Derived.Deep.Slices
import Derived.Deep.Fields
import Derived.ChangeSame
import Derived.Lib.SmallJoins
import Derived.Test.YtojcoaekhiadcaaGreatProg
import Derived.SizedLaws
import Derived.StillTail
import Derived.Deep.OwnRows
import Derived.OwnWalk
import Derived.Maps.AppendAt
import Derived.Deep.AppendLies
import Derived.Lib.JoinLaws
import Derived.Lib.AppendZerosOnto
import Derived.ArgAppend
import Derived.Handy
import Derived.Laws.BitsAllLaws
import Derived.Laws.BitsLemmas
set_option linter.unusedVariables false
set_option linter.unusedSimpArgs false
namespace Go.Proofs.YtojcoaekhiadcaaGreat
open Tryz Go.RowKit
theorem Hd{p:Prop}(h:p):Hid p:=h
theorem nm{α:Sort _}(e:α):∃ x,Hid (x=e):=⟨e,rfl⟩
theorem _root_.Go.RowKit.Hid.o{p:Prop}(h:Hid p):p:=h
namespace kit
theorem b_e{a a':Int}(h1:a=a'):Ending.returned (.int .i64 a)=.returned (.int .i64 a'):=by rw[h1]
theorem d_y{a b a' b':Int}(h1:a=a')(h2:b=b') :
 Ending.returned (.tuple #[.int .i64 a,.int .i64 b])=.returned (.tuple #[.int .i64 a',.int .i64 b']):=by rw[h1,h2]
theorem b_t{a a':Bool}(h1:a=a'):Ending.returned (.bool a)=.returned (.bool a'):=by rw[h1]
theorem j_C{a a':Int}(h1:a=a'):Value.int .i64 a=.int .i64 a':=by rw[h1]
theorem i_(b off k:Nat):(⟨b,off,none⟩:Addr).add k=⟨b,off+k,none⟩:=by
 unfold Addr.add;split
 ·rename_i h;subst h;rfl
 ·rfl
abbrev New(a b:World):Prop:=Below a.heap.size a b
theorem New.refl(w:World):New w w:=Below.refl _ _
theorem New.next{a b c:World}(h:New a b)(k:New b c):New a c:=h.trans (k.mono h.size)
theorem New.alloc{a b:World}(h:New a b)(o:Obj):New a (b.alloc o):=Below.alloc h h.size o
theorem New.of_alloc{a b:World}{o:Obj}(h:New (a.alloc o) b):New a b:=New.next (New.alloc (New.refl a) o) h
theorem New.drewN{a b:World}(h:New a b)(n:Nat):New a (b.drewN n):=⟨h.os,h.tape,h.output,h.size,h.block⟩
theorem New.drew{a b:World}(h:New a b):New a b.drew:=⟨h.os,h.tape,h.output,h.size,h.block⟩
theorem New.set{a b:World}(h:New a b){p:Addr}(hp:a.heap.size<=p.block)(u:Value):New a (b.setCell p u):=Below.setCell h hp u
theorem New.of_drewN(w:World)(n:Nat):New w (w.drewN n):=(New.refl w).drewN n
def Blk(w:World)(g:Nat)(t:TypeId)(cs:Array Value):Prop:=w.heap[g]?=some (.cells cs t (0,0))
section
variable {w w':World}{g:Nat}{t:TypeId}{cs:Array Value}
theorem Blk.lt(h:Blk w g t cs):g<w.heap.size:=by
 rcases Nat.lt_or_ge g w.heap.size with hlt|hge
 ·exact hlt
 ·unfold Blk at h;rw[Array.getElem?_eq_none hge]at h;cases h
theorem Blk.cell(h:Blk w g t cs)(i:Nat):w.cell? ⟨g,i,none⟩=cs[i]?:=cell_of_row w g i cs t (0,0) h
theorem Blk.frozen(h:Blk w g t cs)(i:Nat):w.frozen? ⟨g,i,none⟩=false:=by
 unfold Blk at h;simp[World.frozen?,h]
theorem Blk.fresh(w:World)(t:TypeId)(cs:Array Value):Blk (w.alloc (.cells cs t)) w.heap.size t cs:=heap_alloc_new w _
theorem Blk.drew(h:Blk w g t cs):Blk w.drew g t cs:=h
theorem Blk.alloc(h:Blk w g t cs)(o:Obj):Blk (w.alloc o) g t cs:=(Below.heap_alloc w o g h.lt).trans h
theorem Blk.put(h:Blk w g t cs)(i:Nat)(u:Value):Blk (w.setCell ⟨g,i,none⟩ u) g t (cs.setIfInBounds i u):=by
 unfold Blk at h ⊢;simp[World.setCell,Array.getElem?_modify,h]
theorem Blk.far(h:Blk w g t cs){p:Addr}(hp:g≠p.block)(u:Value):Blk (w.setCell p u) g t cs:=(Below.heap_setCell w p u g hp).trans h
theorem Blk.new(h:Blk w g t cs)(hb:New w w'):Blk w' g t cs:=(hb.block g h.lt).trans h
end
theorem h_{w:World}{base:Nat}{e:TypeId}{size:Nat}{v:Value}{n:Nat}{xs:List Value}(h:w.ownsRow base e size v n xs) :
  ∃A c,v=.slice A n c/\n<=c/\c<=maxLen/\(0<n->∃g,A=some ⟨g,0,none⟩/\base<=g/\g<w.heap.size)/\∀g,A=some ⟨g,0,none⟩->∀j u,xs[j]?=some u->w.cell? ⟨g,j,none⟩=some u:=by
 have hc := @World.ownsRow.cells w base e size v n xs h;have hl:=h.lt;rcases h.2 with⟨rfl,rfl⟩|⟨g,cap,cur,rfl,hb,hg,h1,h2,_⟩
 ·exact⟨none,0,rfl,Nat.le_refl _,Nat.zero_le _,fun h=>absurd h (Nat.lt_irrefl 0),fun g hg=>by cases hg⟩
 ·refine⟨_,cap,rfl,h1,h2,fun _=>⟨g,rfl,hb,(hl g rfl).2⟩,fun g' hg' j u hu=>?_⟩
  injection hg' with hg';injection hg' with hg' _ _;subst hg';have:=hc rfl j u hu;rw[i_]at this;simpa using this
theorem c_{w w':World}{base:Nat}{e:TypeId}{size:Nat}{v:Value}{n:Nat}{xs:List Value}(h:w.ownsRow base e size v n xs)(hn:New w w'):w'.ownsRow base e size v n xs:=by
 refine⟨h.1,?_⟩;rcases h.2 with h0|⟨g,cap,cur,rfl,hb,hg,hr⟩
 ·exact .inl h0
 ·have hlt:g<w.heap.size:=by
   rcases Nat.lt_or_ge g w.heap.size with hlt|hge
   ·exact hlt
   ·rw[Array.getElem?_eq_none hge]at hg;cases hg
  exact .inr ⟨g,cap,cur,rfl,hb,(hn.block g hlt).trans hg,hr⟩
theorem Blk.grown{w w':World}{g:Nat}{t:TypeId}{cs:Array Value}{row:Option Nat}(h:Blk w g t cs)(hg:w.grownBy w' row)(hr:row≠some g):Blk w' g t cs:=(hg.block g h.lt (Ne.symm hr)).trans h
theorem New.append'{w wr w1:World}{o:Obj}{row:Option Nat}(h:New w wr)(hg:(wr.alloc o).grownBy w1 row)(hr:∀g,row=some g->w.heap.size<=g):New w w1:=
 Below.grown (h.alloc o) hg (by have:=h.size;simp;omega) hr
theorem Below.next{B:Nat}{a b c:World}(h:Below B a b)(k:New b c)(hB:B<=b.heap.size):Below B a c:=h.trans (k.mono hB)
open Go.ChangeShapes Go.WideShapes Go.Deep Go.Joins
def RdI(k:IntKind)(w:World)(A:Option Addr)(n:Nat)(Z:Nat->Int):Prop:=
 n<=maxLen/\(0<n->∃b off,A=some ⟨b,off,none⟩/\b<w.heap.size/\∀i,i<n->w.cell? ⟨b,off+i,none⟩=some (.int k (Z i)))
theorem RdI.new{k:IntKind}{w w':World}{A:Option Addr}{n:Nat}{Z:Nat->Int}(h:RdI k w A n Z)(hn:New w w'):RdI k w' A n Z:=
 ⟨h.1,fun h0=>by
  obtain⟨b,off,hA,hb,hc⟩:=h.2 h0;exact⟨b,off,hA,Nat.lt_of_lt_of_le hb hn.size,fun i hi=>(hn.cell hb).trans (hc i hi)⟩⟩
def RdM(k:IntKind)(w:World)(A:Option Addr)(n:Nat)(R:Nat->Option Addr)(L C:Nat->Nat)(M:Nat->Nat->Int):Prop:=
 n<=maxLen/\(0<n->∃b off,A=some ⟨b,off,none⟩/\b<w.heap.size/\∀i,i<n->w.cell? ⟨b,off+i,none⟩=some (.slice (R i) (L i) (C i))) /\
 ∀i,i<n->RdI k w (R i) (L i) (M i)/\L i<=C i/\C i<=maxLen
theorem RdM.new{k:IntKind}{w w':World}{A:Option Addr}{n:Nat}{R:Nat->Option Addr}{L C:Nat->Nat}{M:Nat->Nat->Int}(h:RdM k w A n R L C M)(hn:New w w'):RdM k w' A n R L C M:=
 ⟨h.1,fun h0=>by
  obtain⟨b,off,hA,hb,hc⟩:=h.2.1 h0;exact⟨b,off,hA,Nat.lt_of_lt_of_le hb hn.size,fun i hi=>(hn.cell hb).trans (hc i hi)⟩,fun i hi=>⟨(h.2.2 i hi).1.new hn,(h.2.2 i hi).2⟩⟩
section
variable {H:Type}{enc:TypeId×Value->H}{P:Program}{w:World}{base:Nat}{held:Bool}
theorem n_D{t e:TypeId}{k:IntKind}{fuel:Nat}{v:Value}{x:DataW H×List MemPlace}(ht:P.underlying t=some (.slice e))(he:P.underlying e=some (.int k))(hc:P.cellsOf e=1)
  (h:DataW.trod enc P w base (fun _=>true) held fuel t [v]=some x) :
  ∃(A:Option Addr) (n c:Nat) (Z:Nat->Int),v=.slice A n c/\RdI k w A n Z/\n<=c/\c<=maxLen/\(∀i,i<n->(Lit.int k (Z i)).wf=true)/\(n=0\/∃elems spare,x.1=.slice elems spare/\elems.length=n):=by
 rcases open_ints ht he hc h with⟨hcs,_⟩|⟨a,len,cap,zs,hcs,_,hl,hm,hz,hx,hcell,hwz⟩
 ·simp at hcs
  subst hcs;exact⟨none,0,0,fun _=>0,rfl,⟨Nat.zero_le _,fun h=>absurd h (Nat.lt_irrefl 0)⟩,Nat.le_refl _,Nat.zero_le _,fun i h=>absurd h (Nat.not_lt_zero i),.inl rfl⟩
 ·simp at hcs
  subst hcs;simp at hz;refine⟨some a,len,cap,fun i=>zs.getD i 0,rfl,⟨by omega,fun h0=>?_⟩,hl,hm,fun i hi=>?_,.inr ⟨_,_,congrArg Prod.fst hx,by simp[lits];omega⟩⟩
  ·obtain⟨b,off,spot⟩:=a
   have hc0:=hcell 0 (by omega)
   have hspot:spot=none:=by simpa [Addr.add]using World.cell?_spot hc0
   subst hspot;refine⟨b,off,rfl,?_,fun i hi=>?_⟩
   ·have:=World.block_lt_of_cell? _ _ hc0
    simpa [Addr.add]using this
   ·have h1:=hcell i (by omega)
    rw[i_]at h1;exact h1
  ·have hi2:i<zs.length:=by omega
   have:zs.getD i 0=zs[i]:=by simp[hi2]
   show(Lit.int k (zs.getD i 0)).wf=true;rw[this];exact hwz _ (List.getElem_mem hi2)
end
section
variable {H:Type}{enc:TypeId×Value->H}{P:Program}{w:World}{base:Nat}{spare:Nat->Bool}{held:Bool}
theorem q_2{t:TypeId}{fs:Array Field}{fuel:Nat}{cs:List Value}{x:DataW H×List MemPlace}(hs:P.underlying t=some (.struct fs))(h:DataW.trod enc P w base spare held fuel t cs=some x)
  (i:Nat) (f:Field) (hi:fs[i]?=some f):∃n y,DataW.trod enc P w base spare held n f.type ((cs.drop f.offset).take (P.cellsOf f.type))=some y:=by
 obtain⟨xs,n,_,_,_,hlen,hg⟩:=DataW.trod_struct hs h;have hl:i<xs.length:=by
  rw[hlen];exact(Array.getElem?_eq_some_iff.1 hi).1
 exact⟨n,_,(hg i f hi).trans (List.getElem?_eq_getElem hl)⟩
theorem c_e{t:TypeId}{fs:Array Field}{fuel:Nat}{cs:List Value}{x:DataW H×List MemPlace}(hs:P.underlying t=some (.struct fs))(h:DataW.trod enc P w base spare held fuel t cs=some x)
  (i T off k:Nat) (c:List Value) (hi:∃f,fs[i]?=some f/\f.type=T/\f.offset=off) (hk:P.cellsOf T=k) (hc:(cs.drop off).take k=c):∃n y,DataW.trod enc P w base spare held n T c=some y:=by
 obtain⟨f,h1,rfl,rfl⟩:=hi;subst hk hc;exact q_2 hs h i f h1
theorem g_p{t:TypeId}{k:IntKind}{fuel:Nat}{v:Value}{y:DataW H×List MemPlace}(ht:P.underlying t=some (.int k))(h:DataW.trod enc P w base spare held fuel t [v]=some y) :
  ∃a:Int,v=.int k a/\(Lit.int k a).wf=true:=by
 obtain⟨a,e,_,wf⟩:=DataW.trod_int ht h;simp at e;exact⟨a,e,wf⟩
end
end kit
namespace top
open Go.ChangeShapes Go.WideShapes Go.ChangeAt kit Go.Joins Go.Deep
structure Od where
 kind:Int
 name:Int
 other:Int
 off:Int
 count:Int
 dn:Nat
 df:Nat->Nat
def I64(x:Int):Prop := -9223372036854775808<=x/\x<=9223372036854775807
structure o_h(w:World)(O:Od)(R:Option Addr)(dc:Nat):Prop where
 ki:I64 O.kind
 na:I64 O.name
 ot:I64 O.other
 of:I64 O.off
 co:I64 O.count
 dat:RdI .u8 w R O.dn (fun i=>(O.df i:Nat))
 dcm:O.dn<=dc/\dc<=maxLen
 d8:∀i,i<O.dn->O.df i<256
theorem o_h.new{w w':World}{O:Od}{R:Option Addr}{dc:Nat}(h:o_h w O R dc)(hn:New w w'):o_h w' O R dc:=⟨h.ki,h.na,h.ot,h.of,h.co,h.dat.new hn,h.dcm,h.d8⟩
def RdO(w:World)(A:Option Addr)(m:Nat)(Os:Nat->Od)(R:Nat->Option Addr)(dc:Nat->Nat):Prop:=
 m<=maxLen/\(0<m->∃b off,A=some ⟨b,off,none⟩/\b<w.heap.size/\∀i,i<m->w.cell? ⟨b,off+i*6,none⟩=some (.int .i64 (Os i).kind)/\w.cell? ⟨b,off+i*6+1,none⟩=some (.int .i64 (Os i).name)/\w.cell? ⟨b,off+i*6+2,none⟩=some (.int .i64 (Os i).other)/\w.cell? ⟨b,off+i*6+3,none⟩=some (.int .i64 (Os i).off)/\w.cell? ⟨b,off+i*6+4,none⟩=some (.int .i64 (Os i).count)/\w.cell? ⟨b,off+i*6+5,none⟩=some (.slice (R i) (Os i).dn (dc i))) /\
 ∀i,i<m->o_h w (Os i) (R i) (dc i)
theorem RdO.new{w w':World}{A:Option Addr}{m:Nat}{Os:Nat->Od}{R:Nat->Option Addr}{dc:Nat->Nat}(h:RdO w A m Os R dc)(hn:New w w'):RdO w' A m Os R dc:=
 ⟨h.1,fun h0=>by
  obtain⟨b,off,hA,hb,hc⟩:=h.2.1 h0;exact⟨b,off,hA,Nat.lt_of_lt_of_le hb hn.size,fun i hi=>by
   obtain⟨h0,h1,h2,h3,h4,h5⟩:=hc i hi;exact⟨(hn.cell hb).trans h0,(hn.cell hb).trans h1,(hn.cell hb).trans h2,(hn.cell hb).trans h3,(hn.cell hb).trans h4,(hn.cell hb).trans h5⟩⟩,fun i hi=>(h.2.2 i hi).new hn⟩
theorem l_p:prog.cellsOf 55=6:=by kernel_rfl
theorem t_T(l:List Value)(h:l.length=6):∃a0 a1 a2 a3 a4 a5,l=[a0,a1,a2,a3,a4,a5]:=by
 match l,h with
 |[a0,a1,a2,a3,a4,a5],_=>exact⟨_,_,_,_,_,_,rfl⟩
set_option maxRecDepth 100000 in
theorem j_e{H:Type}{enc:TypeId×Value->H}{W:World}{base:Nat}{v:Value}{d:DataW H}{p:List MemPlace}(ok:Value.okWide prog W .any base 22 v)
  (h:DataW.Trod enc prog W 0 (fun _=>true) true 22 v d p) :
  ∃(A:Option Addr) (n c:Nat) (Os:Nat->Od) (R:Nat->Option Addr) (dc:Nat->Nat),v=.slice A n c/\RdO W A n Os R dc:=by
 obtain⟨A,n,c,rfl⟩:=okWide_slice underlying22 ok;obtain⟨fuel,hf⟩:=h;rcases open_slice underlying22 hf with⟨hcs,_⟩|⟨a,len,cap,m,n',D,Pl,hcs,_,hl,hm,hmm,_,hi⟩
 ·simp[Value.cells]at hcs
  obtain⟨rfl,rfl,rfl⟩:=hcs;exact⟨none,0,0,fun _=>⟨0,0,0,0,0,0,fun _=>0⟩,fun _=>none,fun _=>0,rfl,⟨Nat.zero_le _,fun h=>absurd h (Nat.lt_irrefl 0),fun i h=>absurd h (Nat.not_lt_zero i)⟩⟩
 ·simp[Value.cells]at hcs
  obtain⟨rfl,rfl,rfl⟩:=hcs;simp at hmm;subst hmm;have cs1:prog.cellsOf 35=1:=by kernel_rfl
  have c1:prog.cellsOf 3=1:=by kernel_rfl
  have key:∀i,i<n->∃q:(Int×Int×Int×Int×Int)×Option Addr×Nat×Nat×(Nat->Int),W.cell? ((a.add (i*6)).add 0)=some (.int .i64 q.1.1)/\W.cell? ((a.add (i*6)).add 1)=some (.int .i64 q.1.2.1)/\W.cell? ((a.add (i*6)).add 2)=some (.int .i64 q.1.2.2.1)/\W.cell? ((a.add (i*6)).add 3)=some (.int .i64 q.1.2.2.2.1)/\W.cell? ((a.add (i*6)).add 4)=some (.int .i64 q.1.2.2.2.2)/\W.cell? ((a.add (i*6)).add 5)=some (.slice q.2.1 q.2.2.1 q.2.2.2.1)/\RdI .u8 W q.2.1 q.2.2.1 q.2.2.2.2/\q.2.2.1<=q.2.2.2.1/\q.2.2.2.1<=maxLen/\(∀j,j<q.2.2.1->(Lit.int .u8 (q.2.2.2.2 j)).wf=true)/\I64 q.1.1/\I64 q.1.2.1/\I64 q.1.2.2.1/\I64 q.1.2.2.2.1/\I64 q.1.2.2.2.2:=by
   intro i hin;obtain⟨cs',hcc,htr⟩:=hi i (by omega)
   rw[l_p]at hcc;obtain⟨_,hlen,hat⟩:=World.cells?_some hcc;obtain⟨a0,a1,a2,a3,a4,a5,rfl⟩:=t_T cs' hlen;obtain⟨_,_,t0⟩:=c_e underlying55 htr 0 3 0 1 [a0] ⟨_,rfl,rfl,rfl⟩ c1 rfl;obtain⟨x0,rfl,b0⟩:=g_p underlying3 t0;obtain⟨_,_,t1⟩:=c_e underlying55 htr 1 3 1 1 [a1] ⟨_,rfl,rfl,rfl⟩ c1 rfl;obtain⟨x1,rfl,b1⟩:=g_p underlying3 t1;obtain⟨_,_,t2⟩:=c_e underlying55 htr 2 3 2 1 [a2] ⟨_,rfl,rfl,rfl⟩ c1 rfl;obtain⟨x2,rfl,b2⟩:=g_p underlying3 t2;obtain⟨_,_,t3⟩:=c_e underlying55 htr 3 3 3 1 [a3] ⟨_,rfl,rfl,rfl⟩ c1 rfl;obtain⟨x3,rfl,b3⟩:=g_p underlying3 t3;obtain⟨_,_,t4⟩:=c_e underlying55 htr 4 3 4 1 [a4] ⟨_,rfl,rfl,rfl⟩ c1 rfl;obtain⟨x4,rfl,b4⟩:=g_p underlying3 t4;obtain⟨_,_,t5⟩:=c_e underlying55 htr 5 35 5 1 [a5] ⟨_,rfl,rfl,rfl⟩ cs1 rfl;obtain⟨A',n',c',Z',rfl,h1,h2,h3,h4,_⟩:=n_D underlying35 underlying5 (by kernel_rfl) t5
   exact⟨⟨⟨x0,x1,x2,x3,x4⟩,A',n',c',Z'⟩,hat 0 (by omega),hat 1 (by omega),hat 2 (by omega),hat 3 (by omega),hat 4 (by omega),hat 5 (by omega),h1,h2,h3,h4,bounds_i64 b0,bounds_i64 b1,bounds_i64 b2,bounds_i64 b3,bounds_i64 b4⟩
  have hF:∃q:Nat->(Int×Int×Int×Int×Int)×Option Addr×Nat×Nat×(Nat->Int),∀i,i<n->W.cell? ((a.add (i*6)).add 0)=some (.int .i64 (q i).1.1)/\W.cell? ((a.add (i*6)).add 1)=some (.int .i64 (q i).1.2.1)/\W.cell? ((a.add (i*6)).add 2)=some (.int .i64 (q i).1.2.2.1)/\W.cell? ((a.add (i*6)).add 3)=some (.int .i64 (q i).1.2.2.2.1)/\W.cell? ((a.add (i*6)).add 4)=some (.int .i64 (q i).1.2.2.2.2)/\W.cell? ((a.add (i*6)).add 5)=some (.slice (q i).2.1 (q i).2.2.1 (q i).2.2.2.1)/\RdI .u8 W (q i).2.1 (q i).2.2.1 (q i).2.2.2.2/\(q i).2.2.1<=(q i).2.2.2.1/\(q i).2.2.2.1<=maxLen/\(∀j,j<(q i).2.2.1->(Lit.int .u8 ((q i).2.2.2.2 j)).wf=true)/\I64 (q i).1.1/\I64 (q i).1.2.1/\I64 (q i).1.2.2.1/\I64 (q i).1.2.2.2.1/\I64 (q i).1.2.2.2.2:=by
   refine⟨fun i=>if h:i<n then(key i h).choose else((0,0,0,0,0),none,0,0,fun _=>0),fun i hin=>?_⟩;simp only[hin,dif_pos];exact(key i hin).choose_spec
  obtain⟨q,hq⟩:=hF;refine⟨some a,n,_,fun i=>⟨(q i).1.1,(q i).1.2.1,(q i).1.2.2.1,(q i).1.2.2.2.1,(q i).1.2.2.2.2,(q i).2.2.1,fun k=>((q i).2.2.2.2 k).toNat⟩,fun i=>(q i).2.1,fun i=>(q i).2.2.2.1,rfl,⟨by omega,fun h0=>?_,fun i hin=>?_⟩⟩
  ·obtain⟨b,off,spot⟩:=a
   have hc0:=(hq 0 h0).1;have hspot:spot=none:=by simpa [Addr.add]using World.cell?_spot hc0
   subst hspot;refine⟨b,off,rfl,?_,fun i hin=>?_⟩
   ·have:=World.block_lt_of_cell? _ _ hc0
    simpa [Addr.add]using this
   ·obtain⟨h1,h2,h3,h4,h5,h6,_⟩:=hq i hin
    simp only[i_]at h1 h2 h3 h4 h5 h6;exact⟨h1,h2,h3,h4,h5,h6⟩
  ·obtain⟨_,_,_,_,_,_,h3,h4,h5,h6,h7,h8,h9,h10,h11⟩:=hq i hin
   refine⟨h7,h8,h9,h10,h11,⟨h3.1,fun h0=>?_⟩,⟨h4,h5⟩,fun k hk=>?_⟩
   ·obtain⟨b,off,e1,e2,e3⟩:=h3.2 h0
    refine⟨b,off,e1,e2,fun k hk=>?_⟩;rw[e3 k hk];have:=bounds_u8 (h6 k hk);dsimp only;congr 2;omega
   ·have:=bounds_u8 (h6 k hk)
    dsimp only;omega
end top
namespace kit
structure t_(w:World) where
 «to»:World
 is:New w «to»
def t_.self(w:World):t_ w:=⟨w,New.refl w⟩
instance inh_NewW(w:World):Inhabited (t_ w):=⟨t_.self w⟩
theorem d_{P:Program}{id:Nat}{Q:Exit->Act->World->Prop}{a:Act}{w:World}{l:List Oper}(hm:P.follows .mixedOrders=true)(hB:Region.lexB .any l.toArray=true)
  (h:wpQuiet P l.toArray (fun w'=>∃p:t_ w,w'=p.to) (fun a'=>∀w',(∃p:t_ w,w'=p.to)->Q .normal a' w') l a):(Code.region id l.toArray true).wp P Q a w:=
 wp_region_quiet (C:=fun w'=>∃p:t_ w,w'=p.to) hm hB ⟨⟨w.drew,(New.refl w).drew⟩,rfl⟩ (by simpa using h)
theorem t_.cells{w:World}{a:Addr}{v:Value}(h:w.cell? a=some v)(hb:a.block<w.heap.size)(p:t_ w):p.to.cell? a=some v:=(p.is.cell hb).trans h
theorem t_.call{P:Program}{f:FuncId}{args:Array Value}{w:World}{v:Value}(p:t_ w)
  (h:Calls P f args p.to fun e w'=>e=.returned v/\New p.to w'):Calls P f args p.to fun e w''=>e=.returned v/\∃q:t_ w,w''=q.to:=
 h.mono fun _ _ ⟨he,hn⟩=>⟨he,⟨_,p.is.next hn⟩,rfl⟩
theorem a_{w:World}{a:Addr}{v:Value}(h:w.cell? a=some v):a.block<w.heap.size:=by
 rcases Nat.lt_or_ge a.block w.heap.size with h1|h1
 ·exact h1
 ·unfold World.cell? at h
  rw[Array.getElem?_eq_none h1]at h;simp at h
theorem t_.keep{w:World}{a:Addr}{v:Value}(h:w.cell? a=some v)(p:t_ w):p.to.cell? a=some v:=p.cells h (a_ h)
section
variable {P:Program}{ops:Array Oper}{md:Region.Mode}{C:World->Prop}
def d_S(P:Program)(md:Region.Mode)(ops:Array Oper)(C:World->Prop)(n:Nat)(L:Array Bool->Act->Prop):Nat->Array Bool->Act->Prop
 |0,listed,a=>L listed a
 |f+1,listed,a=>
  Region.ready md ops listed≠[]/\∀i∈Region.ready md ops listed,i<n/\qOp P ops C i (d_S P md ops C n L f (listed.setIfInBounds i true)) a
theorem c_G{n g:Nat}{L:Array Bool->Act->Prop}{Q':Exit->Act->World->Prop}(hL:∀listed a w,C w->L listed a->wpAny P md ops Q' g listed a w) :
  ∀(f:Nat) (listed:Array Bool) (a:Act) (w:World),C w->d_S P md ops C n L f listed a->wpAny P md ops Q' (f+g) listed a w
 |0,listed,a,w,hw,h=>by rw[Nat.zero_add];exact hL _ _ _ hw h
 |f+1,listed,a,w,hw,h=>by
  rw[show f+1+g=(f+g)+1 by omega]
  exact⟨fun h0=>absurd h0 h.1,fun i hi=>wpOp_of_qOp hw (fun a' w' hw' h'=>c_G hL f _ a' w' hw' h') (h.2 i hi).2⟩
theorem g_S{n i:Nat}{oi:Oper}{v:Value}{L:Array Bool->Act->Prop}(hi:ops[i]?=some oi)(hsel:∀(j:Nat) (o:Oper) cs b,ops[j]?=some o->o.op≠.select cs b)
  (hs:Region.sinkB md ops n=true) (hc:Region.chainB md ops n=true) (hn:n<ops.size) (hin:i<n)
  (hdone:∀listed a,L listed a->∀j∈Region.ready md ops listed,n<=j) :
  ∀(f:Nat) (listed:Array Bool) (a:Act),HeadInv md ops n listed ->
   (∀j oj,ops[j]?=some oj->j≠i->listed.getD j true=false->(∀e∈oj.after,Region.binds md e=true->e.on≠i)->oi.apart ops oj=true) ->
   i∈Region.ready md ops listed->YieldsIn P ops C oi v a ->
   d_S P md ops C n L f (listed.setIfInBounds i true) (a.put oi.dst v)->d_S P md ops C n L (f+1) listed a:=by
 intro f
 induction f with
 |zero=>
  intro listed a inv _ hr hy H;have hun:=(mem_ready.1 hr).1;refine⟨fun h=>(by rw[h]at hr;cases hr),fun j hj=>?_⟩
  have hjn:j<n:=by
   rcases Nat.lt_or_ge j n with h|h
   ·exact h
   ·exact absurd hj (tail_waits hs hc hn inv _ i rfl hin hun j h)
  refine⟨hjn,?_⟩
  by_cases hji:j=i
  ·subst hji;exact hy.qOp hi H
  ·have:=hdone _ _ H j (ready_mono hj hji)
   omega
 |succ f ih=>
  intro listed a inv hfree hr hy H;have hun:=(mem_ready.1 hr).1;refine⟨fun h=>(by rw[h]at hr;cases hr),fun j hj=>?_⟩
  have hjn:j<n:=by
   rcases Nat.lt_or_ge j n with h|h
   ·exact h
   ·exact absurd hj (tail_waits hs hc hn inv _ i rfl hin hun j h)
  refine⟨hjn,?_⟩
  by_cases hji:j=i
  ·subst hji;exact hy.qOp hi H
  ·have h1:=(H.2 j (ready_mono hj hji)).2
   obtain⟨hjun,oj,hoj,hall⟩:=mem_ready.1 hj;have hnot:∀e∈oj.after,Region.binds md e=true->e.on≠i:=fun e he hb heq=>by
    have h1:=hall e he hb;rw[heq,getD_both hun]at h1;cases h1
   have h2:=qOp_put hoj (hfree j oj hoj hji hjun hnot) (fun cs b=>hsel i oi cs b hi) (fun cs b=>hsel j oj cs b hoj) hy h1;have hfree':∀k ok,ops[k]?=some ok->k≠i->(listed.setIfInBounds j true).getD k true=false ->
     (∀e∈ok.after,Region.binds md e=true->e.on≠i)->oi.apart ops ok=true:=fun k ok hk hki hun hno=>by
    refine hfree k ok hk hki ?_ hno
    by_cases hjk:j=k
    ·subst hjk;exact hjun
    ·rw[getD_set_ne true hjk]at hun;exact hun
   refine qOp_mono (fun a' h3=>ih (listed.setIfInBounds j true) a' (inv.set hj hjn) hfree' (ready_mono hr (Ne.symm hji)) h3.1 ?_) h2;rw[Array.setIfInBounds_comm _ _ hji];exact h3.2
theorem e_U{n g:Nat}{Lq:Act->Prop}(hsel:Region.noSelect ops=true)(hs:Region.sinkB md ops n=true)(hc:Region.chainB md ops n=true)(hn:n<ops.size) :
  ∀(l:List Oper) (k:Nat) (listed:Array Bool) (a:Act),(∀j,j<l.length->l[j]?=ops[k+j]?)->k+l.length=n->HeadInv md ops n listed ->
  Region.lexHead md ops g l.length k listed=true->wpQuiet P ops C Lq l a ->
  d_S P md ops C n (fun listed' a'=>Region.seqB md ops g n listed'=true/\Lq a') l.length listed a
 |[],k,listed,a,_,hk,_,hB,h=>by
  have:k=n:=by simpa using hk
  subst this;exact⟨by simpa [Region.lexHead]using hB,h⟩
 |o::l,k,listed,a,hl,hk,inv,hB,h=>by
  have h0:ops[k]?=some o:=by simpa using(hl 0 (by simp)).symm
  simp only[List.length_cons,Region.lexHead,Bool.and_eq_true]at hB;obtain⟨⟨hr,hf⟩,hB'⟩:=hB;have hkn:k<n:=by simp only[List.length_cons]at hk;omega
  have hr':k∈Region.ready md ops listed:=by simpa using hr
  have hst:qOp P ops C k (wpQuiet P ops C Lq l) a:=by unfold qOp;simp only[h0];exact h
  obtain⟨v,hy,hK⟩:=yieldsIn_of_qOp h0 hst;exact g_S h0 (Region.noSelect_spec hsel) hs hc hn hkn (fun listed' a' hL=>seqB_ready hL.1) l.length listed a inv (Region.free_spec h0 hf) hr' hy
   (e_U hsel hs hc hn l (k+1) _ _ (fun j hj=>by have:=hl (j+1) (by simp;omega);simpa [Nat.add_assoc,Nat.add_comm 1 j]using this) (by simp only[List.length_cons]at hk;omega) (inv.set hr' hkn) hB' hK)
theorem c_F{id:Nat}{Q:Exit->Act->World->Prop}{a:Act}{w:World}{l:List Oper}(n:Nat)(hm:P.follows .mixedOrders=true)(hB:Region.lexTailB .any l.toArray n=true)(hC:C {w with drawn:=w.drawn+1})
  (h:wpQuiet P l.toArray C (fun a'=>∀w',C w'->wpList P l.toArray Q (l.drop n) a' w') (l.take n) a):(Code.region id l.toArray true).wp P Q a w:=by
 simp only[Region.lexTailB,Bool.and_eq_true,decide_eq_true_eq]at hB;obtain⟨⟨⟨⟨hsel,hn⟩,hs⟩,hc⟩,hlex⟩:=hB;have hn':n<l.length:=by simpa using hn
 have htl:(l.take n).length=n:=by simp;omega
 have hdl:(l.drop n).length=l.toArray.size-n:=by simp
 have inv0:HeadInv .any l.toArray n (Array.replicate l.toArray.size false):=
  ⟨by simp,fun j oj _ hl=>(by rw[getD_replicate_false]at hl;cases hl),fun t _ ht=>getD_in (by simpa using ht) (getD_replicate_false _ _)⟩
 have H:=e_U (md:=.any) (g:=l.toArray.size-n) hsel hs hc hn (l.take n) 0 _ a (fun j hj=>by
  have hj':j<n:=by rw[htl]at hj;exact hj
  simp[hj']) (by simpa using htl) inv0 (by rw[htl];exact hlex) h
 refine wp_region_any hm ?_;have:=c_G (Q':=Q) (g:=l.toArray.size-n) (fun listed a' w' hw' hL=>by
  have:=wpAny_of_seq (md:=.any) (Q':=Q) (l.drop n) n listed a' w' (fun j=>by simp[List.getElem?_drop]) (by rw[hdl];exact hL.1) (hL.2 w' hw')
  rwa [hdl]at this) _ _ _ _ hC H
 rw[htl,show n+(l.toArray.size-n)=l.toArray.size by omega]at this
 exact this
end
theorem a_D{P:Program}{id:Nat}{Q:Exit->Act->World->Prop}{a:Act}{w:World}{l:List Oper}(n:Nat)(hm:P.follows .mixedOrders=true)(hB:Region.lexTailB .any l.toArray n=true)
  (h:wpQuiet P l.toArray (fun w'=>∃p:t_ w,w'=p.to) (fun a'=>∀w',(∃p:t_ w,w'=p.to)->wpList P l.toArray Q (l.drop n) a' w') (l.take n) a):(Code.region id l.toArray true).wp P Q a w:=
 c_F (C:=fun w'=>∃p:t_ w,w'=p.to) n hm hB ⟨⟨w.drew,(New.refl w).drew⟩,rfl⟩ h
open Go.Deep
theorem k_(w:World)(U q:Nat)(v:Value):w.grownBy (w.setCell ⟨U,q,none⟩ v) (some U):=
 ⟨rfl,rfl,rfl,by simp,fun k _ hk=>Below.heap_setCell w ⟨U,q,none⟩ v k (fun e=>hk (by simp[e]))⟩
theorem d_G(w:World)(row:Option Nat):w.grownBy w row:=⟨rfl,rfl,rfl,Nat.le_refl _,fun _ _ _=>rfl⟩
theorem b_7{w w':World}(h:New w w')(row:Option Nat):w.grownBy w' row:=⟨h.os,h.tape,h.output,h.size,fun k hk _=>h.block k hk⟩
theorem New.of_grown{w w':World}(h:w.grownBy w' none):New w w':=⟨h.os,h.tape,h.output,h.size,fun k hk=>h.block k hk (by simp)⟩
theorem New.grown{w w1 w2:World}{row:Option Nat}(h:New w w1)(hg:w1.grownBy w2 row)(hr:∀g,row=some g->w.heap.size<=g):New w w2:=Below.grown h hg h.size hr
theorem New.grown1{w w1 w2:World}{g:Nat}(h:New w w1)(hg:w1.grownBy w2 (some g))(hr:w.heap.size<=g):New w w2:=h.grown hg fun k hk=>by cases hk;exact hr
theorem u_{w w':World}{b:Nat}{t:TypeId}{n:Nat}{f:Nat->Value}(h:w.rowIs b t n f)(hn:New w w'):w'.rowIs b t n f:=h.of_block (hn.block _ h.lt)
theorem A_{w w':World}{b:Nat}{t:TypeId}{n:Nat}{f:Nat->Value}{row:Option Nat}(h:w.rowIs b t n f)(hg:w.grownBy w' row)(hr:row≠some b):w'.rowIs b t n f:=h.of_block (hg.block _ h.lt (Ne.symm hr))
theorem a_8{w:World}{base base':Nat}{e:TypeId}{size:Nat}{v:Value}{n:Nat}{xs:List Value}(h:w.ownsRow base e size v n xs)(hb:base'<=base):w.ownsRow base' e size v n xs:=by
 refine⟨h.1,?_⟩;rcases h.2 with h0|⟨g,cap,cur,rfl,hb2,hr⟩
 ·exact .inl h0
 ·exact .inr ⟨g,cap,cur,rfl,Nat.le_trans hb hb2,hr⟩
theorem New.appendO{w wr w1:World}{base:Nat}{e:TypeId}{size:Nat}{v:Value}{n:Nat}{xs:List Value}(h:New w wr)(hown:wr.ownsRow base e size v n xs)(hb:w.heap.size<=base)(hg:wr.grownBy w1 v.ownBlock):New w w1:=
 h.grown hg fun g hg=>Nat.le_trans hb (hown.lt _ hg).1
theorem m_g{w:World}{base:Nat}{e:TypeId}{size:Nat}{v:Value}{n:Nat}{xs:List Value}(h:w.ownsRow base e size v n xs){g:Nat}(hg:g<base):v.ownBlock≠some g:=fun he=>by have:=(h.lt _ he).1;omega
theorem Blk.row{w:World}{g:Nat}{t:TypeId}{cs:Array Value}(h:Blk w g t cs)(cs':Array Value):Blk (w.setRow g cs') g t cs':=setRow_heap w g cs cs' t _ h
theorem Blk.row_far{w:World}{g k:Nat}{t:TypeId}{cs:Array Value}(h:Blk w k t cs)(hk:k≠g)(cs':Array Value):Blk (w.setRow g cs') k t cs:=(setRow_other w g k cs' hk).trans h
theorem New.row{a b:World}(h:New a b){g:Nat}(hg:a.heap.size<=g)(cs:Array Value):New a (b.setRow g cs):=
 ⟨h.os,h.tape,h.output,by rw[size_setRow];exact h.size,fun k hk=>(setRow_other b g k cs (by omega)).trans (h.block k hk)⟩
theorem U_{P:Program}{fn:Func}{p q:Tmp}{ty:TypeId}(h:fn.results=#[.cell p ty,.tmp q])(tmps:Array Value)(w:World)(g:Nat)(t:TypeId)(cs:Array Value)(d:TypeDesc)
  (hp:tmps.getD p undef=.pointer (some ⟨g,0,none⟩)) (hg:Blk w g t cs) (hu:P.underlying ty=some d) (hd:(match d with | .struct _ | .array _ _=>true|_=>false)=true) (hi:(P.info? ty).map (·.size)=some cs.size) :
  (results fn tmps).run P w=.ok (.tuple #[.agg cs,tmps.getD q undef]) w:=by
 have hp':tmps[p]?.getD undef=.pointer (some ⟨g,0,none⟩):=by simpa using hp
 simp[results,h,hp',asAddr,run_loadVar_row w g t ty cs (0,0) d hg hu hd hi]
def f_U(G:Nat->Nat)(m k:Nat):List Value:=(List.range k).map fun i=>.slice (some ⟨G i,0,none⟩) m m
theorem k_G(G:Nat->Nat)(m k g:Nat):f_U (fun i=>if i=k then g else G i) m (k+1)=f_U G m k++[.slice (some ⟨g,0,none⟩) m m]:=by
 unfold f_U;rw[List.range_succ,List.map_append];congr 1
 ·apply List.map_congr_left
  intro i hi;have:i≠k:=by have:=List.mem_range.1 hi;omega
  simp[this]
 ·simp
theorem J_{w:World}{base:Nat}{e t:TypeId}{size:Nat}{v:Value}{n b m:Nat}{xs:List Value}{f:Nat->Value}(h:w.ownsRow base e size v n xs)(hr:w.rowIs b t m f)(hne:e≠t):v.ownBlock≠some b:=by
 intro he;rcases h.2 with⟨rfl,_⟩|⟨g,cap,cur,rfl,_,hg,_⟩
 ·cases he
 ·have hgb:g=b:=by simpa [Value.ownBlock]using he
  subst hgb;obtain⟨c,hc,_⟩:=hr;rw[hg]at hc;injection hc with hc;injection hc with _ hc _;exact hne hc
theorem r_l{k:IntKind}{w:World}{base:Nat}{size:Nat}{v:Value}{n m:Nat}{G:Nat->Nat}{e t:TypeId}{f:Nat->Nat->Nat}(h:w.ownsRow base e size v n (f_U G m n))(hr:∀i,i<n->w.rowIs (G i) t m (fun j=>.int k (f i j:Nat)))(hm:m<=maxLen) :
  ∃A c,v=.slice A n c/\RdM k w A n (fun i=>some ⟨G i,0,none⟩) (fun _=>m) (fun _=>m) (fun i j=>(f i j:Nat)):=by
 obtain⟨A,c,rfl,h1,h2,h3,h4⟩:=h_ h;refine⟨A,c,rfl,by omega,fun h0=>?_,fun i hi=>⟨⟨hm,fun h0=>⟨G i,0,rfl,(hr i hi).lt,fun j hj=>?_⟩⟩,Nat.le_refl _,hm⟩⟩
 ·obtain⟨g,rfl,_,hg⟩:=h3 h0
  refine⟨g,0,rfl,hg,fun i hi=>?_⟩;have:=h4 g rfl i (.slice (some ⟨G i,0,none⟩) m m) (by simp[f_U,hi])
  simpa using this
 ·simpa using(hr i hi).cell hj
theorem m_n(k:IntKind)(w:World)(R:Nat->Option Addr)(L C:Nat->Nat)(M:Nat->Nat->Int):RdM k w none 0 R L C M:=⟨Nat.zero_le _,fun h=>absurd h (Nat.lt_irrefl 0),fun i h=>absurd h (Nat.not_lt_zero i)⟩
end kit
namespace kit
theorem b_4(a:Nat)(ha:a<9223372036854775808):(BitVec.ofInt 64 (a:Int)).toNat=a:=by
 rw[BitVec.ofInt_natCast,BitVec.toNat_ofNat];exact Nat.mod_eq_of_lt (by omega)
theorem j_G(a b:Nat)(ha:a<9223372036854775808)(hb:b<9223372036854775808):bits .and .i64 (a:Int) (b:Int)=((a &&& b:Nat):Int):=by
 have hx:a &&& b<2 ^ 63:=Nat.and_lt_two_pow _ (by omega)
 show IntKind.i64.wrap ((BitVec.ofInt 64 (a:Int) &&& BitVec.ofInt 64 (b:Int)).toNat:Int)=_;rw[BitVec.toNat_and,b_4 a ha,b_4 b hb,IntKind.wrap_i64];omega
theorem l_8(a b:Nat)(ha:a<9223372036854775808)(hb:b<9223372036854775808):bits .or .i64 (a:Int) (b:Int)=((a ||| b:Nat):Int):=by
 have hx:a ||| b<2 ^ 63:=Nat.or_lt_two_pow (by omega) (by omega)
 show IntKind.i64.wrap ((BitVec.ofInt 64 (a:Int) ||| BitVec.ofInt 64 (b:Int)).toNat:Int)=_
 rw[BitVec.toNat_or,b_4 a ha,b_4 b hb,IntKind.wrap_i64];omega
theorem f_4(a b:Nat)(ha:a<9223372036854775808)(hb:b<9223372036854775808):bits .xor .i64 (a:Int) (b:Int)=((a ^^^ b:Nat):Int):=by
 have hx:a ^^^ b<2 ^ 63:=Nat.xor_lt_two_pow (by omega) (by omega)
 show IntKind.i64.wrap ((BitVec.ofInt 64 (a:Int) ^^^ BitVec.ofInt 64 (b:Int)).toNat:Int)=_;rw[BitVec.toNat_xor,b_4 a ha,b_4 b hb,IntKind.wrap_i64];omega
theorem m_D(a:Nat)(ha:a<9223372036854775808):bits .and .i64 (a:Int) 1=((a%2:Nat):Int):=by
 have h:=j_G a 1 ha (by omega)
 rw[Nat.and_one_is_mod]at h;exact h
theorem q_F(v m:BitVec 64)(h:v &&& ~~~m=0#64):v=v &&& m:=by
 apply BitVec.eq_of_getLsbD_eq;intro i hi;have h2:=congrArg (fun x=>x.getLsbD i) h;simp at h2;simp;exact fun hv=>h2 hv hi
theorem j_F(x:Int)(h1 : -9223372036854775808<=x)(h2:x<=9223372036854775807):(bits .andNot .i64 x 255 != 0) = !decide (0<=x/\x<=255):=by
 by_cases h:0<=x/\x<=255
 ·obtain⟨n,rfl⟩:=Int.eq_ofNat_of_zero_le h.1
  have hn:n<256:=by omega
  have hall:∀n:Fin 256,bits .andNot .i64 (n.val:Int) 255=0:=by decide +kernel
  have:=hall ⟨n,hn⟩;simp only at this;rw[this];simp;omega
 ·have hd:decide (0<=x/\x<=255)=false:=by simpa using h
  rw[hd];simp only[Bool.not_false,bne_iff_ne,ne_eq];intro hb;have hb':IntKind.i64.wrap ((BitVec.ofInt 64 x &&& ~~~(BitVec.ofInt 64 255)).toNat:Int)=0:=hb;rw[IntKind.wrap_i64]at hb';have hlt:=(BitVec.ofInt 64 x &&& ~~~(BitVec.ofInt 64 255)).isLt;have h0:(BitVec.ofInt 64 x &&& ~~~(BitVec.ofInt 64 255)).toNat=0:=by omega
  have hz:BitVec.ofInt 64 x &&& ~~~(BitVec.ofInt 64 255)=0#64:=BitVec.eq_of_toNat_eq (by rw[h0];rfl)
  have he:=q_F _ _ hz;have ht:=congrArg BitVec.toNat he;rw[BitVec.toNat_and,BitVec.toNat_ofInt]at ht;have hm:(BitVec.ofInt 64 255).toNat=255:=by decide
  rw[hm]at ht;have hand:=Nat.and_le_right (n:=(x%((2:Nat) ^ 64:Nat)).toNat) (m:=255);rw[<-ht]at hand;omega
end kit
end Go.Proofs.YtojcoaekhiadcaaGreat
