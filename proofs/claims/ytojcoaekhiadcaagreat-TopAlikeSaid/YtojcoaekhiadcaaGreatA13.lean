import Derived.Test.YtojcoaekhiadcaaGreatA01
import Derived.Test.YtojcoaekhiadcaaGreatA12
import Derived.LaidEqlPtr
import Derived.Maps.RangeRun
import Derived.Test.YtojcoaekhiadcaaGreatProg
import Derived.Test.YtojcoaekhiadcaaGreatA04
import Derived.Test.YtojcoaekhiadcaaGreatA02
import Derived.Handy
import Derived.BigRegion
import Derived.Deep.OwnRows
import Derived.Deep.MidRow
import Derived.Deep.AppendLies
import Derived.Deep.Onto
import Derived.OwnWalk
import Derived.Maps.AppendAt
import Derived.Great.Walk
import Derived.Lib.SliceRun
import Derived.Lib.MinMax
import Derived.Deep.RegionHeld3
import Derived.Deep.DeepCutAuto
import Derived.Deep.CutBlock
import Derived.IntWalk
import Derived.StringKeys
import Derived.Sort.KeysCollected
import Derived.Maps.Own
import Derived.Maps.OwnOps
import Derived.Maps.OwnSet
import Derived.Maps.Views
import Derived.Shelf.SlIter.Nil
import Derived.Shelf.SortM.Plain
import Derived.Shelf.SortM.SortNone
import Derived.Shelf.SlMaps.Clone
import Derived.Ground.GgzProg
import Derived.Ground.SlgmProg
import Derived.Ground.SlmcProg
set_option linter.unusedVariables false
set_option linter.unusedSimpArgs false
namespace Go.Proofs.YtojcoaekhiadcaaGreat
open Tryz Go.RowKit
namespace vault
set_option maxRecDepth 100000
open Go.ChangeMaps (setBlock)
open Go.ChangeShapes Go.WideShapes Go.ChangeAt kit Go.Deep
abbrev PL:=List (Nat×Value)
def esL:Nat->PL->List MapEntry
 |_,[]=>[]
 |i,p::l=>⟨ptr p.1,p.2,i⟩::esL (i+1) l
def b_2:PL->Nat->Value->PL
 |[],b,v=>[(b,v)]
 |p::l,b,v=>if p.1=b then(b,v)::l else p::b_2 l b v
def a_W:PL->Nat->Nat->Option (Nat×Value)
 |[],_,_=>none
 |p::l,b,i=>if p.1=b then some (i,p.2)else a_W l b (i+1)
def a_n(l:PL)(b:Nat):Option Value:=(a_W l b 0).map (·.2)
theorem e_w(b:Nat):∀(l:PL) (i:Nat),(a_W l b i).map (·.2)=a_n l b
 |[],_=>rfl
 |p::l,i=>by
  unfold a_n a_W;split
  ·rfl
  ·rw[e_w b l (i+1),e_w b l (0+1)]
theorem a_m(p:Nat×Value)(l:PL)(b:Nat):a_n (p::l) b=if p.1=b then some p.2 else a_n l b:=by
 unfold a_n;rw[a_W];split
 ·rfl
 ·exact e_w b l 1
theorem a_l(b:Nat)(v:Value):∀l:PL,a_n (b_2 l b v) b=some v
 |[]=>by simp[b_2,a_n,a_W]
 |p::l=>by
  unfold b_2;split
  ·rw[a_m,if_pos rfl]
  ·rename_i h
   rw[a_m,if_neg h,a_l b v l]
theorem a_M{b c:Nat}(h:c≠b)(v:Value):∀l:PL,a_n (b_2 l b v) c=a_n l c
 |[]=>by simp[b_2,a_n,a_W,Ne.symm h]
 |p::l=>by
  unfold b_2;split
  ·rename_i e
   rw[a_m,a_m,if_neg (Ne.symm h),if_neg (by rw[e];exact Ne.symm h)]
  ·rw[a_m,a_m,a_M h v l]
theorem c_8{b:Nat}:∀{l:PL},a_n l b=none↔b ∉ l.map (·.1)
 |[]=>by simp[a_n,a_W]
 |p::l=>by
  rw[a_m]
  by_cases h:p.1=b
  ·rw[if_pos h]
   simp[h]
  ·rw[if_neg h,c_8 (l:=l)]
   simp[Ne.symm h]
theorem c_6{b:Nat}(v:Value):∀{l:PL},a_n l b=none->b_2 l b v=l++[(b,v)]
 |[],_=>rfl
 |p::l,h=>by
  rw[a_m]at h;split at h
  ·cases h
  ·rename_i hne
   unfold b_2;rw[if_neg hne,c_6 v h];rfl
theorem c_7{b:Nat}(v:Value):∀{l:PL} {w:Value},a_n l b=some w->(b_2 l b v).map (·.1)=l.map (·.1)
 |[],_,h=>by cases h
 |p::l,w,h=>by
  rw[a_m]at h;unfold b_2;split
  ·rename_i e;simp[e]
  ·rename_i hne
   rw[if_neg hne]at h;simp[c_7 v h]
theorem i_D:∀(l k:PL) (i:Nat),esL i (l++k)=esL i l++esL (i+l.length) k
 |[],_,_=>by simp[esL]
 |p::l,k,i=>by
  simp only[List.cons_append,esL,List.length_cons];rw[i_D l k,show i+1+l.length=i+(l.length+1) by omega]
theorem i_C{b:Nat}(v:Value):∀{l:PL} {i j:Nat} {u:Value},a_W l b i=some (j,u)->i<=j/\(esL i l).modify (j-i) (fun e=>{e with key:=ptr b,val:=v})=esL i (b_2 l b v)/\((esL i l)[j-i]?).map (·.key)=some (ptr b)
 |[],_,_,_,h=>by cases h
 |p::l,i,j,u,h=>by
  unfold a_W at h;split at h
  ·rename_i e
   injection h with h;injection h with h1 h2;subst h1;unfold b_2;rw[if_pos e];simp[esL,e]
  ·rename_i hne
   obtain⟨h1,h2,h3⟩:=i_C v h;have e:j-i=(j-(i+1))+1:=by omega
   unfold b_2;rw[if_neg hne];refine⟨by omega,?_,?_⟩
   ·rw[e]
    simp only[esL,List.modify_succ_cons];rw[h2]
   ·rw[e]
    simp only[esL,List.getElem?_cons_succ];exact h3
def PM(w:World)(m:Nat)(l:PL):Prop:=w.heap[m]?=some (.map (esL 0 l).toArray l.length)
theorem PM.lt{w:World}{m:Nat}{l:PL}(h:PM w m l):m<w.heap.size:=(Array.getElem?_eq_some_iff.1 h).1
theorem PM.made(w:World):PM (w.alloc (.map #[] 0)) w.heap.size []:=heap_alloc_new w _
theorem PM.alt{w w':World}{m:Nat}{l:PL}(h:PM w m l){K:Nat->Prop}(ha:Alt K w w')(hK:¬K m):PM w' m l:=(ha.same m h.lt hK).trans h
theorem PM.ne_blk{w:World}{m a:Nat}{l:PL}{t:TypeId}{cs:Array Value}(h:PM w m l)(h':Blk w a t cs):m≠a:=fun e=>by
 subst e;unfold PM at h;unfold Blk at h';rw[h']at h;cases h
theorem PM.ne_own{w:World}{m:Nat}{l:PL}(h:PM w m l){B e z n:Nat}{v:Value}{xs:List Value}(ho:w.ownsRow B e z v n xs):v.ownBlock≠some m:=fun he=>by
 rcases ho.2 with⟨h0,_⟩|⟨g',cap,cur,h0,_,hg0,_⟩
 ·rw[h0]at he;cases he
 ·rw[h0]at he
  have:g'=m:=by simpa [Value.ownBlock]using he
  subst this;unfold PM at h;rw[h]at hg0;cases hg0
section
variable {P:Program}{w:World}{t kt e te:TypeId}{j:TypeInfo}
def b_O(w:World)(l:PL):Prop:=∀p∈l,∃t cs,Blk w p.1 t cs
theorem l_f(hp:P.underlying kt=some (.pointer te))(hte:P.info? te=some j)(b:Nat):(Op.equal kt (ptr b) (ptr b)).run P w=.ok true w:=by
 have h:∀d:Nat,(Op.equalIn (d+1) kt (.pointer (some ⟨b,0,none⟩)) (.pointer (some ⟨b,0,none⟩))).run P w=.ok true w:=fun d=>by
  simp[Op.equalIn,run_underlying hp,sizeOf,typeInfo,hte,run_sameAddr_same]
 simp only[Op.equal,Op.maxDepth];exact h 9999
theorem j_S(hp:P.underlying kt=some (.pointer te))(hte:P.info? te=some j)(hsz:j.size≠0){a b:Nat}(hne:a≠b){ta tb:TypeId}{ca cb:Array Value}(ha:Blk w a ta ca)(hb:Blk w b tb cb):(Op.equal kt (ptr a) (ptr b)).run P w=.ok false w:=by
 have h:∀d:Nat,(Op.equalIn (d+1) kt (.pointer (some ⟨a,0,none⟩)) (.pointer (some ⟨b,0,none⟩))).run P w=.ok false w:=fun d=>by
  simp[Op.equalIn,run_underlying hp,sizeOf,typeInfo,hte,hsz,run_sameAddr_other w (a:=⟨a,0,none⟩) (b:=⟨b,0,none⟩) (by simp[hne]) ha hb]
 simp only[Op.equal,Op.maxDepth];exact h 9999
theorem j_O(hp:P.underlying kt=some (.pointer te))(hte:P.info? te=some j)(hsz:j.size≠0){b:Nat}{tb:TypeId}{cb:Array Value}(hb:Blk w b tb cb):∀(l:PL) (i:Nat),b_O w l->(Instr.findAsking kt (ptr b) (esL i l) i).run P w=.ok (a_W l b i) w
 |[],i,_=>by simp[esL,Instr.findAsking,a_W]
 |p::l,i,hk=>by
  have ih:=j_O hp hte hsz hb l (i+1) fun q hq=>hk q (List.mem_cons_of_mem _ hq);obtain⟨tp,cp,hp'⟩:=hk p (List.mem_cons_self ..);unfold esL Instr.findAsking a_W
  by_cases h:p.1=b
  ·rw[if_pos h]
   have e1:(Op.equal kt (ptr b) (ptr p.1)).run P w=.ok true w:=by rw[h];exact l_f hp hte b
   simp[e1]
  ·rw[if_neg h]
   have e1:(Op.equal kt (ptr b) (ptr p.1)).run P w=.ok false w:=j_S hp hte hsz (Ne.symm h) hb hp';simp[e1,ih]
theorem d_0(hp:P.underlying kt=some (.pointer te))(hte:P.info? te=some j)(hsz:j.size≠0){b:Nat}{tb:TypeId}{cb:Array Value}(hb:Blk w b tb cb)(l:PL)(hk:b_O w l):(Instr.findKey kt (ptr b) (esL 0 l)).run P w=.ok (a_W l b 0) w:=by
 have h:=j_O hp hte hsz hb l 0 hk;unfold Instr.findKey;cases l with
 |nil=>simp[run_underlying hp,esL,Instr.findNow,a_W]
 |cons p l=>simp[run_underlying hp,esL,Instr.findNow,Instr.sameNow]at h ⊢;exact h
theorem e_O(hp:P.underlying kt=some (.pointer te))(em:Bool)(n b:Nat):(Instr.checkKey em (n+1) kt (ptr b)).run P w=.ok () w:=by simp[Instr.checkKey,run_underlying hp]
theorem PM.look{m:Nat}{l:PL}(h:PM w m l)(ht:P.underlying t=some (.map kt e))(hp:P.underlying kt=some (.pointer te))(hte:P.info? te=some j)(hsz:j.size≠0){b:Nat}{tb:TypeId}{cb:Array Value}(hb:Blk w b tb cb)(hk:b_O w l){z:Value}(hz:(zeroValue e).run P w=.ok z w):(Instr.lookup t (.map (some m)) (ptr b) false).run P w=.ok ((a_n l b).getD z) w:=by
 have hf:=d_0 hp hte hsz hb l hk;unfold PM at h;have hg:(getObj m).run P w=.ok (.map (esL 0 l).toArray l.length) w:=by simp[getObj,Sem.run,h]
 have hc:∀em:Bool,(Instr.checkKey em 10000 kt (ptr b)).run P w=.ok () w:=fun em=>e_O hp em 9999 b;unfold a_n;simp[Instr.lookup,run_underlying ht,hg,hc,hf];cases a_W l b 0<;>simp[hz]
theorem PM.put{m:Nat}{l:PL}(h:PM w m l)(ht:P.underlying t=some (.map kt e))(hp:P.underlying kt=some (.pointer te))(hte:P.info? te=some j)(hsz:j.size≠0){b:Nat}{tb:TypeId}{cb:Array Value}(hb:Blk w b tb cb)(hk:b_O w l)(v:Value):∃w',(Instr.mapUpdate t (.map (some m)) (ptr b) v).run P w=.ok () w'/\PM w' m (b_2 l b v)/\Alt (fun k=>k=m) w w':=by
 have hf:=d_0 hp hte hsz hb l hk;have hlt:=h.lt;unfold PM at h;have hg:(getObj m).run P w=.ok (.map (esL 0 l).toArray l.length) w:=by simp[getObj,Sem.run,h]
 have hc:∀em:Bool,(Instr.checkKey em 10000 kt (ptr b)).run P w=.ok () w:=fun em=>e_O hp em 9999 b;have hs:(Instr.keyThatStays (ptr b) (ptr b)).run P w=.ok (ptr b) w:=by simp[Instr.keyThatStays,Instr.sameBits]
 refine⟨setBlock w m (.map (esL 0 (b_2 l b v)).toArray (b_2 l b v).length),?_,by simp[PM,setBlock,hlt],rfl,rfl,rfl,by simp[setBlock],fun k hk' hne=>by simp[setBlock,Ne.symm hne]⟩
 have hset:∀o,(setObj m o).run P w=.ok () (setBlock w m o):=fun o=>by simp[setObj,Sem.run,h,setBlock]
 cases hq:a_W l b 0 with
 |none=>
  have hn:a_n l b=none:=by unfold a_n;rw[hq];rfl
  rw[c_6 v hn,i_D];rw[hq]at hf;simp[Instr.mapUpdate,run_underlying ht,hg,hc,hf,hset,esL]
 |some r=>
  obtain⟨i,u⟩:=r;obtain⟨_,h2,h3⟩:=i_C v hq;rw[Nat.sub_zero]at h2 h3;have hlen:(b_2 l b v).length=l.length:=by
   have:=congrArg List.length (c_7 (w:=u) v (by unfold a_n;rw[hq];rfl:a_n l b=some u))
   simpa using this
  rw[hq]at hf;rw[hlen,<-h2];cases h4:(esL 0 l)[i]? with
  |none=>rw[h4]at h3;cases h3
  |some en=>
   rw[h4]at h3;injection h3 with h3;simp[Instr.mapUpdate,run_underlying ht,hg,hc,hf,hset,h4,h3,hs]
end
end vault
namespace pool
abbrev Nm:=List UInt8
structure By where
 n:Nat
 f:Nat->Nat
abbrev Ths:=List (Nm×By)
structure PS where
 ths:Ths
 shs:List (Nm×Ths)
def PS.start:PS:=⟨[],[]⟩
def By.none:By:=⟨0,fun _=>0⟩
theorem c_9(a:Nm):¬a<a:=List.lt_irrefl a
theorem j_l{a b c:Nm}(h:a<b)(k:b<c):a<c:=List.lt_trans h k
theorem t_5{a b:Nm}(h:¬a<b)(k:¬b<a):a=b:=List.le_antisymm k h
section
variable {α:Type}
def get:List (Nm×α)->Nm->Option α
 |[],_=>none
 |p::l,x=>if p.1=x then some p.2 else get l x
def put:List (Nm×α)->Nm->α->List (Nm×α)
 |[],x,v=>[(x,v)]
 |p::l,x,v=>if x<p.1 then(x,v)::p::l else if p.1=x then(x,v)::l else p::put l x v
def del(l:List (Nm×α))(x:Nm):List (Nm×α):=l.filter fun p => !decide (p.1=x)
def Asc(l:List (Nm×α)):Prop:=l.Pairwise fun p q=>p.1<q.1
theorem p_S{l:List (Nm×α)}{x:Nm}(h:∀p,p∈l->p.1≠x):get l x=none:=by
 induction l with
 |nil=>rfl
 |cons p l ih=>
  unfold get;rw[if_neg (h p (List.mem_cons_self ..))];exact ih fun q hq=>h q (List.mem_cons_of_mem _ hq)
theorem a_R{l:List (Nm×α)}{x:Nm}{v:α}(h:get l x=some v):(x,v)∈l:=by
 induction l with
 |nil=>cases h
 |cons p l ih=>
  unfold get at h;split at h
  ·rename_i e
   cases h;subst e;exact List.mem_cons_self ..
  ·exact List.mem_cons_of_mem _ (ih h)
theorem g_q{l:List (Nm×α)}{x:Nm}:(get l x).isSome=true↔∃p,p∈l/\p.1=x:=by
 constructor
 ·intro h
  cases hg:get l x with
  |none=>rw[hg]at h;cases h
  |some v=>exact⟨_,a_R hg,rfl⟩
 ·rintro⟨p,hp,he⟩
  cases hg:get l x with
  |some v=>rfl
  |none=>
   exfalso
   induction l with
   |nil=>cases hp
   |cons q l ih=>
    unfold get at hg;split at hg
    ·cases hg
    ·rename_i hne
     rcases List.mem_cons.1 hp with rfl|hp
     ·exact hne he
     ·exact ih hp hg
theorem get_mem{l:List (Nm×α)}(hs:Asc l){p:Nm×α}(hp:p∈l):get l p.1=some p.2:=by
 induction l with
 |nil=>cases hp
 |cons q l ih=>
  have h1:=List.pairwise_cons.1 hs;unfold get;rcases List.mem_cons.1 hp with rfl|hp
  ·rw[if_pos rfl]
  ·rw[if_neg fun e=>c_9 q.1 (by have:=h1.1 p hp;rw[e]at this ⊢;exact this)]
   exact ih h1.2 hp
theorem a_C{l:List (Nm×α)}{x:Nm}{v:α}:∀{p:Nm×α},p∈put l x v->p=(x,v)\/p∈l:=by
 induction l with
 |nil=>intro p h;exact .inl (List.mem_singleton.1 h)
 |cons q l ih=>
  intro p h;unfold put at h;split at h
  ·rcases List.mem_cons.1 h with h|h
   ·exact .inl h
   ·exact .inr h
  ·split at h
   ·rcases List.mem_cons.1 h with h|h
    ·exact .inl h
    ·exact .inr (List.mem_cons_of_mem _ h)
   ·rcases List.mem_cons.1 h with h|h
    ·exact .inr (by rw[h];exact List.mem_cons_self ..)
    ·rcases ih h with h|h
     ·exact .inl h
     ·exact .inr (List.mem_cons_of_mem _ h)
theorem f_r{l:List (Nm×α)}(hs:Asc l)(x:Nm)(v:α):Asc (put l x v):=by
 induction l with
 |nil=>exact List.pairwise_singleton _ _
 |cons q l ih=>
  have h1:=List.pairwise_cons.1 hs;unfold put;split
  ·rename_i hlt
   refine List.pairwise_cons.2 ⟨fun p hp=>?_,hs⟩;rcases List.mem_cons.1 hp with rfl|hp
   ·exact hlt
   ·exact j_l hlt (h1.1 p hp)
  ·split
   ·rename_i he
    exact List.pairwise_cons.2 ⟨fun p hp=>by rw[<-he];exact h1.1 p hp,h1.2⟩
   ·rename_i hlt hne
    refine List.pairwise_cons.2 ⟨fun p hp=>?_,ih h1.2⟩;rcases a_C hp with rfl|hp
    ·by_cases h:q.1<x
     ·exact h
     ·exact absurd (t_5 hlt h).symm hne
    ·exact h1.1 p hp
theorem e_9(l:List (Nm×α))(x:Nm)(v:α):get (put l x v) x=some v:=by
 induction l with
 |nil=>simp[put,get]
 |cons q l ih=>
  unfold put;split
  ·simp[get]
  ·split
   ·simp[get]
   ·rename_i hne
    simp[get,hne,ih]
theorem d_q{l:List (Nm×α)}{x y:Nm}(h:y≠x)(v:α):get (put l x v) y=get l y:=by
 induction l with
 |nil=>simp[put,get,Ne.symm h]
 |cons q l ih=>
  unfold put;split
  ·simp[get,Ne.symm h]
  ·split
   ·rename_i he
    simp[get,Ne.symm h,he]
   ·simp[get,ih]
theorem b_u{l:List (Nm×α)}{x:Nm}(v:α)(h:get l x=none):(put l x v).length=l.length+1:=by
 induction l with
 |nil=>rfl
 |cons q l ih=>
  unfold get at h;split at h
  ·cases h
  ·rename_i hne
   unfold put;split
   ·rfl
   ·first
    |rw[if_neg hne,List.length_cons,ih h,List.length_cons]
    |rw[List.length_cons,ih h,List.length_cons]
theorem c_L{l:List (Nm×α)}(hs:Asc l){x:Nm}(v:α)(h:(get l x).isSome=true):(put l x v).length=l.length:=by
 induction l with
 |nil=>cases h
 |cons q l ih=>
  have h1:=List.pairwise_cons.1 hs;unfold put;split
  ·rename_i hlt
   obtain⟨p,hp,he⟩:=g_q.1 h;exfalso;rcases List.mem_cons.1 hp with rfl|hp
   ·rw[he]at hlt;exact c_9 _ hlt
   ·have:=h1.1 p hp
    rw[he]at this;exact c_9 _ (j_l hlt this)
  ·split
   ·rfl
   ·rename_i hne
    unfold get at h;rw[if_neg hne]at h;rw[List.length_cons,ih h1.2 h,List.length_cons]
theorem e_a(l:List (Nm×α))(x:Nm):get (del l x) x=none:=
 p_S fun p hp=>by
  have:=(List.mem_filter.1 hp).2;simpa using this
theorem d_r{l:List (Nm×α)}{x y:Nm}(h:y≠x):get (del l x) y=get l y:=by
 induction l with
 |nil=>rfl
 |cons q l ih=>
  unfold del at ih ⊢
  by_cases e:q.1=x
  ·rw[List.filter_cons_of_neg (by simp[e]),ih]
   have:q.1≠y:=fun e'=>h (by rw[<-e',e])
   simp[get,this]
  ·rw[List.filter_cons_of_pos (by simp[e])]
   simp[get,ih]
theorem i_F{l:List (Nm×α)}(hs:Asc l)(x:Nm):Asc (del l x):=List.Pairwise.filter _ hs
theorem l_j{l:List (Nm×α)}(hs:Asc l){x:Nm}(h:(get l x).isSome=true):(del l x).length+1=l.length:=by
 induction l with
 |nil=>cases h
 |cons q l ih=>
  have h1:=List.pairwise_cons.1 hs;unfold del at ih ⊢
  by_cases e:q.1=x
  ·rw[List.filter_cons_of_neg (by simp[e]),List.filter_eq_self.2 fun p hp=>?_,List.length_cons]
   have:=h1.1 p hp;rw[e]at this;simp only[Bool.not_eq_true',decide_eq_false_iff_not];intro e';rw[e']at this;exact c_9 _ this
  ·rw[List.filter_cons_of_pos (by simp[e]),List.length_cons,List.length_cons]
   unfold get at h;rw[if_neg e]at h;rw[ih h1.2 h]
theorem j_m{l:List (Nm×α)}(hs:Asc l):(l.map (·.1)).Nodup:=by
 unfold List.Nodup;rw[List.pairwise_map];exact List.Pairwise.imp (R:=fun p q:Nm×α=>p.1<q.1) (S:=fun p q=>p.1≠q.1) (fun {a b} h e=>c_9 b.1 (by rw[e]at h;exact h)) hs
end
def okB(c:UInt8):Bool:=(decide (97<=c.toNat)&&decide (c.toNat<=122))||(decide (48<=c.toNat)&&decide (c.toNat<=57))
def c_X(s:Nm):Bool:=s.all okB&&(decide (1<=s.length)&&decide (s.length<=8))
structure Cm where
 kind:Int
 name:Nm
 other:Nm
 off:Int
 count:Int
 dn:Nat
 df:Nat->Nat
structure Td where
 code:Int
 size:Nat
 dat:By
 names:List Nm
def Td.no(c:Int):Td:=⟨c,0,By.none,[]⟩
def h_m(b:By)(off count:Nat):By:=⟨if b.n<=off then 0 else min count (b.n-off),fun j=>b.f (off+j)⟩
def d_t(b:By)(off n:Nat)(d:Nat->Nat):By:=⟨max b.n (off+n),fun i=>if off<=i/\i<off+n then d (i-off)else if i<b.n then b.f i else 0⟩
def m_0(b:By)(m:Nat):By:=⟨m,fun i=>if i<b.n then b.f i else 0⟩
def a_T(b:By)(off count:Int):Td:=if off<0\/count<0 then Td.no 2 else⟨0,b.n,h_m b off.toNat count.toNat,[]⟩
def W_{α:Type}(l:List (Nm×α))(x:Nm)(most:Nat):Int:=if c_X x=false then 4 else if(get l x).isSome=true then 7 else if l.length=most then 8 else 0
def y_(s:PS)(x:By)(c:Cm):Td×PS:=
 if c.kind=3 then(a_T x c.off c.count,s)
 else if c.kind=5 then(Td.no 0,⟨del s.ths c.name,s.shs⟩)
 else if c.kind=2 then
  (if c.dn=0\/400<c.dn then(Td.no 1,s)
   else if c.off<0\/1024-(c.dn:Int)<c.off then(Td.no 2,s)
   else(⟨0,(d_t x c.off.toNat c.dn c.df).n,By.none,[]⟩,⟨put s.ths c.name (d_t x c.off.toNat c.dn c.df),s.shs⟩))
 else if c.count<0\/1024<c.count then(Td.no 2,s)
 else(⟨0,c.count.toNat,By.none,[]⟩,⟨put s.ths c.name (m_0 x c.count.toNat),s.shs⟩)
def a_1(s:PS)(c:Cm):Td×PS:=
 if c.kind=7 then(if W_ s.shs c.other 3=0 then(Td.no 0,⟨s.ths,put s.shs c.other s.ths⟩)else(Td.no (W_ s.shs c.other 3),s))
 else match get s.shs c.other with
  |none=>(Td.no 6,s)
  |some l=>
   if c.kind=9 then(Td.no 0,⟨l,s.shs⟩)
   else if c.kind=10 then(Td.no 0,⟨s.ths,del s.shs c.other⟩)
   else match get l c.name with
    |none=>(Td.no 6,s)
    |some b=>(a_T b c.off c.count,s)
def doT(s:PS)(c:Cm):Td×PS:=
 if c.kind=1 then(if W_ s.ths c.name 4=0 then(Td.no 0,⟨put s.ths c.name By.none,s.shs⟩)else(Td.no (W_ s.ths c.name 4),s))
 else if c.kind=6 then(⟨0,0,By.none,s.ths.map (·.1)⟩,s)
 else if c.kind=11 then(⟨0,0,By.none,s.shs.map (·.1)⟩,s)
 else if c.kind=7\/c.kind=8\/c.kind=9\/c.kind=10 then a_1 s c
 else if c.kind=2\/c.kind=3\/c.kind=4\/c.kind=5 then
  (match get s.ths c.name with
   |none=>(Td.no 6,s)
   |some x=>y_ s x c)
 else if c.kind=12 then(Td.no 0,s)
 else(Td.no 3,s)
structure OkT(l:Ths):Prop where
 asc:Asc l
 len:l.length<=4
 sz:∀p,p∈l->p.2.n<=1024
structure OkP(s:PS):Prop where
 th:OkT s.ths
 asc:Asc s.shs
 len:s.shs.length<=3
 sh:∀p,p∈s.shs->OkT p.2
theorem OkP.start:OkP PS.start:=⟨⟨List.Pairwise.nil,by simp[PS.start],fun p h=>by cases h⟩,List.Pairwise.nil,by simp[PS.start],fun p h=>by cases h⟩
theorem OkT.put_old{l:Ths}(h:OkT l){x:Nm}{b:By}(hx:(get l x).isSome=true)(hb:b.n<=1024):OkT (put l x b):=
 ⟨f_r h.asc _ _,by rw[c_L h.asc _ hx];exact h.len,fun p hp=>by
  rcases a_C hp with rfl|hp
  ·exact hb
  ·exact h.sz p hp⟩
theorem OkT.del{l:Ths}(h:OkT l)(x:Nm):OkT (del l x):=
 ⟨i_F h.asc _,Nat.le_trans (List.length_filter_le _ _) h.len,fun p hp=>h.sz p (List.mem_filter.1 hp).1⟩
theorem d_9{α:Type}{l:List (Nm×α)}{x:Nm}{most:Nat}(h:W_ l x most=0):c_X x=true/\get l x=none/\l.length≠most:=by
 unfold W_ at h;split at h
 ·cases h
 split at h
 ·cases h
 split at h
 ·cases h
 rename_i h1 h2 h3;refine⟨by simpa using h1,?_,h3⟩
 cases hg:get l x with
 |none=>rfl
 |some v=>rw[hg]at h2;exact absurd rfl h2
theorem t_v{s:PS}(h:OkP s)(c:Cm):OkP (doT s c).2:=by
 unfold doT;split
 ·split
  ·rename_i hr
   obtain⟨_,h1,h2⟩:=d_9 hr;refine⟨⟨f_r h.th.asc _ _,?_,fun p hp=>?_⟩,h.asc,h.len,h.sh⟩
   ·show(put _ _ _).length<=4
    rw[b_u _ h1];have:=h.th.len;omega
   ·rcases a_C hp with rfl|hp
    ·show 0<=1024;omega
    ·exact h.th.sz p hp
  ·exact h
 split
 ·exact h
 split
 ·exact h
 split
 ·unfold a_1
  split
  ·split
   ·rename_i hr
    obtain⟨_,h1,h2⟩:=d_9 hr;refine⟨h.th,f_r h.asc _ _,?_,fun p hp=>?_⟩
    ·show(put _ _ _).length<=3
     rw[b_u _ h1];have:=h.len;omega
    ·rcases a_C hp with rfl|hp
     ·exact h.th
     ·exact h.sh p hp
   ·exact h
  ·split
   ·exact h
   ·rename_i l hl
    split
    ·exact⟨h.sh _ (a_R hl),h.asc,h.len,h.sh⟩
    split
    ·exact⟨h.th,i_F h.asc _,Nat.le_trans (List.length_filter_le _ _) h.len,fun p hp=>h.sh p (List.mem_filter.1 hp).1⟩
    split
    ·exact h
    ·exact h
 split
 ·split
  ·exact h
  ·rename_i x hx
   have hs:(get s.ths c.name).isSome=true:=by rw[hx];rfl
   have hxn:x.n<=1024:=h.th.sz _ (a_R hx);unfold y_;split
   ·exact h
   split
   ·exact⟨h.th.del _,h.asc,h.len,h.sh⟩
   split
   ·split
    ·exact h
    split
    ·exact h
    ·refine⟨h.th.put_old hs ?_,h.asc,h.len,h.sh⟩
     show max x.n (c.off.toNat+c.dn)<=1024;omega
   split
   ·exact h
   ·refine⟨h.th.put_old hs ?_,h.asc,h.len,h.sh⟩
    show c.count.toNat<=1024;omega
 split
 ·exact h
 ·exact h
end pool
namespace pool
set_option maxRecDepth 100000
open Go.ChangeShapes Go.WideShapes Go.ChangeAt kit Go.Deep Go.Maps
abbrev o_C(v:Value):Option (DataW Value×List MemPlace):=some (.held v,[])
theorem g_n:Keyed prog 9:=string_keyed underlying9
theorem i_u{x:Nm}(h:x.length<=maxLen):keyOf prog 9 (encStr x)=some (.string x):=by
 have:=WideMaps.keyOf_string_mk (P:=prog) underlying9 (s:=⟨x.toArray⟩) h;simpa using this
theorem i_o{a b:Nm}(h:a≠b):(Lit.string a)≠.string b:=fun e=>by injection e with e;exact h e
section
variable {α:Type}
def MP(rd:Value->α->Prop)(w:World)(b c:Nat)(l:List (Nm×α)):Prop:=
 Asc l/\∃D:DataW Value,w.ownsMap prog 9 o_C b c D/\size D=l.length/\(∀k,has D (.string k)=(get l k).isSome)/\∀k y,get l k=some y->∃v,(∀z,D.atKey (.string k) z=.held v)/\rd v y
variable {rd rd':Value->α->Prop}{w w':World}{b c:Nat}{l:List (Nm×α)}
theorem MP.obj(h:MP rd w b c l):∃es k,w.heap[b]?=some (.map es k):=by
 obtain⟨_,D,⟨es,k,h1,_⟩,_⟩:=h;exact⟨es,k,h1⟩
theorem MP.lt(h:MP rd w b c l):b<w.heap.size:=by
 obtain⟨es,k,h1⟩:=h.obj;exact(Array.getElem?_eq_some_iff.1 h1).1
theorem MP.made(w:World):MP rd (w.alloc (.map #[] 0)) w.heap.size 0 []:=
 ⟨List.Pairwise.nil,.map [],World.ownsMap_made w _ _ _,rfl,fun k=>rfl,fun k y h=>by cases h⟩
theorem MP.alt(h:MP rd w b c l){K:Nat->Prop}(ha:Alt K w w')(hK:¬K b)(hr:∀k y,get l k=some y->∀v,rd v y->rd' v y):MP rd' w' b c l:=by
 obtain⟨h0,D,⟨es,k,h1,h2⟩,h3,h4,h5⟩:=h;refine⟨h0,D,⟨es,k,(ha.same b (Array.getElem?_eq_some_iff.1 h1).1 hK).trans h1,h2⟩,h3,h4,fun k y hk=>?_⟩;obtain⟨v,h6,h7⟩:=h5 k y hk;exact⟨v,h6,hr k y hk v h7⟩
theorem MP.mono(h:MP rd w b c l){c':Nat}(hc:c<=c'):MP rd w b c' l:=by
 obtain⟨h0,D,h1,h2⟩:=h;exact⟨h0,D,h1.mono hc,h2⟩
theorem MP.len(h:MP rd w b c l){t e:TypeId}(ht:prog.underlying t=some (.map 9 e))(ty:TypeId):(Builtin.len_ #[t] ty #[.map (some b)]).run prog w=.ok (.int .i64 (l.length:Nat)) w:=by
 obtain⟨_,D,h1,h2,_⟩:=h;rw[h1.len ht ty,h2]
theorem MP.look(h:MP rd w b c l){t e:TypeId}(ht:prog.underlying t=some (.map 9 e)){z:Value}(hz:(zeroValue e).run prog w=.ok z w){x:Nm}(hx:x.length<=maxLen) :
  ∃v,(Instr.lookup t (.map (some b)) (encStr x) true).run prog w=.ok (.tuple #[v,.bool (get l x).isSome]) w/\(∀y,get l x=some y->rd v y)/\(get l x=none->v=z):=by
 obtain⟨_,D,h1,h2,h3,h4⟩:=h;obtain⟨v,ps,hr,hv⟩:=h1.look_ok g_n ht hz (zd:=.held z) (zp:=[]) rfl (i_u hx);refine⟨v,by rw[hr,h3],fun y hy=>?_,fun hn=>?_⟩
 ·obtain⟨v',h5,h6⟩:=h4 x y hy
  rw[h5]at hv;simp[o_C]at hv;rw[hv.1];exact h6
 ·rw[atKey_of_not_has (by rw[h3,hn];rfl)]at hv
  simp[o_C]at hv;exact hv.1
theorem MP.put(h:MP rd w b c l){t e:TypeId}(ht:prog.underlying t=some (.map 9 e))(hc:c<maxLen){x:Nm}(hx:x.length<=maxLen)(val:Value)(y:α) :
  ∃w',(Instr.mapUpdate t (.map (some b)) (encStr x) val).run prog w=.ok () w'/\w.grownBy w' (some b)/\∀rd':Value->α->Prop,rd' val y->(∀k y,get l k=some y->∀v,rd v y->rd' v y)->MP rd' w' b (c+1) (put l x y):=by
 obtain⟨h0,D,h1,h2,h3,h4⟩:=h;obtain⟨w',hr,h5,hg⟩:=h1.update g_n ht hc (i_u hx) (val:=val) (d:=.held val) (ps:=[]) rfl;refine⟨w',hr,hg,fun rd' hv hrd=>⟨f_r h0 _ _,_,h5,?_,fun k=>?_,fun k y' hk=>?_⟩⟩
 ·rw[size_put (h1.tidy g_n),h3,h2]
  cases hg:get l x with
  |none=>simp[b_u y hg]
  |some u=>simp[c_L h0 y (by rw[hg];rfl)]
 ·by_cases e:k=x
  ·subst e
   rw[has_put_same h1.isMap (by constructor),e_9]
   rfl
  ·rw[has_put_other (i_o e),d_q e,h3]
 ·by_cases e:k=x
  ·subst e
   rw[e_9]at hk;cases hk;exact⟨val,fun z=>atKey_put_same h1.isMap (by constructor) _ _,hv⟩
  ·rw[d_q e]at hk
   obtain⟨v,h6,h7⟩:=h4 k y' hk;exact⟨v,fun z=>by rw[atKey_put_other (i_o e)];exact h6 z,hrd k y' hk v h7⟩
theorem MP.del(h:MP rd w b c l){t e:TypeId}(ht:prog.underlying t=some (.map 9 e)){x:Nm}(hx:x.length<=maxLen)(hin:(get l x).isSome=true)(ty:TypeId) :
  ∃w',(Builtin.delete_ #[t,9] ty #[.map (some b),encStr x]).run prog w=.ok (.tuple #[]) w'/\w.grownBy w' (some b)/\∀rd':Value->α->Prop,(∀k y,get l k=some y->∀v,rd v y->rd' v y)->MP rd' w' b c (del l x):=by
 obtain⟨h0,D,h1,h2,h3,h4⟩:=h;obtain⟨w',hr,h5,hg⟩:=h1.drop g_n ht (i_u hx) ty;refine⟨w',hr,hg.grown,fun rd' hrd=>⟨i_F h0 _,_,h5,?_,fun k=>?_,fun k y' hk=>?_⟩⟩
 ·have:=size_del (h1.tidy g_n) (k:=.string x)
  rw[h3,hin,h2]at this;have h7:=l_j h0 hin;simp at this;omega
 ·by_cases e:k=x
  ·subst e
   rw[has_del_same,e_a];rfl
  ·rw[has_del_other (i_o e),d_r e,h3]
 ·by_cases e:k=x
  ·subst e
   rw[e_a]at hk;cases hk
  ·rw[d_r e]at hk
   obtain⟨v,h6,h7⟩:=h4 k y' hk;exact⟨v,fun z=>by rw[atKey_del_other (i_o e)];exact h6 z,hrd k y' hk v h7⟩
theorem MP.new(h:MP rd w b c l)(hn:New w w')(hrd:∀k y,get l k=some y->∀v,rd v y->rd' v y):MP rd' w' b c l:=h.alt (K:=fun _=>False) (Alt.of_new hn) (fun f=>f) hrd
theorem MP.ne_blk(h:MP rd w b c l){a:Nat}{t:TypeId}{cs:Array Value}(h':Blk w a t cs):b≠a:=fun e=>by
 subst e;obtain⟨es,k,h1⟩:=h.obj;unfold Blk at h';rw[h']at h1;cases h1
end
def Bs(w:World)(v:Value)(b:By):Prop:=∃A c,v=.slice A b.n c/\b.n<=c/\c<=maxLen/\(A=none->c=0)/\(0<b.n->∃g off cs,A=some ⟨g,off,none⟩/\Blk w g 5 cs/\∀i,i<b.n->cs[off+i]?=some (.int .u8 (b.f i:Nat)))
theorem Bs.nil(w:World):Bs w (.slice none 0 0) By.none:=⟨_,_,rfl,Nat.le_refl _,Nat.zero_le _,fun _=>rfl,fun h=>absurd h (Nat.lt_irrefl 0)⟩
theorem Bs.alt{w w':World}{v:Value}{b:By}(h:Bs w v b){K:Nat->Prop}(ha:Alt K w w')(hK:∀g cs,Blk w g 5 cs->¬K g):Bs w' v b:=by
 obtain⟨A,c,h1,h2,h3,h4,h5⟩:=h;refine⟨A,c,h1,h2,h3,h4,fun h0=>?_⟩;obtain⟨g,off,cs,h6,h7,h8⟩:=h5 h0;exact⟨g,off,cs,h6,ha.blk h7 (hK g cs h7),h8⟩
theorem Bs.new{w w':World}{v:Value}{b:By}(h:Bs w v b)(hn:New w w'):Bs w' v b:=h.alt (K:=fun _=>False) (Alt.of_new hn) fun _ _ _ f=>f
theorem Bs.grown{w w':World}{v:Value}{b:By}(h:Bs w v b){row:Option Nat}(hg:w.grownBy w' row)(hr:∀g cs,Blk w g 5 cs->row≠some g):Bs w' v b:=h.alt (K:=fun g=>row=some g) (Alt.grown (Alt.refl w) hg fun r e=>.inl e) hr
theorem Bs.read{w:World}{v:Value}{b:By}(h:Bs w v b):∃A c,v=.slice A b.n c/\b.n<=c/\c<=maxLen/\(A=none->c=0)/\RdI .u8 w A b.n (fun i=>(b.f i:Nat)):=by
 obtain⟨A,c,h1,h2,h3,h4,h5⟩:=h;refine⟨A,c,h1,h2,h3,h4,by omega,fun h0=>?_⟩
 obtain⟨g,off,cs,h6,h7,h8⟩:=h5 h0;exact⟨g,off,h6,h7.lt,fun i hi=>by rw[h7.cell];exact h8 i hi⟩
theorem Bs.congr{w:World}{v:Value}{b b':By}(h:Bs w v b)(hn:b.n=b'.n)(hf:∀i,i<b.n->b.f i=b'.f i):Bs w v b':=by
 obtain⟨A,c,h1,h2,h3,h4,h5⟩:=h;refine⟨A,c,by rw[<-hn];exact h1,by omega,h3,h4,fun h0=>?_⟩
 obtain⟨g,off,cs,h6,h7,h8⟩:=h5 (by omega)
 exact⟨g,off,cs,h6,h7,fun i hi=>by rw[<-hf i (by omega)];exact h8 i (by omega)⟩
theorem Bs.own{w:World}{base n:Nat}{v:Value}{f:Nat->Nat}(h:w.ownsRow base 5 1 v n (E_ .u8 f n)):Bs w v ⟨n,f⟩:=by
 rcases h.2 with⟨rfl,h0⟩|⟨g,cap,cur,rfl,hb,hg,h1,h2,h3,h4⟩
 ·subst h0
  exact⟨_,_,rfl,Nat.le_refl _,Nat.zero_le _,fun _=>rfl,fun h=>absurd h (Nat.lt_irrefl 0)⟩
 ·refine⟨_,_,rfl,h1,h2,(fun e=>by cases e),fun h0=>⟨g,0,cur,rfl,hg,fun i hi=>?_⟩⟩
  have h5:=congrArg (fun l:List Value=>l[i]?) h4;simp only[List.getElem?_take,Nat.mul_one,E_]at h5;rw[if_pos hi]at h5;rw[Nat.zero_add,<-Array.getElem?_toList,h5];simp[hi]
def Ns(w:World)(v:Value)(l:List Nm):Prop:=w.ownsRow 0 9 1 v l.length (l.map encStr)
theorem Ns.nil(w:World):Ns w (.slice none 0 0) []:=World.ownsRow_nil _ _ _ _
theorem Ns.alt{w w':World}{v:Value}{l:List Nm}(h:Ns w v l){K:Nat->Prop}(ha:Alt K w w')(hK:∀g cs,Blk w g 9 cs->¬K g):Ns w' v l:=Alt.own ha h fun g hg=>by
 rcases h.2 with⟨h0,_⟩|⟨g',cap,cur,h0,_,hg0,_⟩
 ·rw[h0]at hg;cases hg
 ·rw[h0]at hg
  have:g'=g:=by simpa [Value.ownBlock]using hg
  subst this;exact hK _ _ hg0
theorem Ns.new{w w':World}{v:Value}{l:List Nm}(h:Ns w v l)(hn:New w w'):Ns w' v l:=h.alt (K:=fun _=>False) (Alt.of_new hn) fun _ _ _ f=>f
def PK(sb ob nb:Nat)(k:Nat):Prop:=k=sb\/k=ob\/k=nb
end pool
namespace vault
open Go.Shelf
def h_A:Go.Shelf.Ren:=⟨fun|7=>76|10=>126|n=>n,fun|23=>150|26=>9|3=>97|28=>166|0=>0|27=>165|33=>142|4=>4|n=>n,fun|n=>n⟩
theorem s_z:Go.Proofs.SlLaysZ.n7 prog h_A:={
 mixed:=by kernel_rfl
 f7:=⟨Tryz.f76.name,by decide,func76.trans (congrArg some (by kernel_rfl))⟩
 f10:=⟨Tryz.f126.name,by decide,func126.trans (congrArg some (by kernel_rfl))⟩
 t0:=underlying0
 a0:=Tryz.isAgg0
 z0:=Tryz.sizeOf0
 v0:=Tryz.zeroValue0
 t4:=underlying4
 a4:=Tryz.isAgg4
 z4:=Tryz.sizeOf4
 v4:=Tryz.zeroValue4
 t23:=underlying150
 a23:=Tryz.isAgg150
 z23:=Tryz.sizeOf150
 v23:=Tryz.zeroValue150
 t26:=underlying9
 a26:=Tryz.isAgg9
 z26:=Tryz.sizeOf9
 v26:=Tryz.zeroValue9
 t27:=underlying165
 a27:=Tryz.isAgg165
 z27:=Tryz.sizeOf165
 v27:=Tryz.zeroValue165
 t28:=underlying166
 a28:=Tryz.isAgg166
 z28:=Tryz.sizeOf166
 v28:=Tryz.zeroValue166
 t33:=underlying142
 a33:=Tryz.isAgg142
 z33:=Tryz.sizeOf142
 v33:=Tryz.zeroValue142}
def h_z:Go.Shelf.Ren:=⟨fun|7=>77|10=>127|n=>n,fun|23=>151|26=>9|3=>150|28=>166|0=>0|27=>165|33=>142|4=>4|n=>n,fun|n=>n⟩
theorem s_y:Go.Proofs.SlLaysZ.n7 prog h_z:={
 mixed:=by kernel_rfl
 f7:=⟨Tryz.f77.name,by decide,func77.trans (congrArg some (by kernel_rfl))⟩
 f10:=⟨Tryz.f127.name,by decide,func127.trans (congrArg some (by kernel_rfl))⟩
 t0:=underlying0
 a0:=Tryz.isAgg0
 z0:=Tryz.sizeOf0
 v0:=Tryz.zeroValue0
 t4:=underlying4
 a4:=Tryz.isAgg4
 z4:=Tryz.sizeOf4
 v4:=Tryz.zeroValue4
 t23:=underlying151
 a23:=Tryz.isAgg151
 z23:=Tryz.sizeOf151
 v23:=Tryz.zeroValue151
 t26:=underlying9
 a26:=Tryz.isAgg9
 z26:=Tryz.sizeOf9
 v26:=Tryz.zeroValue9
 t27:=underlying165
 a27:=Tryz.isAgg165
 z27:=Tryz.sizeOf165
 v27:=Tryz.zeroValue165
 t28:=underlying166
 a28:=Tryz.isAgg166
 z28:=Tryz.sizeOf166
 v28:=Tryz.zeroValue166
 t33:=underlying142
 a33:=Tryz.isAgg142
 z33:=Tryz.sizeOf142
 v33:=Tryz.zeroValue142}
def h_B:Go.Shelf.Ren:=⟨fun|7=>142|10=>173|n=>n,fun|23=>149|26=>9|3=>97|28=>166|0=>0|27=>165|33=>142|4=>4|n=>n,fun|n=>n⟩
theorem s_A:Go.Proofs.SlLaysZ.n7 prog h_B:={
 mixed:=by kernel_rfl
 f7:=⟨Tryz.f142.name,by decide,func142.trans (congrArg some (by kernel_rfl))⟩
 f10:=⟨Tryz.f173.name,by decide,func173.trans (congrArg some (by kernel_rfl))⟩
 t0:=underlying0
 a0:=Tryz.isAgg0
 z0:=Tryz.sizeOf0
 v0:=Tryz.zeroValue0
 t4:=underlying4
 a4:=Tryz.isAgg4
 z4:=Tryz.sizeOf4
 v4:=Tryz.zeroValue4
 t23:=underlying149
 a23:=Tryz.isAgg149
 z23:=Tryz.sizeOf149
 v23:=Tryz.zeroValue149
 t26:=underlying9
 a26:=Tryz.isAgg9
 z26:=Tryz.sizeOf9
 v26:=Tryz.zeroValue9
 t27:=underlying165
 a27:=Tryz.isAgg165
 z27:=Tryz.sizeOf165
 v27:=Tryz.zeroValue165
 t28:=underlying166
 a28:=Tryz.isAgg166
 z28:=Tryz.sizeOf166
 v28:=Tryz.zeroValue166
 t33:=underlying142
 a33:=Tryz.isAgg142
 z33:=Tryz.sizeOf142
 v33:=Tryz.zeroValue142}
def b_H:Go.Shelf.Ren:=⟨fun|6=>75|8=>124|9=>125|11=>161|13=>159|12=>162|23=>194|24=>195|14=>204|15=>205|16=>206|17=>207|18=>208|19=>209|20=>210|21=>211|22=>212|25=>228|26=>229|27=>230|28=>231|29=>232|30=>233|31=>241|n=>n,fun|26=>9|28=>166|24=>36|0=>0|3=>3|37=>239|48=>324|50=>326|4=>4|40=>337|39=>336|45=>333|5=>5|9=>9|51=>355|55=>251|57=>365|58=>23|33=>142|n=>n,fun|n=>n⟩
theorem i_6:Go.Proofs.SlLaysZ.n6 prog b_H:={
 mixed:=by kernel_rfl
 f6:=⟨Tryz.f75.name,by decide,func75.trans (congrArg some (by kernel_rfl))⟩
 f8:=⟨Tryz.f124.name,by decide,func124.trans (congrArg some (by kernel_rfl))⟩
 f11:=⟨Tryz.f161.name,by decide,func161.trans (congrArg some (by kernel_rfl))⟩
 t0:=underlying0
 a0:=Tryz.isAgg0
 z0:=Tryz.sizeOf0
 v0:=Tryz.zeroValue0
 t24:=underlying36
 a24:=Tryz.isAgg36
 z24:=Tryz.sizeOf36
 v24:=Tryz.zeroValue36
 t26:=underlying9
 a26:=Tryz.isAgg9
 z26:=Tryz.sizeOf9
 v26:=Tryz.zeroValue9
 t28:=underlying166
 a28:=Tryz.isAgg166
 z28:=Tryz.sizeOf166
 v28:=Tryz.zeroValue166
 i26:=by kernel_rfl}
def n_i:Go.Shelf.Ren:=⟨fun|6=>125|8=>159|9=>162|19=>194|20=>195|21=>204|22=>205|23=>206|24=>207|25=>208|26=>209|27=>210|28=>211|29=>212|36=>228|31=>229|32=>230|37=>231|38=>232|39=>233|41=>241|n=>n,fun|27=>36|29=>9|3=>3|32=>239|26=>36|0=>0|44=>324|46=>326|4=>4|36=>337|35=>336|41=>333|5=>5|9=>9|53=>355|57=>251|63=>365|64=>23|n=>n,fun|n=>n⟩
theorem h_h:Go.Proofs.SlLaysM.n6 prog n_i:={
 mixed:=by kernel_rfl
 f6:=⟨Tryz.f125.name,by decide,func125.trans (congrArg some (by kernel_rfl))⟩
 f8:=func159.trans (congrArg some (by kernel_rfl))
 f9:=⟨Tryz.f162.name,by decide,func162.trans (congrArg some (by kernel_rfl))⟩
 f19:=func194.trans (congrArg some (by kernel_rfl))
 f20:=func195.trans (congrArg some (by kernel_rfl))
 f21:=⟨Tryz.f204.name,by decide,func204.trans (congrArg some (by kernel_rfl))⟩
 f22:=⟨Tryz.f205.name,by decide,func205.trans (congrArg some (by kernel_rfl))⟩
 f23:=⟨Tryz.f206.name,by decide,func206.trans (congrArg some (by kernel_rfl))⟩
 f24:=⟨Tryz.f207.name,by decide,func207.trans (congrArg some (by kernel_rfl))⟩
 f25:=⟨Tryz.f208.name,by decide,func208.trans (congrArg some (by kernel_rfl))⟩
 f26:=⟨Tryz.f209.name,by decide,func209.trans (congrArg some (by kernel_rfl))⟩
 f27:=⟨Tryz.f210.name,by decide,func210.trans (congrArg some (by kernel_rfl))⟩
 f28:=⟨Tryz.f211.name,by decide,func211.trans (congrArg some (by kernel_rfl))⟩
 f29:=⟨Tryz.f212.name,by decide,func212.trans (congrArg some (by kernel_rfl))⟩
 f31:=func229.trans (congrArg some (by kernel_rfl))
 f32:=func230.trans (congrArg some (by kernel_rfl))
 f36:=⟨Tryz.f228.name,by decide,func228.trans (congrArg some (by kernel_rfl))⟩
 f37:=⟨Tryz.f231.name,by decide,func231.trans (congrArg some (by kernel_rfl))⟩
 f38:=⟨Tryz.f232.name,by decide,func232.trans (congrArg some (by kernel_rfl))⟩
 f39:=⟨Tryz.f233.name,by decide,func233.trans (congrArg some (by kernel_rfl))⟩
 f41:=⟨Tryz.f241.name,by decide,func241.trans (congrArg some (by kernel_rfl))⟩
 t0:=underlying0
 a0:=Tryz.isAgg0
 z0:=Tryz.sizeOf0
 v0:=Tryz.zeroValue0
 t3:=underlying3
 a3:=Tryz.isAgg3
 z3:=Tryz.sizeOf3
 v3:=Tryz.zeroValue3
 t4:=underlying4
 a4:=Tryz.isAgg4
 z4:=Tryz.sizeOf4
 v4:=Tryz.zeroValue4
 t5:=underlying5
 a5:=Tryz.isAgg5
 z5:=Tryz.sizeOf5
 v5:=Tryz.zeroValue5
 t9:=underlying9
 a9:=Tryz.isAgg9
 z9:=Tryz.sizeOf9
 v9:=Tryz.zeroValue9
 t26:=underlying36
 a26:=Tryz.isAgg36
 z26:=Tryz.sizeOf36
 v26:=Tryz.zeroValue36
 t27:=underlying36
 a27:=Tryz.isAgg36
 z27:=Tryz.sizeOf36
 v27:=Tryz.zeroValue36
 t29:=underlying9
 a29:=Tryz.isAgg9
 z29:=Tryz.sizeOf9
 v29:=Tryz.zeroValue9
 t32:=underlying239
 a32:=Tryz.isAgg239
 z32:=Tryz.sizeOf239
 v32:=Tryz.zeroValue239
 t35:=underlying336
 a35:=Tryz.isAgg336
 z35:=Tryz.sizeOf336
 v35:=Tryz.zeroValue336
 t36:=underlying337
 a36:=Tryz.isAgg337
 z36:=Tryz.sizeOf337
 v36:=Tryz.zeroValue337
 t41:=underlying333
 a41:=Tryz.isAgg333
 z41:=Tryz.sizeOf333
 v41:=Tryz.zeroValue333
 t44:=underlying324
 a44:=Tryz.isAgg324
 z44:=Tryz.sizeOf324
 v44:=Tryz.zeroValue324
 t46:=underlying326
 a46:=Tryz.isAgg326
 z46:=Tryz.sizeOf326
 v46:=Tryz.zeroValue326
 t53:=underlying355
 a53:=Tryz.isAgg355
 z53:=Tryz.sizeOf355
 v53:=Tryz.zeroValue355
 t57:=underlying251
 a57:=Tryz.isAgg251
 z57:=Tryz.sizeOf251
 v57:=Tryz.zeroValue251
 t63:=underlying365
 a63:=Tryz.isAgg365
 z63:=Tryz.sizeOf365
 v63:=Tryz.zeroValue365
 t64:=underlying23
 a64:=Tryz.isAgg23
 z64:=Tryz.sizeOf23
 v64:=Tryz.zeroValue23}
def l_m:Go.Shelf.Ren:=⟨fun|5=>144|7=>155|n=>n,fun|23=>150|25=>9|3=>97|4=>4|20=>20|n=>n,fun|n=>n⟩
theorem t_A:Go.Proofs.SlLaysW.n5 prog l_m:={
 mixed:=by kernel_rfl
 f5:=⟨Tryz.f144.name,by decide,func144.trans (congrArg some (by kernel_rfl))⟩
 f7:=func155.trans (congrArg some (by kernel_rfl))
 t4:=underlying4
 a4:=Tryz.isAgg4
 z4:=Tryz.sizeOf4
 v4:=Tryz.zeroValue4
 t20:=underlying20
 a20:=Tryz.isAgg20
 z20:=Tryz.sizeOf20
 v20:=Tryz.zeroValue20
 t23:=underlying150
 a23:=Tryz.isAgg150
 z23:=Tryz.sizeOf150
 v23:=Tryz.zeroValue150}
end vault
end Go.Proofs.YtojcoaekhiadcaaGreat
