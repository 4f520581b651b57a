import Derived.Test.YtojcoaekhiadcaaGreatA01
import Derived.Test.YtojcoaekhiadcaaGreatA13
import Derived.Sort.OwnSorted
import Derived.Test.YtojcoaekhiadcaaGreatA04
import Derived.Test.YtojcoaekhiadcaaGreatA12
set_option linter.unusedSectionVars false
set_option linter.unusedVariables false
set_option linter.unusedSimpArgs false
namespace Go.Proofs.YtojcoaekhiadcaaGreat
open Tryz Go.RowKit
namespace vault
set_option maxRecDepth 100000
open Go.ChangeShapes Go.WideShapes Go.ChangeAt kit pool Go.Deep Go.Maps Go.Sort Go.Shelf
def b_l(base:Nat)(v:Value):Prop:=∀k,v.ownBlock=some k->base<=k
theorem b_l.nil(base:Nat):b_l base (.slice none 0 0):=fun k h=>by cases h
theorem b_l.mono{base base':Nat}{v:Value}(h:b_l base v)(hb:base'<=base):b_l base' v:=fun k hk=>Nat.le_trans hb (h k hk)
theorem f_O{α:Type}{l:List (Nm×α)}(hs:Asc l){ss:List Nm}(hp:ss.Perm (l.map (·.1))):ss.mergeSort (fun x y=>decide (x<=y))=l.map (·.1):=by
 refine List.Perm.eq_of_pairwise (le:=fun a b=>decide (a<=b)=true) (fun a b _ _ h1 h2=>List.le_antisymm (by simpa using h1) (by simpa using h2)) (List.pairwise_mergeSort (fun a b c h1 h2=>?_) (fun a b=>?_) _) ?_ ((List.mergeSort_perm _ _).trans hp)
 ·simp only[decide_eq_true_eq]at h1 h2 ⊢
  exact List.le_trans h1 h2
 ·simp only[Bool.or_eq_true,decide_eq_true_eq]
  exact List.le_total a b
 ·rw[List.pairwise_map]
  refine List.Pairwise.imp (R:=fun p q:Nm×α=>p.1<q.1) (fun {a b} h=>?_) hs;simp only[decide_eq_true_eq];exact List.le_of_lt h
theorem d_B{α:Type}{w:World}{b c:Nat}{l:List (Nm×α)}(hs:Asc l){D:DataW Value}(h1:w.ownsMap prog 9 o_C b c D)(h3:∀k,has D (.string k)=(get l k).isSome):(l.map (·.1)).Perm (strKeys D):=by
 obtain⟨es,rfl,hp,hk⟩:=h1.entries g_n;refine perm_strKeys hp (fun p hp'=>?_) (j_m hs) fun x=>?_
 ·obtain⟨es',clock,hb,F,hsz,hD⟩:=h1
  injection hD with hD;rw[hD]at hp';have:=Go.Maps.fit_keys F;have h5:=this p ((mem_sorted).1 hp');obtain⟨key,hkey⟩:=h5;obtain⟨x,_,h7,_⟩:=keyOf_str underlying9 hkey;exact⟨x,h7⟩
 ·rw[h3,g_q,List.mem_map]
set_option maxHeartbeats 1000000 in
theorem j_5{α:Type}{rd:Value->α->Prop}(b c:Nat)(l:List (Nm×α))(w:World)(h:MP rd w b c l)(hl:l.length<=1000) :
  Calls prog 75 #[.func (.func 126) #[] #[.pointer (some ⟨w.heap.size,0,none⟩)]] (w.alloc (.cells #[.map (some b)] 150)) fun e w'=>∃v,e=.returned v/\Ns w' v (l.map (·.1))/\New (w.alloc (.cells #[.map (some b)] 150)) w':=by
 obtain⟨hs,D,hown,hsz,hhas,_⟩:=h;have hbl:=hown.lt;have hseq:SeqGives Fence.wide 2 prog 126 #[.pointer (some ⟨w.heap.size,0,none⟩)] encStr (fun ss=>ss.Perm (strKeys D)) (Maps.size D) (w.alloc (.cells #[.map (some b)] 150)):=
  AnyZ.keys_gives (ρ:=h_A) {s_z with} Fence.wide _ trivial rfl (by omega) w.heap.size b c D _ (by simp) (by simp) (by
   obtain⟨es,clock,hb,Ft,hs,hD⟩:=hown;exact⟨es,clock,(Below.heap_alloc _ _ b hbl).trans hb,Ft,hs,hD⟩)
 have hsorts:AnyZ.SortsIn prog b_H Fence.wide (5-1):=
  ⟨fun blk off cap ss W hH hblk hsz=>callsIn_wide.2 (AnyM.slices_Sort_string h_h blk off cap ss W hH hblk hsz),fun p cap W=>callsIn_wide.2 (AnyM.slices_Sort_string_none h_h p cap W)⟩
 have hc:=AnyZ.sorted_in i_6 Fence.wide 5 trivial trivial trivial trivial rfl (by omega) hsorts (enters_of func125 (by kernel_rfl) rfl) 126 #[.pointer (some ⟨w.heap.size,0,none⟩)] trivial (enters_of func126 (by kernel_rfl) rfl) _ (Maps.size D) (by rw[hsz];unfold maxLen;omega) (by rw[hsz];omega) _ hseq
 refine Calls.mono ((callsIn_wide).1 hc) ?_;rintro e w' ⟨v,ss,rfl,hp,hrow,hnil,hb⟩;have hp2:=hp.trans (d_B hs hown hhas).symm;rw[f_O hs hp2]at hrow;refine⟨v,rfl,?_,hb⟩;have e:ss.length=(l.map (·.1)).length:=hp2.length_eq;rw[e]at hrow;exact a_8 hrow (Nat.zero_le _)
theorem p_M(mb:Option Nat)(w:World):Calls prog 76 #[.map mb] w fun e w'=>e=.returned (.func (.func 126) #[] #[.pointer (some ⟨w.heap.size,0,none⟩)])/\w'=w.alloc (.cells #[.map mb] 150):=
 (callsIn_wide).1 (AnyZ.keys_in s_z Fence.wide 5 trivial rfl mb w)
set_option maxHeartbeats 1000000 in
theorem h_g{α:Type}{rd:Value->α->Prop}(b c:Nat)(l:List (Nm×α))(w:World)(h:MP rd w b c l)(hl:l.length<=1000) :
  Calls prog 75 #[.func (.func 127) #[] #[.pointer (some ⟨w.heap.size,0,none⟩)]] (w.alloc (.cells #[.map (some b)] 151)) fun e w'=>∃v,e=.returned v/\Ns w' v (l.map (·.1))/\b_l w.heap.size v/\New (w.alloc (.cells #[.map (some b)] 151)) w':=by
 obtain⟨hs,D,hown,hsz,hhas,_⟩:=h;have hbl:=hown.lt;have hseq:SeqGives Fence.wide 2 prog 127 #[.pointer (some ⟨w.heap.size,0,none⟩)] encStr (fun ss=>ss.Perm (strKeys D)) (Maps.size D) (w.alloc (.cells #[.map (some b)] 151)):=
  AnyZ.keys_gives (ρ:=h_z) {s_y with} Fence.wide _ trivial rfl (by omega) w.heap.size b c D _ (by simp) (by simp) (by
   obtain⟨es,clock,hb,Ft,hs,hD⟩:=hown;exact⟨es,clock,(Below.heap_alloc _ _ b hbl).trans hb,Ft,hs,hD⟩)
 have hsorts:AnyZ.SortsIn prog b_H Fence.wide (5-1):=
  ⟨fun blk off cap ss W hH hblk hsz=>callsIn_wide.2 (AnyM.slices_Sort_string h_h blk off cap ss W hH hblk hsz),fun p cap W=>callsIn_wide.2 (AnyM.slices_Sort_string_none h_h p cap W)⟩
 have hc:=AnyZ.sorted_in i_6 Fence.wide 5 trivial trivial trivial trivial rfl (by omega) hsorts (enters_of func125 (by kernel_rfl) rfl) 127 #[.pointer (some ⟨w.heap.size,0,none⟩)] trivial (enters_of func127 (by kernel_rfl) rfl) _ (Maps.size D) (by rw[hsz];unfold maxLen;omega) (by rw[hsz];omega) _ hseq
 refine Calls.mono ((callsIn_wide).1 hc) ?_;rintro e w' ⟨v,ss,rfl,hp,hrow,hnil,hb⟩;have hp2:=hp.trans (d_B hs hown hhas).symm;rw[f_O hs hp2]at hrow;have e:ss.length=(l.map (·.1)).length:=hp2.length_eq;rw[e]at hrow;exact⟨v,rfl,a_8 hrow (Nat.zero_le _),fun k hk=>by have:=(hrow.lt k hk).1;simp at this;omega,hb⟩
theorem j_4{α:Type}{rd:Value->α->Prop}(b c:Nat)(l:List (Nm×α))(w:World)(h:MP rd w b c l)(hl:l.length<=1000) :
  Calls prog 75 #[.func (.func 127) #[] #[.pointer (some ⟨w.heap.size,0,none⟩)]] (w.alloc (.cells #[.map (some b)] 151)) fun e w'=>∃v,e=.returned v/\Ns w' v (l.map (·.1))/\New (w.alloc (.cells #[.map (some b)] 151)) w':=by
 refine(h_g b c l w h hl).mono ?_;rintro e w' ⟨v,h1,h2,_,h3⟩;exact⟨v,h1,h2,h3⟩
theorem l_4(mb:Option Nat)(w:World):Calls prog 77 #[.map mb] w fun e w'=>e=.returned (.func (.func 127) #[] #[.pointer (some ⟨w.heap.size,0,none⟩)])/\w'=w.alloc (.cells #[.map mb] 151):=
 (callsIn_wide).1 (AnyZ.keys_in s_y Fence.wide 5 trivial rfl mb w)
set_option maxHeartbeats 1000000 in
theorem n_h{α:Type}{rd:Value->α->Prop}(b c:Nat)(l:List (Nm×α))(w:World)(h:MP rd w b c l)(hl:l.length<=1000) :
  Calls prog 75 #[.func (.func 173) #[] #[.pointer (some ⟨w.heap.size,0,none⟩)]] (w.alloc (.cells #[.map (some b)] 149)) fun e w'=>∃v,e=.returned v/\Ns w' v (l.map (·.1))/\b_l w.heap.size v/\New (w.alloc (.cells #[.map (some b)] 149)) w':=by
 obtain⟨hs,D,hown,hsz,hhas,_⟩:=h;have hbl:=hown.lt;have hseq:SeqGives Fence.wide 2 prog 173 #[.pointer (some ⟨w.heap.size,0,none⟩)] encStr (fun ss=>ss.Perm (strKeys D)) (Maps.size D) (w.alloc (.cells #[.map (some b)] 149)):=
  AnyZ.keys_gives (ρ:=h_B) {s_A with} Fence.wide _ trivial rfl (by omega) w.heap.size b c D _ (by simp) (by simp) (by
   obtain⟨es,clock,hb,Ft,hs,hD⟩:=hown;exact⟨es,clock,(Below.heap_alloc _ _ b hbl).trans hb,Ft,hs,hD⟩)
 have hsorts:AnyZ.SortsIn prog b_H Fence.wide (5-1):=
  ⟨fun blk off cap ss W hH hblk hsz=>callsIn_wide.2 (AnyM.slices_Sort_string h_h blk off cap ss W hH hblk hsz),fun p cap W=>callsIn_wide.2 (AnyM.slices_Sort_string_none h_h p cap W)⟩
 have hc:=AnyZ.sorted_in i_6 Fence.wide 5 trivial trivial trivial trivial rfl (by omega) hsorts (enters_of func125 (by kernel_rfl) rfl) 173 #[.pointer (some ⟨w.heap.size,0,none⟩)] trivial (enters_of func173 (by kernel_rfl) rfl) _ (Maps.size D) (by rw[hsz];unfold maxLen;omega) (by rw[hsz];omega) _ hseq
 refine Calls.mono ((callsIn_wide).1 hc) ?_;rintro e w' ⟨v,ss,rfl,hp,hrow,hnil,hb⟩;have hp2:=hp.trans (d_B hs hown hhas).symm;rw[f_O hs hp2]at hrow;have e:ss.length=(l.map (·.1)).length:=hp2.length_eq;rw[e]at hrow;exact⟨v,rfl,a_8 hrow (Nat.zero_le _),fun k hk=>by have:=(hrow.lt k hk).1;simp at this;omega,hb⟩
theorem t_g(mb:Option Nat)(w:World):Calls prog 142 #[.map mb] w fun e w'=>e=.returned (.func (.func 173) #[] #[.pointer (some ⟨w.heap.size,0,none⟩)])/\w'=w.alloc (.cells #[.map mb] 149):=
 (callsIn_wide).1 (AnyZ.keys_in s_A Fence.wide 5 trivial rfl mb w)
theorem r_u{α:Type}{rd:Value->α->Prop}(b c:Nat)(l:List (Nm×α))(w:World)(h:MP rd w b c l)(hl:l.length<=1000) :
  Calls prog 92 #[.map (some b)] w fun e w'=>∃v,e=.returned v/\Ns w' v (l.map (·.1))/\b_l w.heap.size v/\New w w':=by
 have hs:=Hd (n_h b c l w h hl);have hk:=Hd (t_g (some b) w);clear h;go_enter func92,ntmps92;go_wp2_with fail;refine hk.o.mono ?_;rintro e w1 ⟨rfl,rfl⟩;go_wp2_with fail;refine hs.o.mono ?_;rintro e w2 ⟨v,rfl,hN,hNo,hn⟩;go_wp2;go_ret;exact⟨v,rfl,hN,hNo,New.of_alloc hn⟩
theorem r_t{α:Type}{rd:Value->α->Prop}(b c:Nat)(l:List (Nm×α))(w:World)(h:MP rd w b c l)(hl:l.length<=1000) :
  Calls prog 93 #[.map (some b)] w fun e w'=>∃v,e=.returned v/\Ns w' v (l.map (·.1))/\b_l w.heap.size v/\New w w':=by
 have hs:=Hd (h_g b c l w h hl);have hk:=Hd (l_4 (some b) w);clear h;go_enter func93,ntmps93;go_wp2_with fail;refine hk.o.mono ?_;rintro e w1 ⟨rfl,rfl⟩;go_wp2_with fail;refine hs.o.mono ?_;rintro e w2 ⟨v,rfl,hN,hNo,hn⟩;go_wp2;go_ret;exact⟨v,rfl,hN,hNo,New.of_alloc hn⟩
end vault
namespace vault
set_option maxRecDepth 100000
open Go.ChangeShapes Go.WideShapes Go.ChangeAt kit pool Go.Deep Go.Maps
structure OG where
 sz:Nat
 bl:List Nat
abbrev GT:=List (Nm×OG)
structure GS where
 ths:GT
 shs:List (Nm×GT)
def gBl(l:GT):List Nat:=l.flatMap (·.2.bl)
def GS.all(g:GS):List Nat:=gBl g.ths++g.shs.flatMap fun p=>gBl p.2
def e_Q(out:List Nat)(b:Nat):List Nat:=if b∈out then out else out++[b]
def r_(out l:List Nat):List Nat:=l.foldl e_Q out
theorem c_q(out a b:List Nat):r_ out (a++b)=r_ (r_ out a) b:=List.foldl_append ..
theorem q_L{out:List Nat}{b x:Nat}:x∈e_Q out b↔x∈out\/x=b:=by
 unfold e_Q;split
 ·rename_i h
  exact⟨.inl,fun hx=>hx.elim id fun e=>e▸h⟩
 ·simp
theorem d_M{x:Nat}:∀{l out:List Nat},x∈r_ out l↔x∈out\/x∈l
 |[],out=>by simp[r_]
 |b::l,out=>by
  show x∈r_ (e_Q out b) l↔_;rw[d_M,q_L,List.mem_cons,or_assoc]
theorem c_p:∀{l out:List Nat},out.Nodup->(r_ out l).Nodup
 |[],_,h=>h
 |b::l,out,h=>by
  show(r_ (e_Q out b) l).Nodup;refine c_p ?_;unfold e_Q;split
  ·exact h
  ·rename_i hb
   rw[List.nodup_append];exact⟨h,by simp,fun a ha c hc e=>by rw[List.mem_singleton]at hc;subst hc;subst e;exact hb ha⟩
theorem d_N:∀{l out:List Nat},(r_ out l).length<=out.length+l.length
 |[],_=>Nat.le_refl _
 |b::l,out=>by
  show(r_ (e_Q out b) l).length<=_;have:=d_N (l:=l) (out:=e_Q out b);have h2:(e_Q out b).length<=out.length+1:=by unfold e_Q;split<;>simp
  rw[List.length_cons];omega
section
variable {vb:Nat}{o o':Nat->Nat}{w w':World}
def a_v(o:Nat->Nat)(w:World)(v:Value)(l:List Nat):Prop:=∃A c,v=.slice A l.length c/\l.length<=c/\c<=maxLen/\(A=none->c=0)/\(0<l.length->∃g off cs,A=some ⟨g,off,none⟩/\o g=2/\Blk w g 112 cs/\∀i b,l[i]?=some b->cs[off+i]?=some (ptr b))
theorem a_v.nil(o:Nat->Nat)(w:World):a_v o w (.slice none 0 0) []:=⟨none,0,rfl,Nat.le_refl _,Nat.zero_le _,fun _=>rfl,fun h=>absurd h (Nat.lt_irrefl 0)⟩
theorem a_v.alt{v:Value}{l:List Nat}(h:a_v o w v l){K:Nat->Prop}(ha:Alt K w w')(hK:∀b,o b=2->¬K b)(hs:s_ o o' w):a_v o' w' v l:=by
 obtain⟨A,c,h1,h2,h3,h4,h5⟩:=h;refine⟨A,c,h1,h2,h3,h4,fun h0=>?_⟩;obtain⟨g,off,cs,e1,e2,e3,e4⟩:=h5 h0;exact⟨g,off,cs,e1,(hs g e3.lt).trans e2,ha.blk e3 (hK g e2),e4⟩
def ObV(vb:Nat)(o:Nat->Nat)(w:World)(v:Value)(g:OG):Prop:=∃ob bv,v=ptr ob/\o ob=2/\Blk w ob 100 #[ptr vb,.int .i64 (g.sz:Nat),bv]/\a_v o w bv g.bl
theorem ObV.alt{v:Value}{g:OG}(h:ObV vb o w v g){K:Nat->Prop}(ha:Alt K w w')(hK:∀b,o b=2->¬K b)(hs:s_ o o' w):ObV vb o' w' v g:=by
 obtain⟨ob,bv,h1,h2,h3,h4⟩:=h;exact⟨ob,bv,h1,(hs ob h3.lt).trans h2,ha.blk h3 (hK ob h2),h4.alt ha hK hs⟩
def SnV(vb xb yb c:Nat)(o:Nat->Nat)(w:World)(v:Value)(l:GT):Prop:=∃b,v=.map (some b)/\o b=2/\b≠xb/\b≠yb/\MP (ObV vb o w) w b c l
theorem SnV.alt{xb yb c:Nat}{v:Value}{l:GT}(h:SnV vb xb yb c o w v l){K:Nat->Prop}(ha:Alt K w w')(hK:∀b,o b=2->¬K b)(hs:s_ o o' w):SnV vb xb yb c o' w' v l:=by
 obtain⟨b,h1,h2,h3,h4,h5⟩:=h;exact⟨b,h1,(hs b h5.lt).trans h2,h3,h4,h5.alt ha (hK b h2) fun k y _ v hv=>hv.alt ha hK hs⟩
structure PlM(vb sb xb yb c:Nat)(o:Nat->Nat)(g:GS)(w:World):Prop where
 bk:∃eb,Blk w sb 153 #[.map (some xb),.map (some yb),ptr eb]/\o eb=2/\Blk w eb 100 #[ptr vb,.int .i64 0,.slice none 0 0]
 om:MP (ObV vb o w) w xb c g.ths
 nm:MP (SnV vb xb yb c o w) w yb c g.shs
 ts:o sb=2
 tx:o xb=2
 ty:o yb=2
 ne:xb≠yb
theorem PlM.alt{sb xb yb c:Nat}{g:GS}(h:PlM vb sb xb yb c o g w){K:Nat->Prop}(ha:Alt K w w')(hK:∀b,o b=2->¬K b)(hs:s_ o o' w):PlM vb sb xb yb c o' g w':=by
 obtain⟨eb,e1,e2,e3⟩:=h.bk;exact⟨⟨eb,ha.blk e1 (hK _ h.ts),(hs eb e3.lt).trans e2,ha.blk e3 (hK _ e2)⟩,h.om.alt ha (hK _ h.tx) fun k y _ v hv=>hv.alt ha hK hs,h.nm.alt ha (hK _ h.ty) fun k y _ v hv=>hv.alt ha hK hs,(hs sb e1.lt).trans h.ts,(hs xb h.om.lt).trans h.tx,(hs yb h.nm.lt).trans h.ty,h.ne⟩
def BlM(o:Nat->Nat)(w:World)(b:Nat)(f:Nat->Nat)(at_:Option Ptr):Prop:=o b=2/\match at_ with
 |none=>∃g off cs c,Blk w b 115 #[.slice (some ⟨g,off,none⟩) 256 c,.pointer none]/\o g=2/\Blk w g 5 cs/\(∀i,i<256->cs[off+i]?=some (.int .u8 (f i:Nat)))/\256<=c/\c<=maxLen
 |some q=>∃g,Blk w b 115 #[.slice none 0 0,ptr g]/\o g=2/\Blk w g 107 (x_ q)
theorem BlM.blk{b:Nat}{f:Nat->Nat}{at_:Option Ptr}(h:BlM o w b f at_):∃cs,Blk w b 115 cs:=by
 obtain⟨_,h⟩:=h;cases at_ with
 |none=>obtain⟨_,_,_,_,h1,_⟩:=h;exact⟨_,h1⟩
 |some q=>obtain⟨_,h1,_⟩:=h;exact⟨_,h1⟩
theorem BlM.alt{b:Nat}{f:Nat->Nat}{at_:Option Ptr}(h:BlM o w b f at_){K:Nat->Prop}(ha:Alt K w w')(hK:∀b,o b=2->¬K b)(hs:s_ o o' w):BlM o' w' b f at_:=by
 obtain⟨_,hb⟩:=h.blk;obtain⟨h0,h⟩:=h;refine⟨(hs b hb.lt).trans h0,?_⟩;cases at_ with
 |none=>obtain⟨g,off,cs,c,h1,h2,h3,h4⟩:=h;exact⟨g,off,cs,c,ha.blk h1 (hK b h0),(hs g h3.lt).trans h2,ha.blk h3 (hK g h2),h4⟩
 |some q=>obtain⟨g,h1,h2,h3⟩:=h;exact⟨g,ha.blk h1 (hK b h0),(hs g h3.lt).trans h2,ha.blk h3 (hK g h2)⟩
end
theorem m_s{α:Type}{rd:Value->α->Prop}{w:World}{b c:Nat}{l:List (Nm×α)}(h:MP rd w b c l){t e:TypeId}(ht:prog.underlying t=some (.map 9 e)){z:Value}(hz:(zeroValue e).run prog w=.ok z w){x:Nm}(hx:x.length<=maxLen){y:α}(hy:get l x=some y):∃v,(Instr.lookup t (.map (some b)) (encStr x) false).run prog w=.ok v w/\rd v y:=by
 obtain⟨_,D,h1,h2,h3,h4⟩:=h;obtain⟨v,ps,hr,hv⟩:=h1.lookup g_n ht hz (zd:=.held z) (zp:=[]) rfl (i_u hx);obtain⟨v',h5,h6⟩:=h4 x y hy;rw[h5]at hv;simp[o_C]at hv;exact⟨v,hr,hv.1▸h6⟩
end vault
namespace drive
set_option maxRecDepth 100000
open Go.ChangeShapes Go.WideShapes Go.ChangeAt kit each2 Go.Deep
theorem r_H:(prog.info? 245).map (fun i=>(i.zero,i.size,i.bytes))=some (some (.agg #[.int .i64 0,.slice none 0 0]),2,32):=by kernel_rfl
theorem d_g(ws:List (Nat×(Nat->Nat)))(q:Nat×(Nat->Nat))(i:Nat)(hi:i<ws.length+1):(ws++[q]).getD i noP=if i=ws.length then q else ws.getD i noP:=by
 by_cases e:i=ws.length
 ·subst e
  simp[List.getD]
 ·rw[if_neg e]
  simp[List.getD,List.getElem?_append_left (show i<ws.length by omega)]
theorem Dr.push{P:Nat->Prop}{base d g n:Nat}{pl:Nat->Option (Nat->Nat)}{br:Nat->Bool}{ws:List (Nat×(Nat->Nat))}{dead:Bool}{pv:Nat->Value}{wv:Value}{dv:Nat->Value}{w w7:World}{q:Nat×(Nat->Nat)}{v:Value}{o:Obj}{g7 c7:Nat}
  (h:Dr P base d g n pl br ws dead pv wv dv w) (hown:w7.ownsRow base 245 2 (.slice (some ⟨g7,0,none⟩) (ws.length+1) c7) (ws.length+1) (wsL ws dv++[.int .i64 q.1,v])) (hgr:(w.alloc o).grownBy w7 wv.ownBlock) (hv:Sd w v q.2) (hq:q.1<n) (hvp:∀k,v.ownBlock=some k->P k) (hg7:P g7) :
  Dr P base d g n pl br (ws++[q]) dead pv (.slice (some ⟨g7,0,none⟩) (ws.length+1) c7) (fun i=>if i=ws.length then v else dv i) (w7.setCell ⟨d,1,none⟩ (.slice (some ⟨g7,0,none⟩) (ws.length+1) c7))/\w7.cell? ⟨d,1,none⟩=some wv/\w7.frozen? ⟨d,1,none⟩=false:=by
 have ha:=h.new ((New.refl w).alloc o);have hb7:=ha.bk.grown hgr (a_O ha.wo ha.bk (by decide))
 obtain⟨cs,hc⟩:=ha.pt.blk;have hp7:=ha.pt.grown hgr (a_O ha.wo hc (by decide))
 have hc7:=Blk.grown hc hgr (a_O ha.wo hc (by decide))
 have hu:∀b f,m_ 5 .u8 (w.alloc o) b 128 f->wv.ownBlock≠some b:=fun b f hr=>hr.ne_own ha.wo (by decide)
 have gs:=k_ w7 d 1 (.slice (some ⟨g7,0,none⟩) (ws.length+1) c7);have hud:∀b f,m_ 5 .u8 w7 b 128 f->(some d:Option Nat)≠some b:=fun b f hr e=>m_.ne_blk hr hb7 (by decide) (Option.some.inj e)
 refine⟨⟨hb7.put 1 _,hp7.grown gs fun e=>e_P hb7 hc7 (by decide) (Option.some.inj e),fun i hi=>((ha.pd i hi).grown hgr hu).grown gs hud,?_,fun i hi=>?_,fun i hi=>?_,h.lo,⟨h.ft.d,h.ft.g,fun k e=>by cases e;exact hg7,h.ft.p,fun i hi k=>?_⟩⟩,by simpa using hb7.cell 1,hb7.frozen 1⟩
 ·rw[List.length_append,o_s]
  refine World.ownsRow.kept hown gs (.inr fun e=>?_);exact a_O hown hb7 (by decide) e
 ·rw[List.length_append]at hi
  rw[d_g ws q i hi]
  by_cases e:i=ws.length
  ·subst e
   simp only[if_true];exact((hv.new ((New.refl w).alloc o)).grown hgr hu).grown gs hud
  ·simp only[if_neg e]
   exact((ha.wd i (by simp at hi;omega)).grown hgr hu).grown gs hud
 ·rw[List.length_append]at hi
  rw[d_g ws q i hi]
  by_cases e:i=ws.length
  ·rw[if_pos e];exact hq
  ·rw[if_neg e];exact h.wi i (by simp at hi;omega)
 ·show(if i=ws.length then v else dv i).ownBlock=some k->P k
  rw[List.length_append]at hi
  by_cases e:i=ws.length
  ·rw[if_pos e];exact hvp k
  ·rw[if_neg e];exact h.ft.v i (by simp at hi;omega) k
set_option maxHeartbeats 2000000 in
theorem t_I(P:Nat->Prop)(base d g n m:Nat)(s:DS)(pv:Nat->Value)(wv:Value)(dv:Nat->Value)(at_:Nat)(p:Int)(R:Option Addr)(l c:Nat)(D:Nat->Nat)(w:World)(h:Dr P base d g n s.pl s.br s.ws s.dead pv wv dv w)(hn:n<=512)(hm:s.ws.length=m)(hm3:m<300)
  (hJ:RdI .u8 w R l (fun i=>(D i:Nat))) (hlc:l<=c) (hcm:c<=maxLen) (hb:base<=w.heap.size) (hP:∀b,w.heap.size<=b->P b) (hat:at_<n) (hf:v_ n s.dead 1 at_ l=0) :
  Calls prog 88 #[.pointer (some ⟨d,0,none⟩),l_5 1 at_ p R l c] w (DoP P base d g n wv (a_5 n s 1 at_ p l D) w):=by
 have hl63:l<=maxLen:=Nat.le_trans hlc hcm;have hB0:=Hd (JB.start w 1 at_ p R l c);have hD0:=h.new hB0.o.nw;have hfa:=Hd (b_r d g n wv s.dead 1 at_ p R l c _ hD0.bk hn hl63);obtain⟨cd,hcd⟩:∃cd,Hid (cd=v_ n s.dead 1 at_ l):=⟨_,rfl⟩;rw[<-hcd.o]at hfa hf;obtain⟨st,hst⟩:∃st,Hid (st=a_5 n s 1 at_ p l D):=⟨_,rfl⟩;rw[<-hst.o];have hD0H:=Hd hD0;have hmH:=Hd hm;have hJH:=Hd hJ;have hwH:=Hd h;have hdl:=h.bk.lt;clear hD0 h hm hJ;have hse:Hid (st=({s with ws:=s.ws++[(at_,D)]},0,none)):=by
  show _=_;rw[hst.o];unfold a_5;rw[if_neg (by rw[<-hcd.o,hf];simp),if_pos rfl]
  all_goals rfl
 subst hf;go_enter func88,ntmps88;go_wp2_with fail;refine hfa.o.mono ?_;rintro e w1 ⟨rfl,hn1⟩;have hB1:=hB0.o.new hn1;have hD1:=Hd (hD0H.o.new hn1);have j0:=hB1.jb.cell 0;have j1:=hB1.jb.cell 1;have j3:=hB1.jb.cell 3;have r0:=hB1.rb.cell 0;have r1:=hB1.rb.cell 1;have r2:=hB1.rb.frozen 0;have r3:=hB1.rb.frozen 1;simp at j0 j1 j3 r0 r1;have hB1H:=Hd hB1;have hN1:=Hd hB1.nw;clear hn1 hB1 hfa hB0 hD0H;have hl128:l=128:=by
  have h1:=hcd.o;unfold v_ at h1;split at h1
  ·cases h1
  split at h1
  ·cases h1
  split at h1
  ·cases h1
  split at h1
  ·cases h1
  ·rename_i hx
   exact Decidable.not_not.1 fun hh=>hx ⟨by decide,hh⟩
 subst hl128;obtain⟨jb,jo,rfl,hjb,hjc⟩:=hJH.o.2 (by omega)
 have hcl:=Hd (fun(w':World) (hn':New w1 w')=>Clone_any jb jo 128 c D w' (fun j hj=>((hN1.o.next hn').cell (p:=⟨jb,jo+j,none⟩) hjb).trans (hjc j hj)) (by omega) (by omega) (Nat.lt_of_lt_of_le hjb (hN1.o.next hn').size))
 clear hjc;obtain⟨i0,hi0,hz0,hz1,hz2⟩:=info_parts r_H;have hgl:=hwH.o.pt.lt;have d1:=hD1.o.bk.cell 1;simp at d1;have hwo:=hD1.o.wo;have hkeep:Hid (∀w',New w1 w'->w'.cell? ⟨w.heap.size,1,none⟩=some (.int .i64 at_)/\w'.cell? ⟨w.heap.size,3,none⟩=some (.slice (some ⟨jb,jo,none⟩) 128 c)):=fun w' hn'=>⟨(hn'.cell (a_ j1)).trans j1,(hn'.cell (a_ j3)).trans j3⟩;have hsz1:=hN1.o.size;go_wp2_with fail;go_region_law
  (first
   |(go_simp;go_at_call 133;refine(hcl.o _ (New.refl _).drew).mono ?_;rintro e w2 ⟨⟨sg,scap,rfl,s1,s2,s3,s4⟩,hn2⟩;have hN2:New w1 w2:=New.next (New.refl _).drew hn2;have t1:=(hN2.cell (a_ d1)).trans d1;have t1':=(hN2.cell (a_ j1)).trans j1;have t2:=((hN2.alloc (.cells #[.int .i64 at_,.slice (some ⟨sg,0,none⟩) 128 scap] 245)).cell (a_ d1)).trans d1;have hD2:=hD1.o.new hN2;have hwo2:=hD2.wo;have hsz2:=hN2.size)
   |(refine step_append_lies _ (by rfl) _ _ 93 (by rfl) base 245 i0 _ 2 32 underlying93 hi0 hz0 hz1 hz2 rfl (by decide) wv s.ws.length (wsL s.ws dv) (by rfl) (hwo2.alloc _) ⟨w2.heap.size,0,none⟩ 1 1 [.int .i64 at_,.slice (some ⟨sg,0,none⟩) 128 scap] (by rfl) (by rfl) (World.news_of_block (cs:=#[.int .i64 _,.slice _ _ _]) (t:=245) (fr:=(0,0)) (heap_alloc_new w2 _)) (by simp[Value.oneCell']) (by omega) (by have:=hmH.o;unfold maxLen;omega) (by have:=hmH.o;omega) (by simp;omega) (w2.heap.size+1) (by simp) ?_;intro g7 c7 w7 hown7 hgr7 hat7 hlt7
     obtain⟨hDd,t3,t4⟩:=hD2.push (q:=(at_,D)) (v:=.slice (some ⟨sg,0,none⟩) 128 scap) hown7 hgr7 ⟨sg,scap,rfl,s1,s2,s3⟩ hat (fun k e=>by cases e;exact hP _ (Nat.le_trans (hN1.o.next (New.refl _).drew).size s4)) (by rcases hat7 with h1|h1;exact hD2.ft.w _ h1;exact hP _ (by have:=hN1.o.size;have:=hN2.size;(try simp at h1);omega))
     have hjq:=(hB1H.o.new (hN2.alloc (.cells #[.int .i64 at_,.slice (some ⟨sg,0,none⟩) 128 scap] 245)));have hj7:=hjq.jb.grown hgr7 (a_O (hwo2.alloc _) hjq.jb (by decide))
     have hr7:=hjq.rb.grown hgr7 (a_O (hwo2.alloc _) hjq.rb (by decide))
     have hS7:w7.cell? ⟨w.heap.size,1,none⟩=some (.int .i64 at_)/\w7.cell? ⟨w.heap.size,3,none⟩=some (.slice (some ⟨jb,jo,none⟩) 128 c):=⟨by simpa using hj7.cell 1,by simpa using hj7.cell 3⟩
     have hj8:=hj7.far (p:=⟨d,1,none⟩) (fun e=>by have e:w.heap.size=d:=e;omega) (.slice (some ⟨g7,0,none⟩) (s.ws.length+1) c7)
     have hrb:=hr7.far (p:=⟨d,1,none⟩) (fun e=>by have e:w.heap.size+1=d:=e;omega) (.slice (some ⟨g7,0,none⟩) (s.ws.length+1) c7)
     have hS8:(w7.setCell ⟨d,1,none⟩ (.slice (some ⟨g7,0,none⟩) (s.ws.length+1) c7)).cell? ⟨w.heap.size,1,none⟩=some (.int .i64 at_)/\(w7.setCell ⟨d,1,none⟩ (.slice (some ⟨g7,0,none⟩) (s.ws.length+1) c7)).cell? ⟨w.heap.size,3,none⟩=some (.slice (some ⟨jb,jo,none⟩) 128 c):=⟨by simpa using hj8.cell 1,by simpa using hj8.cell 3⟩
     have hC2:Chg (KW d g wv) w (w7.setCell ⟨d,1,none⟩ (.slice (some ⟨g7,0,none⟩) (s.ws.length+1) c7)):=Chg.set (K:=KW d g wv) ((Chg.of_new (K:=KW d g wv) (hN1.o.next (hN2.alloc _))).grown hgr7 fun r e=>.inl (.inr (.inr e))) (.inl (.inl rfl)) _;have hDdH:=Hd hDd;have hrbH:=Hd hrb;have hC2H:=Hd hC2;clear hDd hrb hC2 hown7 hgr7 hat7 hj7 hr7 hj8 hjq))
 all_goals
  have hrb:=hrbH.o;have hDd:=hDdH.o;have hC2:=hC2H.o;obtain⟨p1,p2,p3,p4⟩:=c_3 0 (.slice none 0 0) hrb (Nat.le_succ _) hC2;have x0:=p2.cell 0;have x1:=p2.cell 1;simp at x0 x1;have p1H:=Hd p1;have p4H:=Hd (p4 hDd);have y0:=hrb.cell 0;have y1:=hrb.cell 1;have y2:=hrb.frozen 0;have y3:=hrb.frozen 1;simp at y0 y1;clear p1 p2 p3 p4 hDd hrb hkeep;go_wp2_with fail;refine bodyPost_ret (v:=.agg #[.int .i64 0,.slice none 0 0]) (by simp[results,results88,go_sem,x0,x1]) rfl ?_
  rw[hse.o];exact⟨_,g,_,_,_,rfl,rfl,p4H.o,p1H.o⟩
end drive
namespace vault
set_option maxRecDepth 100000
open Go.ChangeShapes Go.WideShapes Go.ChangeAt kit drive Go.Deep
def a_E(s:DS)(at_:Nat)(D:Nat->Nat):DS:=if s.dead=true then s else {s with ws:=s.ws++[(at_,D)]}
def a_o(s:DS):DS:=if s.dead=true then s else a_d (fun _=>true) s
def VS.at(s:VS)(d:Nat)(x:DS):VS:={s with ds:=fun i=>if i=d then x else s.ds i}
theorem g_i(a:Nat)(ws:List (Nat×(Nat->Nat)))(q:Nat×(Nat->Nat)):∀i,i<=ws.length->a_Q a (ws++[q]) i=a_Q a ws i
 |0,_=>rfl
 |i+1,h=>by
  unfold a_Q;rw[g_i a ws q i (by omega),d_g ws q i (by omega),if_neg (show ¬i=ws.length by omega)]
theorem f_Y(s:DS)(a:Nat)(D:Nat->Nat):(a_E s a D).dead=s.dead:=by unfold a_E;split<;>rfl
theorem e_s{s:DS}(a:Nat)(D:Nat->Nat)(j:Nat):rdS (a_E s a D) j=if s.dead=true then none else if a=j then some D else rdS s j:=by
 unfold rdS;rw[f_Y]
 by_cases hd:s.dead=true
 ·simp[hd]
 ·simp only[if_neg hd]
  have h1:a_Q j (s.ws++[(a,D)]) (s.ws++[(a,D)]).length=if a=j then some D else a_Q j s.ws s.ws.length:=by
   rw[List.length_append,List.length_singleton];show(if((s.ws++[(a,D)]).getD s.ws.length noP).1=j then some ((s.ws++[(a,D)]).getD s.ws.length noP).2 else a_Q j (s.ws++[(a,D)]) s.ws.length)=_;rw[d_g s.ws _ _ (Nat.lt_succ_self _),if_pos rfl,g_i j s.ws _ _ (Nat.le_refl _)]
  have h2:b_G (a_E s a D) j=if a=j then(0,some D)else b_G s j:=by
   unfold a_E b_G;rw[if_neg hd];show(match a_Q j (s.ws++[(a,D)]) (s.ws++[(a,D)]).length with|some d=>((0:Int),some d)|none=>b_3 s j)=_
   rw[h1]
   by_cases e:a=j
   ·rw[if_pos e,if_pos e]
   ·rw[if_neg e,if_neg e]
    cases a_Q j s.ws s.ws.length<;>rfl
  rw[h2]
  by_cases e:a=j
  ·rw[if_pos e,if_pos e]
  ·rw[if_neg e,if_neg e]
theorem f_Q(s:DS)(j:Nat):∀i,b_3 (M_ (fun _=>true) s i) j=match a_Q j s.ws i with|some d=>(0,some d)|none=>b_3 s j
 |0=>rfl
 |i+1=>by
  have e:M_ (fun _=>true) s (i+1)=n_r (M_ (fun _=>true) s i) (s.ws.getD i noP):=by rw[M_,if_pos rfl]
  have ih:=f_Q s j i;rw[e];unfold a_Q;generalize s.ws.getD i noP=q
  by_cases h:q.1=j
  ·subst h
   rw[if_pos rfl];unfold b_3 n_r;simp
  ·rw[if_neg h,<-ih]
   unfold b_3 n_r;simp[Ne.symm h]
theorem g_u(s:DS):(a_o s).dead=s.dead:=by
 unfold a_o a_d;split
 ·rfl
 ·exact b_d _ s _
theorem g_t(s:DS)(j:Nat):rdS (a_o s) j=rdS s j:=by
 unfold rdS;rw[g_u];split
 ·rfl
 ·rename_i hd
  unfold a_o;rw[if_neg hd];unfold b_G;have h:=f_Q s j s.ws.length;show(b_3 (M_ (fun _=>true) s s.ws.length) j).2=_;rw[h];cases a_Q j s.ws s.ws.length<;>rfl
theorem j_N(s:DS)(hd:s.dead=false):(a_o s).ws=[]:=by
 unfold a_o;rw[if_neg (by rw[hd];simp)]
 rfl
section
variable {A:VA}{o o':Nat->Nat}{s:VS}{w w':World}
theorem VM.step(h:VM A o s w){d:Nat}{x:DS}(ha:Alt (fun b=>o b=16+d) w w')(hs:s_ o o' w)(hd:DrP (fun b=>o' b=16+d) (A.dr d) x w'):VM A o' (s.at d x) w':=by
 have hv:=h.bk.lt;obtain⟨cs,hc,hc2⟩:=h.db;have n1:∀b,o b=1->¬o b=16+d:=fun b h1 hk=>by omega
 refine⟨ha.blk h.bk (n1 _ h.ov),⟨cs,ha.blk hc (n1 _ h.od),hc2⟩,ha.row_is h.eb (n1 _ h.oe),ha.row_is h.fb (n1 _ h.of),fun i hi=>?_,
  (hs _ hv).trans h.ov,(hs _ hc.lt).trans h.od,(hs _ h.eb.lt).trans h.oe,(hs _ h.fb.lt).trans h.of⟩
 show DrP _ _ (if i=d then x else s.ds i) _
 by_cases e:i=d
 ·subst e
  rw[if_pos rfl];exact hd
 ·rw[if_neg e]
  exact(h.dr i hi).keep ha (fun b hb hp hk=>by omega) fun b hb hp=>(hs b hb).trans hp
def i_Z(o:Nat->Nat)(w:World)(d:Nat):Nat->Nat:=fun b=>if b<w.heap.size then o b else 16+d
theorem a_e(o:Nat->Nat)(w:World)(d:Nat):s_ o (i_Z o w d) w:=fun b hb=>if_pos hb
theorem o_H(o:Nat->Nat)(w:World)(d:Nat)(b:Nat)(h:w.heap.size<=b):i_Z o w d b=16+d:=if_neg (by omega)
def b_V(A:VA)(o:Nat->Nat)(s:VS)(d:Nat)(x:DS)(w:World)(w':World):Prop:=∃o',s_ o o' w/\VM A o' (s.at d x) w'/\Alt (fun b=>o b=16+d) w w'
theorem VS.at_same(s:VS)(d:Nat):s.at d (s.ds d)=s:=by
 have:(fun i=>if i=d then s.ds d else s.ds i)=s.ds:=by
  funext i
  by_cases e:i=d
  ·rw[if_pos e,e]
  ·rw[if_neg e]
 show({s with ds:=fun i=>if i=d then s.ds d else s.ds i}:VS)=s;rw[this]
theorem b_V.new(h:VM A o s w){d:Nat}(hn:New w w'):b_V A o s d (s.ds d) w w':=⟨o,s_.refl o w,by rw[VS.at_same];exact h.new hn,Alt.of_new hn⟩
theorem b_V.of(h:VM A o s w){d g n:Nat}(hd:d<A.n){wv:Value}{st:DS×Int×Option (Nat->Nat)}{e:Ending}(hf:Ft (fun b=>o b=16+d) (A.dr d) g n 0 (fun _=>.slice none 0 0) wv (fun _=>.slice none 0 0))(hp:DoP (fun b=>i_Z o w d b=16+d) 0 (A.dr d) g 512 wv st w e w') :
  (∃v,e=.returned v)/\b_V A o s d st.1 w w':=by
 obtain⟨rv,g',pv',wv',dv',he,hdat,hD,hC⟩:=hp;have ha:Alt (fun b=>o b=16+d) w w':=(s_8 hC).weak fun k hk=>by
  rcases hk with rfl|rfl|hk
  ·exact hf.d
  ·exact hf.g
  ·exact hf.w k hk
 exact⟨⟨_,he⟩,i_Z o w d,a_e o w d,h.step ha (a_e o w d) ⟨g',pv',wv',dv',hD⟩,ha⟩
set_option maxHeartbeats 2000000 in
theorem t_u(h:VM A o s w)(d at_:Nat)(R:Option Addr)(c:Nat)(D:Nat->Nat)(hd:d<A.n)(hat:at_<512)(hm:(s.ds d).ws.length<300)(hJ:RdI .u8 w R 128 (fun i=>(D i:Nat)))(hc:128<=c)(hc2:c<=maxLen) :
  Calls prog 88 #[ptr (A.dr d),.agg #[.int .i64 1,.int .i64 at_,.int .i64 0,.slice R 128 c]] w fun e w'=>(∃v,e=.returned v)/\b_V A o s d (a_E (s.ds d) at_ D) w w':=by
 have hdr:=h.dr d hd;obtain⟨g,pv,wv,dv,hD⟩:=hdr.keep (P':=fun b=>i_Z o w d b=16+d) (K:=fun _=>False) (Alt.refl w) (fun _ _ _ f=>f) fun b hb hp=>(a_e o w d b hb).trans hp;have hft:Ft (fun b=>o b=16+d) (A.dr d) g 0 0 (fun _=>.slice none 0 0) wv (fun _=>.slice none 0 0):=⟨(hdr.of).1,(a_e o w d g hD.pt.lt).symm.trans hD.ft.g,fun k hk=>(a_e o w d k (hD.wo.lt k hk).2).symm.trans (hD.ft.w k hk),fun i hi=>absurd hi (Nat.not_lt_zero i),fun i hi=>absurd hi (Nat.not_lt_zero i)⟩
 by_cases hdd:(s.ds d).dead=true
 ·have hf:v_ 512 (s.ds d).dead 1 at_ 128=13:=by
   unfold v_;rw[if_neg (by omega),if_pos ⟨hdd,by decide⟩]
  have he:a_E (s.ds d) at_ D=s.ds d:=by unfold a_E;rw[if_pos hdd]
  rw[he];refine(e_j _ 0 (A.dr d) g 512 (s.ds d).ws.length (s.ds d) pv wv dv 1 at_ 0 R 128 c D w hD (Nat.le_refl _) rfl hm hJ hc hc2 (Nat.zero_le _) (by rw[hf];decide)).mono ?_
  rintro e w' ⟨rv,rfl,_,hn⟩;exact⟨⟨_,rfl⟩,b_V.new h hn⟩
 ·have hf:v_ 512 (s.ds d).dead 1 at_ 128=0:=by
   unfold v_ Q_;rw[if_neg (by omega),if_neg (fun e=>hdd e.1),if_neg (by omega),if_neg (by omega)]
  refine(t_I _ 0 (A.dr d) g 512 (s.ds d).ws.length (s.ds d) pv wv dv at_ 0 R 128 c D w hD (Nat.le_refl _) rfl hm hJ hc hc2 (Nat.zero_le _) (fun b hb=>o_H o w d b hb) hat hf).mono ?_;intro e w' hp;have hst:(a_5 512 (s.ds d) 1 at_ 0 128 D).1=a_E (s.ds d) at_ D:=by
   unfold a_5 a_E;rw[if_neg (by rw[hf];simp),if_pos rfl,if_neg hdd]
   rfl
  rw[<-hst];exact b_V.of h hd hft hp
set_option maxHeartbeats 2000000 in
theorem q_e(h:VM A o s w)(d:Nat)(hd:d<A.n)(hm:(s.ds d).ws.length<300) :
  Calls prog 88 #[ptr (A.dr d),.agg #[.int .i64 3,.int .i64 0,.int .i64 0,.slice none 0 0]] w fun e w'=>(∃v,e=.returned v)/\b_V A o s d (a_o (s.ds d)) w w':=by
 have hdr:=h.dr d hd;obtain⟨g,pv,wv,dv,hD⟩:=hdr.keep (P':=fun b=>i_Z o w d b=16+d) (K:=fun _=>False) (Alt.refl w) (fun _ _ _ f=>f) fun b hb hp=>(a_e o w d b hb).trans hp;have hft:Ft (fun b=>o b=16+d) (A.dr d) g 0 0 (fun _=>.slice none 0 0) wv (fun _=>.slice none 0 0):=⟨(hdr.of).1,(a_e o w d g hD.pt.lt).symm.trans hD.ft.g,fun k hk=>(a_e o w d k (hD.wo.lt k hk).2).symm.trans (hD.ft.w k hk),fun i hi=>absurd hi (Nat.not_lt_zero i),fun i hi=>absurd hi (Nat.not_lt_zero i)⟩
 by_cases hdd:(s.ds d).dead=true
 ·have hf:v_ 512 (s.ds d).dead 3 0 0=13:=by
   unfold v_;rw[if_neg (by omega),if_pos ⟨hdd,by decide⟩]
  have he:a_o (s.ds d)=s.ds d:=by unfold a_o;rw[if_pos hdd]
  rw[he];refine(e_j _ 0 (A.dr d) g 512 (s.ds d).ws.length (s.ds d) pv wv dv 3 0 0 none 0 0 (fun _=>0) w hD (Nat.le_refl _) rfl hm (d_z w _) (Nat.le_refl _) (by unfold maxLen;omega) (Nat.zero_le _) (by rw[hf];decide)).mono ?_
  rintro e w' ⟨rv,rfl,_,hn⟩;exact⟨⟨_,rfl⟩,b_V.new h hn⟩
 ·have hf:v_ 512 (s.ds d).dead 3 0 0=0:=by
   unfold v_ Q_;rw[if_neg (by omega),if_neg (fun e=>hdd e.1),if_neg (by omega),if_neg (by omega)]
  refine(q_S _ 0 (A.dr d) g 512 (s.ds d).ws.length (s.ds d) pv wv dv 0 0 none 0 0 (fun _=>0) w hD (Nat.le_refl _) rfl hm (d_z w _) (Nat.le_refl _) (by unfold maxLen;omega) (Nat.zero_le _) hf).mono ?_
  intro e w' hp;have hst:(a_5 512 (s.ds d) 3 0 0 0 (fun _=>0)).1=a_o (s.ds d):=by
   unfold a_5 a_o;rw[if_neg (by rw[hf];simp),if_neg (by decide),if_neg (by decide),if_pos rfl,if_neg hdd]
  rw[<-hst];exact b_V.of h hd hft hp
theorem m_5(h:VM A o s w)(hA:VOk A)(d at_:Nat)(R:Option Addr)(c:Nat)(D:Nat->Nat)(hd:d<A.n)(hat:at_<512)(hm:(s.ds d).ws.length<300)(hJ:RdI .u8 w R 128 (fun i=>(D i:Nat)))(hc:128<=c)(hc2:c<=maxLen)(hp:s.puts<0) :
  Calls prog 90 #[ptr A.v,.int .i64 d,.int .i64 at_,.slice R 128 c] w fun e w'=>e=.returned (.tuple #[])/\b_V A o s d (a_E (s.ds d) at_ D) w w':=by
 have hdo:=Hd (t_u h d at_ R c D hd hat hm hJ hc hc2);have v2:=h.v2;have v6:=h.v6;have vd:=h.drive hd;have hn8:=hA.n8;have hd0:(0:Int)<=(d:Int):=by omega
 have hdn:(d:Int)<(A.n:Int):=by omega
 obtain⟨N,hN⟩:∃N,Hid (N=A.n):=⟨_,rfl⟩;obtain⟨pt,hpt⟩:∃pt,Hid (pt=s.puts):=⟨_,rfl⟩;obtain⟨dr,hdr⟩:∃dr,Hid (dr=A.dr d):=⟨_,rfl⟩;rw[<-hN.o]at hdn v2 hn8;rw[<-hpt.o]at v6 hp;rw[<-hdr.o]at hdo vd;have hp0:(pt==0)=false:=by simp;omega
 have hp1:¬0<pt:=by omega
 clear h hd;go_enter func90,ntmps90;go_wp2_with fail;refine hdo.o.mono ?_;rintro e w' ⟨⟨v,rfl⟩,hfin⟩;have hfinH:=Hd hfin;clear hfin;go_wp2;exact Great.bodyPost_end0 rfl rfl ⟨rfl,hfinH.o⟩
end
def P_(A:VA)(o:Nat->Nat)(s':VS)(w w':World):Prop:=∃o',s_ o o' w/\VM A o' s' w'/\Alt (fun b=>16<=o b) w w'
section
variable {A:VA}{o o':Nat->Nat}{s s':VS}{w w' w'':World}
theorem P_.start(h:VM A o s w):P_ A o s w w:=⟨o,s_.refl o w,h,Alt.refl w⟩
theorem P_.new(h:P_ A o s w w')(hn:New w' w''):P_ A o s w w'':=by
 obtain⟨o',h1,h2,h3⟩:=h;exact⟨o',h1,h2.new hn,h3.next hn⟩
theorem P_.trans(hs:s_ o o' w)(ha:Alt (fun b=>16<=o b) w w')(h:P_ A o' s' w' w''):P_ A o s' w w'':=by
 obtain⟨o2,h1,h2,h3⟩:=h;exact⟨o2,hs.trans h1 ha.size,h2,ha.trans' h3 fun b hb=>(Nat.lt_or_ge b w.heap.size).imp (fun hl=>by rw[hs b hl]at hb;exact hb) id⟩
theorem b_V.drs{d:Nat}{x:DS}(h:b_V A o s d x w w'):P_ A o (s.at d x) w w':=by
 obtain⟨o',h1,h2,h3⟩:=h;exact⟨o',h1,h2,h3.weak fun b hb=>by omega⟩
def R_(s:VS)(i:Nat):VS:={s with ds:=fun k=>if k<i then a_o (s.ds k)else s.ds k}
theorem i_z(s:VS):R_ s 0=s:=by
 unfold R_;simp
theorem g_x(s:VS)(i:Nat):(R_ s i).ds i=s.ds i:=if_neg (Nat.lt_irrefl i)
theorem i_A(s:VS)(i:Nat):(R_ s i).at i (a_o (s.ds i))=R_ s (i+1):=by
 unfold R_ VS.at;congr 1;funext k
 by_cases e:k=i
 ·subst e
  simp
 ·simp only[if_neg e]
  by_cases h:k<i
  ·rw[if_pos h,if_pos (by omega)]
  ·rw[if_neg h,if_neg (by omega)]
theorem e_G(hA:VOk A)(h:VM A o s w)(hm:∀i,i<A.n->(s.ds i).ws.length<300) :
  Calls prog 42 #[ptr A.v] w fun e w'=>e=.returned (.tuple #[])/\P_ A o (R_ s A.n) w w':=by
 have hn8:=hA.n8;have v2:=h.v2;obtain⟨N,hN⟩:∃N,Hid (N=A.n):=⟨_,rfl⟩;rw[<-hN.o]at v2 hn8 hm ⊢;have hst:Hid (P_ A o (R_ s 0) w w):=by rw[i_z];exact P_.start h
 have hmH:=Hd hm;clear h hm;go_enter func42,ntmps42;go_wp2_with fail;go_loopw [9] (fun x wr=>∃i:Nat,x=.int .i64 i/\i<=N/\Hid (P_ A o (R_ s i) w wr)) (fun x _=>N-(intOf x).toNat);case atStart=>exact⟨0,rfl,by omega,hst⟩
 case round=>
  obtain⟨i,rfl,hi,hD⟩:=hrel;clear hst
  by_cases hlt:i<N
  ·have hiI:(i:Int)<(N:Int):=by omega
   have hi0:(0:Int)<=(i:Int):=by omega
   obtain⟨o1,s1,hV,a1⟩:=hD.o;have hiA:i<A.n:=by rw[<-hN.o];exact hlt
   have vd:=hV.drive hiA;have hdo:=Hd (q_e hV i hiA (by rw[g_x];exact hmH.o i hlt))
   rw[g_x]at hdo;have hsH:=Hd s1;have haH:=Hd a1;clear s1 hV a1 hD v2;obtain⟨dr,hdr⟩:∃dr,Hid (dr=A.dr i):=⟨_,rfl⟩;rw[<-hdr.o]at vd hdo;go_wp2_with fail;refine hdo.o.mono ?_;rintro e w2 ⟨⟨v,rfl⟩,hp⟩;have hfin:=Hd (P_.trans hsH.o haH.o hp.drs);rw[i_A]at hfin;clear hp;go_wp2;go_roundw;case rel=>exact⟨i+1,by go_num,by omega,hfin⟩
   case measure=>simp[intOf];omega
  ·obtain rfl:i=N:=by omega
   have hiI:¬(i:Int)<(i:Int):=by omega
   go_wp2;exact Great.bodyPost_end0 rfl rfl ⟨rfl,hD.o⟩
end
end vault
namespace vault
open geom stripe
def b_X(A:VA)(ct:Nat):Nat:=(ct/wdA A)*A.n+a_P A.p ct (wdA A)
section
variable {A:VA}(hA:VOk A)
include hA
theorem b_P:1<=wdA A/\A.n=A.p+wdA A:=by
 have:=hA.pn;unfold wdA;omega
theorem c_P{ct:Nat}(h1:1<=ct):1<=L_ A ct/\L_ A ct<=A.n/\L_ A ct=A.p+dcN ct (wdA A):=by
 obtain⟨hw,hn⟩:=b_P hA;have e:=f_t (pa:=A.p) hw h1;have d1:=e_M hw h1;have d2:=h_M hw h1;rw[<-hn]at e;unfold L_;omega
theorem f_D{ct c:Nat}(h1:1<=ct)(h2:ct<=32)(hc:c<L_ A ct):1<=a_a A ct c/\a_a A ct c<=32:=by
 obtain⟨hw,hn⟩:=b_P hA;have hp:=hA.p1;have hle:=d_5 (pa:=A.p) hw h1 hp c;have hm:=e_g (pa:=A.p) hw h1 h2 hp;refine⟨?_,by unfold a_a;omega⟩
 obtain⟨_,_,he⟩:=c_P hA h1
 by_cases hcp:c<A.p
 ·have:=e_f (pa:=A.p) hw h1 hp
  rw[a_a,d_K hw h1 hp c hcp];exact this
 ·have:=f_C (pa:=A.p) hw h1 (c-A.p) (by omega)
  rwa [show A.p+(c-A.p)=c by omega]at this
theorem q_s{ct c k:Nat}(h1:1<=ct)(hc:c<L_ A ct)(hk:k<a_a A ct c):c+k*A.n<b_X A ct:=by
 obtain⟨_,hn,_⟩:=c_P hA h1;unfold a_a G_ at hk;unfold b_X;have hn1:L_ A ct=if ct/wdA A=0 then a_P A.p ct (wdA A)else A.n:=rfl
 by_cases hl:c<a_P A.p ct (wdA A)
 ·rw[if_pos hl]at hk
  have:k*A.n<=(ct/wdA A)*A.n:=Nat.mul_le_mul_right _ (by omega)
  omega
 ·rw[if_neg hl]at hk
  have:(k+1)*A.n<=(ct/wdA A)*A.n:=Nat.mul_le_mul_right _ (by omega)
  rw[Nat.succ_mul]at this;omega
theorem s_L{ct:Nat}(h1:1<=ct):b_X A ct<=ct+A.p*ct:=by
 obtain⟨hw,hn⟩:=b_P hA;unfold b_X a_P;have e:=Nat.div_add_mod ct (wdA A);have hq:ct/wdA A<=wdA A*(ct/wdA A):=Nat.le_mul_of_pos_left _ hw;have e2:(ct/wdA A)*A.n=A.p*(ct/wdA A)+wdA A*(ct/wdA A):=by
  generalize hqq:ct/wdA A=q;rw[hn,Nat.mul_add,Nat.mul_comm q A.p,Nat.mul_comm q (wdA A)]
 split
 ·have:A.p*(ct/wdA A+1)<=A.p*ct:=Nat.mul_le_mul_left _ (by omega)
  rw[Nat.mul_add,Nat.mul_one]at this;omega
 ·have:A.p*(ct/wdA A)<=A.p*ct:=Nat.mul_le_mul_left _ (by omega)
  omega
theorem g_F{ct c ad:Nat}(h1:1<=ct)(h2:ct<=32)(hc:c<L_ A ct)(hq:ad+b_X A ct<=512*A.n):(ad+c)/A.n+a_a A ct c<=512/\(ad+c)%A.n<A.n:=by
 have hn:0<A.n:=by have:=hA.n2;omega
 obtain⟨k1,_⟩:=f_D hA h1 h2 hc;have h3:=q_s hA (k:=a_a A ct c-1) h1 hc (by omega)
 have h5:(ad+c+(a_a A ct c-1)*A.n)/A.n<512:=(Nat.div_lt_iff_lt_mul hn).2 (by omega)
 rw[Nat.add_mul_div_right _ _ hn]at h5;exact⟨by omega,Nat.mod_lt _ hn⟩
end
end vault
end Go.Proofs.YtojcoaekhiadcaaGreat
