import Derived.Test.YtojcoaekhiadcaaGreatA01
import Derived.Test.YtojcoaekhiadcaaGreatA27
import Derived.Test.YtojcoaekhiadcaaGreatProg
import Derived.Test.YtojcoaekhiadcaaGreatA02
import Derived.BigRegion
import Derived.Great.Walk
set_option linter.unusedSectionVars false
set_option linter.unusedVariables false
set_option linter.unusedSimpArgs false
namespace Go.Proofs.YtojcoaekhiadcaaGreat
open Tryz Go.RowKit
namespace vault
set_option maxRecDepth 100000
open Go.ChangeMaps (setBlock)
open Go.ChangeShapes Go.WideShapes Go.ChangeAt kit pool drive spans Go.Deep Go.Maps
section
variable {P:Program}{w:World}{t kt e te:TypeId}{j:TypeInfo}
theorem PM.putX{m:Nat}{l:PL}(h:PM w m l)(ht:P.underlying t=some (.map kt e))(hp:P.underlying kt=some (.pointer te))(hte:P.info? te=some j)(hsz:j.size≠0){b:Nat}{tb:TypeId}{cb:Array Value}(hb:Blk w b tb cb)(hk:b_O w l)(v:Value):(Instr.mapUpdate t (.map (some m)) (ptr b) v).run P w=.ok () (setBlock w m (.map (esL 0 (b_2 l b v)).toArray (b_2 l b v).length)):=by
 have hf:=d_0 hp hte hsz hb l hk;have hlt:=h.lt;unfold PM at h;have hg:(getObj m).run P w=.ok (.map (esL 0 l).toArray l.length) w:=by simp[getObj,Sem.run,h]
 have hc:∀em:Bool,(Instr.checkKey em 10000 kt (ptr b)).run P w=.ok () w:=fun em=>e_O hp em 9999 b;have hs:(Instr.keyThatStays (ptr b) (ptr b)).run P w=.ok (ptr b) w:=by simp[Instr.keyThatStays,Instr.sameBits]
 have hset:∀o,(setObj m o).run P w=.ok () (setBlock w m o):=fun o=>by simp[setObj,Sem.run,h,setBlock]
 cases hq:a_W l b 0 with
 |none=>
  have hn:a_n l b=none:=by unfold a_n;rw[hq];rfl
  rw[c_6 v hn,i_D];rw[hq]at hf;simp[Instr.mapUpdate,run_underlying ht,hg,hc,hf,hset,esL]
 |some r=>
  obtain⟨i,u⟩:=r;obtain⟨_,h2,h3⟩:=i_C v hq;rw[Nat.sub_zero]at h2 h3;have hlen:(b_2 l b v).length=l.length:=by
   have:=congrArg List.length (c_7 (w:=u) v (by unfold a_n;rw[hq];rfl:a_n l b=some u))
   simpa using this
  rw[hq]at hf;rw[hlen,<-h2];cases h4:(esL 0 l)[i]? with
  |none=>rw[h4]at h3;cases h3
  |some en=>
   rw[h4]at h3;injection h3 with h3;simp[Instr.mapUpdate,run_underlying ht,hg,hc,hf,hset,h4,h3,hs]
theorem a_i(w:World)(m:Nat)(ob:Obj):Alt (fun k=>k=m) w (setBlock w m ob):=⟨rfl,rfl,rfl,by simp[setBlock],fun k hk hne=>by simp[setBlock,Ne.symm hne]⟩
theorem e_Y{w:World}{m:Nat}{l:PL}(hm:m<w.heap.size):PM (setBlock w m (.map (esL 0 l).toArray l.length)) m l:=by simp[PM,setBlock,hm]
end
def plQ(MD:List Nat)(qs:List Ptr):PL:=List.zipWith (fun b q=>(b,Value.agg (x_ q))) MD qs
theorem o_q{α β γ:Type}(f:α->β->γ)(q:β):∀{l:List α} {qs:List β} {b:α},l[qs.length]?=some b->List.zipWith f l (qs++[q])=List.zipWith f l qs++[f b q]
 |[],qs,b,h=>by cases h
 |a::l,[],b,h=>by cases h;simp
 |a::l,p::qs,b,h=>by
  show f a p::List.zipWith f l (qs++[q])=f a p::(List.zipWith f l qs++[f b q]);rw[o_q f q (by simpa using h)]
theorem g_1{MD:List Nat}{qs:List Ptr}{b:Nat}(h:b∈(plQ MD qs).map (·.1)):b∈MD.take qs.length:=by
 unfold plQ at h;rw[List.map_zipWith]at h;obtain⟨i,hi,e⟩:=List.mem_iff_getElem.1 h;simp only[List.length_zipWith]at hi;rw[List.getElem_zipWith]at e;rw[List.mem_take_iff_getElem];exact⟨i,by omega,e⟩
theorem r_d{MD:List Nat}(hM:MD.Nodup){qs:List Ptr}{b:Nat}(hb:MD[qs.length]?=some b)(q:Ptr):b_2 (plQ MD qs) b (.agg (x_ q))=plQ MD (qs++[q]):=by
 rw[c_6]
 ·exact(o_q (fun b q=>(b,Value.agg (x_ q))) q hb).symm
 ·rw[c_8]
  intro h;have h1:=g_1 h;rw[List.mem_take_iff_getElem]at h1;obtain⟨i,hi,e⟩:=h1;obtain⟨hl,e2⟩:=List.getElem?_eq_some_iff.1 hb;have:=c_U hM (by omega) hl (e.trans e2.symm)
  omega
theorem r_e{MD:List Nat}(hM:MD.Nodup):∀{qs:List Ptr} {i b:Nat} {q:Ptr},MD[i]?=some b->qs[i]?=some q->a_n (plQ MD qs) b=some (.agg (x_ q)):=by
 induction MD with
 |nil=>intro qs i b q h;cases h
 |cons a l ih=>
  intro qs i b q h h2;cases qs with
  |nil=>cases h2
  |cons p qs=>
   show a_n ((a,Value.agg (x_ p))::plQ l qs) b=_;rw[a_m];have h3:=List.nodup_cons.1 hM;cases i with
   |zero=>
    cases h;cases h2;rw[if_pos rfl]
   |succ i=>
    have h4:l[i]?=some b:=by simpa using h
    rw[if_neg (fun e=>h3.1 (by have:a=b:=e;rw[this];exact List.mem_of_getElem? h4))]
    exact ih h3.2 h4 (by simpa using h2)
structure PgS(A:VA)(bad:List Nat)(o:Nat->Nat)(s1:VS)(W1 W6:World)(fb pm:Nat)(LL:List Bk)(Xs:List (Nat->Nat))(MD:List Nat)(olds:List Ptr)(vM:Value)(N:List Bk)(qs:List Ptr)(o':Nat->Nat)(s':VS)(x:Value)(w:World):Prop where
 pa:PaC A s1 bad LL fb Xs N qs o' s' w
 mp:PM w pm (plQ MD qs)
 pt:o' pm=0
 mi:w.ownsRow W1.heap.size 107 8 x (olds++qs).length (q_ (olds++qs))
 mt:∀j,x.ownBlock=some j->o' j=0
 md:w.ownsRow W6.heap.size 112 1 vM MD.length (a_2 MD)
 dt:∀j,vM.ownBlock=some j->o' j=0
 sm:s_ o o' W1
 bd:∀q,q∈qs->∀y∈a_J q,BdI y
 al:Alt (fun b=>16<=o b) W1 w
 fl:W1.heap.size<=fb/\W1.heap.size<=pm
theorem PgS.store{A:VA}{bad:List Nat}{o:Nat->Nat}{s1:VS}{W1 W6:World}{fb pm:Nat}{LL:List Bk}{Xs:List (Nat->Nat)}{MD:List Nat}{olds:List Ptr}{vM:Value}{N:List Bk}{qs:List Ptr}{o':Nat->Nat}{s':VS}{x:Value}{w w2:World}(hA:VOk A)(h:PgS A bad o s1 W1 W6 fb pm LL Xs MD olds vM N qs o' s' x w)(h16:W1.heap.size<=W6.heap.size)(hpf:pm≠fb)(hbad:∀d,d<A.n->((s1.ds d).dead=true\/s1.fresh d=true)->d∈bad)(hL:∀b,b∈LL->0<b.2)(ht:BdI s1.time){X:Nat->Nat}(hX:∀k,X k<256)(hXs:Xs[qs.length]?=some X){y:Nat}(hy:y<=370){e:Ending}(hs:e_S A o' s' fb (LL++N) X 256 y w e w2) :
  ∃q u o2 s2,e=.returned (.tuple #[.agg (x_ q),.int .i64 0])/\PaC A s1 bad LL fb Xs (N++[u]) (qs++[q]) o2 s2 w2/\PM w2 pm (plQ MD qs)/\o2 pm=0/\w2.ownsRow W1.heap.size 107 8 x (olds++qs).length (q_ (olds++qs))/\(∀j,x.ownBlock=some j->o2 j=0)/\w2.ownsRow W6.heap.size 112 1 vM MD.length (a_2 MD)/\(∀j,vM.ownBlock=some j->o2 j=0)/\s_ o o2 W1/\Alt (fun b=>16<=o b) W1 w2/\(∀y∈a_J q,BdI y):=by
 obtain⟨q,u,o2,s2,rfl,h1,h2,h3,h4⟩:=h.pa.store hA hbad hL ht hX hXs hy hs;obtain⟨R,⟨f1,v,f2,f3,f4⟩,_⟩:=h.pa.fm;refine⟨q,u,o2,s2,rfl,h1,h.mp.alt h3 fun hk=>?_,(h2 pm h.mp.lt).trans h.pt,h3.own h.mi fun k hk hk'=>?_,fun j hj=>(h2 j (h.mi.lt j hj).2).trans (h.mt j hj),h3.own h.md fun k hk hk'=>?_,fun j hj=>(h2 j (h.md.lt j hj).2).trans (h.dt j hj),h.sm.trans h2 h.al.size,h.al.trans' h3 fun b hb=>?_,h4⟩
 ·have:=h.pt
  omega
 ·rcases hk' with hk'|hk'
  ·have:=h.mt k hk;omega
  ·rw[hk']at hk
   exact b_ h.mi f2 (by decide) hk
 ·rcases hk' with hk'|hk'
  ·have:=h.dt k hk;omega
  ·rw[hk']at hk
   exact b_ h.md f2 (by decide) hk
 ·rcases hb with hb|hb
  ·rcases Nat.lt_or_ge b W1.heap.size with hl|hl
   ·exact .inl (by rw[h.sm b hl]at hb;exact hb)
   ·exact .inr hl
  ·exact .inr (by rw[hb];exact h.fl.1)
theorem PgS.next{A:VA}{bad:List Nat}{o:Nat->Nat}{s1:VS}{W1 W6:World}{fb pm:Nat}{LL:List Bk}{Xs:List (Nat->Nat)}{MD:List Nat}{olds:List Ptr}{vM:Value}{N':List Bk}{qs:List Ptr}{q:Ptr}{o2:Nat->Nat}{s2:VS}{x x':Value}{w2 wf:World}(hpa:PaC A s1 bad LL fb Xs N' (qs++[q]) o2 s2 w2)(hpm:PM w2 pm (plQ MD qs))(hpt:o2 pm=0)(hpf:pm≠fb)(hmi:w2.ownsRow W1.heap.size 107 8 x (olds++qs).length (q_ (olds++qs)))(hmt:∀j,x.ownBlock=some j->o2 j=0)(hmd:w2.ownsRow W6.heap.size 112 1 vM MD.length (a_2 MD))(hdt:∀j,vM.ownBlock=some j->o2 j=0)(hsm:s_ o o2 W1)(hal:Alt (fun b=>16<=o b) W1 w2)(hbd:∀q,q∈qs->∀y∈a_J q,BdI y)(hbq:∀y∈a_J q,BdI y)(hfl:W1.heap.size<=fb/\W1.heap.size<=pm)
  (ha:Alt (fun k=>k=pm\/x.ownBlock=some k) w2 wf) (hpm':PM wf pm (plQ MD (qs++[q]))) (hmi':wf.ownsRow W1.heap.size 107 8 x' ((olds++qs).length+1) (q_ (olds++qs)++(x_ q).toList)) (hmt':∀j,x'.ownBlock=some j->o2 j=0):PgS A bad o s1 W1 W6 fb pm LL Xs MD olds vM N' (qs++[q]) o2 s2 x' wf:=by
 obtain⟨R,⟨f1,v,f2,f3,f4⟩,_⟩:=hpa.fm;refine⟨hpa.loc ha fun b hb hk=>?_,hpm',hpt,?_,hmt',ha.own hmd fun k hk e=>?_,hdt,hsm,fun q' hq'=>?_,hal.trans' ha fun b hb=>.inr ?_,hfl⟩
 ·rcases hk with e|e
  ·rw[e]
   exact⟨hpt,hpf,fun cs hcs=>hpm.ne_blk hcs rfl⟩
  ·exact⟨hmt b e,(fun e2=>by rw[e2]at e;exact b_ hmi f2 (by decide) e),fun cs hcs=>b_ hmi hcs (by decide) e⟩
 ·have e:q_ [q]=(x_ q).toList:=by simp[q_]
  rw[<-List.append_assoc,List.length_append,c_5,e];exact hmi'
 ·rcases e with e|e
  ·rw[e]at hk
   exact hpm.ne_own hmd hk
  ·exact comb.b_Q hmd hmi (by decide) (fun h0=>by rw[h0]at hk;cases hk) (by rw[hk,e])
 ·rcases List.mem_append.1 hq' with h|h
  ·exact hbd q' h
  ·rw[List.mem_singleton.1 h];exact hbq
 ·rcases hb with e|e
  ·rw[e];exact hfl.2
  ·exact(hmi.lt b e).1
open Go.ChangeMaps (setBlock)
def mOb(l:PL):Obj:=.map (esL 0 l).toArray l.length
structure PgM(A:VA)(bad:List Nat)(o:Nat->Nat)(s1:VS)(W1 W6:World)(fb pm:Nat)(LL:List Bk)(Xs:List (Nat->Nat))(MD:List Nat)(olds:List Ptr)(vM:Value)(N:List Bk)(qs:List Ptr)(q:Ptr)(o':Nat->Nat)(s':VS)(x:Value)(w:World):Prop where
 pa:PaC A s1 bad LL fb Xs N (qs++[q]) o' s' w
 mp:PM w pm (plQ MD qs)
 pt:o' pm=0
 pf:pm≠fb
 mi:w.ownsRow W1.heap.size 107 8 x (olds++qs).length (q_ (olds++qs))
 mt:∀j,x.ownBlock=some j->o' j=0
 md:w.ownsRow W6.heap.size 112 1 vM MD.length (a_2 MD)
 dt:∀j,vM.ownBlock=some j->o' j=0
 sm:s_ o o' W1
 al:Alt (fun b=>16<=o b) W1 w
 bd:∀q,q∈qs->∀y∈a_J q,BdI y
 bq:∀y∈a_J q,BdI y
 fl:W1.heap.size<=fb/\W1.heap.size<=pm
section
variable {A:VA}{bad:List Nat}{o:Nat->Nat}{s1:VS}{W1 W6:World}{fb pm:Nat}{LL:List Bk}{Xs:List (Nat->Nat)}{MD:List Nat}{olds:List Ptr}{vM:Value}{N:List Bk}{qs:List Ptr}{q:Ptr}{o':Nat->Nat}{s':VS}{x:Value}{w:World}
theorem PgS.mid{w2:World}(hA:VOk A)(h:PgS A bad o s1 W1 W6 fb pm LL Xs MD olds vM N qs o' s' x w)(h16:W1.heap.size<=W6.heap.size)(hpf:pm≠fb)(hbad:∀d,d<A.n->((s1.ds d).dead=true\/s1.fresh d=true)->d∈bad)(hL:∀b,b∈LL->0<b.2)(ht:BdI s1.time){X:Nat->Nat}(hX:∀k,X k<256)(hXs:Xs[qs.length]?=some X){y:Nat}(hy:y<=370){e:Ending}(hs:e_S A o' s' fb (LL++N) X 256 y w e w2) :
  ∃q u o2 s2,e=.returned (.tuple #[.agg (x_ q),.int .i64 0])/\PgM A bad o s1 W1 W6 fb pm LL Xs MD olds vM (N++[u]) qs q o2 s2 x w2:=by
 obtain⟨q,u,o2,s2,h0,h1,h2,h3,h4,h5,h6,h7,h8,h9,h10⟩:=h.store hA h16 hpf hbad hL ht hX hXs hy hs;exact⟨q,u,o2,s2,h0,h1,h2,h3,hpf,h4,h5,h6,h7,h8,h9,h.bd,h10,h.fl⟩
variable (h:PgM A bad o s1 W1 W6 fb pm LL Xs MD olds vM N qs q o' s' x w)
include h
theorem PgM.own{w3 w5:World}(hn:New w w3){ob:Obj}(hn2:New (setBlock w3 pm ob) w5):w5.ownsRow W1.heap.size 107 8 x (olds++qs).length (q_ (olds++qs)):=by
 have h1:=c_ h.mi hn;have hp:=h.mp.alt (K:=fun _=>False) (Alt.of_new hn) fun f=>f;exact c_ ((a_i w3 pm ob).own h1 fun k hk e=>hp.ne_own h1 (by rw[hk,e])) hn2
theorem PgM.upd{b:Nat}(hM:MD.Nodup)(hb:MD[qs.length]?=some b)(hbl:∀b,b∈MD->o b=2/\∃cs,Blk W1 b 115 cs){w3:World}(ha:Alt (fun k=>x.ownBlock=some k) w w3):(Instr.mapUpdate 116 (.map (some pm)) (ptr b) (.agg (x_ q))).run prog w3=.ok () (setBlock w3 pm (mOb (plQ MD (qs++[q])))):=by
 obtain⟨i1,hi1,hz0,hz1,hz2⟩:=info_parts f_y;have h3:Alt (fun b=>16<=o b) W1 w3:=h.al.trans' ha fun i hi=>.inr (h.mi.lt i hi).1;have hp:PM w3 pm (plQ MD qs):=h.mp.alt ha fun e=>h.mp.ne_own h.mi e;have hB:∀b,b∈MD->∃cs,Blk w3 b 115 cs:=fun b hb=>by
  obtain⟨h1,cs,h2⟩:=hbl b hb;exact⟨cs,h3.blk h2 (by omega)⟩
 obtain⟨cs,hcs⟩:=hB b (List.mem_of_getElem? hb);have h4:=hp.putX (P:=prog) underlying116 underlying112 hi1 (by rw[hz1];decide) hcs (fun p hp=>by
  have h5:p.1∈(plQ MD qs).map (·.1):=List.mem_map.2 ⟨p,hp,rfl⟩;obtain⟨cs,h6⟩:=hB p.1 (List.mem_of_mem_take (g_1 h5));exact⟨_,cs,h6⟩) (.agg (x_ q))
 rw[r_d hM hb]at h4;exact h4
theorem PgM.finA{w3 w5 wf:World}{g9 c9:Nat}(hn:New w w3)(hn2:New (setBlock w3 pm (mOb (plQ MD (qs++[q])))) w5)(ho:wf.ownsRow W1.heap.size 107 8 (.slice (some ⟨g9,0,none⟩) ((olds++qs).length+1) c9) ((olds++qs).length+1) (q_ (olds++qs)++(x_ q).toList))(hg:w5.grownBy wf x.ownBlock)(h9:x.ownBlock=some g9\/w.heap.size<=g9):PgS A bad o s1 W1 W6 fb pm LL Xs MD olds vM N (qs++[q]) o' s' (.slice (some ⟨g9,0,none⟩) ((olds++qs).length+1) c9) wf:=by
 have h1:Alt (fun k=>k=pm) w (setBlock w3 pm (mOb (plQ MD (qs++[q])))):=(Alt.of_new hn).trans (a_i w3 pm _);have h2:=h1.trans (Alt.of_new hn2);have hlt:pm<w3.heap.size:=Nat.lt_of_lt_of_le h.mp.lt hn.size;have hp:PM w5 pm (plQ MD (qs++[q])):=(e_Y (w:=w3) hlt).alt (K:=fun _=>False) (Alt.of_new hn2) fun f=>f;have ho5:=h.own hn hn2;have h3:Alt (fun k=>k=pm\/x.ownBlock=some k) w wf:=Alt.grown (h2.weak fun k e=>.inl e) hg fun r e=>.inl (.inr e);refine PgS.next h.pa h.mp h.pt h.pf h.mi h.mt h.md h.dt h.sm h.al h.bd h.bq h.fl h3 (hp.alt (K:=fun k=>x.ownBlock=some k) (Alt.grown (Alt.refl _) hg fun r e=>.inl e) fun e=>hp.ne_own ho5 e) ho fun j hj=>?_;have hj:g9=j:=by simpa [Value.ownBlock]using hj
 subst hj;rcases h9 with e|e
 ·exact h.mt g9 e
 ·exact h.pa.fu g9 e
theorem PgM.finC{w3 w4:World}{g9 c9:Nat}(hn:New w w3)(ho:w4.ownsRow W1.heap.size 107 8 (.slice (some ⟨g9,0,none⟩) ((olds++qs).length+1) c9) ((olds++qs).length+1) (q_ (olds++qs)++(x_ q).toList))(hg:w3.grownBy w4 x.ownBlock)(h9:x.ownBlock=some g9\/w.heap.size<=g9):PgS A bad o s1 W1 W6 fb pm LL Xs MD olds vM N (qs++[q]) o' s' (.slice (some ⟨g9,0,none⟩) ((olds++qs).length+1) c9) (setBlock w4 pm (mOb (plQ MD (qs++[q])))):=by
 have h1:Alt (fun k=>x.ownBlock=some k) w w4:=Alt.grown (Alt.of_new hn) hg fun r e=>.inl e;have hp:PM w4 pm (plQ MD qs):=h.mp.alt h1 fun e=>h.mp.ne_own h.mi e;have h3:Alt (fun k=>k=pm\/x.ownBlock=some k) w (setBlock w4 pm (mOb (plQ MD (qs++[q])))):=(h1.weak fun k e=>.inr e).trans ((a_i w4 pm _).weak fun k e=>.inl e);refine PgS.next h.pa h.mp h.pt h.pf h.mi h.mt h.md h.dt h.sm h.al h.bd h.bq h.fl h3 (e_Y hp.lt) ((a_i w4 pm _).own ho fun k hk e=>hp.ne_own ho (by rw[hk,e])) fun j hj=>?_
 have hj:g9=j:=by simpa [Value.ownBlock]using hj
 subst hj;rcases h9 with e|e
 ·exact h.mt g9 e
 ·exact h.pa.fu g9 e
end
end vault
namespace label
open Go.ChangeShapes Go.WideShapes Go.ChangeAt kit
theorem t_j(n lo hi:Int)(w:World) :
  Calls prog 172 #[.int .i64 n,.int .i64 lo,.int .i64 hi] w fun e w'=>e=.returned (.bool (decide (lo<=n/\n<=hi)))/\w=w':=by
 go_enter func172,ntmps172;go_wp2
 all_goals go_ret
 all_goals refine⟨b_t ?_,rfl⟩
 all_goals first
 |(refine(decide_eq_true ?_).symm;omega)
 |(refine(decide_eq_false ?_).symm;omega)
 |(refine decide_eq_decide.2 ?_;omega)
 |(rw[Bool.eq_iff_iff];simp;omega)
def okP(pool drive drives parity time addr count bytes birth:Int):Prop:=
 (1<=pool/\pool<=1048576)/\(2<=drives/\drives<=8)/\(0<=drive/\drive<drives)/\(1<=parity/\parity<=3/\parity<drives)/\(0<=time/\time<=1048576) /\
  (0<=addr/\addr<=65536)/\(0<=count/\count<=32)/\(0<=bytes/\bytes<=128*count)/\0<=birth/\birth<=time
instance (pool drive drives parity time addr count bytes birth:Int):Decidable (okP pool drive drives parity time addr count bytes birth):=by unfold okP;infer_instance
abbrev lab(pool drive drives parity time addr count bytes birth a b c d:Int):Value:=
 .agg #[.int .i64 pool,.int .i64 drive,.int .i64 drives,.int .i64 parity,.int .i64 time,.int .i64 addr,.int .i64 count,.int .i64 bytes,.int .i64 birth,.int .i64 a,.int .i64 b,.int .i64 c,.int .i64 d]
set_option maxHeartbeats 1000000 in
theorem May_any(pool drive drives parity time addr count bytes birth a b c d:Int)(w:World) :
  Calls prog 138 #[lab pool drive drives parity time addr count bytes birth a b c d] w fun e w'=>e=.returned (.bool (decide (okP pool drive drives parity time addr count bytes birth)))/\New w w':=by
 go_enter func138,ntmps138;go_wp2_with (first|(go_at_call 172;refine(t_j _ _ _ _).mono ?_;rintro e w' ⟨rfl,rfl⟩))
 all_goals go_ret
 all_goals refine⟨b_t ?_,((New.refl _).alloc _).alloc _⟩
 all_goals first
 |(refine(decide_eq_true ?_).symm;unfold okP;omega)
 |(refine(decide_eq_false ?_).symm;unfold okP;omega)
 |(refine decide_eq_decide.2 ?_;unfold okP;omega)
 |(rw[Bool.eq_iff_iff,Bool.and_eq_true,decide_eq_true_eq,decide_eq_true_eq,decide_eq_true_eq];unfold okP;omega)
open flet Go.Deep
abbrev I_(X:Nat->Int):Array Value:=#[.int .i64 (X 0),.int .i64 (X 1),.int .i64 (X 2),.int .i64 (X 3),.int .i64 (X 4),.int .i64 (X 5),.int .i64 (X 6),.int .i64 (X 7),.int .i64 (X 8),.int .i64 (X 9),.int .i64 (X 10),.int .i64 (X 11),.int .i64 (X 12)]
def okX(X:Nat->Int):Prop:=okP (X 0) (X 1) (X 2) (X 3) (X 4) (X 5) (X 6) (X 7) (X 8)
instance (X:Nat->Int):Decidable (okX X):=by unfold okX;infer_instance
def a_0(x:Int):Prop := -9223372036854775808<=x/\x<=9223372036854775807
def a_h(X se:Nat->Int)(i:Nat):Nat:=if i<36 then N_ (X (i/4)) (i%4)else if i<68 then N_ (X (9+(i-36)/8)) ((i-36)%8)else if i<96 then 0 else N_ (se ((i-96)/8)) ((i-96)%8)
theorem i_s(X se:Nat->Int)(i:Nat):a_h X se i<256:=by
 unfold a_h
 repeat' split
 all_goals first|exact f_v _ _|omega
theorem d_F(X se:Nat->Int)(m q:Nat)(hm:m<9)(hq:q<4):a_h X se (4*m+q)=N_ (X m) q:=by
 unfold a_h;rw[if_pos (by omega),show(4*m+q)/4=m by omega,show(4*m+q)%4=q by omega]
theorem j_A(X se:Nat->Int)(m q:Nat)(hm:m<4)(hq:q<8):a_h X se (36+8*m+q)=N_ (X (9+m)) q:=by
 unfold a_h;rw[if_neg (by omega),if_pos (by omega),show(36+8*m+q-36)/8=m by omega,show(36+8*m+q-36)%8=q by omega]
theorem h_x(X se:Nat->Int)(i:Nat)(h1:68<=i)(h2:i<96):a_h X se i=0:=by
 unfold a_h;rw[if_neg (by omega),if_neg (by omega),if_pos h2]
theorem e_F(X se:Nat->Int)(m q:Nat)(hm:m<4)(hq:q<8):a_h X se (96+8*m+q)=N_ (se m) q:=by
 unfold a_h;rw[if_neg (by omega),if_neg (by omega),if_neg (by omega),show(96+8*m+q-96)/8=m by omega,show(96+8*m+q-96)%8=q by omega]
theorem c_d(X se se':Nat->Int)(i:Nat)(h:i<96):a_h X se i=a_h X se' i:=by
 unfold a_h
 repeat' split
 all_goals first|rfl|omega
def at4(s:Int×Int×Int×Int)(j:Nat):Int:=if j=0 then s.1 else if j=1 then s.2.1 else if j=2 then s.2.2.1 else s.2.2.2
def j_7(X:Nat->Int):Int×Int×Int×Int:=a_f (a_h X fun _=>0) 24 (0,0,0,0)
def a_g(X:Nat->Int):Nat->Int:=at4 (j_7 X)
theorem e_o{B B':Nat->Nat}(s:Int×Int×Int×Int):∀k,(∀i,i<4*k->B i=B' i)->a_f B k s=a_f B' k s
 |0,_=>rfl
 |k+1,h=>by
  unfold a_f;rw[e_o s k fun i hi=>h i (by omega),h (4*k) (by omega),h (4*k+1) (by omega),h (4*k+2) (by omega),h (4*k+3) (by omega)]
theorem d_P(x:Int):a_0 (wrap64 x):=by unfold a_0 wrap64;omega
theorem sums_bd(B:Nat->Nat):∀k,0<k->∀s:Int×Int×Int×Int,a_0 (a_f B k s).1/\a_0 (a_f B k s).2.1/\a_0 (a_f B k s).2.2.1/\a_0 (a_f B k s).2.2.2
 |0,h,_=>absurd h (Nat.lt_irrefl 0)
 |k+1,_,s=>⟨d_P _,d_P _,d_P _,d_P _⟩
theorem f_T(X:Nat->Int)(j:Nat):a_0 (a_g X j):=by
 have h:=sums_bd (a_h X fun _=>0) 24 (by omega) (0,0,0,0)
 unfold a_g at4 j_7
 repeat' split
 ·exact h.1
 ·exact h.2.1
 ·exact h.2.2.1
 ·exact h.2.2.2
abbrev f_f(g:Nat):Array Value:=#[.pointer (some ⟨g,0,none⟩),.pointer (some ⟨g,1,none⟩),.pointer (some ⟨g,2,none⟩),.pointer (some ⟨g,3,none⟩),.pointer (some ⟨g,4,none⟩),.pointer (some ⟨g,5,none⟩),.pointer (some ⟨g,6,none⟩),.pointer (some ⟨g,7,none⟩),.pointer (some ⟨g,8,none⟩)]
abbrev i_f(g o:Nat):Array Value:=#[.pointer (some ⟨g,o,none⟩),.pointer (some ⟨g,o+1,none⟩),.pointer (some ⟨g,o+2,none⟩),.pointer (some ⟨g,o+3,none⟩)]
theorem h_i(g:Nat)(w:World) :
  Calls prog 139 #[.pointer (some ⟨g,0,none⟩)] w fun e w'=>e=.returned (.agg (f_f g))/\New w w':=by
 go_enter func139,ntmps139;go_wp2;go_region;go_wp2;exact bodyPost_ret (v:=.agg (f_f g)) (by simp[results,results139,go_sem]) rfl ⟨rfl,((New.refl _).alloc _).drew⟩
theorem h_d(g:Nat)(w:World) :
  Calls prog 141 #[.pointer (some ⟨g,0,none⟩)] w fun e w'=>e=.returned (.agg (i_f g 0))/\New w w':=by
 go_enter func141,ntmps141;go_wp2;go_region;go_wp2;exact bodyPost_ret (v:=.agg (i_f g 0)) (by simp[results,results141,go_sem]) rfl ⟨rfl,((New.refl _).alloc _).drew⟩
theorem h_c(g:Nat)(w:World) :
  Calls prog 141 #[.pointer (some ⟨g,9,none⟩)] w fun e w'=>e=.returned (.agg (i_f g 9))/\New w w':=by
 go_enter func141,ntmps141;go_wp2;go_region;go_wp2;exact bodyPost_ret (v:=.agg (i_f g 9)) (by simp[results,results141,go_sem]) rfl ⟨rfl,((New.refl _).alloc _).drew⟩
theorem m_m(g k:Nat)(hk:k<9)(w:World):(Instr.index 252 (.agg (f_f g)) (.int .i64 (k:Nat))).run prog w=.ok (.pointer (some ⟨g,k,none⟩)) w:=by
 match k,hk with
 |0,_=>show(Instr.index 252 (.agg (f_f g)) (.int .i64 0)).run prog w=.ok (.pointer (some ⟨g,0,none⟩)) w;kernel_rfl
 |1,_=>show(Instr.index 252 (.agg (f_f g)) (.int .i64 1)).run prog w=.ok (.pointer (some ⟨g,1,none⟩)) w;kernel_rfl
 |2,_=>show(Instr.index 252 (.agg (f_f g)) (.int .i64 2)).run prog w=.ok (.pointer (some ⟨g,2,none⟩)) w;kernel_rfl
 |3,_=>show(Instr.index 252 (.agg (f_f g)) (.int .i64 3)).run prog w=.ok (.pointer (some ⟨g,3,none⟩)) w;kernel_rfl
 |4,_=>show(Instr.index 252 (.agg (f_f g)) (.int .i64 4)).run prog w=.ok (.pointer (some ⟨g,4,none⟩)) w;kernel_rfl
 |5,_=>show(Instr.index 252 (.agg (f_f g)) (.int .i64 5)).run prog w=.ok (.pointer (some ⟨g,5,none⟩)) w;kernel_rfl
 |6,_=>show(Instr.index 252 (.agg (f_f g)) (.int .i64 6)).run prog w=.ok (.pointer (some ⟨g,6,none⟩)) w;kernel_rfl
 |7,_=>show(Instr.index 252 (.agg (f_f g)) (.int .i64 7)).run prog w=.ok (.pointer (some ⟨g,7,none⟩)) w;kernel_rfl
 |8,_=>show(Instr.index 252 (.agg (f_f g)) (.int .i64 8)).run prog w=.ok (.pointer (some ⟨g,8,none⟩)) w;kernel_rfl
theorem f_q(g o k:Nat)(hk:k<4)(w:World):(Instr.index 256 (.agg (i_f g o)) (.int .i64 (k:Nat))).run prog w=.ok (.pointer (some ⟨g,o+k,none⟩)) w:=by
 match k,hk with
 |0,_=>show(Instr.index 256 (.agg (i_f g o)) (.int .i64 0)).run prog w=.ok (.pointer (some ⟨g,o+0,none⟩)) w;kernel_rfl
 |1,_=>show(Instr.index 256 (.agg (i_f g o)) (.int .i64 1)).run prog w=.ok (.pointer (some ⟨g,o+1,none⟩)) w;kernel_rfl
 |2,_=>show(Instr.index 256 (.agg (i_f g o)) (.int .i64 2)).run prog w=.ok (.pointer (some ⟨g,o+2,none⟩)) w;kernel_rfl
 |3,_=>show(Instr.index 256 (.agg (i_f g o)) (.int .i64 3)).run prog w=.ok (.pointer (some ⟨g,o+3,none⟩)) w;kernel_rfl
theorem f_x(X:Nat->Int)(k:Nat)(hk:k<13):(I_ X)[k]?=some (.int .i64 (X k)):=by
 match k,hk with
 |0,_=>rfl
 |1,_=>rfl
 |2,_=>rfl
 |3,_=>rfl
 |4,_=>rfl
 |5,_=>rfl
 |6,_=>rfl
 |7,_=>rfl
 |8,_=>rfl
 |9,_=>rfl
 |10,_=>rfl
 |11,_=>rfl
 |12,_=>rfl
set_option maxRecDepth 100000 in
theorem l_G(X:Nat->Int)(w:World)(h:¬okX X) :
  Calls prog 89 #[.agg (I_ X)] w fun e w'=>e=.returned (.tuple #[.slice none 0 0,.int .i64 4])/\New w w':=by
 have hd:decide (okP (X 0) (X 1) (X 2) (X 3) (X 4) (X 5) (X 6) (X 7) (X 8))=false:=decide_eq_false h;go_enter func89,ntmps89;go_wp2_with fail;refine(May_any (X 0) (X 1) (X 2) (X 3) (X 4) (X 5) (X 6) (X 7) (X 8) (X 9) (X 10) (X 11) (X 12) _).mono ?_;rw[hd];clear hd;rintro e w1 ⟨rfl,hn⟩;go_wp2;go_ret2;exact⟨rfl,hn.of_alloc⟩
set_option maxRecDepth 100000 in
theorem h_Z(X:Nat->Int)(w:World)(h:okX X)(hX:∀i,i<13->a_0 (X i)) :
  Calls prog 89 #[.agg (I_ X)] w fun e w'=>∃g,e=.returned (.tuple #[.slice (some ⟨g,0,none⟩) 128 128,.int .i64 0])/\RdB w' (some ⟨g,0,none⟩) 128 (a_h X (a_g X))/\New w w'/\w.heap.size<=g:=by
 have hd:decide (okP (X 0) (X 1) (X 2) (X 3) (X 4) (X 5) (X 6) (X 7) (X 8))=true:=decide_eq_true h;have hX0:=Hd hX;have hbox:=Blk.fresh w 194 (I_ X);have hmk:∀w,(Instr.makeSlice 35 (.int .i64 0) (.int .i64 128)).run prog w=.ok (.slice (some ⟨w.heap.size,0,none⟩) 0 128) (w.alloc (.cells (madeCells #[.int .u8 0] 128) 5)):=
  run_make_room (P:=prog) 35 5 (.int .u8 0) 1 underlying35 infoU8 rfl .i64 .i64 128 (by omega) (by omega)
 clear h hX;go_enter func89,ntmps89;go_wp2_with fail;refine(May_any (X 0) (X 1) (X 2) (X 3) (X 4) (X 5) (X 6) (X 7) (X 8) (X 9) (X 10) (X 11) (X 12) _).mono ?_;rw[hd];clear hd;rintro e w1 ⟨rfl,hn1⟩;have hbox1:=Hd (hbox.new hn1);have hN1:=Hd hn1.of_alloc;have hrow0:(w1.alloc (.cells (madeCells #[.int .u8 0] 128) 5)).rowIs w1.heap.size 5 128 (upF (a_h X (a_g X)) (4*0)):=
  (World.rowIs_made w1 (.int .u8 0) 128 5).congr fun i _=>by simp[upF]
 have hrow1:=Hd hrow0;have hlt1:w.heap.size<w1.heap.size:=by have:=hbox.new hn1;exact this.lt
 clear hbox hn1 hrow0;go_wp2_with fail;refine(h_i w.heap.size _).mono ?_;rintro e w2 ⟨rfl,hn2⟩;have hbox2:=(hbox1.o.alloc _).new hn2;have hrow2:=u_ hrow1.o hn2;have hN2:=(hN1.o.alloc _).next hn2;clear hn2;have hat:=Hd (m_m w.heap.size);go_wp2;go_loopw [4,18] (fun v c wr=>∃k:Nat,c=.int .i64 k/\k<=9/\v=.slice (some ⟨w1.heap.size,0,none⟩) (4*k) 128/\Blk wr w.heap.size 194 (I_ X)/\wr.rowIs w1.heap.size 5 128 (upF (a_h X (a_g X)) (4*k))/\New w wr) (fun _ c _=>9-(intOf c).toNat);case atStart=>exact⟨0,rfl,by omega,rfl,hbox2,hrow2,hN2⟩
 case round=>
  obtain⟨k,rfl,hk,rfl,hbx,hrw,hnw⟩:=hrel
  by_cases hlt:k<9
  ·have hix:=hat.o k hlt
   have hki:(k:Int)<9:=by omega
   have c0:wr.cell? ⟨w.heap.size,k,none⟩=some (.int .i64 (X k)):=by rw[hbx.cell k];exact f_x X k (by omega)
   have hbx1:=Hd hbx;have hrw1:=Hd hrw;have hnw1:=Hd hnw;clear hbx hrw hnw;go_wp2_with fail;refine(e_l w1.heap.size (4*k) 4 (a_h X (a_g X)) (X k) _ hrw1.o (by omega) (fun q hq=>d_F X _ k q hlt hq) (hX0.o k (by omega)).1 (hX0.o k (by omega)).2).mono ?_
   rintro e w3 ⟨rfl,hrw3,hg3⟩;have hbx3:=hbx1.o.grown hg3 (by simp;omega)
   have hnw3:=hnw1.o.grown1 hg3 (by omega)
   go_wp2;go_roundw;case rel=>exact⟨k+1,by go_num,by omega,by rw[Nat.mul_add],hbx3,hrw3,hnw3⟩
   case measure=>simp[intOf];omega
  ·have hk9:k=9:=by omega
   subst hk9;have hbx1:=Hd hbx;have hrw1:=Hd hrw;have hnw1:=Hd hnw;clear hbx hrw hnw hat;go_wp2_with fail;refine(h_c w.heap.size _).mono ?_;rintro e w3 ⟨rfl,hn3⟩;have hbox3:=hbx1.o.new hn3;have hrow3:=u_ hrw1.o hn3;have hN3:=hnw1.o.next hn3;clear hn3;have hat:=Hd (f_q w.heap.size 9);go_wp2;go_loopw [4,30] (fun v c wr=>∃k:Nat,c=.int .i64 k/\k<=4/\v=.slice (some ⟨w1.heap.size,0,none⟩) (36+8*k) 128/\Blk wr w.heap.size 194 (I_ X)/\wr.rowIs w1.heap.size 5 128 (upF (a_h X (a_g X)) (36+8*k))/\New w wr) (fun _ c _=>4-(intOf c).toNat);case atStart=>exact⟨0,rfl,by omega,rfl,hbox3,hrow3,hN3⟩
   case round=>
    obtain⟨k,rfl,hk,rfl,hbx,hrw,hnw⟩:=hrel
    by_cases hlt:k<4
    ·have hix:=hat.o k hlt
     have hki:(k:Int)<4:=by omega
     have c0:wr.cell? ⟨w.heap.size,9+k,none⟩=some (.int .i64 (X (9+k))):=by rw[hbx.cell (9+k)];exact f_x X (9+k) (by omega)
     have hbx1:=Hd hbx;have hrw1:=Hd hrw;have hnw1:=Hd hnw;clear hbx hrw hnw;go_wp2_with fail;refine(e_l w1.heap.size (36+8*k) 8 (a_h X (a_g X)) (X (9+k)) _ hrw1.o (by omega) (fun q hq=>j_A X _ k q hlt hq) (hX0.o (9+k) (by omega)).1 (hX0.o (9+k) (by omega)).2).mono ?_
     rintro e w4 ⟨rfl,hrw3,hg3⟩;have hbx3:=hbx1.o.grown hg3 (by simp;omega)
     have hnw3:=hnw1.o.grown1 hg3 (by omega)
     go_wp2;go_roundw;case rel=>exact⟨k+1,by go_num,by omega,by rw[Nat.mul_add,Nat.add_assoc],hbx3,hrw3,hnw3⟩
     case measure=>simp[intOf];omega
    ·have hk4:k=4:=by omega
     subst hk4;have hrd:RdB wr (some ⟨w1.heap.size,0,none⟩) 96 (a_h X fun _=>0):=⟨by unfold maxLen;omega,fun i hi=>i_s _ _ _,fun _=>⟨w1.heap.size,0,rfl,hrw.lt,fun i hi=>by
      have:=hrw.cell (i:=i) (by omega)
      rw[Nat.zero_add,this];unfold upF
      by_cases h68:i<68
      ·rw[if_pos (by omega),c_d X (a_g X) (fun _=>0) i hi]
      ·rw[if_neg (by omega),h_x X _ i (by omega) hi]⟩⟩
     have hrw2:wr.rowIs w1.heap.size 5 128 (upF (a_h X (a_g X)) (96+8*0)):=hrw.congr fun i hi=>congrFun (o_y fun i=>by
      by_cases h68:i<36+8*4
      ·rw[if_pos h68,if_pos (by omega)]
      ·rw[if_neg h68]
       by_cases h96:i<96+8*0
       ·rw[if_pos h96,h_x X _ i (by omega) (by omega)]
       ·rw[if_neg h96]) i
     have hrd1:=Hd hrd;have hrw1:=Hd hrw2;have hnw1:=Hd hnw;have hlw:=hrw.lt;clear hbx hrw hnw hat hrd hrw2;go_wp2_with fail;refine(n_6 (some ⟨w1.heap.size,0,none⟩) 96 128 (a_h X fun _=>0) _ hrd1.o (by omega) (by omega)).mono ?_
     obtain⟨S,hS⟩:∃S,Hid (S=j_7 X):=⟨_,(rfl:_=_)⟩;rw[show a_f (a_h X fun _=>0) (96/4) (0,0,0,0)=S from hS.o.symm]
     rintro e w5 ⟨rfl,hn5⟩;have hrow5:=Hd (u_ hrw1.o hn5);have hN5:=Hd (hnw1.o.next hn5);have hbx5:=Hd (Blk.fresh w5 105 #[.int .i64 (at4 S 0),.int .i64 (at4 S 1),.int .i64 (at4 S 2),.int .i64 (at4 S 3)]);have hlt5:w1.heap.size<w5.heap.size:=(u_ hrw1.o hn5).lt;clear hn5;go_wp2_with fail;refine(h_d w5.heap.size _).mono ?_;rintro e w6 ⟨rfl,hn6⟩;have hbox6:=hbx5.o.new hn6;have hrow6:=u_ (hrow5.o.alloc _) hn6;have hN6:=(hN5.o.alloc _).next hn6;clear hn6;have hat:=Hd (f_q w5.heap.size 0);go_wp2;go_loopw [4,47] (fun v c wr=>∃k:Nat,c=.int .i64 k/\k<=4/\v=.slice (some ⟨w1.heap.size,0,none⟩) (96+8*k) 128/\Blk wr w5.heap.size 105 #[.int .i64 (at4 S 0),.int .i64 (at4 S 1),.int .i64 (at4 S 2),.int .i64 (at4 S 3)]/\wr.rowIs w1.heap.size 5 128 (upF (a_h X (a_g X)) (96+8*k))/\New w wr) (fun _ c _=>4-(intOf c).toNat);case atStart=>exact⟨0,rfl,by omega,rfl,hbox6,hrow6,hN6⟩
     case round=>
      obtain⟨k,rfl,hk,rfl,hbx,hrw,hnw⟩:=hrel
      by_cases hlt:k<4
      ·have hix:=hat.o k hlt
       have hki:(k:Int)<4:=by omega
       rw[Nat.zero_add]at hix;have c0:wr.cell? ⟨w5.heap.size,k,none⟩=some (.int .i64 (at4 S k)):=by
        rw[hbx.cell k]
        match k,hlt with
        |0,_=>rfl
        |1,_=>rfl
        |2,_=>rfl
        |3,_=>rfl
       have hse:Hid (at4 S k=a_g X k):=by rw[hS.o];rfl
       have hbx1:=Hd hbx;have hrw1:=Hd hrw;have hnw1:=Hd hnw;clear hbx hrw hnw;go_wp2_with fail;refine(e_l w1.heap.size (96+8*k) 8 (a_h X (a_g X)) (at4 S k) _ hrw1.o (by omega) (fun q hq=>by rw[hse.o];exact e_F X _ k q hlt hq) (by rw[hse.o];exact(f_T X k).1) (by rw[hse.o];exact(f_T X k).2)).mono ?_
       rintro e w7 ⟨rfl,hrw3,hg3⟩;have hbx3:=hbx1.o.grown hg3 (by simp;omega)
       have hnw3:=hnw1.o.grown1 hg3 (by omega)
       go_wp2;go_roundw;case rel=>exact⟨k+1,by go_num,by omega,by rw[Nat.mul_add,Nat.add_assoc],hbx3,hrw3,hnw3⟩
       case measure=>simp[intOf];omega
      ·have hk4:k=4:=by omega
       subst hk4;have hrd:Hid (RdB wr (some ⟨w1.heap.size,0,none⟩) 128 (a_h X (a_g X))):=⟨by unfold maxLen;omega,fun i hi=>i_s _ _ _,fun _=>⟨w1.heap.size,0,rfl,hrw.lt,fun i hi=>by
        have:=hrw.cell (i:=i) (by omega)
        rw[Nat.zero_add,this];unfold upF;rw[if_pos (by omega)]⟩⟩
       have hnw1:=Hd hnw;clear hbx hrw hnw hat;go_wp2;go_ret2;exact⟨_,rfl,hrd.o,hnw1.o,by omega⟩
def c_B(B:Nat->Nat)(s:Nat):Nat->Nat
 |0=>0
 |t+1=>c_B B s t*256+B (s-1-t)
theorem d_d{B:Nat->Nat}{s:Nat}(hB:∀i,i<s->B i<256):∀t,t<=s->c_B B s t<256 ^ t
 |0,_=>by simp[c_B]
 |t+1,h=>by
  have h1:=d_d hB t (by omega)
  have h2:=hB (s-1-t) (by omega)
  unfold c_B;rw[Nat.pow_succ];omega
def a_B(B:Nat->Nat)(s:Nat):Nat:=c_B B s s
theorem p_d{t:Nat}(h:t<=7):256 ^ t<=72057594037927936:=Nat.pow_le_pow_right (by omega) h
theorem j_k(B:Nat->Nat)(s:Nat):∀t,t<=s->c_B B (s+1) t=c_B (fun i=>B (i+1)) s t
 |0,_=>rfl
 |t+1,h=>by
  unfold c_B;rw[j_k B s t (by omega),show s+1-1-t=s-1-t+1 by omega]
theorem a_H(B:Nat->Nat)(s:Nat):a_B B (s+1)=B 0+256*a_B (fun i=>B (i+1)) s:=by
 unfold a_B;show c_B B (s+1) s*256+B (s+1-1-s)=_;rw[j_k B s s (Nat.le_refl _),show s+1-1-s=0 by omega]
 omega
theorem h_p(B:Nat->Nat):a_B B 0=0:=rfl
theorem h_j(x:Int):∀k,b_c x (k+1)=b_c (x/256) k
 |0=>rfl
 |k+1=>by
  show b_c x (k+1)/256=_;rw[h_j x k];rfl
theorem e_A(x:Int)(k:Nat):N_ x (k+1)=N_ (x/256) k:=by unfold N_;rw[h_j]
theorem m_q:∀(s q:Nat) (B:Nat->Nat),(∀i,i<s->B i<256)->q<s->N_ (a_B B s:Nat) q=B q
 |0,q,_,_,h=>absurd h (Nat.not_lt_zero q)
 |s+1,0,B,hB,_=>by
  have:=hB 0 (by omega)
  unfold N_ b_c;rw[a_H];omega
 |s+1,q+1,B,hB,h=>by
  have h0:=hB 0 (by omega)
  rw[e_A];have:(((a_B B (s+1):Nat):Int)/256)=((a_B (fun i=>B (i+1)) s:Nat):Int):=by
   rw[a_H];omega
  rw[this];exact m_q s q (fun i=>B (i+1)) (fun i hi=>hB (i+1) (by omega)) (by omega)
theorem p_D(x:Int)(h1 : -9223372036854775808<=x)(h2:x<=9223372036854775807)(q:Nat)(hq:q<8):N_ (x%18446744073709551616) q=N_ x q:=by
 unfold N_;rw[s_Q x h1 h2 q hq]
theorem e_0(x:Int)(h1 : -9223372036854775808<=x)(h2:x<=9223372036854775807):wrap64 (a_B (N_ x) 8:Nat)=x:=by
 have e:∀(y:Int) (s:Nat),((a_B (N_ y) (s+1):Nat):Int)=y%256+256*((a_B (N_ (y/256)) s:Nat):Int):=by
  intro y s;rw[a_H];have h0:=e_3 y 0;have hf:(fun i=>N_ y (i+1))=N_ (y/256):=funext fun i=>e_A y i;rw[hf];unfold b_c at h0;omega
 have h8:((a_B (N_ x) 8:Nat):Int)=x%18446744073709551616:=by
  rw[e,e,e,e,e,e,e,e,h_p];omega
 rw[h8];unfold wrap64;omega
theorem r_q(x:Int)(B:Nat->Nat)(hB:∀i,i<8->B i<256)(h1 : -9223372036854775808<=x)(h2:x<=9223372036854775807):x=wrap64 (a_B B 8:Nat)↔∀q,q<8->N_ x q=B q:=by
 have hlt:a_B B 8<18446744073709551616:=d_d hB 8 (Nat.le_refl _);constructor
 ·rintro hx q hq
  have hm:x%18446744073709551616=((a_B B 8:Nat):Int):=by rw[hx];unfold wrap64;omega
  rw[<-p_D x h1 h2 q hq,hm];exact m_q 8 q B hB hq
 ·intro h
  have he:a_B (N_ x) 8=a_B B 8:=by
   have:∀(s:Nat) (F G:Nat->Nat),(∀q,q<s->F q=G q)->a_B F s=a_B G s:=by
    intro s
    induction s with
    |zero=>intro F G _;rfl
    |succ s ih=>intro F G hh;rw[a_H,a_H,hh 0 (by omega),ih _ _ fun q hq=>hh (q+1) (by omega)]
   exact this 8 _ _ h
  rw[<-he,e_0 x h1 h2]
theorem f_G(m b:Nat)(hm:m<72057594037927936)(hb:b<256):bits .or .i64 (wrap64 ((m:Int)*256)) (b:Int)=wrap64 ((m*256+b:Nat):Int):=by
 have h1:(BitVec.ofInt 64 (wrap64 ((m:Int)*256))).toNat=m*256:=by
  rw[BitVec.toNat_ofInt];unfold wrap64;omega
 have h2:(BitVec.ofInt 64 (b:Int)).toNat=b:=b_4 b (by omega)
 have h3:m*256 ||| b=m*256+b:=nat_join 8 (m*256) b (Nat.mul_mod_left _ _) (by omega)
 show IntKind.i64.wrap ((BitVec.ofInt 64 (wrap64 ((m:Int)*256)) ||| BitVec.ofInt 64 (b:Int)).toNat:Int)=_
 rw[BitVec.toNat_or,h1,h2,h3];exact IntWalk.i64_left _
set_option maxRecDepth 100000 in
theorem number_any(br s n c:Nat)(A:Option Addr)(B:Nat->Nat)(w:World)(hb:Blk w br 348 #[.slice A n c])(hr:RdB w A n B)(hs:s<=n)(h0:0<s)(h8:s<=8)(hc:n<=c) :
  Calls prog 221 #[.pointer (some ⟨br,0,none⟩),.int .i64 s] w fun e w'=>e=.returned (.int .i64 (wrap64 (a_B B s:Nat)))/\(∃A' c',Blk w' br 348 #[.slice A' (n-s) c']/\(∀w0,RdB w0 A n B->RdB w0 A' (n-s) (fun i=>B (s+i)))/\n<=c'+s)/\w.grownBy w' (some br):=by
 have hm:=hr.1;unfold maxLen at hm;obtain⟨b,off,rfl,hbb,hcs⟩:=hr.2.2 (by omega)
 have c0:=hb.cell 0;simp at c0;have hne:b≠br:=by
  rintro rfl;have h1:=hcs 0 (by omega)
  rw[hb.cell]at h1
  match hoff:off+0 with
  |0=>rw[hoff]at h1;simp at h1
  |k+1=>rw[hoff]at h1;simp at h1
 have hcs0:=Hd hcs;have hlt0:=Hd hr.2.1;have hf0:=hb.frozen 0;have hb0:=Hd hb;have hr0:=Hd hr;clear hcs hb hr;go_enter func221,ntmps221;go_wp2;go_loop [5,6] (fun v c=>∃t:Nat,t<=s/\c=.int .i64 ((s:Int)-1-t)/\v=.int .i64 (wrap64 (c_B B s t:Nat))) (fun _ c=>(intOf c+1).toNat);case atStart=>exact⟨0,by omega,j_C (by omega),j_C (IntWalk.wrap64_in _ (by simp)).symm⟩
 case round=>
  obtain⟨t,ht,rfl,rfl⟩:=hrel
  by_cases hlt:t<s
  ·have ci:=hcs0.o (s-1-t) (by omega)
   have hbl:=hlt0.o (s-1-t) (by omega)
   have hml:=d_d (s:=s) (fun i hi=>hlt0.o i (by omega)) t (by omega)
   have hpl:=p_d (t:=t) (by omega)
   have hstep:Hid (c_B B s (t+1)=c_B B s t*256+B (s-1-t)):=rfl;generalize c_B B s t=m at *;generalize B (s-1-t)=y at *;obtain⟨u,hu⟩:∃u:Nat,Hid ((s:Int)-1-t=u/\s-1-t=u):=⟨s-1-t,by constructor<;>omega⟩
   rw[hu.o.2]at ci;rw[hu.o.1];have hul:u<n:=by have:=hu.o.2;omega
   have hml2:m<72057594037927936:=by omega
   clear hml hpl;have hwm:wrap64 (wrap64 (m:Int)*256)=wrap64 ((m:Int)*256):=by rw[IntWalk.wrap64_in (m:Int) (by omega)]
   have hws:=Hd (f_G m y hml2 hbl);go_wp2;go_round;case rel=>
    refine⟨t+1,by omega,j_C (by have:=hu.o.1;omega),j_C ?_⟩
    rw[hws.o,hstep.o]
   case measure=>simp[intOf]
  ·have hts:t=s:=by omega
   subst hts;have hneg:(t:Int)-1-t = -1:=by omega
   have hG:Hid (∀w0,RdB w0 (some ⟨b,off,none⟩) n B->RdB w0 (if c=t then some ⟨b,off,none⟩else some ⟨b,off+t,none⟩) (n-t) (fun i=>B (t+i))):=fun w0 h=>by
    have:=h.cut (c:=c) (k:=t) hs hc;simp only[Option.map_some,i_]at this;exact this
   have hpost:∀A':Option Addr,(if c=t then some (⟨b,off,none⟩:Addr)else some ⟨b,off+t,none⟩)=A'->Hid (∃A2 c2,Blk (w.setCell ⟨br,0,none⟩ (.slice A' (n-t) (c-t))) br 348 #[.slice A2 (n-t) c2]/\(∀w0,RdB w0 (some ⟨b,off,none⟩) n B->RdB w0 A2 (n-t) (fun i=>B (t+i)))/\n<=c2+t):=fun A' hA=>
    ⟨A',c-t,by simpa using hb0.o.put 0 _,hA▸hG.o,by omega⟩
   clear hG
   by_cases hct:c=t
   ·have hp:=hpost _ (if_pos hct)
    have h0:c-t=0:=by omega
    rw[h0]at hp;clear hpost h0;go_wp2;go_ret;exact⟨rfl,hp.o,k_ _ _ _ _⟩
   ·have hp:=hpost _ (if_neg hct)
    clear hpost;go_wp2;go_ret;exact⟨rfl,hp.o,k_ _ _ _ _⟩
theorem r_6{w:World}{A:Option Addr}{n:Nat}{B:Nat->Nat}(h:RdB w A n B){lo m:Nat}(hm:lo+m<=n)(h0:0<m):∃b off,A=some ⟨b,off,none⟩/\RdB w (some ⟨b,off+lo,none⟩) m (fun i=>B (lo+i)):=by
 obtain⟨b,off,rfl,hb,hcs⟩:=h.2.2 (by omega)
 refine⟨b,off,rfl,Nat.le_trans (by omega) h.1,fun i hi=>h.2.1 _ (by omega),fun _=>⟨b,off+lo,rfl,hb,fun i hi=>?_⟩⟩
 rw[Nat.add_assoc];exact hcs (lo+i) (by omega)
theorem p_1{w:World}{A:Option Addr}{n:Nat}{B:Nat->Nat}(h:RdB w A n B){m:Nat}(hm:m<=n):RdB w A m B:=
 ⟨Nat.le_trans hm h.1,fun i hi=>h.2.1 i (by omega),fun h0=>by
  obtain⟨b,off,hA,hb,hcs⟩:=h.2.2 (by omega)
  exact⟨b,off,hA,hb,fun i hi=>hcs i (by omega)⟩⟩
end label
end Go.Proofs.YtojcoaekhiadcaaGreat
