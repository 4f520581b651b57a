import Derived.Test.YtojcoaekhiadcaaGreatA01
import Derived.Test.YtojcoaekhiadcaaGreatA02
import Derived.RangeFuncNested
import Derived.RangeFuncBound
import Derived.RangeFuncCalls
import Derived.RangeFuncLeaves
import Derived.Shelf.Abstract
import Derived.Shelf.RegionOpen
import Derived.OwnWalkIn
import Derived.TacticsInMore
import Derived.LoopNIn
import Derived.LoopIn
import Derived.Lib.JoinLaws
import Derived.Laws.EntriesVeiled
set_option linter.unusedVariables false
set_option linter.unusedSimpArgs false
namespace Go.Proofs.YtojcoaekhiadcaaGreat
open Tryz Go.RowKit
namespace drive
set_option maxRecDepth 100000
open Go.ChangeShapes Go.WideShapes Go.ChangeAt kit Go.Deep
abbrev l_5(k a p:Int)(R:Option Addr)(l c:Nat):Value:=.agg #[.int .i64 k,.int .i64 a,.int .i64 p,.slice R l c]
theorem o_2{n:Nat}{dead:Bool}{k a:Int}{len:Nat}(h1:¬(k<1\/8<k))(h2:¬(dead=true/\k≠8)):v_ n dead k a len=if Q_ k/\(a<0\/(n:Int)<=a)then 2 else if(k=1\/k=6)/\len≠128 then 1 else 0:=by
 unfold v_;rw[if_neg h1,if_neg h2]
set_option maxHeartbeats 2000000 in
theorem b_r(d g n:Nat)(wv:Value)(dead:Bool)(k a p:Int)(R:Option Addr)(l c:Nat)(w:World)(hb:Blk w d 95 #[.slice (some ⟨g,0,none⟩) n n,wv,.bool dead])(hn:n<=512)(hl:l<=maxLen) :
  Calls prog 132 #[.pointer (some ⟨d,0,none⟩),l_5 k a p R l c] w fun e w'=>e=.returned (.int .i64 (v_ n dead k a l))/\New w w':=by
 obtain⟨cd,hcd⟩:∃cd,Hid (cd=v_ n dead k a l):=⟨_,rfl⟩;rw[<-hcd.o];have hc0:=(hb.alloc (.cells #[.int .i64 k,.int .i64 a,.int .i64 p,.slice R l c] 190)).cell 0;have hc2:=(hb.alloc (.cells #[.int .i64 k,.int .i64 a,.int .i64 p,.slice R l c] 190)).cell 2;have hd0:=hb.cell 0;have hd2:=hb.cell 2;simp at hc0 hc2 hd0 hd2;have hdl:=hb.lt;have hj0:(w.alloc (.cells #[.int .i64 k,.int .i64 a,.int .i64 p,.slice R l c] 190)).cell? ⟨w.heap.size,1,none⟩=some (.int .i64 a):=(Blk.fresh w 190 #[.int .i64 k,.int .i64 a,.int .i64 p,.slice R l c]).cell 1;unfold maxLen at hl;clear hb
 by_cases h1:k<1
 ·have e:Hid (cd=3):=by show _=_;rw[hcd.o];unfold v_;rw[if_pos (.inl h1)]
  go_enter func132,ntmps132;go_wp2;go_ret;exact⟨b_e e.o.symm,(New.refl w).alloc _⟩
 by_cases h2:8<k
 ·have e:Hid (cd=3):=by show _=_;rw[hcd.o];unfold v_;rw[if_pos (.inr h2)]
  go_enter func132,ntmps132;go_wp2;go_ret;exact⟨b_e e.o.symm,(New.refl w).alloc _⟩
 by_cases h3:dead=true/\k≠8
 ·have e:Hid (cd=13):=by show _=_;rw[hcd.o];unfold v_;rw[if_neg (by omega),if_pos h3]
  obtain⟨rfl,h4⟩:=h3;have h5:(k != 8)=true:=by simpa using h4
  go_enter func132,ntmps132;go_wp2;go_ret;exact⟨b_e e.o.symm,(New.refl w).alloc _⟩
 have hF:=hcd.o;rw[o_2 (by omega) h3]at hF
 replace hF:=Hd hF;have hk:(k=8)\/dead=false/\(k=1\/k=2\/k=3\/k=4\/k=5\/k=6\/k=7):=by
  by_cases h8:k=8
  ·exact .inl h8
  ·cases hd:dead with
   |true=>exact absurd ⟨hd,h8⟩ h3
   |false=>exact .inr ⟨rfl,by omega⟩
 clear h1 h2 h3 hcd;rcases hk with rfl|⟨rfl,rfl|rfl|rfl|rfl|rfl|rfl|rfl⟩
 ·have e:Hid (cd=0):=by show _=_;rw[hF.o,if_neg (by unfold Q_;omega),if_neg (by omega)]
  cases dead with
  |true=>
   go_enter func132,ntmps132;go_wp2;go_ret;exact⟨b_e e.o.symm,(New.refl w).alloc _⟩
  |false=>
   go_enter func132,ntmps132;go_wp2;go_ret;exact⟨b_e e.o.symm,(New.refl w).alloc _⟩
 ·have q1:=t_.keep hj0
  have q2:=t_.keep hc0
  by_cases h1:a<0
  ·have e:Hid (cd=2):=by show _=_;rw[hF.o,if_pos ⟨by unfold Q_;omega,.inl h1⟩]
   go_enter func132,ntmps132;go_wp2_with fail
   (refine d_ (by kernel_rfl) (by kernel_rfl) ?_;(repeat (first|go_big_quiet_step (fail)|quiet_step (fail)));refine wpQuiet_nil ?_;rintro W2 ⟨⟨_,hn_W2⟩,rfl⟩)
   go_wp2;go_ret;exact⟨b_e e.o.symm,((New.refl w).alloc _).next hn_W2⟩
  by_cases h2:(n:Int)<=a
  ·have e:Hid (cd=2):=by show _=_;rw[hF.o,if_pos ⟨by unfold Q_;omega,.inr h2⟩]
   go_enter func132,ntmps132;go_wp2_with fail
   (refine d_ (by kernel_rfl) (by kernel_rfl) ?_;(repeat (first|go_big_quiet_step (fail)|quiet_step (fail)));refine wpQuiet_nil ?_;rintro W2 ⟨⟨_,hn_W2⟩,rfl⟩)
   go_wp2;go_ret;exact⟨b_e e.o.symm,((New.refl w).alloc _).next hn_W2⟩
  by_cases h3:l=128
  ·have e:Hid (cd=0):=by show _=_;rw[hF.o,if_neg (by omega),if_neg (by omega)]
   have hl3:((l:Int) != 128)=false:=by rw[h3];rfl
   clear h3;go_enter func132,ntmps132;go_wp2_with fail
   (refine d_ (by kernel_rfl) (by kernel_rfl) ?_;(repeat (first|go_big_quiet_step (fail)|quiet_step (fail)));refine wpQuiet_nil ?_;rintro W2 ⟨⟨_,hn_W2⟩,rfl⟩)
   have j0:W2.cell? ⟨w.heap.size,0,none⟩=some (.int .i64 1):=(hn_W2.cell (p:=⟨w.heap.size,0,none⟩) (by simp)).trans ((Blk.fresh w 190 #[.int .i64 1,.int .i64 a,.int .i64 p,.slice R l c]).cell 0)
   have j3:W2.cell? ⟨w.heap.size,3,none⟩=some (.slice R l c):=(hn_W2.cell (p:=⟨w.heap.size,3,none⟩) (by simp)).trans ((Blk.fresh w 190 #[.int .i64 1,.int .i64 a,.int .i64 p,.slice R l c]).cell 3)
   go_wp2;go_ret;exact⟨b_e e.o.symm,((New.refl w).alloc _).next hn_W2⟩
  ·have e:Hid (cd=1):=by show _=_;rw[hF.o,if_neg (by omega),if_pos ⟨by omega,h3⟩]
   have hl3:((l:Int) != 128)=true:=by simp;omega
   go_enter func132,ntmps132;go_wp2_with fail
   (refine d_ (by kernel_rfl) (by kernel_rfl) ?_;(repeat (first|go_big_quiet_step (fail)|quiet_step (fail)));refine wpQuiet_nil ?_;rintro W2 ⟨⟨_,hn_W2⟩,rfl⟩)
   have j0:W2.cell? ⟨w.heap.size,0,none⟩=some (.int .i64 1):=(hn_W2.cell (p:=⟨w.heap.size,0,none⟩) (by simp)).trans ((Blk.fresh w 190 #[.int .i64 1,.int .i64 a,.int .i64 p,.slice R l c]).cell 0)
   have j3:W2.cell? ⟨w.heap.size,3,none⟩=some (.slice R l c):=(hn_W2.cell (p:=⟨w.heap.size,3,none⟩) (by simp)).trans ((Blk.fresh w 190 #[.int .i64 1,.int .i64 a,.int .i64 p,.slice R l c]).cell 3)
   go_wp2;go_ret;exact⟨b_e e.o.symm,((New.refl w).alloc _).next hn_W2⟩
 ·have q1:=t_.keep hj0
  have q2:=t_.keep hc0
  by_cases h1:a<0
  ·have e:Hid (cd=2):=by show _=_;rw[hF.o,if_pos ⟨by unfold Q_;omega,.inl h1⟩]
   go_enter func132,ntmps132;go_wp2_with fail
   (refine d_ (by kernel_rfl) (by kernel_rfl) ?_;(repeat (first|go_big_quiet_step (fail)|quiet_step (fail)));refine wpQuiet_nil ?_;rintro W2 ⟨⟨_,hn_W2⟩,rfl⟩)
   go_wp2;go_ret;exact⟨b_e e.o.symm,((New.refl w).alloc _).next hn_W2⟩
  by_cases h2:(n:Int)<=a
  ·have e:Hid (cd=2):=by show _=_;rw[hF.o,if_pos ⟨by unfold Q_;omega,.inr h2⟩]
   go_enter func132,ntmps132;go_wp2_with fail
   (refine d_ (by kernel_rfl) (by kernel_rfl) ?_;(repeat (first|go_big_quiet_step (fail)|quiet_step (fail)));refine wpQuiet_nil ?_;rintro W2 ⟨⟨_,hn_W2⟩,rfl⟩)
   go_wp2;go_ret;exact⟨b_e e.o.symm,((New.refl w).alloc _).next hn_W2⟩
  have e:Hid (cd=0):=by show _=_;rw[hF.o,if_neg (by omega),if_neg (by omega)]
  go_enter func132,ntmps132;go_wp2_with fail
  (refine d_ (by kernel_rfl) (by kernel_rfl) ?_;(repeat (first|go_big_quiet_step (fail)|quiet_step (fail)));refine wpQuiet_nil ?_;rintro W2 ⟨⟨_,hn_W2⟩,rfl⟩)
  have j0:W2.cell? ⟨w.heap.size,0,none⟩=some (.int .i64 2):=(hn_W2.cell (p:=⟨w.heap.size,0,none⟩) (by simp)).trans ((Blk.fresh w 190 #[.int .i64 2,.int .i64 a,.int .i64 p,.slice R l c]).cell 0)
  have j3:W2.cell? ⟨w.heap.size,3,none⟩=some (.slice R l c):=(hn_W2.cell (p:=⟨w.heap.size,3,none⟩) (by simp)).trans ((Blk.fresh w 190 #[.int .i64 2,.int .i64 a,.int .i64 p,.slice R l c]).cell 3)
  go_wp2;go_ret;exact⟨b_e e.o.symm,((New.refl w).alloc _).next hn_W2⟩
 ·have e:Hid (cd=0):=by show _=_;rw[hF.o,if_neg (by unfold Q_;omega),if_neg (by omega)]
  go_enter func132,ntmps132;go_wp2;go_ret;exact⟨b_e e.o.symm,(New.refl w).alloc _⟩
 ·have e:Hid (cd=0):=by show _=_;rw[hF.o,if_neg (by unfold Q_;omega),if_neg (by omega)]
  go_enter func132,ntmps132;go_wp2;go_ret;exact⟨b_e e.o.symm,(New.refl w).alloc _⟩
 ·have q1:=t_.keep hj0
  have q2:=t_.keep hc0
  by_cases h1:a<0
  ·have e:Hid (cd=2):=by show _=_;rw[hF.o,if_pos ⟨by unfold Q_;omega,.inl h1⟩]
   go_enter func132,ntmps132;go_wp2_with fail
   (refine d_ (by kernel_rfl) (by kernel_rfl) ?_;(repeat (first|go_big_quiet_step (fail)|quiet_step (fail)));refine wpQuiet_nil ?_;rintro W2 ⟨⟨_,hn_W2⟩,rfl⟩)
   go_wp2;go_ret;exact⟨b_e e.o.symm,((New.refl w).alloc _).next hn_W2⟩
  by_cases h2:(n:Int)<=a
  ·have e:Hid (cd=2):=by show _=_;rw[hF.o,if_pos ⟨by unfold Q_;omega,.inr h2⟩]
   go_enter func132,ntmps132;go_wp2_with fail
   (refine d_ (by kernel_rfl) (by kernel_rfl) ?_;(repeat (first|go_big_quiet_step (fail)|quiet_step (fail)));refine wpQuiet_nil ?_;rintro W2 ⟨⟨_,hn_W2⟩,rfl⟩)
   go_wp2;go_ret;exact⟨b_e e.o.symm,((New.refl w).alloc _).next hn_W2⟩
  have e:Hid (cd=0):=by show _=_;rw[hF.o,if_neg (by omega),if_neg (by omega)]
  go_enter func132,ntmps132;go_wp2_with fail
  (refine d_ (by kernel_rfl) (by kernel_rfl) ?_;(repeat (first|go_big_quiet_step (fail)|quiet_step (fail)));refine wpQuiet_nil ?_;rintro W2 ⟨⟨_,hn_W2⟩,rfl⟩)
  have j0:W2.cell? ⟨w.heap.size,0,none⟩=some (.int .i64 5):=(hn_W2.cell (p:=⟨w.heap.size,0,none⟩) (by simp)).trans ((Blk.fresh w 190 #[.int .i64 5,.int .i64 a,.int .i64 p,.slice R l c]).cell 0)
  have j3:W2.cell? ⟨w.heap.size,3,none⟩=some (.slice R l c):=(hn_W2.cell (p:=⟨w.heap.size,3,none⟩) (by simp)).trans ((Blk.fresh w 190 #[.int .i64 5,.int .i64 a,.int .i64 p,.slice R l c]).cell 3)
  go_wp2;go_ret;exact⟨b_e e.o.symm,((New.refl w).alloc _).next hn_W2⟩
 ·have q1:=t_.keep hj0
  have q2:=t_.keep hc0
  by_cases h1:a<0
  ·have e:Hid (cd=2):=by show _=_;rw[hF.o,if_pos ⟨by unfold Q_;omega,.inl h1⟩]
   go_enter func132,ntmps132;go_wp2_with fail
   (refine d_ (by kernel_rfl) (by kernel_rfl) ?_;(repeat (first|go_big_quiet_step (fail)|quiet_step (fail)));refine wpQuiet_nil ?_;rintro W2 ⟨⟨_,hn_W2⟩,rfl⟩)
   go_wp2;go_ret;exact⟨b_e e.o.symm,((New.refl w).alloc _).next hn_W2⟩
  by_cases h2:(n:Int)<=a
  ·have e:Hid (cd=2):=by show _=_;rw[hF.o,if_pos ⟨by unfold Q_;omega,.inr h2⟩]
   go_enter func132,ntmps132;go_wp2_with fail
   (refine d_ (by kernel_rfl) (by kernel_rfl) ?_;(repeat (first|go_big_quiet_step (fail)|quiet_step (fail)));refine wpQuiet_nil ?_;rintro W2 ⟨⟨_,hn_W2⟩,rfl⟩)
   go_wp2;go_ret;exact⟨b_e e.o.symm,((New.refl w).alloc _).next hn_W2⟩
  by_cases h3:l=128
  ·have e:Hid (cd=0):=by show _=_;rw[hF.o,if_neg (by omega),if_neg (by omega)]
   have hl3:((l:Int) != 128)=false:=by rw[h3];rfl
   clear h3;go_enter func132,ntmps132;go_wp2_with fail
   (refine d_ (by kernel_rfl) (by kernel_rfl) ?_;(repeat (first|go_big_quiet_step (fail)|quiet_step (fail)));refine wpQuiet_nil ?_;rintro W2 ⟨⟨_,hn_W2⟩,rfl⟩)
   have j0:W2.cell? ⟨w.heap.size,0,none⟩=some (.int .i64 6):=(hn_W2.cell (p:=⟨w.heap.size,0,none⟩) (by simp)).trans ((Blk.fresh w 190 #[.int .i64 6,.int .i64 a,.int .i64 p,.slice R l c]).cell 0)
   have j3:W2.cell? ⟨w.heap.size,3,none⟩=some (.slice R l c):=(hn_W2.cell (p:=⟨w.heap.size,3,none⟩) (by simp)).trans ((Blk.fresh w 190 #[.int .i64 6,.int .i64 a,.int .i64 p,.slice R l c]).cell 3)
   go_wp2;go_ret;exact⟨b_e e.o.symm,((New.refl w).alloc _).next hn_W2⟩
  ·have e:Hid (cd=1):=by show _=_;rw[hF.o,if_neg (by omega),if_pos ⟨by omega,h3⟩]
   have hl3:((l:Int) != 128)=true:=by simp;omega
   go_enter func132,ntmps132;go_wp2_with fail
   (refine d_ (by kernel_rfl) (by kernel_rfl) ?_;(repeat (first|go_big_quiet_step (fail)|quiet_step (fail)));refine wpQuiet_nil ?_;rintro W2 ⟨⟨_,hn_W2⟩,rfl⟩)
   have j0:W2.cell? ⟨w.heap.size,0,none⟩=some (.int .i64 6):=(hn_W2.cell (p:=⟨w.heap.size,0,none⟩) (by simp)).trans ((Blk.fresh w 190 #[.int .i64 6,.int .i64 a,.int .i64 p,.slice R l c]).cell 0)
   have j3:W2.cell? ⟨w.heap.size,3,none⟩=some (.slice R l c):=(hn_W2.cell (p:=⟨w.heap.size,3,none⟩) (by simp)).trans ((Blk.fresh w 190 #[.int .i64 6,.int .i64 a,.int .i64 p,.slice R l c]).cell 3)
   go_wp2;go_ret;exact⟨b_e e.o.symm,((New.refl w).alloc _).next hn_W2⟩
 ·have e:Hid (cd=0):=by show _=_;rw[hF.o,if_neg (by unfold Q_;omega),if_neg (by omega)]
  go_enter func132,ntmps132;go_wp2;go_ret;exact⟨b_e e.o.symm,(New.refl w).alloc _⟩
end drive
namespace each2
open kit
structure Held(Kx:Nat->Prop)(lo hi:Nat)(W W':World):Prop where
 size:W.heap.size<=W'.heap.size
 same:∀k,(Kx k\/lo<=k/\k<hi)->k<W.heap.size->W'.heap[k]?=W.heap[k]?
section
variable {Kx:Nat->Prop}{lo hi:Nat}
theorem Held.refl(W:World):Held Kx lo hi W W:=⟨Nat.le_refl _,fun _ _ _=>rfl⟩
theorem Held.trans{A B C:World}(h:Held Kx lo hi A B)(k:Held Kx lo hi B C):Held Kx lo hi A C:=
 ⟨Nat.le_trans h.size k.size,fun i h1 h3=>(k.same i h1 (Nat.lt_of_lt_of_le h3 h.size)).trans (h.same i h1 h3)⟩
theorem Held.less{lo' hi':Nat}{A B:World}(h:Held Kx lo hi A B)(h1:lo<=lo')(h2:hi'<=hi):Held Kx lo' hi' A B:=⟨h.size,fun i a c=>h.same i (a.elim .inl fun a=>.inr (by omega)) c⟩
theorem Held.grown{A B:World}{row:Option Nat}(h:A.grownBy B row)(hr:∀r,row=some r->¬Kx r/\(r<lo\/hi<=r)):Held Kx lo hi A B:=
 ⟨h.size,fun i h1 h3=>h.block i h3 fun e=>by have:=hr i e.symm;rcases h1 with h1|h1;exact this.1 h1;omega⟩
theorem Held.below{B:Nat}{X Y:World}(h:Below B X Y)(hK:∀k,Kx k->k<B)(hB:hi<=B):Held Kx lo hi X Y:=
 ⟨h.size,fun i h1 h3=>h.block i (h1.elim (hK i) fun h=>by omega)⟩
theorem Held.at{A B:World}(h:Held Kx lo hi A B){k:Nat}{o:Obj}(h1:Kx k\/lo<=k/\k<hi)(hk:A.heap[k]?=some o):B.heap[k]?=some o:=
 (h.same k h1 (Array.getElem?_eq_some_iff.1 hk).1).trans hk
end
def f_b{β:Type}(lo hi:Nat)(J:β->World->Prop):Prop:=
 ∀s W W' row,J s W->W.grownBy W' row->(∀r,row=some r->lo<=r/\r<hi)->J s W'
theorem f_b.alloc{β:Type}{lo hi:Nat}{J:β->World->Prop}(h:f_b lo hi J){s:β}{W:World}(o:Obj)(hs:J s W):J s (W.alloc o):=
 h s W _ none hs (World.grownBy_alloc W o none) (fun r e=>by cases e)
def n_a{α:Type}(n:Nat)(P:Program)(g:Nat)(lb:Array Value)(m:Nat)(Kx:Nat->Prop)(S:List α)(arg:Nat->α->Array Value->World->Prop)(w:World):Prop:=
 ∀(l:Nat) (J Jx:List α->World->Prop) (W:World),Below w.heap.size w W->f_b W.heap.size (W.heap.size+m) J->f_b W.heap.size (W.heap.size+m) Jx ->
  (∀pre x v W1,J pre W1->pre++[x] <+: S->arg (W.heap.size+m) x v W1->W.heap.size+m<=W1.heap.size->YieldAt Fence.wide n P l v W1 fun e W'=>
   (e=.returned (.bool true)/\J (pre++[x]) W'/\Held Kx W.heap.size (W.heap.size+m) W1 W')\/(e=.returned (.bool false)/\Jx (pre++[x]) W')) ->
  J [] W ->
  CallsIn Fence.wide n P g (#[.func (.yield l) #[] #[]]++lb) W fun e W'=>(∃v,e=.returned v)/\(J S W'\/∃pre,pre <+: S/\Jx pre W')
def q_a{α:Type}(Kx:Nat->Prop)(lo hi:Nat)(I:List α->World->Prop)(Ix:Code->List α->World->Prop)(xs:List α)(W:World):Exit->Act->World->Prop
 | .normal,_,W'=>Held Kx lo hi W W'/\I xs W'
 | .ret,_,W'=>Held Kx lo hi W W'/\Ix .ret xs W'
 | .exit id,_,W'=>Held Kx lo hi W W'/\Ix (.exit id) xs W'
 | .goto t,_,W'=>Held Kx lo hi W W'/\Ix (.goto t) xs W'
 | .panic _,_,_=>False
 | .outgrown,_,_=>False
theorem k_o:Fence.wide.round=none:=rfl
theorem a_Y:Fence.wide.depth=none:=rfl
theorem d_7{P:Program}{n:Nat}{α:Type}{g:Operand}{ps:Array Tmp}{assign body:Code}{Q:Exit->Act->World->Prop}{a:Act}{w:World}{gf:Nat}{lb:Array Value}
  (hg:a.eval g=.func (.func gf) #[] lb) (eg:∀args w,(callFunc gf args).run P w=.ok (.enter gf args) w)
  {m:Nat} {Kx:Nat->Prop} {S:List α} {arg:Nat->α->Array Value->World->Prop} {w0:World} (hseq:n_a n P gf lb m Kx S arg w0) (hb0:Below w0.heap.size w0 w) (hKx:∀k,Kx k->k<w.heap.size)
  (hargs:∀B x v W,arg B x v W->v.size=ps.size)
  (I:List α->World->Prop) (Ix:Code->List α->World->Prop) (hI:f_b w.heap.size (w.heap.size+2+m) I) (hIx:∀c,f_b w.heap.size (w.heap.size+2+m) (Ix c)) (h0:I [] w)
  (Ax:α->Act->World->Prop) (hAx:∀x a' W W' row,Ax x a' W->W.grownBy W' row->(∀r,row=some r->w.heap.size<=r/\r<w.heap.size+2+m)->Ax x a' W')
  (hassign:∀(l:Nat) (pre:List α) (x:α) (v:Array Value) (W:World),w.heap.size+2+m<=W.heap.size->I pre W->arg (w.heap.size+2+m) x v W->∀(K:Act->World->Prop),(∀a' W',Ax x a' W'->I pre W'->New W W'->K a' W') ->
   assign.wpIn (Fence.wide.inRound l) n P (Exit.then K (fun _ _ _=>False)) {tmps:=(ps.zip v).foldl (fun t (p,v)=>t.setIfInBounds p v) a.tmps,defers:=[]} W)
  (hbody:∀(l:Nat) (pre:List α) (x:α) (a':Act) (W:World),w.heap.size+2+m<=W.heap.size->I pre W->pre++[x] <+: S->Ax x a' W ->
   body.wpIn (Fence.wide.inRound l) n P (q_a Kx w.heap.size (w.heap.size+2+m) I Ix (pre++[x]) W) a' W)
  (hdone:∀(W:World),I S W->W.heap[w.heap.size]?=some (.deferred (some []))->Q .normal {a with defers:={target:=.collected w.heap.size,args:=#[]}::a.defers} W)
  (hstop:∀(c:Code) (pre:List α) (W:World),pre <+: S->Ix c pre W->W.heap[w.heap.size]?=some (.deferred (some []))->c.wpIn Fence.wide n P Q {a with defers:={target:=.collected w.heap.size,args:=#[]}::a.defers} W) :
  (Code.rangeFunc g ps assign body).wpIn Fence.wide n P Q a w:=by
 refine wpIn_rangeFunc fun fn hfn=>?_;rw[k_o]
 let rec0:LoopState->Option Code->Loop:=fun st pe=>{state:=st,pending:=pe,fn:=fn,tmps:=a.tmps,params:=ps,assign:=assign,body:=body,defers:=w.heap.size}
 obtain⟨rc,hrc⟩:∃rc,rc=rec0:=⟨_,rfl⟩;have rstate:∀st pe,(rc st pe).state=st:=fun st pe=>by rw[hrc]
 have rpend:∀st pe,(rc st pe).pending=pe:=fun st pe=>by rw[hrc]
 have rnext:∀st pe st' pe',({rc st pe with state:=st',pending:=pe'}:Loop)=rc st' pe':=fun st pe st' pe'=>by rw[hrc]
 have rbusy:∀pe,({rc .ready pe with state:=.busy}:Loop)=rc .busy pe:=fun pe=>by rw[hrc]
 obtain⟨W1,hW1⟩:∃W1,W1=(w.alloc (.deferred (some []))).alloc (.loop (rc .ready none)):=⟨_,rfl⟩;have hs1:W1.heap.size=w.heap.size+2:=by rw[hW1];simp
 have hL:W1.heap[w.heap.size+1]?=some (.loop (rc .ready none)):=by
  rw[hW1];have:=World.alloc_heap_new (w.alloc (.deferred (some []))) (.loop (rc .ready none));rwa [World.size_alloc]at this
 have hM:W1.heap[w.heap.size]?=some (.deferred (some [])):=by
  rw[hW1];exact(Below.heap_alloc _ _ _ (by simp)).trans (World.alloc_heap_new w _)
 have hI1:I [] W1:=by rw[hW1];exact hI.alloc _ (hI.alloc _ h0)
 have hbel:Below w0.heap.size w0 W1:=by
  rw[hW1];exact hb0.trans ((((Below.refl _ w).alloc (Nat.le_refl _) _).alloc (by simp) _).mono hb0.size)
 have hkeep:∀{A B:World} {row:Option Nat} {k:Nat} {o:Obj},A.grownBy B row->(∀r,row=some r->W1.heap.size<=r/\r<W1.heap.size+m)->k<w.heap.size+2->A.heap[k]?=some o->B.heap[k]?=some o:=fun hg' hr hk ho=>
  (hg'.block _ (Array.getElem?_eq_some_iff.1 ho).1 fun e=>by have:=(hr _ e.symm).1;omega).trans ho
 refine⟨w.heap.size+1,[{target:=.collected w.heap.size,args:=#[]}],W1,{target:=.fn (.func gf) lb,args:=#[.func (.yield (w.heap.size+1)) #[] #[]]},W1,gf,
  #[.func (.yield (w.heap.size+1)) #[] #[]]++lb,W1,?_,?_,?_,?_,?_,?_⟩
 ·rw[hW1,hrc];exact run_enterLoop_outer _ _ _ _ _
 ·simp only[resolve,hg]
  simp[go_sem]
 ·intro f' hf';trivial
 ·simp[invoke,go_sem,eg]
 ·intro h;simp[a_Y]at h
 ·refine callsIn_wide.2 (callsIn_wide.1 ((hseq (w.heap.size+1)
   (fun pre W=>I pre W/\W.heap[w.heap.size+1]?=some (.loop (rc .ready none))/\W.heap[w.heap.size]?=some (.deferred (some [])))
   (fun pre W=>∃c,Ix c pre W/\W.heap[w.heap.size+1]?=some (.loop (rc .done (some c)))/\W.heap[w.heap.size]?=some (.deferred (some [])))
   W1 hbel
   (fun s A B row hs hg' hr=>⟨hI s A B row hs.1 hg' (fun r e=>by have:=hr r e;omega),hkeep hg' hr (by omega) hs.2.1,hkeep hg' hr (by omega) hs.2.2⟩)
   (fun s A B row hs hg' hr=>by
    obtain⟨c,hc,hl,hk⟩:=hs;exact⟨c,hIx c s A B row hc hg' (fun r e=>by have:=hr r e;omega),hkeep hg' hr (by omega) hl,hkeep hg' hr (by omega) hk⟩)
   ?_ ⟨hI1,hL,hM⟩).mono ?_))
  ·rintro pre x v W ⟨hi,hl,hk⟩ hpre ha hsz
   have hlt:w.heap.size+1<W.heap.size:=(Array.getElem?_eq_some_iff.1 hl).1;have hy:=run_yield (P:=P) (args:=v) hl (by rw[hrc];exact hargs _ _ _ _ ha)
   refine⟨fn,((ps.zip v).foldl (fun t (p,v)=>t.setIfInBounds p v) a.tmps),assign,body,by rw[hy,hrc],?_⟩
   refine roundIn_of_wpIn hfn (hassign _ pre x v W (by omega) hi (by rw[hs1]at ha;exact ha) _ fun a' W0 hax hi0 hn0=>⟨_,run_beginRound ((hn0.block _ hlt).trans hl) (rstate _ _),?_⟩)
   rw[rbusy];obtain⟨W2,hW2⟩:∃W2,W2=W0.putObj (w.heap.size+1) (.loop (rc .busy none)):=⟨_,rfl⟩;have hl2:W2.heap[w.heap.size+1]?=some (.loop (rc .busy none)):=by rw[hW2];exact World.putObj_heap_same (Nat.lt_of_lt_of_le hlt hn0.size)
   have hk2:W2.heap[w.heap.size]?=some (.deferred (some [])):=by rw[hW2];exact(World.putObj_heap_other (by omega)).trans ((hn0.block _ (by omega)).trans hk)
   have hg2:W0.grownBy W2 (some (w.heap.size+1)):=by rw[hW2];exact grownBy_putObj' _ _ _
   have hi2:I pre W2:=hI _ _ _ _ hi0 hg2 (fun r e=>by cases e;omega)
   have ha2:Ax x a' W2:=hAx _ _ _ _ _ hax hg2 (fun r e=>by cases e;omega)
   have hz2:w.heap.size+2+m<=W2.heap.size:=by have:=hg2.size;have:=hn0.size;omega
   have hh0:∀lo' hi',Held Kx lo' hi' W W0:=fun lo' hi'=>⟨hn0.size,fun k _ hk=>hn0.block k hk⟩;rw[<-hW2];refine wpIn_mono (hbody _ pre x a' W2 hz2 hi2 hpre ha2) ?_;have fin:∀(jump:Option Code) (W3:World),Held Kx w.heap.size (w.heap.size+2+m) W2 W3 ->
     (Instr.endRound (w.heap.size+1) jump).run P W3=.ok (.bool jump.isNone) (W3.putObj (w.heap.size+1) (.loop (rc (if jump.isNone then .ready else .done) jump))) /\
     W3.grownBy (W3.putObj (w.heap.size+1) (.loop (rc (if jump.isNone then .ready else .done) jump))) (some (w.heap.size+1)) /\
     (W3.putObj (w.heap.size+1) (.loop (rc (if jump.isNone then .ready else .done) jump))).heap[w.heap.size+1]?=some (.loop (rc (if jump.isNone then .ready else .done) jump)) /\
     (W3.putObj (w.heap.size+1) (.loop (rc (if jump.isNone then .ready else .done) jump))).heap[w.heap.size]?=some (.deferred (some [])):=fun jump W3 h3=>by
    have hl3:=h3.at (.inr (by omega)) hl2
    have hk3:=h3.at (.inr (by omega)) hk2
    have hr:=run_endRound (P:=P) jump hl3;rw[rnext]at hr;exact⟨hr,grownBy_putObj' _ _ _,World.putObj_heap_same (Array.getElem?_eq_some_iff.1 hl3).1,(World.putObj_heap_other (by omega)).trans hk3⟩
   have hin:∀r,some (w.heap.size+1)=some r->w.heap.size<=r/\r<w.heap.size+2+m:=fun r e=>by cases e;omega
   rintro e a3 W3 hp;cases e with
   |normal=>
    obtain⟨h3,hi3⟩:=hp;obtain⟨hr,hg3,hl4,hk4⟩:=fin none W3 h3;refine⟨_,_,hr,.inl ⟨rfl,⟨hI _ _ _ _ hi3 hg3 hin,hl4,hk4⟩,?_⟩⟩;rw[hs1];exact(((hh0 _ _).trans (Held.grown hg2 fun r e=>by cases e;exact⟨fun h=>by have:=hKx _ h;omega,by omega⟩)).trans (h3.less (by omega) (by omega))).trans (Held.grown hg3 fun r e=>by cases e;exact⟨fun h=>by have:=hKx _ h;omega,by omega⟩)
   |ret=>
    obtain⟨h3,hi3⟩:=hp;obtain⟨hr,hg3,hl4,hk4⟩:=fin (some .ret) W3 h3;exact⟨_,_,hr,.inr ⟨rfl,.ret,hIx _ _ _ _ _ hi3 hg3 hin,hl4,hk4⟩⟩
   |exit id=>
    obtain⟨h3,hi3⟩:=hp;obtain⟨hr,hg3,hl4,hk4⟩:=fin (some (.exit id)) W3 h3;exact⟨_,_,hr,.inr ⟨rfl,.exit id,hIx _ _ _ _ _ hi3 hg3 hin,hl4,hk4⟩⟩
   |goto t=>
    obtain⟨h3,hi3⟩:=hp;obtain⟨hr,hg3,hl4,hk4⟩:=fin (some (.goto t)) W3 h3;exact⟨_,_,hr,.inr ⟨rfl,.goto t,hIx _ _ _ _ _ hi3 hg3 hin,hl4,hk4⟩⟩
   |panic ch=>exact hp.elim
   |outgrown=>exact hp.elim
  ·have hin:∀r,some (w.heap.size+1)=some r->w.heap.size<=r/\r<w.heap.size+2+m:=fun r e=>by cases e;omega
   rintro e W2 ⟨⟨v,rfl⟩,(⟨hi,hl,hk⟩|⟨pre,hpre,c,hi,hl,hk⟩)⟩
   ·have hr:=run_endLoop (P:=P) hl (by rw[rstate];simp)
    rw[rpend]at hr;exact⟨none,_,hr,hdone _ (hI _ _ _ _ hi (grownBy_putObj' _ _ _) hin) ((World.putObj_heap_other (by omega)).trans hk)⟩
   ·have hr:=run_endLoop (P:=P) hl (by rw[rstate];simp)
    rw[rpend]at hr;exact⟨some c,_,hr,hstop c pre _ hpre (hIx _ _ _ _ _ hi (grownBy_putObj' _ _ _) hin) ((World.putObj_heap_other (by omega)).trans hk)⟩
end each2
namespace drive
set_option maxRecDepth 100000
open Go.ChangeShapes Go.WideShapes Go.ChangeAt kit Go.Deep
theorem r_F:(prog.info? 249).map (fun i=>(i.zero,i.size,i.bytes))=some (some (.agg #[.slice none 0 0,.bool false]),2,32):=by kernel_rfl
theorem k_W(n:Nat)(hn:n<=512)(w:World):(Instr.makeSlice 92 (.int .i64 (n:Int)) (.int .i64 (n:Int))).run prog w=.ok (.slice (some ⟨w.heap.size,0,none⟩) n n) (w.alloc (.cells (madeCells #[.slice none 0 0,.bool false] (n*2)) 249)):=by
 obtain⟨i0,hi0,hz0,hz1,hz2⟩:=info_parts r_F;have h:=run_makeSlice (P:=prog) (w:=w) 92 249 i0 _ underlying92 hi0 hz0 .i64 .i64 n n (by omega) (Int.le_refl _) (by rw[hz1];simp;omega) (by rw[hz2];omega) (by omega)
 rw[hz1]at h;simpa [Value.cells]using h
theorem s_k(P:Nat->Prop)(n:Nat)(hn:n<=512)(w:World)(hQ:∀b,w.heap.size<=b->P b):Calls prog 19 #[.int .i64 n] w fun e w'=>e=.returned (.pointer (some ⟨w.heap.size+1,0,none⟩))/\Dr P w.heap.size (w.heap.size+1) w.heap.size n (fun _=>none) (fun _=>false) [] false (fun _=>.slice none 0 0) (.slice none 0 0) (fun _=>.slice none 0 0) w'/\New w w':=by
 have hmk:=k_W n hn w;have hP:=Hd (a_p.made w n);have hfin:Hid (Dr P w.heap.size (w.heap.size+1) w.heap.size n (fun _=>none) (fun _=>false) [] false (fun _=>.slice none 0 0) (.slice none 0 0) (fun _=>.slice none 0 0) ((w.alloc (.cells (madeCells #[.slice none 0 0,.bool false] (n*2)) 249)).alloc (.cells #[.slice (some ⟨w.heap.size,0,none⟩) n n,.slice none 0 0,.bool false] 95))):=by
  refine⟨?_,hP.o.new ((New.refl _).alloc _),fun i hi=>rfl,World.ownsRow_nil _ _ _ _,fun i hi=>absurd hi (Nat.not_lt_zero i),fun i hi=>absurd hi (Nat.not_lt_zero i),by omega,⟨hQ _ (Nat.le_succ _),hQ _ (Nat.le_refl _),g_c,fun _ _=>g_c,fun i hi=>absurd hi (Nat.not_lt_zero i)⟩⟩
  have:=Blk.fresh (w.alloc (.cells (madeCells #[.slice none 0 0,.bool false] (n*2)) 249)) 95 #[.slice (some ⟨w.heap.size,0,none⟩) n n,.slice none 0 0,.bool false];simpa using this
 go_enter func19,ntmps19;go_wp2;go_ret;exact⟨rfl,hfin.o,((New.refl w).alloc _).alloc _⟩
theorem all_any(k:Nat)(w:World):Calls prog 136 #[.int .i64 k] w fun e w'=>e=.returned (.bool true)/\New w w':=by
 go_enter func136,ntmps136;go_wp2;go_ret;exact⟨rfl,New.refl w⟩
theorem s_d(k jb:Nat)(kp:Int)(w:World)(hj:w.cell? ⟨jb,2,none⟩=some (.int .i64 kp))(hk:k<=300):Calls prog 137 #[.int .i64 k,.pointer (some ⟨jb,0,none⟩)] w fun e w'=>e=.returned (.bool (k_8 kp k))/\New w w':=by
 obtain⟨s,hs⟩:∃s:Nat,Hid (s=k%62):=⟨_,rfl⟩;have hsi:(k:Int)%62=(s:Int):=by rw[hs.o];omega
 have hs0:(0:Int)<=(s:Int):=by omega
 have hs1:(s:Int)<=64:=by have:=hs.o;omega
 have hsn:min s 64=s:=by have:=hs.o;omega
 have h1:=s_i (kp/2 ^ s);have hb:Hid (k_8 kp k=decide (kp/2 ^ s%2=1)):=by show _=_;unfold k_8;rw[hs.o]
 go_enter func137,ntmps137;go_wp2;go_ret;exact⟨b_t (by rw[hb.o];rfl),New.refl w⟩
structure Chg(K:Nat->Prop)(w w':World):Prop where
 os:w'.os=w.os
 tape:w'.tape=w.tape
 output:w'.output=w.output
 size:w.heap.size<=w'.heap.size
 same:∀k,k<w.heap.size->¬K k->w'.heap[k]?=w.heap[k]?
section
variable {K:Nat->Prop}{w w' w'':World}
theorem Chg.refl(w:World):Chg K w w:=⟨rfl,rfl,rfl,Nat.le_refl _,fun _ _ _=>rfl⟩
theorem Chg.trans(h:Chg K w w')(k:Chg K w' w''):Chg K w w'':=
 ⟨k.os.trans h.os,k.tape.trans h.tape,k.output.trans h.output,Nat.le_trans h.size k.size,fun i hi hK=>(k.same i (Nat.lt_of_lt_of_le hi h.size) hK).trans (h.same i hi hK)⟩
theorem Chg.of_new(h:New w w'):Chg K w w':=⟨h.os,h.tape,h.output,h.size,fun i hi _=>h.block i hi⟩
theorem Chg.next(h:Chg K w w')(k:New w' w''):Chg K w w'':=h.trans (Chg.of_new k)
theorem Chg.grown{row:Option Nat}(h:Chg K w w')(hg:w'.grownBy w'' row)(hr:∀r,row=some r->K r\/w.heap.size<=r):Chg K w w'':=
 ⟨hg.os.trans h.os,hg.tape.trans h.tape,hg.output.trans h.output,Nat.le_trans h.size hg.size,fun i hi hK=>(hg.block i (Nat.lt_of_lt_of_le hi h.size) fun e=>by rcases hr i e.symm with h1|h1;exact hK h1;omega).trans (h.same i hi hK)⟩
theorem Chg.set(h:Chg K w w'){b k:Nat}(hb:K b\/w.heap.size<=b)(u:Value):Chg K w (w'.setCell ⟨b,k,none⟩ u):=h.grown (k_ w' b k u) fun r e=>by cases e;exact hb
theorem Chg.cell(h:Chg K w w'){a:Addr}{v:Value}(hc:w.cell? a=some v)(hK:¬K a.block):w'.cell? a=some v:=by
 rw[<-hc];simp only[World.cell?,h.same _ (a_ hc) hK]
theorem Chg.weak{K':Nat->Prop}(h:Chg K w w')(hK:∀k,K k->K' k):Chg K' w w':=⟨h.os,h.tape,h.output,h.size,fun i hi hh=>h.same i hi fun x=>hh (hK i x)⟩
end
abbrev KD(d g:Nat):Nat->Prop:=fun k=>k=d\/k=g
set_option maxHeartbeats 2000000 in
theorem f_R(fk:FuncId)(eg:∀args w,(callFunc fk args).run prog w=.ok (.enter fk args) w)(caps:Array Value)(so:Nat->Bool)(P:Nat->Prop)(base d g n m:Nat)(s:DS)(pv:Nat->Value)(wv:Value)(dv:Nat->Value)(w:World)
  (h:Dr P base d g n s.pl s.br s.ws s.dead pv wv dv w) (hn:n<=512) (hm:s.ws.length=m) (hm3:m<=300)
  (hF:∀i w1,i<m->Chg (KD d g) w w1->Calls prog fk (#[.int .i64 i]++caps) w1 fun e w'=>e=.returned (.bool (so i))/\New w1 w') :
  Calls prog 135 #[.pointer (some ⟨d,0,none⟩),.func (.func fk) #[] caps] w fun e w'=>(∃v,e=.returned v)/\(∃pv',Dr P base d g n (a_d so s).pl (a_d so s).br [] s.dead pv' (.slice none 0 0) dv w')/\Chg (KD d g) w w':=by
 have hF1:=Hd hF;obtain⟨wA,wc,rfl,hw1,hw2,hwA,hwc⟩:=h_ h.wo;have hwcH:Hid (∀i,i<m->∀gw,wA=some ⟨gw,0,none⟩->gw<w.heap.size/\w.cell? ⟨gw,i*2,none⟩=some (.int .i64 (s.ws.getD i noP).1)/\w.cell? ⟨gw,i*2+1,none⟩=some (dv i)):=fun i hi gw hgw=>by
  obtain⟨k1,k2⟩:=o_t s.ws dv (by omega:i<s.ws.length)
  obtain⟨g',e1,_,e2⟩:=hwA (by omega)
  rw[hgw]at e1;cases e1;exact⟨e2,hwc gw hgw _ _ k1,hwc gw hgw _ _ k2⟩
 have hneH:Hid (∀gw,wA=some ⟨gw,0,none⟩->¬KD d g gw):=fun gw hgw hk=>by
  obtain⟨_,_,h3,h4⟩:=h.setD (k:=0) (u:=.bool true);obtain⟨_,_,_,h5⟩:=h.setG (k:=0) (u:=.bool true);rw[hgw]at h4 h5;rcases hk with rfl|rfl
  ·exact h4 rfl
  ·exact h5 rfl
 have hwAH:=Hd hwA;have hws:=e_q so s;have hwi:=Hd h.wi;have hH:=Hd h;have c0:=h.bk.cell 1;simp at c0;rw[hm]at c0 hw1 hwAH;have hmH:=Hd hm;have hws:=Hd hws;clear h hF hwA hwc hm;go_enter func135,ntmps135;go_wp2_with fail;go_loopw [11] (fun x wr=>∃(i:Nat) (pv':Nat->Value),x=.int .i64 i/\i<=m/\Hid (Dr P base d g n (M_ so s i).pl (M_ so s i).br s.ws s.dead pv' (.slice wA s.ws.length wc) dv wr)/\Hid (Chg (KD d g) w wr)) (fun x _=>m-(intOf x).toNat);case atStart=>exact⟨0,pv,rfl,by omega,hH,Chg.refl _⟩
 case round=>
  obtain⟨i,pv',rfl,hi,hD,hC⟩:=hrel
  by_cases hlt:i<m
  ·obtain⟨gw,rfl,_⟩:=hwAH.o (by omega)
   obtain⟨hgw,e0,e1⟩:=hwcH.o i hlt gw rfl;have e0':=hC.o.cell e0 (hneH.o gw rfl);have e1':=hC.o.cell e1 (hneH.o gw rfl);obtain⟨q,hq⟩:∃q,Hid (q=s.ws.getD i noP):=⟨_,rfl⟩;have hqn:q.1<n:=by rw[hq.o];exact hwi.o i (by rw[hmH.o];exact hlt)
   have hsd:=hD.o.wd i (by rw[hmH.o];exact hlt)
   have hfd:=Hd (hD.o.ft.v i (by rw[hmH.o];exact hlt))
   rw[<-hq.o]at e0' hsd;obtain⟨q1,q2⟩:=q;obtain⟨sb,sc,hsv,hs1,hs2,hs3⟩:=hsd;rw[hsv]at e1';have hfs:=Hd (fun k hk=>hfd.o k (by rw[hsv];exact hk))
   clear hfd;have hil:(i:Int)<(m:Int):=by omega
   have hsH:Hid (Sd wr (.slice (some ⟨sb,0,none⟩) 128 sc) q2):=⟨sb,sc,rfl,hs1,hs2,hs3⟩;clear e0 e1 hs3;go_wp2_with fail;refine(hF1.o i _ hlt (hC.o.next ((New.refl wr).alloc _))).mono ?_;rintro e w3 ⟨rfl,hn3⟩;have hn3':New wr w3:=New.of_alloc hn3;have hD3:=Hd (hD.o.new hn3');have hC3:=Hd (hC.o.next hn3');cases hb:so i with
   |false=>
    have hx:Hid (M_ so s (i+1)=M_ so s i):=by show _=_;rw[M_,if_neg (by rw[hb];simp)]
    go_wp2;go_roundw;case rel=>exact⟨i+1,pv',by go_num,by omega,by rw[hx.o];exact hD3,hC3⟩
    case measure=>simp[intOf];omega
   |true=>
    have hx:Hid (M_ so s (i+1)=n_r (M_ so s i) (q1,q2)):=by show _=_;rw[M_,if_pos hb,<-hq.o]
    have k0:=hD3.o.bk.cell 0;simp at k0;have hpb:Blk w3 wr.heap.size 245 #[.int .i64 q1,.slice (some ⟨sb,0,none⟩) 128 sc]:=(Blk.fresh wr _ _).new hn3;have k1:=hpb.cell 0;have k2:=hpb.cell 1;simp at k1 k2;obtain⟨m0,m1⟩:=hD3.o.pt.cell hqn;have f0:=hD3.o.pt.frozen (q1*2);have f1:=hD3.o.pt.frozen (q1*2+1);have hq0:(0:Int)<=(q1:Int):=by omega
    have hq1:(q1:Int)<(n:Int):=by omega
    have hfin:=Hd (hD3.o.put hqn (hsH.o.new hn3') hfs.o);have hCf:Hid (Chg (KD d g) w ((w3.setCell ⟨g,q1*2,none⟩ (.slice (some ⟨sb,0,none⟩) 128 sc)).setCell ⟨g,q1*2+1,none⟩ (.bool false))):=(hC3.o.set (.inl (.inr rfl)) _).set (.inl (.inr rfl)) _;clear hpb;go_wp2_with fail;go_region
    all_goals go_wp2
    go_roundw;case rel=>exact⟨i+1,_,by go_num,by omega,by rw[hx.o];exact hfin.o.new (New.refl _).drew,hCf.o.next (New.refl _).drew⟩
    case measure=>simp[intOf];omega
  ·have him:i=m:=by omega
   subst him;have k1:=hD.o.bk.cell 1;have k2:=hD.o.bk.frozen 1;simp at k1;have hfin:=Hd (hD.o.idle);have hCf:Hid (Chg (KD d g) w (wr.setCell ⟨d,1,none⟩ (.slice none 0 0))):=hC.o.set (.inl (.inl rfl)) _;have hdd:Hid ((M_ so s i).pl=(a_d so s).pl/\(M_ so s i).br=(a_d so s).br):=by
    unfold a_d;rw[hmH.o];exact⟨rfl,rfl⟩
   rw[hdd.o.1,hdd.o.2]at hfin;go_wp2;exact Great.bodyPost_end0 rfl (by rfl) ⟨⟨_,rfl⟩,⟨_,hfin.o⟩,hCf.o⟩
open each2
attribute [local go_sem] Oper.semAt_some
def c_N(m r:Nat):List Nat:=((List.range m).drop r).reverse
theorem n_x(m:Nat):c_N m m=[]:=by
 unfold c_N;rw[List.drop_of_length_le (by simp)]
 rfl
theorem d_b{m r:Nat}(h:r<m):c_N m r=c_N m (r+1)++[r]:=by
 unfold c_N;rw[List.drop_eq_getElem_cons (by simpa using h),List.reverse_cons]
 simp
theorem n_w(m:Nat):c_N m 0=(List.range m).reverse:=by unfold c_N;simp
theorem c_M(m r:Nat):c_N m r <+: (List.range m).reverse:=by
 unfold c_N;rw[List.reverse_prefix];exact List.drop_suffix _ _
def u_6(ws:List (Nat×(Nat->Nat)))(dv:Nat->Value)(B i:Nat)(vs:Array Value)(W:World):Prop:=i<ws.length/\vs=#[.int .i64 i,.agg #[.int .i64 (ws.getD i noP).1,dv i]]
theorem yieldAny{m m':Nat}{P:Program}{l:Nat}{args:Array Value}{W:World}{R:Ending->World->Prop}(h:YieldAt Fence.wide m P l args W R):YieldAt Fence.wide m' P l args W R:=by
 obtain⟨fn,tmps,assign,body,hy,hR⟩:=h;exact⟨fn,tmps,assign,body,hy,hR.1,fun c cs _=>hR.2 c cs (fun d h=>by cases h)⟩
abbrev KB(sb:Nat)(wv:Value):Nat->Prop:=fun k=>k=sb\/wv.ownBlock=some k
set_option maxHeartbeats 2000000 in
theorem l_w{nn:Nat}(ws:List (Nat×(Nat->Nat)))(dv:Nat->Value)(base sb m:Nat)(wv:Value)(w:World)(hm:ws.length=m)(hm3:m<=300)(hown:w.ownsRow base 245 2 wv m (wsL ws dv))(hsb:Boxed w sb 93 wv)(hone:∀i,i<m->(dv i).oneCell'=true) :
  n_a nn prog 217 #[.pointer (some ⟨sb,0,none⟩)] 0 (KB sb wv) ((List.range m).reverse) (u_6 ws dv) w:=by
 intro l J Jx W hW hJ hJx hY h0;have hdd:∀k:Nat,(Fence.wide.depth.isSome=true->1<=k):=fun k h=>by cases h
 have hsbW:Boxed W sb 93 wv:=(hW.block sb hsb.lt).trans hsb;obtain⟨wA,wc,rfl,hw1,hw2,hwA,hwc⟩:=h_ hown;have hwcH:Hid (∀i,i<m->∃gw,wA=some ⟨gw,0,none⟩/\gw<w.heap.size/\w.cell? ⟨gw,i*2,none⟩=some (.int .i64 (ws.getD i noP).1)/\w.cell? ⟨gw,i*2+1,none⟩=some (dv i)):=fun i hi=>by
  obtain⟨k1,k2⟩:=o_t ws dv (by omega:i<ws.length)
  obtain⟨gw,e1,_,e2⟩:=hwA (by omega)
  exact⟨gw,e1,e2,hwc gw e1 _ _ k1,hwc gw e1 _ _ k2⟩
 have hKs:Hid (∀(b:Nat) (X Y:World),(b=sb\/wA=some ⟨b,0,none⟩)->b<X.heap.size->Held (KB sb (.slice wA m wc)) W.heap.size W.heap.size X Y->Y.heap[b]?=X.heap[b]?):=fun b X Y hb hl hh=>hh.same b (.inl (by
  rcases hb with rfl|rfl
  ·exact .inl rfl
  ·exact .inr rfl)) hl
 have c0:=hsbW.cell;have hYH:=Hd hY;have hJH:=Hd h0;have hWH:=Hd hW;have hoH:=Hd hone;have hbx:=Hd hsbW;clear hown hY h0 hW hwA hwc hone hsbW;refine callsIn_of_wp func217 rfl trivial ?_ rfl;simp only[ntmps217,List.size_toArray,List.length_cons,List.length_nil,Nat.reduceAdd,Nat.reduceSub,Array.replicate_succ,Array.replicate_zero,List.push_toArray,List.append_toArray,List.nil_append,List.cons_append];gi_wp2_with fail;gi_loopw [3] (fun x wr=>∃r:Nat,x=.int .i64 ((r:Int)-1)/\r<=m/\Hid (J (c_N m r) wr)/\Hid (Held (KB sb (.slice wA m wc)) W.heap.size W.heap.size W wr)) (fun x _=>(intOf x+1).toNat);case atStart=>exact⟨m,rfl,Nat.le_refl _,by show J _ _;rw[n_x];exact hJH.o,Held.refl _⟩
 case round=>
  obtain⟨r,rfl,hr,hJr,hHr⟩:=hrel
  by_cases h1:1<=r
  ·obtain⟨i,rfl⟩:∃i,r=i+1:=⟨r-1,by omega⟩
   have him:i<m:=by omega
   obtain⟨gw,rfl,hgw,e0,e1⟩:=hwcH.o i him;have hgW:gw<W.heap.size:=Nat.lt_of_lt_of_le hgw hWH.o.size;have d0:wr.cell? ⟨sb,0,none⟩=some (.slice (some ⟨gw,0,none⟩) m wc):=Boxed.cell (t:=93) ((hKs.o sb W wr (.inl rfl) hbx.o.lt hHr.o).trans hbx.o);have hcell:∀{k:Nat} {v:Value},w.cell? ⟨gw,k,none⟩=some v->wr.cell? ⟨gw,k,none⟩=some v:=fun {k v} hc=>by
    have h2:=(hWH.o.cell (p:=⟨gw,k,none⟩) hgw).trans hc;rw[<-h2];simp only[World.cell?,hKs.o gw W wr (.inr rfl) hgW hHr.o]
   have d1:=hcell e0;have d2:=hcell e1;have hxi:(((i+1:Nat):Int)-1)=(i:Int):=by omega
   have hil:(i:Int)<(m:Int):=by omega
   obtain⟨q,hq⟩:∃q,Hid (q=(ws.getD i noP).1):=⟨_,rfl⟩;rw[<-hq.o]at d1;have hon:=hoH.o i him;obtain⟨fn,tmps,assign,body,hy,hR⟩:=yieldAny (m':=nn-1) (hYH.o (c_N m (i+1)) i #[.int .i64 i,.agg #[.int .i64 q,dv i]] wr hJr.o (by rw[<-d_b him];exact c_M _ _) (by unfold u_6;rw[hq.o];exact⟨by omega,rfl⟩) (by have:=hHr.o.size;omega))
   rw[hxi];clear e0 e1 hcell;gi_wp2_with fail;refine⟨hdd _,?_⟩;refine hR.mono ?_;clear hR hy;rintro e W2 (⟨rfl,hj,hh⟩|⟨rfl,hx⟩)
   ·rw[<-d_b him]at hj
    have hj2:=Hd hj;have hh2:=Hd (hHr.o.trans hh);clear hj hh d0 d1 d2;gi_wp2_with fail;go_roundw;case rel=>exact⟨i,rfl,by omega,hj2,hh2⟩
    case measure=>simp[intOf]
   ·rw[<-d_b him]at hx
    have hx2:=Hd hx;clear hx d0 d1 d2;gi_wp2_with fail;refine bodyPost_ret (results_none rfl _ _ _) rfl ?_;exact⟨⟨_,rfl⟩,.inr ⟨c_N m i,c_M _ _,hx2.o⟩⟩
  ·have hr0:r=0:=by omega
   subst hr0;have hj2:Hid (J (List.range m).reverse wr):=by rw[<-n_w];exact hJr
   gi_wp2_with fail;go_end0;exact⟨⟨_,rfl⟩,.inl hj2.o⟩
theorem i_V(A:Option Addr)(n c:Nat)(w:World):Calls prog 171 #[.slice A n c] w fun e w'=>e=.returned (.func (.func 217) #[] #[.pointer (some ⟨w.heap.size,0,none⟩)])/\w'=w.alloc (.cells #[.slice A n c] 93):=by
 go_enter func171,ntmps171;go_wp2;go_ret;exact⟨rfl,rfl⟩
end drive
end Go.Proofs.YtojcoaekhiadcaaGreat
