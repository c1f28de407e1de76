/- Lemmas of this claim, put together out of: HM, XA, HN, XB, HO, HP, HQ, HR, HS, NB, NC, ND, ZB, XD, ZC, NE, ZD, ZE. -/
import Derived.Test.YtpeonbaodnmlnaaGreatSA3
import Derived.ArgAppend
import Derived.Deep.Upon
import Derived.Sort.QuietIn
import Derived.Sort.CutIn
set_option linter.unusedSimpArgs false
set_option linter.unusedVariables false
set_option maxRecDepth 100000
set_option maxHeartbeats 16000000
namespace Go.Proofs.YtpeonbaodnmlnaaGreat.Ru
open Go.RowKit
variable{a a0:Act}{listed:Array Bool}{after:Array Edge}{Q:Exit→Act→World→Prop}{bs:List Int}{B i:Nat}{x y:Operand}{ρ:Operand→Value}{g:Option (Nat×Bool)}{dst:Option Tmp}{pos:String}{w w' w0:World}
structure QcE(P:Program)where
 t:TypeId
 kt:TypeId
 et:TypeId
 K:Value→Prop
 im:Nat
 dm:Nat
 D:List (Nat×Nat×J7)
 C:List (Nat×Nat×Nat)
 I:List (Nat×Value×J7)
namespace QcE
open Qfq (getD_put getD_set wpOp_some ready_spec exec_make exec_copy exec_insert lists listed_old)
variable{a a0:Act}{listed:Array Bool}{after:Array Edge}{Q:Exit→Act→World→Prop}{bs:List Int}{B i:Nat}{x y:Operand}{ρ:Operand→Value}{g:Option (Nat×Bool)}{dst:Option Tmp}{pos:String}{w w' w0:World}
variable {P:Program}
def Free(L:QcE P)(s:Nat):Prop:=(∀x∈L.D,x.2.1≠s)∧(∀x∈L.C,x.2.1≠s)∧s≠L.dm
def Map(L:QcE P)(w0:World)(listed:Array Bool)(a:Act)(w:World):Prop:=
 ∃B f,a.tmps.getD L.dm undef= .map (some B)∧w0.heap.size≤B∧ZE L.K w B f∧
  (∀x∈L.I,listed.getD x.1 false=true→ ∃v,f x.2.1=some v∧x.2.2 w v)∧
  (∀k v,f k=some v→ ∃x∈L.I,listed.getD x.1 false=true∧x.2.1=k)
structure Inv(L:QcE P)(a0:Act)(w0:World)(listed:Array Bool)(a:Act)(w:World):Prop where
 defers:a.defers=a0.defers
 size:a.tmps.size=a0.tmps.size
 ext:Below w0.heap.size w0 w
 free: ∀s,L.Free s→a.tmps.getD s undef=a0.tmps.getD s undef
 vals: ∀x∈L.D,listed.getD x.1 false=true→x.2.2 w (a.tmps.getD x.2.1 undef)
 cops: ∀x∈L.C,listed.getD x.1 false=true→a.tmps.getD x.2.1 undef=a.tmps.getD L.dm undef
 map:listed.getD L.im false=true→L.Map w0 listed a w
 later:(∀x∈L.C,listed.getD x.1 false=true→listed.getD L.im false=true)∧ ∀x∈L.I,listed.getD x.1 false=true→listed.getD L.im false=true
structure Fits(L:QcE P)(ops:Array Oper)(Q:Exit→Act→World→Prop)(a0:Act)(w0:World):Prop where
 law:Qfp P L.kt L.K
 ty:P.underlying L.t=some (.map L.kt L.et)
 cover: ∀i,i<ops.size→i=L.im∨(∃x∈L.D,x.1=i)∨(∃x∈L.C,x.1=i)∨(∃x∈L.I,x.1=i)
 acyclic: ∀(i:Nat) (o:Oper),ops[i]?=some o→ ∀e∈o.after,e.on<i
 slots:(∀x∈L.D,x.2.1<a0.tmps.size∧x.2.1≠L.dm∧ ∀y∈L.C,y.2.1≠x.2.1)∧(∀x∈L.C,x.2.1<a0.tmps.size∧x.2.1≠L.dm)∧L.dm<a0.tmps.size
 dd: ∀x∈L.D,∀y∈L.D,x.2.1=y.2.1→x.1=y.1∧x.2.2=y.2.2
 cc: ∀x∈L.C,∀y∈L.C,x.2.1=y.2.1→x.1=y.1
 ii: ∀x∈L.I,∀y∈L.I,x.2.1=y.2.1→x.1=y.1
 i2: ∀x∈L.I,∀y∈L.I,x.1=y.1→x=y
 apart:(∀x∈L.D,x.1≠L.im∧(∀y∈L.C,y.1≠x.1)∧(∀y∈L.I,y.1≠x.1))∧(∀x∈L.C,x.1≠L.im∧(∀y∈L.I,y.1≠x.1))∧(∀x∈L.I,x.1≠L.im)
 d1: ∀x∈L.D,∀y∈L.D,x.1=y.1→x=y
 c1: ∀x∈L.C,∀y∈L.C,x.1=y.1→x=y
 stable:(∀x∈L.D,Qc9 x.2.2)∧(∀x∈L.I,Qc9 x.2.2)
 hmk: ∃o,ops[L.im]?=some o∧o.dst=some L.dm∧o.guard=none∧o.op= .makeMap L.t none
 hD: ∀x∈L.D,∃o,ops[x.1]?=some o∧o.guard=none∧ ∀(a:Act) (w:World) (Kk:Act→World→Prop),(∀y∈L.D,(∃e∈o.after,e.on=y.1∧Region.binds .any e=true)→y.2.2 w (a.tmps.getD y.2.1 undef))→(∀s,L.Free s→a.tmps.getD s undef=a0.tmps.getD s undef)→Below w0.heap.size w0 w→
  (∀v w',Below w.heap.size w w'→x.2.2 w' v→Kk (a.put (some x.2.1) v) w')→o.wp P a w Kk Q
 hC: ∀x∈L.C,∃o,ops[x.1]?=some o∧o.dst=some x.2.1∧o.guard=none∧(o.op= .move (.tmp x.2.2)∨o.op= .assign (.tmp x.2.2))∧
  ((x.2.2=L.dm∧ ∃e∈o.after,e.on=L.im∧Region.binds .any e=true)∨ ∃y∈L.C,y.2.1=x.2.2∧ ∃e∈o.after,e.on=y.1∧Region.binds .any e=true)
 hI: ∀x∈L.I,∃o k v,ops[x.1]?=some o∧o.dst=none∧o.guard=none∧o.op= .insert L.t (.tmp L.dm) k v∧L.K x.2.1∧(∃e∈o.after,e.on=L.im∧Region.binds .any e=true)∧
  (∀(a:Act) (w:World),(∀y∈L.D,(∃e∈o.after,e.on=y.1∧Region.binds .any e=true)→y.2.2 w (a.tmps.getD y.2.1 undef))→(∀s,L.Free s→a.tmps.getD s undef=a0.tmps.getD s undef)→Below w0.heap.size w0 w→a.eval k=x.2.1∧x.2.2 w (a.eval v))
section
variable {L:QcE P} {ops:Array Oper} {Q:Exit→Act→World→Prop} {a0:Act} {w0:World}
theorem Map.mono{a':Act}(F:L.Fits ops Q a0 w0)(h:L.Map w0 listed a w)(hw:Below w.heap.size w w')(ha:a'.tmps.getD L.dm undef=a.tmps.getD L.dm undef):L.Map w0 listed a' w':=by
 obtain⟨B,f,d,e,b,g,i⟩:=h;have c:B<w.heap.size:=by
  obtain⟨l,m,h,_⟩:=b;rcases Nat.lt_or_ge B w.heap.size with h'|h'
  ·exact h'
  ·rw [Array.getElem?_eq_none h']at h;cases h
 refine⟨B,f,ha.trans d,e,b.keep (hw.block B c),fun x hx hl=> ?_,i⟩;obtain⟨v,j,k⟩:=g x hx hl;exact⟨v,j,F.stable.2 x hx _ _ _ (Qat.of hw) k⟩
theorem step_make(F:L.Fits ops Q a0 w0)(hs:listed.size=ops.size)(h:L.Inv a0 w0 listed a w)(hlt:L.im<ops.size)(hfr:listed.getD L.im false=false):
  wpOp P ops Q L.im (L.Inv a0 w0 (listed.setIfInBounds L.im true)) a w:=by
 obtain⟨o,d,f,g,i⟩:=F.hmk;refine wpOp_some d g ?_;unfold Oper.wp;rw [exec_make i,Oper.upon_value,f];have b:Below w.heap.size w (w.alloc (.map #[] 0)):=(Below.refl _ _).alloc (Nat.le_refl _) _;have c:(listed.setIfInBounds L.im true).getD L.im false=true:=by rw [getD_set,if_pos ⟨rfl,Om⟩]
 refine⟨h.defers,by simpa [Act.put]using h.size,h.ext.trans (b.mono h.ext.size),fun s hf=> ?_,fun x hx hl=> ?_,fun x hx hl=> ?_,fun _=> ?_,fun _ _ _=>c,fun _ _ _=>c⟩
 ·rw [getD_put,if_neg (fun e=>hf.2.2 e.1.symm)];exact h.free s hf
 ·rw [getD_put,if_neg (fun e=>(F.slots.1 x hx).2.1 e.1.symm)];rcases lists _ hl with he|hl
  ·exact absurd he (F.apart.1 x hx).1
  ·exact F.stable.1 x hx _ _ _ (Qat.of b) (h.vals x hx hl)
 ·exfalso;rcases lists _ hl with he|hl
  ·exact(F.apart.2.1 x hx).1 he
  ·rw [h.later.1 x hx hl]at hfr;cases hfr
 ·refine⟨w.heap.size,fun _=>none,?_,h.ext.size,ZE.new w,fun x hx hl=> ?_,fun k v hk=>by cases hk⟩
  ·rw [getD_put,if_pos ⟨rfl,by rw [h.size];exact F.slots.2.2⟩]
  ·exfalso;rcases lists _ hl with he|hl
   ·exact F.apart.2.2 x hx he
   ·rw [h.later.2 x hx hl]at hfr;cases hfr
theorem step_value(F:L.Fits ops Q a0 w0)(h:L.Inv a0 w0 listed a w){x:Nat×Nat×J7}(hx:x∈L.D)(hr:x.1∈Region.ready .any ops listed):
  wpOp P ops Q x.1 (L.Inv a0 w0 (listed.setIfInBounds x.1 true)) a w:=by
 obtain⟨o,j,m,n⟩:=F.hD x hx;refine wpOp_some j m (n a w _ (fun y c ⟨e,he,hey,d⟩=>h.vals y c (hey▸(ready_spec hr j).2.2 e he d)) h.free h.ext ?_);intro v A d p;have i:(a.put (some x.2.1) v).tmps.getD L.dm undef=a.tmps.getD L.dm undef:=by
  rw [getD_put,if_neg (fun e=>(F.slots.1 x hx).2.1 e.1)]
 have l:L.im≠x.1:=fun e=>(F.apart.1 x hx).1 e.symm;have g:(listed.setIfInBounds x.1 true).getD L.im false=listed.getD L.im false:=by
  rw [getD_set,if_neg (fun e=>l e.1.symm)]
 refine⟨h.defers,by simpa [Act.put]using h.size,h.ext.trans (d.mono h.ext.size),fun s hf=> ?_,fun y c b=> ?_,fun y c b=> ?_,fun b=> ?_,fun y c b=> ?_,fun y c b=> ?_⟩
 ·rw [getD_put,if_neg (fun e=>hf.1 x hx e.1)];exact h.free s hf
 ·rw [getD_put]
  split
  ·rename_i e
   have:=F.dd x hx y c e.1;rw [←this.2];exact p
  ·rename_i e
   rcases lists _ b with he|b
   ·have:=F.d1 y c x hx he;subst this;exact absurd ⟨rfl,by rw [h.size];exact(F.slots.1 y c).1⟩ e
   ·exact F.stable.1 y c _ _ _ (Qat.of d) (h.vals y c b)
 ·rw [i,getD_put,if_neg (fun e=>(F.slots.1 x hx).2.2 y c e.1.symm)];rcases lists _ b with he|b
  ·exact absurd he ((F.apart.1 x hx).2.1 y c)
  ·exact h.cops y c b
 ·rw [g]at b;obtain⟨B,f,q,r,t,u,z⟩:=Map.mono F (h.map b) d i;refine⟨B,f,q,r,t,fun y c b=> ?_,fun k v hk=> ?_⟩
  ·rcases lists _ b with he|b
   ·exact absurd he ((F.apart.1 x hx).2.2 y c)
   ·exact u y c b
  ·obtain⟨y,c,b,e⟩:=z k v hk;exact⟨y,c,listed_old _ b,e⟩
 ·rw [g];rcases lists _ b with he|b
  ·exact absurd he ((F.apart.1 x hx).2.1 y c)
  ·exact h.later.1 y c b
 ·rw [g];rcases lists _ b with he|b
  ·exact absurd he ((F.apart.1 x hx).2.2 y c)
  ·exact h.later.2 y c b
theorem step_copy(F:L.Fits ops Q a0 w0)(h:L.Inv a0 w0 listed a w){x:Nat×Nat×Nat}(hx:x∈L.C)(hr:x.1∈Region.ready .any ops listed):
  wpOp P ops Q x.1 (L.Inv a0 w0 (listed.setIfInBounds x.1 true)) a w:=by
 obtain⟨o,p,r,t,u,z⟩:=F.hC x hx;have l:=(ready_spec hr p).2.2;have j:a.tmps.getD x.2.2 undef=a.tmps.getD L.dm undef∧listed.getD L.im false=true:=by
  rcases z with⟨e,ed,d,g,i⟩|⟨y,c,e,ed,d,g,i⟩
  ·rw [e];exact⟨rfl,by rw [←g];exact l ed d i⟩
  ·have b:listed.getD y.1 false=true:=by rw [←g];exact l ed d i
   rw [←e];exact⟨h.cops y c b,h.later.1 y c b⟩
 refine wpOp_some p t ?_;unfold Oper.wp;rw [exec_copy u,Oper.upon_value,r,j.1];have m:(a.put (some x.2.1) (a.tmps.getD L.dm undef)).tmps.getD L.dm undef=a.tmps.getD L.dm undef:=by
  rw [getD_put,if_neg (fun e=>(F.slots.2.1 x hx).2 e.1)]
 have q:L.im≠x.1:=fun e=>(F.apart.2.1 x hx).1 e.symm;have n:(listed.setIfInBounds x.1 true).getD L.im false=listed.getD L.im false:=by
  rw [getD_set,if_neg (fun e=>q e.1.symm)]
 refine⟨h.defers,by simpa [Act.put]using h.size,h.ext,fun s hf=> ?_,fun y c b=> ?_,fun y c b=> ?_,fun b=> ?_,fun y c b=> ?_,fun y c b=> ?_⟩
 ·rw [getD_put,if_neg (fun e=>hf.2.1 x hx e.1)];exact h.free s hf
 ·rw [getD_put,if_neg (fun e=>(F.slots.1 y c).2.2 x hx e.1)];rcases lists _ b with he|b
  ·exact absurd he.symm ((F.apart.1 y c).2.1 x hx)
  ·exact h.vals y c b
 ·rw [m,getD_put]
  split
  ·rfl
  ·rename_i e
   rcases lists _ b with he|b
   ·have:=F.c1 y c x hx he;subst this;exact absurd ⟨rfl,by rw [h.size];exact(F.slots.2.1 y c).1⟩ e
   ·exact h.cops y c b
 ·obtain⟨B,f,d,g,i,A,D⟩:=h.map j.2;refine⟨B,f,m.trans d,g,i,fun y c b=> ?_,fun k v hk=> ?_⟩
  ·rcases lists _ b with he|b
   ·exact absurd he ((F.apart.2.1 x hx).2 y c)
   ·exact A y c b
  ·obtain⟨y,c,b,e⟩:=D k v hk;exact⟨y,c,listed_old _ b,e⟩
 ·rw [n];exact j.2
 ·rw [n];exact j.2
theorem step_insert(F:L.Fits ops Q a0 w0)(h:L.Inv a0 w0 listed a w){x:Nat×Value×J7}(hx:x∈L.I)(hr:x.1∈Region.ready .any ops listed):
  wpOp P ops Q x.1 (L.Inv a0 w0 (listed.setIfInBounds x.1 true)) a w:=by
 obtain⟨o,k,v,H,W,X,Y,Z,⟨ed,e1,e2,e3⟩,a1⟩:=F.hI x hx;have p:=ready_spec hr H;have z:=p.2.2;have q:listed.getD L.im false=true:=by rw [←e2];exact z ed e1 e3
 obtain⟨hk,hp⟩:=a1 a w (fun y d ⟨e,j,s,l⟩=>h.vals y d (by rw [←s];exact z e j l)) h.free h.ext;obtain⟨B,f,j,s,l,h4,J⟩:=h.map q;have A:listed.getD x.1 false=false:=by
  have:=p.2.1;simp only [Array.getD_eq_getD_getElem?]at this⊢
  cases D:listed[x.1]? with
  |none=>rw [D]at this;cases this
  |some b=>rw [D]at this;simpa using this
 have N:x.1<listed.size:=by
  have:=p.2.1;simp only [Array.getD_eq_getD_getElem?]at this;rcases Nat.lt_or_ge x.1 listed.size with h|h
  ·exact h
  ·rw [Array.getElem?_eq_none h]at this;cases this
 have O:f x.2.1=none:=by
  cases V:f x.2.1 with
  |none=>rfl
  |some u=>
   obtain⟨y,d,g,e⟩:=J _ _ V;rw [F.ii y d x hx e,A]at g
   cases g
 obtain⟨w',a2,hm,a3,a4,a5,K,M⟩:=ZE.store F.law F.ty l Z O (a.eval v);have R: ∃m n,w.heap[B]?=some (.map m n):=by
  obtain⟨m,n,h,_⟩:=l;exact⟨m,n,h⟩
 have r:Qat w w':=by
  refine⟨fun b o u hc=> ?_,by rw [K];exact Nat.le_refl _⟩
  by_cases E:b=B
  ·subst E;obtain⟨m,n,h⟩:=R;unfold World.cell? at hc;simp only [h]at hc
   cases hc
  ·exact(World.cell?_of_block (w:=w) (a:=⟨b,o,none⟩) (M b E)).trans hc
 have S:Below w0.heap.size w0 w':=by
  refine⟨a3.trans h.ext.os,a4.trans h.ext.tape,a5.trans h.ext.output,by rw [K];exact h.ext.size,fun i hi=> ?_⟩;rw [M i Om];exact h.ext.block i hi
 refine wpOp_some H X ?_;unfold Oper.wp;rw [exec_insert (P:=P) Y (w':=w') (by rw [hk];show(Instr.mapUpdate L.t (a.tmps.getD L.dm undef) x.2.1 (a.eval v)).run P w=_;rw [j];exact a2),Oper.upon_skip,W];show L.Inv a0 w0 _ a w';have T:L.im≠x.1:=fun e=>F.apart.2.2 x hx e.symm;have C:(listed.setIfInBounds x.1 true).getD L.im false=listed.getD L.im false:=by
  rw [getD_set,if_neg (fun e=>T e.1.symm)]
 refine⟨h.defers,h.size,S,h.free,fun y d g=> ?_,fun y d g=> ?_,fun _=> ?_,fun y d g=> ?_,fun y d g=> ?_⟩
 ·rcases lists _ g with he|g
  ·exact absurd he.symm ((F.apart.1 y d).2.2 x hx)
  ·exact F.stable.1 y d _ _ _ r (h.vals y d g)
 ·rcases lists _ g with he|g
  ·exact absurd he.symm ((F.apart.2.1 y d).2 x hx)
  ·exact h.cops y d g
 ·refine⟨B,_,j,s,hm,fun y d g=> ?_,fun c u hc=> ?_⟩
  ·rcases lists _ g with he|g
   ·have:=F.i2 y d x hx he;subst this;exact⟨a.eval v,by simp,F.stable.2 y d _ _ _ r hp⟩
   ·have U:y.2.1≠x.2.1:=by
     intro e;rw [F.ii y d x hx e,A]at g
     cases g
    obtain⟨u,g1,g2⟩:=h4 y d g;exact⟨u,by simp only [if_neg U];exact g1,F.stable.2 y d _ _ _ r g2⟩
  ·by_cases G:c=x.2.1
   ·exact⟨x,hx,by rw [getD_set,if_pos ⟨rfl,N⟩],G.symm⟩
   ·simp only [if_neg G]at hc;obtain⟨y,d,g,e⟩:=J c u hc;exact⟨y,d,listed_old _ g,e⟩
 ·rw [C];exact q
 ·rw [C];exact q
theorem all_listed(F:L.Fits ops Q a0 w0)(hs:listed.size=ops.size)(hr:Region.ready .any ops listed= []): ∀i,i<ops.size→listed.getD i false=true:=by
 intro i
 induction i using Nat.strongRecOn with
 |_ i ih=>
  intro a
  cases f:listed.getD i false with
  |true=>rfl
  |false=>
   exfalso;have b:i∈Region.ready .any ops listed:=by
    unfold Region.ready;simp only [List.mem_filter,List.mem_range,Bool.and_eq_true,Bool.not_eq_true'];refine⟨a,?_,?_⟩
    ·simpa [Array.getD,hs,a]using f
    ·have c:ops[i]?=some ops[i]:=Array.getElem?_eq_getElem a;rw [c];simp only [Option.map_some,Option.getD_some,Array.all_eq_true_iff_forall_mem];intro e g;have d:=F.acyclic i _ c e g;rw [ih e.on d Om];simp
   rw [hr]at b
   cases b
theorem wp(F:L.Fits ops Q a0 w0.drew){id:Nat}(hm:P.follows .mixedOrders=true)
  (done: ∀(listed:Array Bool) (a:Act) (w:World),(∀i,i<ops.size→listed.getD i false=true)→L.Inv a0 w0.drew listed a w→Q .normal a w):
  (Code.region id ops true).wp P Q a0 w0:=by
 refine QbJ hm (L.Inv a0 w0.drew) ?_ ?_ ?_
 ·have e: ∀j,(Array.replicate ops.size false).getD j false=false:=by
   intro j;simp only [Array.getD_eq_getD_getElem?,Array.getElem?_replicate]
   split<;>rfl
  refine⟨rfl,rfl,Below.refl _ _,fun _ _=>rfl,fun x _ hl=> ?_,fun x _ hl=> ?_,fun hl=> ?_,fun x _ hl=> ?_,fun x _ hl=> ?_⟩<;>(rw [e]at hl;cases hl)
 ·intro listed a w i c h d;have b:=d;unfold Region.ready at b;simp only [List.mem_filter,List.mem_range,Bool.and_eq_true,Bool.not_eq_true']at b;rcases F.cover i b.1 with rfl|⟨x,hx,rfl⟩|⟨x,hx,rfl⟩|⟨x,hx,rfl⟩
  ·exact step_make F c h b.1 (by have:=b.2.1;simpa [Array.getD,c,b.1]using this)
  ·exact step_value F h hx d
  ·exact step_copy F h hx d
  ·exact step_insert F h hx d
 ·intro listed a w c h f;exact done listed a w (all_listed F c f) h
end
end QcE
end Go.Proofs.YtpeonbaodnmlnaaGreat.Ru
namespace Go.Proofs.YtpeonbaodnmlnaaGreat
open Go.RowKit
variable{a a0:Act}{listed:Array Bool}{after:Array Edge}{Q:Exit→Act→World→Prop}{bs:List Int}{B i:Nat}{x y:Operand}{ρ:Operand→Value}{g:Option (Nat×Bool)}{dst:Option Tmp}{pos:String}{w w' w0:World}
theorem JE{α:Type}{g:α→Nat}{l:List α}(h:(l.map g).Nodup){x y:α}(hx:x∈l)(hy:y∈l)(e:g x=g y):x=y:=by
 induction l with
 |nil=>cases hx
 |cons a l ih=>
  simp only [List.map_cons,List.nodup_cons,List.mem_map,not_exists,not_and]at h;rcases List.mem_cons.1 hx with rfl|hx'<;>rcases List.mem_cons.1 hy with rfl|hy'
  ·rfl
  ·exact absurd e.symm (h.1 y hy')
  ·exact absurd e (h.1 x hx')
  ·exact ih h.2 hx' hy'
section
variable {P:Program} {ops:Array Oper}
abbrev Q6:=World→Value→Prop
def JO(p:Q6):Prop:= ∀w w' v,Ext w w'→p w v→p w' v
def eqA(u:Value):Q6:=fun _ v=>v=u
theorem QQ(u:Value):JO (eqA u):=fun _ _ _ _ h=>h
def Qdh(p:Nat×Nat×Q6→Prop):List (Nat×Nat×Q6)→Prop
 | []=>True
 |x::l=>p x∧Qdh p l
theorem Qdh.mem{p:Nat×Nat×Q6→Prop}: ∀{l:List (Nat×Nat×Q6)},Qdh p l→ ∀x∈l,p x
 | [],_,x,hx=>by cases hx
 |y::l,h,x,hx=>by
  rcases List.mem_cons.1 hx with rfl|hx
  ·exact h.1
  ·exact Qdh.mem h.2 x hx
theorem Qdh.of{p:Nat×Nat×Q6→Prop}: ∀{l:List (Nat×Nat×Q6)},(∀x∈l,p x)→Qdh p l
 | [],_=>trivial
 |y::l,h=>⟨h y (List.mem_cons_self ..),Qdh.of fun x hx=>h x (List.mem_cons_of_mem _ hx)⟩
def Jn(P:Program)(ρ:Operand→Value)(o:Oper)(w:World)(p:Q6):Prop:=
 (∃v w',(execOp ρ o).run P w= .ok (.value v) w'∧Ext w w'∧p w' v)∨
 (∃f args,(execOp ρ o).run P w= .ok (.enter f args) w∧Calls P f args w fun e w'=> ∃v,e= .returned v∧Ext w w'∧p w' v)
theorem Jn.val{o:Oper}{p:Q6}{v:Value}(h:(execOp ρ o).run P w= .ok (.value v) w')(hE:Ext w w')(hp:p w' v):Jn P ρ o w p:= .inl ⟨v,w',h,hE,hp⟩
theorem Jn.eq{o:Oper}{v:Value}(h:(execOp ρ o).run P w= .ok (.value v) w):Jn P ρ o w (eqA v):= .inl ⟨v,w,h,Ext.rf _,rfl⟩
theorem Jn.call{o:Oper}{p:Q6}{f:FuncId}{args:Array Value}(h:(execOp ρ o).run P w= .ok (.enter f args) w)(hc:Calls P f args w fun e w'=> ∃v,e= .returned v∧p w' v∧Ext w w'):Jn P ρ o w p:=
 .inr ⟨f,args,h,hc.mono fun e w' ⟨v,h1,h2,h3⟩=>⟨v,h1,h3,h2⟩⟩
structure Qke(D:List (Nat×Nat×Q6))(r:Nat)(ops:Array Oper)(a0:Act)(w0:World)(listed:Array Bool)(a:Act)(w:World):Prop where
 defers:a.defers=a0.defers
 size:a.tmps.size=a0.tmps.size
 ext:Ext w0 w
 free: ∀s,(∀x∈D,x.2.1≠s)→a.tmps.getD s undef=a0.tmps.getD s undef
 vals: ∀x∈D,listed.getD x.1 false=true→x.2.2 w (a.tmps.getD x.2.1 undef)
 late: ∀j,r≤j→j<ops.size→listed.getD j true=false
def QiL(ops:Array Oper)(r:Nat):Bool:=(List.range ops.size).all fun j=>decide (j<r)||((ops[j]?).map fun o=>(List.range r).all fun i=>o.after.any fun e=>Region.binds .any e&&e.on==i).getD true
def Qp2(ops:Array Oper):Bool:=(List.range ops.size).all fun i=>match ops[i]? with|some o=>o.after.all (fun e=>decide (e.on<i))|none=>true
structure JP(D:List (Nat×Nat×Q6))(r:Nat)(ops:Array Oper)(P:Program)(a0:Act)(w0:World):Prop where
 idx:D.map (·.1)=List.range r
 slots:(D.map (·.2.1)).Nodup
 hr:r≤ops.size
 inb: ∀x∈D,x.2.1<a0.tmps.size
 late:QiL ops r=true
 acyc:Qp2 ops=true
 stable: ∀x∈D,JO x.2.2
 does: ∀x∈D,∃o,ops[x.1]?=some o∧o.guard=none∧o.dst=some x.2.1∧ ∀(ρ:Operand→Value) (w:World),
  (∀y∈D,(o.after.any fun e=>Region.binds .any e&&e.on==y.1)=true→y.2.2 w (ρ (.tmp y.2.1)))→(∀v,ρ (.const v)=v)→(∀f,ρ (.func f)= .func (.func f) #[] #[])→(∀s,(∀x∈D,x.2.1≠s)→ρ (.tmp s)=a0.tmps.getD s undef)→Ext w0 w→Jn P ρ o w x.2.2
theorem JP.nodup{D:List (Nat×Nat×Q6)}{r:Nat}(F:JP D r ops P a0 w0){x y:Nat×Nat×Q6}(hx:x∈D)(hy:y∈D)(h:x.2.1=y.2.1):x=y:=JE (g:=fun x:Nat×Nat×Q6=>x.2.1) F.slots hx hy h
theorem JP.nodup1{D:List (Nat×Nat×Q6)}{r:Nat}(F:JP D r ops P a0 w0){x y:Nat×Nat×Q6}(hx:x∈D)(hy:y∈D)(h:x.1=y.1):x=y:=JE (g:=fun x:Nat×Nat×Q6=>x.1) (by rw [F.idx];exact List.nodup_range) hx hy h
theorem JP.at{D:List (Nat×Nat×Q6)}{r:Nat}(F:JP D r ops P a0 w0)(h:i<r): ∃x∈D,x.1=i:=by
 have:i∈D.map (·.1):=by rw [F.idx];exact List.mem_range.2 h
 obtain⟨x,a,e⟩:=List.mem_map.1 this;exact⟨x,a,e⟩
theorem JP.lt{D:List (Nat×Nat×Q6)}{r:Nat}(F:JP D r ops P a0 w0){x:Nat×Nat×Q6}(hx:x∈D):x.1<r:=by
 have:x.1∈D.map (·.1):=List.mem_map.2 ⟨x,hx,rfl⟩;rw [F.idx]at this;exact List.mem_range.1 this
theorem Qf4{d s:Nat}{v:Value}:(a.put (some d) v).tmps.getD s undef=if d=s∧s<a.tmps.size then v else a.tmps.getD s undef:=Ru.Qfq.getD_put
theorem Qni{D:List (Nat×Nat×Q6)}{r:Nat}(F:JP D r ops P a0 w0)(hs:listed.size=ops.size)(h:Qke D r ops a0 w0 listed a w){x:Nat×Nat×Q6}(hx:x∈D)(hi:x.1∈Region.ready .any ops listed):
  wpOp P ops Q x.1 (Qke D r ops a0 w0 (listed.setIfInBounds x.1 true)) a w:=by
 obtain⟨o,i,m,n,p⟩:=F.does x hx
 have l:=p a.eval w (fun y hy hany=>by
  obtain⟨e,c,d⟩:=Array.any_eq_true'.1 hany;simp only [Bool.and_eq_true,beq_iff_eq]at d
  exact h.vals y hy (d.2▸(Ru.Qfq.ready_spec hi i).2.2 e c d.1)) (fun _=>rfl) (fun _=>rfl) h.free h.ext
 have g: ∀v b,Ext w b→x.2.2 b v→Qke D r ops a0 w0 (listed.setIfInBounds x.1 true) (a.put o.dst v) b:=by
  intro v b k q;rw [n];refine⟨h.defers,by simpa [Act.put]using h.size,h.ext.tr k,fun s hf=> ?_,fun y hy hl=> ?_,fun j hj hj2=> ?_⟩
  ·rw [Qf4,if_neg (fun e=>hf x hx e.1)];exact h.free s hf
  ·rw [Qf4]
   split
   ·rename_i e
    have:=F.nodup hx hy e.1;subst this;exact q
   ·rename_i e
    rcases Ru.Qfq.lists _ hl with c|hl
    ·have:=F.nodup1 hy hx c;subst this;exact absurd ⟨rfl,by rw [h.size];exact F.inb _ hy⟩ e
    ·exact F.stable y hy _ _ _ k (h.vals y hy hl)
  ·have:=F.lt hx;rw [getD_set_ne true (by omega:x.1≠j)];exact h.late j hj hj2
 refine Ru.Qfq.wpOp_some i m ?_;unfold Oper.wp;rcases l with⟨v,b,h1,h2,h3⟩|⟨f,args,h1,h2⟩
 ·rw [h1,Oper.upon_value];exact g v b h2 h3
 ·rw [h1];refine h2.mono fun e b h=> ?_;obtain⟨v,rfl,t,u⟩:=h;exact g v b t u
theorem QiM{D:List (Nat×Nat×Q6)}{r:Nat}(F:JP D r ops P a0 w0)(hs:listed.size=ops.size)(hi:i∈Region.ready .any ops listed){k:Nat}(hk:k<r)(hf:listed.getD k false=false):i<r:=by
 rcases Nat.lt_or_ge i r with h|h
 ·exact h
 ·exfalso;have a:i<ops.size:=by
   unfold Region.ready at hi;simp only [List.mem_filter,List.mem_range]at hi;exact hi.1
  have b:=List.all_eq_true.1 F.late i (List.mem_range.2 a);rw [Array.getElem?_eq_getElem a,decide_eq_false Om]at b;simp only [Option.map_some,Option.getD_some,Bool.false_or]at b;have d:=List.all_eq_true.1 b k (List.mem_range.2 hk);obtain⟨e,f,c⟩:=Array.any_eq_true'.1 d;simp only [Bool.and_eq_true,beq_iff_eq]at c;have:=(Ru.Qfq.ready_spec hi (Array.getElem?_eq_getElem a)).2.2 e f c.1;rw [c.2,hf]at this
  cases this
theorem QiN{D:List (Nat×Nat×Q6)}{r:Nat}(F:JP D r ops P a0 w0)(hs:listed.size=ops.size)(h0:Region.ready .any ops listed= []): ∀i,i<r→listed.getD i false=true:=by
 intro i
 induction i using Nat.strongRecOn with
 |_ i ih=>
  intro g
  cases f:listed.getD i false with
  |true=>rfl
  |false=>
   exfalso;have a:i<ops.size:=Xl g F.hr;have c:i∈Region.ready .any ops listed:=by
    unfold Region.ready;simp only [List.mem_filter,List.mem_range,Bool.and_eq_true,Bool.not_eq_true'];refine⟨a,?_,?_⟩
    ·simpa [Array.getD,hs,a]using f
    ·rw [Array.getElem?_eq_getElem a];simp only [Option.map_some,Option.getD_some,Array.all_eq_true_iff_forall_mem];intro e d;have b:=List.all_eq_true.1 F.acyc i (List.mem_range.2 a);rw [Array.getElem?_eq_getElem a]at b;simp only [Array.all_eq_true_iff_forall_mem,decide_eq_true_eq]at b;rw [ih e.on (b e d) (by have:=b e d;omega)];simp
   rw [h0]at c
   cases c
theorem Qp3{D:List (Nat×Nat×Q6)}{r:Nat}(F:JP D r ops P a0 w0)
  (done: ∀(listed:Array Bool) (a:Act) (w:World),listed.size=ops.size→(∀i,i<r→listed.getD i false=true)→Qke D r ops a0 w0 listed a w→wpAny P .any ops Q (listed.toList.count false) listed a w):
  ∀(fuel:Nat) (listed:Array Bool) (a:Act) (w:World),listed.size=ops.size→listed.toList.count false=fuel→Qke D r ops a0 w0 listed a w→wpAny P .any ops Q fuel listed a w:=by
 intro fuel
 induction fuel with
 |zero=>
  intro listed a w b j d;rw [←j];refine done listed a w b (fun i g=> ?_) d;have m:i<listed.size:=by rw [b];exact Xl g F.hr
  cases h:listed.getD i false with
  |true=>rfl
  |false=>
   exfalso;have e:listed[i]=false:=by simpa [Array.getD,m]using h
   have:0<listed.toList.count false:=List.count_pos_iff.2 (by rw [←e];simp);omega
 |succ fuel ih=>
  intro listed a w b j d
  by_cases hall: ∀i,i<r→listed.getD i false=true
  ·rw [←j];exact done listed a w b hall d
  ·obtain⟨k,n⟩:=Classical.not_forall.1 hall;obtain⟨o,f⟩:=Classical.not_imp.1 n;have f:listed.getD k false=false:=by simpa using f
   refine⟨fun h0=>absurd (QiN F b h0) hall,fun i hm=> ?_⟩;have g:=QiM F b hm o f;obtain⟨x,p,rfl⟩:=F.at g;refine wpOp_mono (fun a' w' h'=> ?_) (Qni F b d p hm);have c:=hm;unfold Region.ready at c;simp only [List.mem_filter,List.mem_range,Bool.and_eq_true,Bool.not_eq_true']at c;have:=Ru.Qm1 (l:=listed) (i:=x.1) (by rw [b];exact c.1) c.2.1;exact ih _ a' w' (by simpa using b) Om h'
theorem QsJ(D:List (Nat×Nat×Q6))(val:Nat→Value): ∀(t:Array Value) (s:Nat),(D.foldl (fun t x=>t.setIfInBounds x.2.1 (val x.2.1)) t)[s]?=if s<t.size then(if ∃x∈D,x.2.1=s then some (val s)else t[s]?)else none:=by
 induction D with
 |nil=>intro t s;by_cases h:s<t.size<;>simp [h]
 |cons x D ih=>
  intro t s;rw [List.foldl_cons,ih];simp only [Array.size_setIfInBounds]
  by_cases h:s<t.size
  ·rw [if_pos h,if_pos h]
   by_cases b: ∃y∈D,y.2.1=s
   ·rw [if_pos b,if_pos (by obtain⟨y,a,e⟩:=b;exact⟨y,List.mem_cons_of_mem _ a,e⟩)]
   ·rw [if_neg b]
    by_cases c:x.2.1=s
    ·rw [if_pos ⟨x,List.mem_cons_self ..,c⟩,c,Array.getElem?_setIfInBounds_self_of_lt h]
    ·rw [if_neg (by
      rintro⟨y,a,e⟩;rcases List.mem_cons.1 a with rfl|a
      ·exact c e
      ·exact b ⟨y,a,e⟩),Array.getElem?_setIfInBounds_ne c]
  ·rw [if_neg h,if_neg h]
theorem Qke.act{D:List (Nat×Nat×Q6)}{r:Nat}(h:Qke D r ops a0 w0 listed a w):
  a={tmps:=D.foldl (fun t x=>t.setIfInBounds x.2.1 (a.tmps.getD x.2.1 undef)) a0.tmps,defers:=a0.defers}:=by
 have c:=h.defers;have d:=h.free;have f:=h.size;clear h;obtain⟨tmps,defers⟩:=a;dsimp only at c d f⊢;subst c
 congr 1
 refine Array.ext_getElem? fun s=> ?_;have:=QsJ D (fun s=>tmps.getD s undef) a0.tmps s;rw [this]
 by_cases b:s<a0.tmps.size
 ·rw [if_pos b];have e:tmps[s]?=some (tmps.getD s undef):=by rw [Array.getElem?_eq_getElem Om];simp [Array.getD,show s<tmps.size by omega]
  split
  ·exact e
  ·rename_i hn
   rw [e,d s (fun x hx he=>hn ⟨x,hx,he⟩)];simp [Array.getD,b]
 ·rw [if_neg b,Array.getElem?_eq_none Om]
structure QvH(D:List (Nat×Nat×Q6))(r N:Nat)(ops:Array Oper)(P:Program)(a0:Act)(w0:World):Prop where
 idx:D.map (·.1)=List.range r
 slots:(D.map (·.2.1)).Nodup
 hN:ops.size=N
 hr:r≤N
 inb:(D.map (·.2.1)).all (fun s=>decide (s<a0.tmps.size))=true
 late:QiL ops r=true
 acyc:Qp2 ops=true
 stable:Qdh (fun x=>JO x.2.2) D
 does:Qdh (fun x=> ∃o,ops[x.1]?=some o∧o.guard=none∧o.dst=some x.2.1∧ ∀(ρ:Operand→Value) (w:World),
  (∀y∈D,(o.after.any fun e=>Region.binds .any e&&e.on==y.1)=true→y.2.2 w (ρ (.tmp y.2.1)))→(∀v,ρ (.const v)=v)→(∀f,ρ (.func f)= .func (.func f) #[] #[])→(∀s,(D.map (·.2.1)).contains s=false→ρ (.tmp s)=a0.tmps.getD s undef)→Ext w0 w→Jn P ρ o w x.2.2) D
theorem QvH.fits{D:List (Nat×Nat×Q6)}{r N:Nat}(h:QvH D r N ops P a0 w0):JP D r ops P a0 w0 where
 idx:=h.idx
 slots:=h.slots
 hr:=by rw [h.hN];exact h.hr
 inb:=fun x hx=>by simpa using List.all_eq_true.1 h.inb x.2.1 (List.mem_map.2 ⟨x,hx,rfl⟩)
 late:=h.late
 acyc:=h.acyc
 stable:=h.stable.mem
 does:=fun x hx=>by
  obtain⟨o,f,g,i,j⟩:=h.does.mem x hx;refine⟨o,f,g,i,fun ρ w a b c d e=>j ρ w a b c (fun s hs=>d s fun x hx he=> ?_) e⟩;have:(D.map (·.2.1)).contains s=true:=List.contains_iff_mem.2 (List.mem_map.2 ⟨x,hx,he⟩);rw [hs]at this;cases this
theorem Qhe{id:Nat}(D:List (Nat×Nat×Q6))(r:Nat)(hm:P.follows .mixedOrders=true)(F:JP D r ops P a0 w0.drew)
  (H: ∀(val:Nat→Value) (w:World),Ext w0 w→(∀x∈D,x.2.2 w (val x.2.1))→wpAny P .any ops Q (ops.size- r) (msk ops.size (2^r- 1)) {tmps:=D.foldl (fun t x=>t.setIfInBounds x.2.1 (val x.2.1)) a0.tmps,defers:=a0.defers} w):
  (Code.region id ops true).wp P Q a0 w0:=by
 have l: ∀j,(Array.replicate ops.size false).getD j false=false:=by
  intro j;simp only [Array.getD_eq_getD_getElem?,Array.getElem?_replicate]
  split<;>rfl
 refine wp_region_any hm (Qp3 F ?_ _ _ _ _ (by simp) (by simp) ⟨rfl,rfl,Ext.rf _,fun _ _=>rfl,fun x _ b=> ?_,fun j n g=> ?_⟩)
 ·intro f a w v hall h;have e:f=msk ops.size (2^r- 1):=by
   refine Array.ext_getElem? fun i=> ?_;unfold msk
   by_cases c:i<ops.size
   ·have b:i<f.size:=by omega
    rw [Array.getElem?_eq_getElem b];simp only [List.getElem?_toArray,List.getElem?_map,List.getElem?_range c,Option.map_some,Nat.testBit_two_pow_sub_one]
    by_cases d:i<r
    ·have:=hall i d;rw [decide_eq_true d];simpa [Array.getD,b]using this
    ·have:=h.late i Om c;rw [decide_eq_false d];simpa [Array.getD,b]using this
   ·rw [Array.getElem?_eq_none Om];simp [Array.getElem?_eq_none,c]
  have m:f.toList.count false=ops.size- r:=by
   rw [e];unfold msk;show List.count false ((List.range ops.size).map fun j=>(2^r- 1).testBit j)=_;simp only [Nat.testBit_two_pow_sub_one];have:=F.hr;obtain⟨k,o⟩: ∃k,ops.size=r+k:=⟨ops.size- r,Om⟩;rw [o,List.range_add,List.map_append,List.count_append,show r+k- r=k by omega];have n:List.count false ((List.range r).map fun j=>decide (j<r))=0:=by
    rw [List.count_eq_zero];intro p;obtain⟨j,q,u⟩:=List.mem_map.1 p;simp at q u;omega
   have g:List.count false (((List.range k).map fun x=>r+x).map fun j=>decide (j<r))=k:=by
    rw [List.map_map];have:((fun j=>decide (j<r))∘ fun x=>r+x)=fun _=>false:=by funext x;simp
    rw [this,List.map_const',List.count_replicate_self,List.length_range]
   omega
  rw [m];rw [h.act];rw [e];exact H (fun s=>a.tmps.getD s undef) w ((Ext.dr (Ext.rf w0)).tr h.ext) (fun x hx=>h.vals x hx (hall x.1 (F.lt hx)))
 ·rw [l]at b;cases b
 ·simp [Array.getD,g]
theorem Qa7{id:Nat}(D:List (Nat×Nat×Q6))(r N F M:Nat)(hF:N- r=F)(hM:2^r- 1=M)(hm:P.follows .mixedOrders=true)(Fit:QvH D r N ops P a0 w0.drew)
  (H: ∀(val:Nat→Value) (w:World),Ext w0 w→Qdh (fun x=>x.2.2 w (val x.2.1)) D→wpAny P .any ops Q F (msk N M) {tmps:=D.foldl (fun t x=>t.setIfInBounds x.2.1 (val x.2.1)) a0.tmps,defers:=a0.defers} w):
  (Code.region id ops true).wp P Q a0 w0:=
 Qhe D r hm Fit.fits fun val w hE h=>by rw [Fit.hN,hF,hM];exact H val w hE (Qdh.of h)
theorem QiO{C:Nat→Prop}{fuel:Nat}(h:QN C P .any ops (fun a w=>Q .normal a w) fuel listed a w):wpAny P .any ops Q fuel listed a w:=QbZ (fun _ _ h=>h) _ _ _ _ h
end
structure Pt where
 q:Option Addr
 by_:Int
 add:Int
 lo:Int
 hi:Int
abbrev Pt.v(x:Pt):Value:= .agg #[.pointer x.q,.int .i64 x.by_,.int .i64 x.add,.int .i64 x.lo,.int .i64 x.hi]
def ZM(w:World)(p:Option Addr)(xs:List Pt):Prop:= ∀k,(h:k<xs.length)→ ∃b off,p=some ⟨b,off,none⟩∧b<w.heap.size∧w.cell? ⟨b,off+k*5,none⟩=some (.pointer xs[k].q)∧w.cell? ⟨b,off+k*5+1,none⟩=some (.int .i64 xs[k].by_)∧w.cell? ⟨b,off+k*5+2,none⟩=some (.int .i64 xs[k].add)∧w.cell? ⟨b,off+k*5+3,none⟩=some (.int .i64 xs[k].lo)∧w.cell? ⟨b,off+k*5+4,none⟩=some (.int .i64 xs[k].hi)
theorem ZM.ext{p:Option Addr}{xs:List Pt}(h:ZM w p xs)(e:Ext w w'):ZM w' p xs:=fun k hk=>by
 obtain⟨b,a,d,c,f,g,i,j,l⟩:=h k hk;exact⟨b,a,d,Xl c e.size,(e.cell (p:=⟨b,a+k*5,none⟩) c).trans f,(e.cell (p:=⟨b,a+k*5+1,none⟩) c).trans g,(e.cell (p:=⟨b,a+k*5+2,none⟩) c).trans i,(e.cell (p:=⟨b,a+k*5+3,none⟩) c).trans j,(e.cell (p:=⟨b,a+k*5+4,none⟩) c).trans l⟩
theorem ZM.nil(w:World)(p:Option Addr):ZM w p []:=fun k hk=>by simp at hk
def Pt.cl(x:Pt):List Value:= [.pointer x.q,.int .i64 x.by_,.int .i64 x.add,.int .i64 x.lo,.int .i64 x.hi]
def QbE(xs:List Pt):List Value:=xs.flatMap Pt.cl
theorem Qa8: ∀xs:List Pt,(QbE xs).length=xs.length*5
 | []=>rfl
 |x::xs=>by
  show(Pt.cl x++QbE xs).length=_;rw [List.length_append,Qa8 xs,List.length_cons];show 5+_=_;omega
theorem QcF: ∀(xs:List Pt) (k j:Nat) (hk:k<xs.length),j<5→(QbE xs)[k*5+j]?=(xs[k]).cl[j]?
 |x::xs,0,j,_,hj=>by
  show(Pt.cl x++QbE xs)[0*5+j]?=_;rw [Nat.zero_mul,Nat.zero_add,List.getElem?_append_left (by show j<5;exact hj)];rfl
 |x::xs,k+1,j,hk,hj=>by
  show(Pt.cl x++QbE xs)[(k+1)*5+j]?=_;have a:(Pt.cl x).length=5:=rfl;rw [List.getElem?_append_right Om,a,show(k+1)*5+j- 5=k*5+j by omega];exact QcF xs k j (by simpa using hk) hj
theorem QsK:(Tryz.prog.info? 231).map (fun i=>(i.zero,i.size,i.bytes))=some (some (.agg #[.pointer none,.int .i64 0,.int .i64 0,.int .i64 0,.int .i64 0]),5,40):=Kr
theorem ZM.own{base:Nat}{v:Value}{xs:List Pt}(h:w.ownsRow base 231 5 v xs.length (QbE xs)): ∃p c,v= .slice p xs.length c∧xs.length≤c∧ZM w p xs:=by
 rcases h.2 with⟨rfl,h0⟩|⟨g,cap,cur,rfl,hg,hgb,h1,h2,h3,h4⟩
 ·have:xs= []:=List.length_eq_zero_iff.1 h0;subst this;exact⟨none,0,rfl,Nat.le_refl _,ZM.nil _ _⟩
 ·refine⟨some ⟨g,0,none⟩,cap,rfl,h1,fun k hk=> ?_⟩;have a: ∀j,j<5→w.cell? ⟨g,0+k*5+j,none⟩=(xs[k]).cl[j]?:=fun j hj=>by
   rw [←QcF xs k j hk hj,←h4,List.getElem?_take_of_lt (by have:=Qa8 xs;omega)];simp only [World.cell?,hgb];simp
  exact⟨g,0,rfl,(Array.getElem?_eq_some_iff.1 hgb).1,a 0 Om,a 1 Om,a 2 Om,a 3 Om,a 4 Om⟩
def Qp4(lo:Nat)(xs:List Pt):Q6:=fun w v=> ∃q d,v= .slice q xs.length d∧ZM w q xs∧ ∀b off,q=some ⟨b,off,none⟩→lo≤b
theorem QdM(lo:Nat)(xs:List Pt):JO (Qp4 lo xs):=fun w w' v hE ⟨q,d,h1,h2,h3⟩=>⟨q,d,h1,h2.ext hE,h3⟩
theorem Ql1{C:Nat→Prop}{a:Option Addr}{m c:Nat}(h0:w.cell? ⟨B,i,none⟩=some (.slice a m c))(hl:Lt B w)(hC: ¬C B){q:Operand}{ty:TypeId}
  (hx:ρ q= .pointer (some ⟨B,i,none⟩)): ∀w',Mv C w w'→(execOp ρ ⟨dst,.load 261 q,ty,pos,after,g⟩).run Tryz.prog w'= .ok (.value (.slice a m c)) w':=by
 intro w' b;have d:w'.cell? ⟨B,i,none⟩=some (.slice a m c):=by rw [Qa,Qf (b.same B hl hC),←Qa];exact h0
 simp only [execOp,hx];go_simp
theorem Qnj{m:Nat}{z:Operand}{ty:TypeId}
  (hx:ρ x= .slice (some ⟨m,0,none⟩) 3 3)(hy:ρ y= .int .i64 3)(hz:ρ z= .int .i64 3)(w:World):(execOp ρ ⟨dst,.slice 261 x none (some y) (some z),ty,pos,after,g⟩).run Tryz.prog w= .ok (.value (.slice (some ⟨m,0,none⟩) 3 3)) w:=by
 simp only [execOp,hx,hy,hz];go_simp
theorem Qa9{s:Operand}{t ty:TypeId}{v v1 v2:Value}(hs:ρ s=v1)(hx:ρ x=v2)
  (h:(Builtin.append_ #[t,t] ty #[v1,v2]).run Tryz.prog w= .ok v w'):(execOp ρ ⟨dst,.call {callee:= .builtin .append,args:=#[s,x],argTypes:=#[t,t]},ty,pos,after,g⟩).run Tryz.prog w= .ok (.value v) w':=by
 unfold execOp;simp only [resolve,invoke,builtin,Sem.run_bind,Sem.run_pure,Result.andThen_ok,List.map_toArray,List.map_cons,List.map_nil,hs,hx,h]
theorem ZM.news{W:World}{a:Addr}{xs:List Pt}(hs:ZM w (some a) xs)(e:Ext w W): ∀j u,(QbE xs)[j]?=some u→W.cell? (a.add j)=some u:=by
 intro j u f;have p:j<xs.length*5:=by have:=(List.getElem?_eq_some_iff.1 f).1;rwa [Qa8]at this
 have c:j/5<xs.length:=by omega
 obtain⟨b,g,h,x,k,l,m,n,o⟩:=(hs.ext e) (j/5) c
 cases h
 have e:(⟨b,g,none⟩:Addr).add j=⟨b,g+j,none⟩:=by unfold Addr.add;split<;>simp_all
 have d:=QcF xs (j/5) (j % 5) c (Nat.mod_lt _ Om);rw [show j/5*5+j % 5=j by omega]at d;rw [e,←f,d];have s:j % 5<5:=Nat.mod_lt _ Om;generalize t:j/5=q at*;generalize v:j % 5=r at*;have i:j=q*5+r:=by omega
 subst i;obtain rfl|rfl|rfl|rfl|rfl:r=0∨r=1∨r=2∨r=3∨r=4:=by omega
 ·exact k
 ·exact l
 ·exact m
 ·exact n
 ·exact o
theorem ZM.nil_of{xs:List Pt}(hs:ZM w none xs):xs= []:=by
 cases xs with
 |nil=>rfl
 |cons m r=>obtain⟨b,a,h,_⟩:=hs 0 (by simp);cases h
theorem Qyt{W:World}{m cp lo:Nat}(hlm:lo≤m)(hlw:lo≤W.heap.size){pp:Option Addr}{ms xs:List Pt}(hm:ZM w (some ⟨m,0,none⟩) ms)(hp:ZM w pp xs)(h3:ms.length=3)(hx:xs.length=0∨xs.length=1)(hE:Ext w W){s:Operand}
  (h1:ρ s= .slice (some ⟨m,0,none⟩) 3 3)(h2:ρ x= .slice pp xs.length cp):Jn Tryz.prog ρ ⟨dst,.call {callee:= .builtin .append,args:=#[s,x],argTypes:=#[261,261]},261,pos,after,g⟩ W (Qp4 lo (ms++xs)):=by
 obtain⟨l,f,n,o,p⟩:=info_parts QsK;rcases hx with hx|hx
 ·have i:xs= []:=List.length_eq_zero_iff.1 hx;subst i;refine .val (v:= .slice (some ⟨m,0,none⟩) 3 3) (Qa9 h1 h2 ?_) (Ext.rf _) ⟨_,_,by rw [List.append_nil,h3],by rw [List.append_nil];exact hm.ext hE,fun b off e=>by cases e;exact hlm⟩
  cases pp<;>simp [Builtin.append_,run_underlying Tryz.underlying261,sizeOf,typeInfo,f,Builtin.firstCells,loadCells,loadCellsFrom,storeCells,Builtin.lenOf]
 ·cases pp with
  |none=>have:=hp.nil_of;subst this;simp at hx
  |some a=>
   obtain⟨z,t,u,c,y⟩:=run_append_arg_grows (P:=Tryz.prog) W 261 261 231 l (.agg #[.pointer none,.int .i64 0,.int .i64 0,.int .i64 0,.int .i64 0]) 5 40 Tryz.underlying261 f n o p rfl Dc ⟨m,0,none⟩ 3 3 (QbE ms) (by rw [Qa8,h3]) (hm.news hE) a xs.length cp (QbE xs) (by rw [Qa8]) (hp.news hE) Om (by unfold maxLen;omega) Om;have j:QbE ms++QbE xs=QbE (ms++xs):=by unfold QbE;simp
   rw [j,←h3,←List.length_append]at c;obtain⟨q,d,rfl,-,s⟩:=ZM.own c;have k:Ext W t:=Mv.ext (C:=fun _=>False) (Mv.of_grown y fun r e=>by cases e) (fun _ _ h=>h);exact .val (Qa9 h1 h2 u) k ⟨q,d,rfl,s,fun b off e=>Xt hlw (Qi c b (by rw [e];rfl))⟩
def CloPt(lo:Nat)(ms xs:List Pt):Q6:=fun w v=> ∃Bm Bp m pp cp,lo≤m∧v= .func (.func 243) #[] #[.pointer (some ⟨Bm,0,none⟩),.pointer (some ⟨Bp,0,none⟩)]∧w.cell? ⟨Bm,0,none⟩=some (.slice (some ⟨m,0,none⟩) 3 3)∧Lt Bm w∧ZM w (some ⟨m,0,none⟩) ms∧w.cell? ⟨Bp,0,none⟩=some (.slice pp xs.length cp)∧Lt Bp w∧ZM w pp xs
theorem Qax(lo:Nat)(ms xs:List Pt):JO (CloPt lo ms xs):=by
 rintro w o v a ⟨b,c,m,f,g,h,i,j,d,k,l,e,n⟩;exact⟨b,c,m,f,g,h,i,(a.cell (p:=⟨b,0,none⟩) d).trans j,Xl d a.size,k.ext a,(a.cell (p:=⟨c,0,none⟩) e).trans l,Xl e a.size,n.ext a⟩
theorem Qbu(lo Bm m:Nat)(hlm:lo≤m)(pp:Option Addr)(cp:Nat)(ms xs:List Pt)(w:World)(cm:w.cell? ⟨Bm,0,none⟩=some (.slice (some ⟨m,0,none⟩) 3 3))(lm:Lt Bm w)(sm:ZM w (some ⟨m,0,none⟩) ms)(sp:ZM w pp xs):
  Calls Tryz.prog 242 #[.slice pp xs.length cp,.pointer (some ⟨Bm,0,none⟩)] w fun e w'=> ∃v,e= .returned v∧CloPt lo ms xs w' v∧Ext w w':=by
 have a:=Xh sm;have b:=Xh sp;clear sm sp
 go_enter Tryz.func242,Tryz.ntmps242
 go_wp2;go_ret;have g:Ext w (w.alloc (.cells #[.slice pp xs.length cp] 261)):=Ext.al (Ext.rf _) _;exact⟨_,rfl,⟨Bm,w.heap.size,m,pp,cp,hlm,rfl,(g.cell (p:=⟨Bm,0,none⟩) lm).trans cm,Xl lm g.size,a.out.ext g,by simp [go_sem],by simp [go_sem,Lt],b.out.ext g⟩,g⟩
theorem QsL(lo:Nat)(ms xs:List Pt)(Bm Bp m:Nat)(hlm:lo≤m)(pp:Option Addr)(cp:Nat)(w:World)(hlw:lo≤w.heap.size)(h3:ms.length=3)(hx:xs.length=0∨xs.length=1)(cm:w.cell? ⟨Bm,0,none⟩=some (.slice (some ⟨m,0,none⟩) 3 3))(lm:Lt Bm w)(sm:ZM w (some ⟨m,0,none⟩) ms)(cp':w.cell? ⟨Bp,0,none⟩=some (.slice pp xs.length cp))(lp:Lt Bp w)(sp:ZM w pp xs):
  Calls Tryz.prog 243 #[.pointer (some ⟨Bm,0,none⟩),.pointer (some ⟨Bp,0,none⟩)] w fun e w'=> ∃q d,e= .returned (.slice q (ms++xs).length d)∧ZM w' q (ms++xs)∧(∀b off,q=some ⟨b,off,none⟩→lo≤b)∧Ext w w':=by
 have l:=Xh sm;have n:=Xh sp;clear sm sp
 go_enter Tryz.func243,Tryz.ntmps243
 go_upto_region 1 with(fail)
 have cm:w.drew.cell? ⟨Bm,0,none⟩=some (.slice (some ⟨m,0,none⟩) 3 3):=cm;have cp':w.drew.cell? ⟨Bp,0,none⟩=some (.slice pp xs.length cp):=cp';have lm:Lt Bm w.drew:=lm;have lp:Lt Bp w.drew:=lp;have l:Hid (ZM w.drew (some ⟨m,0,none⟩) ms):=Xh (l.out.ext (Ext.dr (Ext.rf _)));have n:Hid (ZM w.drew pp xs):=Xh (n.out.ext (Ext.dr (Ext.rf _)));refine Qa7 [(0,3,eqA (.slice (some ⟨m,0,none⟩) 3 3)),(1,4,eqA (.slice (some ⟨m,0,none⟩) 3 3)),(2,5,eqA (.slice pp xs.length cp)),(3,6,Qp4 lo (ms++xs)),(4,2,Qp4 lo (ms++xs))] 5 5 0 31 rfl Dc Kr ⟨rfl,(by show List.Nodup [3,4,5,6,2];decide),rfl,Om,rfl,Kr,Kr,?stab1,?does1⟩ ?after1
 case' stab1=>exact⟨QQ _,QQ _,QQ _,(QdM _ _),(QdM _ _),trivial⟩
 case' does1=>
  refine⟨?d1_0,?d1_1,?d1_2,?d1_3,?d1_4,trivial⟩
  case' d1_0=>
   refine⟨_,rfl,rfl,rfl,fun ρ w hd hc hfn hf E=> ?_⟩;simp only [List.getElem_toArray,List.getElem_cons_zero,List.getElem_cons_succ]at hd⊢;have a:ρ (.tmp 0)= .pointer (some ⟨Bm,0,none⟩):=(hf 0 rfl).trans rfl;exact .eq (Ql1 (C:=fun _=>False) cm lm (fun h=>h) a _ (Mv.of_ext E))
  case' d1_1=>
   refine⟨_,rfl,rfl,rfl,fun ρ w hd hc hfn hf E=> ?_⟩;simp only [List.getElem_toArray,List.getElem_cons_zero,List.getElem_cons_succ]at hd⊢;have a:=hd (0,3,eqA (.slice (some ⟨m,0,none⟩) 3 3)) (List.mem_of_getElem? (i:=0) rfl) Kr
   replace a:ρ (.tmp 3)= .slice (some ⟨m,0,none⟩) 3 3:=a
   exact .eq (Qnj a (hc _) (hc _) _)
  case' d1_2=>
   refine⟨_,rfl,rfl,rfl,fun ρ w hd hc hfn hf E=> ?_⟩;simp only [List.getElem_toArray,List.getElem_cons_zero,List.getElem_cons_succ]at hd⊢;have a:ρ (.tmp 1)= .pointer (some ⟨Bp,0,none⟩):=(hf 1 rfl).trans rfl;exact .eq (Ql1 (C:=fun _=>False) cp' lp (fun h=>h) a _ (Mv.of_ext E))
  case' d1_3=>
   refine⟨_,rfl,rfl,rfl,fun ρ w hd hc hfn hf E=> ?_⟩;simp only [List.getElem_toArray,List.getElem_cons_zero,List.getElem_cons_succ]at hd⊢;have a:=hd (1,4,eqA (.slice (some ⟨m,0,none⟩) 3 3)) (List.mem_of_getElem? (i:=1) rfl) Kr
   replace a:ρ (.tmp 4)= .slice (some ⟨m,0,none⟩) 3 3:=a
   have o:=hd (2,5,eqA (.slice pp xs.length cp)) (List.mem_of_getElem? (i:=2) rfl) Kr
   replace o:ρ (.tmp 5)= .slice pp xs.length cp:=o
   exact Qyt hlm (Xt hlw E.size) l.out n.out h3 hx E a o
  case' d1_4=>
   refine⟨_,rfl,rfl,rfl,fun ρ w hd hc hfn hf E=> ?_⟩;simp only [List.getElem_toArray,List.getElem_cons_zero,List.getElem_cons_succ]at hd⊢;have a:=hd (3,6,Qp4 lo (ms++xs)) (List.mem_of_getElem? (i:=3) rfl) Kr;exact .val (v:=ρ (.tmp 6)) rfl (Ext.rf _) a
 intro val z s hall;obtain⟨c,f,g,j,k,-⟩:=hall
 replace c:val 3= .slice (some ⟨m,0,none⟩) 3 3:=c
 replace f:val 4= .slice (some ⟨m,0,none⟩) 3 3:=f
 replace g:val 5= .slice pp xs.length cp:=g
 obtain⟨A,B,j,t,D⟩:=j;obtain⟨u,x,k,p,y⟩:=k;simp only [List.foldl_cons,List.foldl_nil,c,f,g,j,k];clear c f g j k;refine⟨Kr,?_⟩;have r:=Xh p;clear p t;go_simp;go_wp2;go_ret;exact⟨u,x,by rw [List.length_append,h3];rfl,r.out,y,s⟩
section
variable {P:Program} {ops:Array Oper}
def Qbv(p:Q6):Prop:= ∀w w' v,Ru.Qat w w'→p w v→p w' v
theorem QX(u:Value):Qbv (eqA u):=fun _ _ _ _ h=>h
theorem Jr:Qbv (fun _ _=>True):=fun _ _ _ _ h=>h
theorem Jn.wp{o:Oper}{p:Q6}{K:Act→World→Prop}(h:Jn P a.eval o w p)(k: ∀v w',Ext w w'→p w' v→K (a.put o.dst v) w'):o.wp P a w K Q:=by
 unfold Oper.wp;rcases h with⟨v,w',h1,h2,h3⟩|⟨f,args,h1,h2⟩
 ·rw [h1,Oper.upon_value];exact k v w' h2 h3
 ·rw [h1];refine h2.mono fun e w' h=> ?_;obtain⟨v,rfl,b,c⟩:=h;exact k v w' b c
def QsM:Value→Int| .int _ n=>n|_=>0
theorem Qp5{α:Type}{g:α→Int}{l:List α}(h:(l.map g).Nodup){x y:α}(hx:x∈l)(hy:y∈l)(e:g x=g y):x=y:=by
 induction l with
 |nil=>cases hx
 |cons a l ih=>
  simp only [List.map_cons,List.nodup_cons,List.mem_map,not_exists,not_and]at h;rcases List.mem_cons.1 hx with rfl|hx'<;>rcases List.mem_cons.1 hy with rfl|hy'
  ·rfl
  ·exact absurd e.symm (h.1 y hy')
  ·exact absurd e (h.1 x hx')
  ·exact ih h.2 hx' hy'
theorem Je{l m:List Nat}(h:(l++m).Nodup):l.Nodup∧m.Nodup∧ ∀x∈l,x ∉ m:=by
 rw [List.nodup_append]at h;exact⟨h.1,h.2.1,fun x hx hm=>h.2.2 x hx x hm rfl⟩
open Ru in
structure QvI(L:QcE P)(N:Nat)(ops:Array Oper)(a0:Act)(w0:World):Prop where
 law:Qfp P L.kt L.K
 ty:P.underlying L.t=some (.map L.kt L.et)
 hN:ops.size=N
 cover:((List.range N).all fun i=>i==L.im||((L.D.map (·.1)).contains i||((L.C.map (·.1)).contains i||(L.I.map (·.1)).contains i)))=true
 acyc:Qp2 ops=true
 idx:(L.D.map (·.1)++(L.C.map (·.1)++(L.I.map (·.1)++ [L.im]))).Nodup
 slots:(L.D.map (·.2.1)++(L.C.map (·.2.1)++ [L.dm])).Nodup
 keys:(L.I.map fun x=>QsM x.2.1).Nodup
 inb:((L.D.map (·.2.1)++(L.C.map (·.2.1)++ [L.dm])).all fun s=>decide (s<a0.tmps.size))=true
 stD:Qdh (fun x=>Qbv x.2.2) L.D
 stI: ∀x∈L.I,Qbv x.2.2
 hmk: ∃o,ops[L.im]?=some o∧o.dst=some L.dm∧o.guard=none∧o.op= .makeMap L.t none
 does:Qdh (fun x=> ∃o,ops[x.1]?=some o∧o.guard=none∧o.dst=some x.2.1∧ ∀(ρ:Operand→Value) (w:World),
  (∀y∈L.D,(o.after.any fun e=>Region.binds .any e&&e.on==y.1)=true→y.2.2 w (ρ (.tmp y.2.1)))→(∀v,ρ (.const v)=v)→(∀f,ρ (.func f)= .func (.func f) #[] #[])→(∀s,(L.D.map (·.2.1)++(L.C.map (·.2.1)++ [L.dm])).contains s=false→ρ (.tmp s)=a0.tmps.getD s undef)→Ext w0 w→Qat w0 w→Jn P ρ o w x.2.2) L.D
 hC: ∀x∈L.C,∃o,ops[x.1]?=some o∧o.dst=some x.2.1∧o.guard=none∧(o.op= .move (.tmp x.2.2)∨o.op= .assign (.tmp x.2.2))∧
  ((x.2.2=L.dm∧(o.after.any fun e=>Region.binds .any e&&e.on==L.im)=true)∨ ∃y∈L.C,y.2.1=x.2.2∧(o.after.any fun e=>Region.binds .any e&&e.on==y.1)=true)
 hI: ∀x∈L.I,∃o k s,ops[x.1]?=some o∧o.dst=none∧o.guard=none∧o.op= .insert L.t (.tmp L.dm) k (.tmp s)∧L.K x.2.1∧(o.after.any fun e=>Region.binds .any e&&e.on==L.im)=true∧k= .const x.2.1∧
  ∃y∈L.D,y.2.1=s∧y.2.2=x.2.2∧(o.after.any fun e=>Region.binds .any e&&e.on==y.1)=true
theorem Qba{o:Oper}{n:Nat}(h:(o.after.any fun e=>Region.binds .any e&&e.on==n)=true): ∃e∈o.after,e.on=n∧Region.binds .any e=true:=by
 obtain⟨e,b,a⟩:=Array.any_eq_true'.1 h;simp only [Bool.and_eq_true,beq_iff_eq]at a;exact⟨e,b,a.2,a.1⟩
open Ru in
theorem QvI.fits{L:QcE P}{N:Nat}(F:QvI L N ops a0 w0)(hkey: ∀x∈L.I,∀y∈L.I,x.2.1=y.2.1→QsM x.2.1=QsM y.2.1:=by intro x _ y _ h;rw [h]):L.Fits ops Q a0 w0:=by
 obtain⟨G,H,A⟩:=Je F.idx;obtain⟨J,K,B⟩:=Je H;obtain⟨M,Z,O⟩:=Je K;obtain⟨R,S,E⟩:=Je F.slots;obtain⟨T,s5,U⟩:=Je S;have q: ∀s∈(L.D.map (·.2.1)++(L.C.map (·.2.1)++ [L.dm])),s<a0.tmps.size:=fun s hs=>by simpa using List.all_eq_true.1 F.inb s hs
 have r: ∀{x},x∈L.D→x.1∈L.D.map (·.1):=fun{x} h=>List.mem_map.2 ⟨x,h,rfl⟩;have t: ∀{x},x∈L.C→x.1∈L.C.map (·.1):=fun{x} h=>List.mem_map.2 ⟨x,h,rfl⟩;have u: ∀{x},x∈L.I→x.1∈L.I.map (·.1):=fun{x} h=>List.mem_map.2 ⟨x,h,rfl⟩;have n: ∀{x},x∈L.D→x.2.1∈L.D.map (·.2.1):=fun{x} h=>List.mem_map.2 ⟨x,h,rfl⟩;have p: ∀{x},x∈L.C→x.2.1∈L.C.map (·.2.1):=fun{x} h=>List.mem_map.2 ⟨x,h,rfl⟩;refine⟨F.law,F.ty,fun i z=> ?_,fun i o ho e he=> ?_,⟨fun x hx=>⟨q _ (List.mem_append_left _ (n hx)),fun e=>E _ (n hx) (by rw [e];simp),fun y b e=>E _ (n hx) (by rw [←e];exact List.mem_append_left _ (p b))⟩,fun x hx=>⟨q _ (List.mem_append_right _ (List.mem_append_left _ (p hx))),fun e=>U _ (p hx) (by rw [e];simp)⟩,q _ (by simp)⟩,fun x hx y b e=> ?_,fun x hx y b e=> ?_,fun x hx y b e=> ?_,fun x hx y b e=>JE (g:=fun x:Nat×Value×J7=>x.1) M hx b e,⟨fun x hx=>⟨fun e=>A _ (r hx) (by rw [e];simp),fun y b e=>A _ (r hx) (by rw [←e];exact List.mem_append_left _ (t b)),fun y b e=>A _ (r hx) (by rw [←e];exact List.mem_append_right _ (List.mem_append_left _ (u b)))⟩,fun x hx=>⟨fun e=>B _ (t hx) (by rw [e];simp),fun y b e=>B _ (t hx) (by rw [←e];exact List.mem_append_left _ (u b))⟩,fun x hx e=>O _ (u hx) (by rw [e];simp)⟩,fun x hx y b e=>JE (g:=fun x:Nat×Nat×J7=>x.1) G hx b e,fun x hx y b e=>JE (g:=fun x:Nat×Nat×Nat=>x.1) J hx b e,⟨fun x hx=>F.stD.mem x hx,F.stI⟩,F.hmk,fun x hx=> ?_,fun x hx=> ?_,fun x hx=> ?_⟩
 ·have:=List.all_eq_true.1 F.cover i (List.mem_range.2 (by rw [←F.hN];exact z));simp only [Bool.or_eq_true,beq_iff_eq,List.contains_iff_mem,List.mem_map]at this;rcases this with h|⟨x,hx,e⟩|⟨x,hx,e⟩|⟨x,hx,e⟩
  ·exact .inl h
  ·exact .inr (.inl ⟨x,hx,e⟩)
  ·exact .inr (.inr (.inl ⟨x,hx,e⟩))
  ·exact .inr (.inr (.inr ⟨x,hx,e⟩))
 ·have z:i<ops.size:=(Array.getElem?_eq_some_iff.1 ho).1;have:=List.all_eq_true.1 F.acyc i (List.mem_range.2 z);rw [ho]at this;simp only [Array.all_eq_true_iff_forall_mem,decide_eq_true_eq]at this;exact this e he
 ·rw [JE (g:=fun x:Nat×Nat×J7=>x.2.1) R hx b e];exact⟨rfl,rfl⟩
 ·rw [JE (g:=fun x:Nat×Nat×Nat=>x.2.1) T hx b e]
 ·rw [Qp5 (g:=fun x:Nat×Value×J7=>QsM x.2.1) F.keys hx b (hkey x hx y b e)]
 ·obtain⟨o,d,f,j,l⟩:=F.does.mem x hx;refine⟨o,d,f,fun a w Kk hd hf hE hk=> ?_⟩;have:=l a.eval w (fun y b hany=>hd y b (Qba hany)) (fun _=>rfl) (fun _=>rfl) (fun s hs=>hf s ⟨fun y b e=> ?_,fun y b e=> ?_,fun e=> ?_⟩) hE (Qat.of hE)
  ·refine this.wp fun v w' hv hp=> ?_;rw [j];exact hk v w' hv hp
  ·have:(L.D.map (·.2.1)++(L.C.map (·.2.1)++ [L.dm])).contains s=true:=List.contains_iff_mem.2 (by rw [←e];exact List.mem_append_left _ (n b));rw [hs]at this;cases this
  ·have:(L.D.map (·.2.1)++(L.C.map (·.2.1)++ [L.dm])).contains s=true:=List.contains_iff_mem.2 (by rw [←e];exact List.mem_append_right _ (List.mem_append_left _ (p b)));rw [hs]at this;cases this
  ·have:(L.D.map (·.2.1)++(L.C.map (·.2.1)++ [L.dm])).contains s=true:=List.contains_iff_mem.2 (by rw [e];simp);rw [hs]at this;cases this
 ·obtain⟨o,d,f,j,l,c⟩:=F.hC x hx;refine⟨o,d,f,j,l,?_⟩;rcases c with⟨c,m⟩|⟨y,b,c,m⟩
  ·exact .inl ⟨c,Qba m⟩
  ·exact .inr ⟨y,b,c,Qba m⟩
 ·obtain⟨o,k,s,d,f,j,l,c,m,V,y,b,W,X,Y⟩:=F.hI x hx;refine⟨o,k,.tmp s,d,f,j,l,c,Qba m,fun a w hd hf hE=>⟨by rw [V];rfl,?_⟩⟩;have:=hd y b (Qba Y);rw [X,W]at this;exact this
end
def mvL(Bc:Nat):List Pt:= [⟨some ⟨Bc,2,none⟩,1,0,0,5⟩,⟨some ⟨Bc,3,none⟩,1,0,0,15⟩,⟨some ⟨Bc,4,none⟩,4,0,0,2147483647⟩]
def Mv3(lo:Nat)(ms:List Pt):Q6:=fun w v=> ∃m,v= .slice (some ⟨m,0,none⟩) 3 3∧ZM w (some ⟨m,0,none⟩) ms∧lo≤m
theorem Qkf(lo:Nat)(ms:List Pt):JO (Mv3 lo ms):=fun w w' v hE ⟨m,h1,h2,h3⟩=>⟨m,h1,h2.ext hE,h3⟩
def Qp6(lo:Nat):Q6:=fun w v=> ∃B,v= .pointer (some ⟨B,0,none⟩)∧lo≤B∧Lt B w∧RowZ w B #[.slice none 0 0]
theorem Qhf(lo:Nat):JO (Qp6 lo):=fun w w' v hE ⟨B,h1,h2,h3,h4⟩=>⟨B,h1,h2,Xl h3 hE.size,h4.ext hE⟩
theorem Qp7{lo:Nat}{ty:TypeId}(hlo:lo≤w.heap.size):Jn Tryz.prog ρ ⟨dst,.alloc 261,ty,pos,after,none⟩ w (Qp6 lo):=by
 refine .val (v:= .pointer (some ⟨w.heap.size,0,none⟩)) (w':=w.alloc (.cells #[.slice none 0 0] 261)) (by simp only [execOp];go_simp) Ea ⟨w.heap.size,rfl,hlo,by simp [go_sem,Lt],RowZ.new _ _ _⟩
theorem Qdi{C:Nat→Prop}{q:Option Addr}(h0:w.cell? ⟨B,i,none⟩=some (.pointer q))(hl:Lt B w)(hC: ¬C B){ty:TypeId}
  (hx:ρ x= .pointer (some ⟨B,i,none⟩)): ∀w',Mv C w w'→(execOp ρ ⟨dst,.load 228 x,ty,pos,after,g⟩).run Tryz.prog w'= .ok (.value (.pointer q)) w':=by
 intro w' a;have b:w'.cell? ⟨B,i,none⟩=some (.pointer q):=by rw [Qa,Qf (a.same B hl hC),←Qa];exact h0
 simp only [execOp,hx];go_simp
theorem QvJ{C:Nat→Prop}{a b c d e:Value}(h0:RowZ w B #[a,b,c,d,e])(hC: ¬C B){ty:TypeId}
  (hx:ρ x= .pointer (some ⟨B,0,none⟩)): ∀w',Mv C w w'→(execOp ρ ⟨dst,.load 231 x,ty,pos,after,g⟩).run Tryz.prog w'= .ok (.value (.agg #[a,b,c,d,e])) w':=by
 intro w' h;have f:=h0.mv h hC;have i:=f.cell 0 (by show 0<5;omega);have j:=f.cell 1 (by show 1<5;omega);have k:=f.cell 2 (by show 2<5;omega);have m:=f.cell 3 (by show 3<5;omega);have n:=f.cell 4 (by show 4<5;omega);have l:=f.l;simp only [execOp,hx];go_simp
theorem ZM.row{xs:List Pt}(h:Qc w B=(QbE xs).toArray)(hl:Lt B w):ZM w (some ⟨B,0,none⟩) xs:=fun k hk=>by
 have a: ∀j,j<5→w.cell? ⟨B,0+k*5+j,none⟩=(xs[k]).cl[j]?:=fun j hj=>by
  rw [←QcF xs k j hk hj,Qa,h,Nat.zero_add];simp
 exact⟨B,0,rfl,hl,a 0 Om,a 1 Om,a 2 Om,a 3 Om,a 4 Om⟩
theorem Qp8{lo:Nat}(hlo:lo≤w.heap.size){x y z:Pt}(ρ:Operand→Value)(dst:Option Tmp)(p q r:Operand)(ty:TypeId)(pos:String)(after:Array Edge)
  (h0:ρ p=x.v)(h1:ρ q=y.v)(h2:ρ r=z.v):Jn Tryz.prog ρ ⟨dst,.buildSlice 261 3 #[(0,p),(1,q),(2,r)],ty,pos,after,none⟩ w (Mv3 lo [x,y,z]):=by
 refine .val (v:= .slice (some ⟨w.heap.size,0,none⟩) 3 3) (w':=w.alloc (.cells (QbE [x,y,z]).toArray 231)) ?_ Ea ⟨w.heap.size,rfl,ZM.row (by rw [Zn]) (by simp [go_sem,Lt]),hlo⟩;simp only [execOp,List.map_toArray,List.map_cons,List.map_nil,h0,h1,h2];go_simp;rfl
theorem Qnk{v u:Value}(hc:w.cell? ⟨B,0,none⟩=some u)(hf:w.frozen? ⟨B,0,none⟩=false)(hv: ∃a m c,v= .slice a m c){ty:TypeId}
  (hx:ρ x= .pointer (some ⟨B,0,none⟩))(hy:ρ y=v):(execOp ρ ⟨dst,.store 261 x y,ty,pos,after,g⟩).run Tryz.prog w= .ok .skip (w.setCell ⟨B,0,none⟩ v):=by
 obtain⟨a,m,c,rfl⟩:=hv;simp only [execOp,hx,hy];go_simp
theorem ZM.mvo{A B:World}{n:Nat}{p:Option Addr}{xs:List Pt}(h:ZM A p xs)(m:Mv (fun k=>k=n) A B)(hb: ∀b off,p=some ⟨b,off,none⟩→b≠n):ZM B p xs:=fun k hk=>by
 obtain⟨b,off,a,c,d,f,g,i,j⟩:=h k hk;have e:=Qf (m.same b c (hb b off a));simp only [Qa]at d f g i j⊢;exact⟨b,off,a,Xl c m.size,by rw [e];exact d,by rw [e];exact f,by rw [e];exact g,by rw [e];exact i,by rw [e];exact j⟩
theorem Qay{p:Option Addr}{xs:List Pt}(h:ZM w p xs)(m:Ru.Qat w w'):ZM w' p xs:=fun k hk=>by
 obtain⟨b,a,c,d,e,f,g,i,j⟩:=h k hk;exact⟨b,a,c,Xl d m.2,m.1 _ _ _ e,m.1 _ _ _ f,m.1 _ _ _ g,m.1 _ _ _ i,m.1 _ _ _ j⟩
theorem ZT(lo:Nat)(ms xs:List Pt):Qbv (CloPt lo ms xs):=by
 rintro w o v a ⟨b,c,m,d,e,f,g,h,i,j,k,l,n⟩;exact⟨b,c,m,d,e,f,g,a.1 _ _ _ h,Xl i a.2,Qay j a,a.1 _ _ _ k,Xl l a.2,Qay n a⟩
def Sl1(x:Pt):Q6:=fun w v=> ∃q,v= .slice (some ⟨q,0,none⟩) 1 1∧ZM w (some ⟨q,0,none⟩) [x]
theorem Qcc(x:Pt):Qbv (Sl1 x):=fun w w' v hm ⟨q,h1,h2⟩=>⟨q,h1,Qay h2 hm⟩
theorem Qe0{x:Pt}{p:Operand}{ty:TypeId}
  (h0:ρ p=x.v):Jn Tryz.prog ρ ⟨dst,.buildSlice 261 1 #[(0,p)],ty,pos,after,none⟩ w (Sl1 x):=by
 refine .val (v:= .slice (some ⟨w.heap.size,0,none⟩) 1 1) (w':=w.alloc (.cells (QbE [x]).toArray 231)) ?_ Ea ⟨w.heap.size,rfl,ZM.row (by rw [Zn]) (by simp [go_sem,Lt])⟩;simp only [execOp,List.map_toArray,List.map_cons,List.map_nil,h0];go_simp;rfl
theorem JQ(tys:Array TypeId){ty:TypeId}{f:Nat}{lb:Array Value}{v:Value}(hx:ρ x= .func (.func f) #[] lb)(hy:ρ y=v)(eg: ∀args w,(callFunc f args).run Tryz.prog w= .ok (.enter f args) w):
  (execOp ρ ⟨dst,.call {callee:= .value x,args:=#[y],argTypes:=tys},ty,pos,after,g⟩).run Tryz.prog w= .ok (.enter f (#[v]++lb)) w:=by
 unfold execOp;simp only [resolve,hx,hy,List.map_toArray,List.map_cons,List.map_nil];simp [invoke,go_sem,eg]
theorem Js: ∀args w,(callFunc 242 args).run Tryz.prog w= .ok (.enter 242 args) w:=enters_of Tryz.func242 Kr rfl
def cpartsL(w:World)(Bc Bo b2 b6 B7:Nat):Ru.QcE Tryz.prog:={t:=259,kt:=5,et:=258,K:=(fun x=> ∃n:Int,x= .int .u8 n),im:=0,dm:=28,D:= [(1,29,eqA (.func (.func 242) #[] #[.pointer (some ⟨B7,0,none⟩)])),(2,30,eqA (.pointer (some ⟨Bc,0,none⟩))),(3,31,eqA (.pointer (some ⟨Bc,0,none⟩))),(4,32,eqA (.pointer (some ⟨Bc,5,none⟩))),(5,33,eqA (.agg #[.pointer (some ⟨Bc,5,none⟩),.int .i64 1,.int .i64 1,.int .i64 0,.int .i64 5])),(6,34,Sl1 ⟨some ⟨Bc,5,none⟩,1,1,0,5⟩),(7,35,CloPt w.heap.size (mvL Bc) [⟨some ⟨Bc,5,none⟩,1,1,0,5⟩]),(9,36,eqA (.func (.func 242) #[] #[.pointer (some ⟨B7,0,none⟩)])),(10,37,eqA (.pointer (some ⟨Bc,0,none⟩))),(11,38,eqA (.pointer (some ⟨Bc,0,none⟩))),(12,39,eqA (.pointer (some ⟨Bc,5,none⟩))),(13,40,eqA (.agg #[.pointer (some ⟨Bc,5,none⟩),.int .i64 1,.int .i64 1,.int .i64 (-1),.int .i64 5])),(14,41,Sl1 ⟨some ⟨Bc,5,none⟩,1,1,(-1),5⟩),(15,42,CloPt w.heap.size (mvL Bc) [⟨some ⟨Bc,5,none⟩,1,1,(-1),5⟩]),(17,43,eqA (.func (.func 242) #[] #[.pointer (some ⟨B7,0,none⟩)])),(18,44,CloPt w.heap.size (mvL Bc) []),(20,45,eqA (.func (.func 242) #[] #[.pointer (some ⟨B7,0,none⟩)])),(21,46,eqA (.pointer (some ⟨Bo,0,none⟩))),(22,47,eqA (.agg #[.pointer (some ⟨Bo,0,none⟩),.int .i64 1,.int .i64 0,.int .i64 1,.int .i64 3])),(23,48,Sl1 ⟨some ⟨Bo,0,none⟩,1,0,1,3⟩),(24,49,CloPt w.heap.size (mvL Bc) [⟨some ⟨Bo,0,none⟩,1,0,1,3⟩]),(26,50,fun _ _=>True),(28,51,fun _ _=>True)],C:= [(30,52,28),(31,4,52)],I:= [(8,.int .u8 1,CloPt w.heap.size (mvL Bc) [⟨some ⟨Bc,5,none⟩,1,1,0,5⟩]),(16,.int .u8 2,CloPt w.heap.size (mvL Bc) [⟨some ⟨Bc,5,none⟩,1,1,(-1),5⟩]),(19,.int .u8 3,CloPt w.heap.size (mvL Bc) []),(25,.int .u8 4,CloPt w.heap.size (mvL Bc) [⟨some ⟨Bo,0,none⟩,1,0,1,3⟩]),(27,.int .u8 5,fun _ _=>True),(29,.int .u8 6,fun _ _=>True)]}
def Qnl(Bc:Nat)(w:World)(e:Ending)(w':World):Prop:= ∃B f,e= .returned (.map (some B))∧Ext w w'∧Ru.ZE (fun x=> ∃n:Int,x= .int .u8 n) w' B f∧
 (∃v,f (.int .u8 1)=some v∧CloPt w.heap.size (mvL Bc) [⟨some ⟨Bc,5,none⟩,1,1,0,5⟩] w' v)∧(∃v,f (.int .u8 2)=some v∧CloPt w.heap.size (mvL Bc) [⟨some ⟨Bc,5,none⟩,1,1,(-1),5⟩] w' v)∧(∃v,f (.int .u8 3)=some v∧CloPt w.heap.size (mvL Bc) [] w' v)
theorem Qkg(Bc Bo:Nat)(w:World)(lc:Lt Bc w)(cc:(w.cell? ⟨Bc,0,none⟩).isSome=true):
  Calls Tryz.prog 227 #[.pointer (some ⟨Bc,0,none⟩),.pointer (some ⟨Bo,0,none⟩)] w (Qnl Bc w):=by
 go_enter Tryz.func227,Tryz.ntmps227
 go_upto_region 3 with(fail)
 obtain⟨l,u⟩: ∃l,(((w.alloc (.cells #[.pointer (some ⟨Bc,0,none⟩)] 228)).alloc (.cells #[.pointer (some ⟨Bc,2,none⟩),.int .i64 1,.int .i64 0,.int .i64 0,.int .i64 5] 231)).alloc (.cells #[.pointer (some ⟨Bc,2,none⟩),.int .i64 1,.int .i64 0,.int .i64 0,.int .i64 2] 231))=l:=⟨_,rfl⟩;have I:Ext w l:=by rw [←u];exact Ext.al (Ext.al Ea _) _
 have s:l.cell? ⟨w.heap.size,0,none⟩=some (.pointer (some ⟨Bc,0,none⟩)):=by rw [←u];simp [go_sem]
 have j:Lt w.heap.size l:=by rw [←u];simp [go_sem,Lt]
 have F:RowZ l (w.heap.size+1) #[.pointer (some ⟨Bc,2,none⟩),.int .i64 1,.int .i64 0,.int .i64 0,.int .i64 5]:=by rw [←u];exact⟨by simp [go_sem],by simp [go_sem],by simp [go_sem,Lt]⟩
 rw [u];clear u;obtain⟨g,e2⟩: ∃b,w.heap.size=b:=⟨_,rfl⟩;rw [e2]at s j F⊢;obtain⟨b5,e5⟩: ∃b,g+1=b:=⟨_,rfl⟩;rw [e5]at F⊢;obtain⟨b6,e6⟩: ∃b,b5+1=b:=⟨_,rfl⟩;rw [e6];have EW:Ext w l.drew:=I.tr (Ext.dr (Ext.rf _));have EW:Ext w l.drew:=EW;have s:l.drew.cell? ⟨g,0,none⟩=some (.pointer (some ⟨Bc,0,none⟩)):=s;have j:Lt g l.drew:=j;have F:RowZ l.drew b5 #[.pointer (some ⟨Bc,2,none⟩),.int .i64 1,.int .i64 0,.int .i64 0,.int .i64 5]:=F.ext (Ext.dr (Ext.rf _));refine Qa7 [(0,17,eqA (.agg #[.pointer (some ⟨Bc,2,none⟩),.int .i64 1,.int .i64 0,.int .i64 0,.int .i64 5])),(1,18,eqA (.pointer (some ⟨Bc,0,none⟩))),(2,19,eqA (.pointer (some ⟨Bc,0,none⟩))),(3,20,eqA (.pointer (some ⟨Bc,3,none⟩))),(4,21,eqA (.agg #[.pointer (some ⟨Bc,3,none⟩),.int .i64 1,.int .i64 0,.int .i64 0,.int .i64 15])),(5,22,eqA (.pointer (some ⟨Bc,0,none⟩))),(6,23,eqA (.pointer (some ⟨Bc,0,none⟩))),(7,24,eqA (.pointer (some ⟨Bc,4,none⟩))),(8,25,eqA (.agg #[.pointer (some ⟨Bc,4,none⟩),.int .i64 4,.int .i64 0,.int .i64 0,.int .i64 2147483647])),(9,26,Mv3 l.heap.size (mvL Bc)),(10,7,Qp6 l.heap.size)] 11 12 1 2047 rfl Dc Kr ⟨rfl,(by show List.Nodup [17,18,19,20,21,22,23,24,25,26,7];decide),rfl,Om,rfl,Kr,Kr,?stab3,?does3⟩ ?after3
 case' stab3=>exact⟨QQ _,QQ _,QQ _,QQ _,QQ _,QQ _,QQ _,QQ _,QQ _,(Qkf _ _),(Qhf _),trivial⟩
 case' does3=>
  refine⟨?d3_0,?d3_1,?d3_2,?d3_3,?d3_4,?d3_5,?d3_6,?d3_7,?d3_8,?d3_9,?d3_10,trivial⟩
  case' d3_0=>
   refine⟨_,rfl,rfl,rfl,fun ρ w d hc hfn hf E=> ?_⟩;simp only [List.getElem_toArray,List.getElem_cons_zero,List.getElem_cons_succ]at d⊢;have c:ρ (.tmp 5)= .pointer (some ⟨b5,0,none⟩):=(hf 5 rfl).trans rfl;exact .eq (QvJ (C:=fun _=>False) F (fun h=>h) c _ (Mv.of_ext E))
  case' d3_1=>
   refine⟨_,rfl,rfl,rfl,fun ρ w d hc hfn hf E=> ?_⟩;simp only [List.getElem_toArray,List.getElem_cons_zero,List.getElem_cons_succ]at d⊢;have c:ρ (.tmp 2)= .pointer (some ⟨g,0,none⟩):=(hf 2 rfl).trans rfl;exact .eq (Qdi (C:=fun _=>False) s j (fun h=>h) c _ (Mv.of_ext E))
  case' d3_2=>
   refine⟨_,rfl,rfl,rfl,fun ρ w d hc hfn hf E=> ?_⟩;simp only [List.getElem_toArray,List.getElem_cons_zero,List.getElem_cons_succ]at d⊢;have c:=d (1,18,eqA (.pointer (some ⟨Bc,0,none⟩))) (List.mem_of_getElem? (i:=1) rfl) Kr
   replace c:ρ (.tmp 18)= .pointer (some ⟨Bc,0,none⟩):=c
   exact .eq (by simp only [execOp,c];go_simp)
  case' d3_3=>
   refine⟨_,rfl,rfl,rfl,fun ρ w d hc hfn hf E=> ?_⟩;simp only [List.getElem_toArray,List.getElem_cons_zero,List.getElem_cons_succ]at d⊢;have c:=d (2,19,eqA (.pointer (some ⟨Bc,0,none⟩))) (List.mem_of_getElem? (i:=2) rfl) Kr
   replace c:ρ (.tmp 19)= .pointer (some ⟨Bc,0,none⟩):=c
   exact .eq (by simp only [execOp,c];go_simp)
  case' d3_4=>
   refine⟨_,rfl,rfl,rfl,fun ρ w d hc hfn hf E=> ?_⟩;simp only [List.getElem_toArray,List.getElem_cons_zero,List.getElem_cons_succ]at d⊢;have c:=d (3,20,eqA (.pointer (some ⟨Bc,3,none⟩))) (List.mem_of_getElem? (i:=3) rfl) Kr
   replace c:ρ (.tmp 20)= .pointer (some ⟨Bc,3,none⟩):=c
   exact .eq (by simp only [execOp,c,hc,List.map_toArray,List.map_cons,List.map_nil];kernel_rfl)
  case' d3_5=>
   refine⟨_,rfl,rfl,rfl,fun ρ w d hc hfn hf E=> ?_⟩;simp only [List.getElem_toArray,List.getElem_cons_zero,List.getElem_cons_succ]at d⊢;have c:ρ (.tmp 2)= .pointer (some ⟨g,0,none⟩):=(hf 2 rfl).trans rfl;exact .eq (Qdi (C:=fun _=>False) s j (fun h=>h) c _ (Mv.of_ext E))
  case' d3_6=>
   refine⟨_,rfl,rfl,rfl,fun ρ w d hc hfn hf E=> ?_⟩;simp only [List.getElem_toArray,List.getElem_cons_zero,List.getElem_cons_succ]at d⊢;have c:=d (5,22,eqA (.pointer (some ⟨Bc,0,none⟩))) (List.mem_of_getElem? (i:=5) rfl) Kr
   replace c:ρ (.tmp 22)= .pointer (some ⟨Bc,0,none⟩):=c
   exact .eq (by simp only [execOp,c];go_simp)
  case' d3_7=>
   refine⟨_,rfl,rfl,rfl,fun ρ w d hc hfn hf E=> ?_⟩;simp only [List.getElem_toArray,List.getElem_cons_zero,List.getElem_cons_succ]at d⊢;have c:=d (6,23,eqA (.pointer (some ⟨Bc,0,none⟩))) (List.mem_of_getElem? (i:=6) rfl) Kr
   replace c:ρ (.tmp 23)= .pointer (some ⟨Bc,0,none⟩):=c
   exact .eq (by simp only [execOp,c];go_simp)
  case' d3_8=>
   refine⟨_,rfl,rfl,rfl,fun ρ w d hc hfn hf E=> ?_⟩;simp only [List.getElem_toArray,List.getElem_cons_zero,List.getElem_cons_succ]at d⊢;have c:=d (7,24,eqA (.pointer (some ⟨Bc,4,none⟩))) (List.mem_of_getElem? (i:=7) rfl) Kr
   replace c:ρ (.tmp 24)= .pointer (some ⟨Bc,4,none⟩):=c
   exact .eq (by simp only [execOp,c,hc,List.map_toArray,List.map_cons,List.map_nil];kernel_rfl)
  case' d3_9=>
   refine⟨_,rfl,rfl,rfl,fun ρ w d hc hfn hf E=> ?_⟩;simp only [List.getElem_toArray,List.getElem_cons_zero,List.getElem_cons_succ]at d⊢;have c:=d (0,17,eqA (.agg #[.pointer (some ⟨Bc,2,none⟩),.int .i64 1,.int .i64 0,.int .i64 0,.int .i64 5])) (List.mem_of_getElem? (i:=0) rfl) Kr
   replace c:ρ (.tmp 17)= .agg #[.pointer (some ⟨Bc,2,none⟩),.int .i64 1,.int .i64 0,.int .i64 0,.int .i64 5]:=c
   have o:=d (4,21,eqA (.agg #[.pointer (some ⟨Bc,3,none⟩),.int .i64 1,.int .i64 0,.int .i64 0,.int .i64 15])) (List.mem_of_getElem? (i:=4) rfl) Kr
   replace o:ρ (.tmp 21)= .agg #[.pointer (some ⟨Bc,3,none⟩),.int .i64 1,.int .i64 0,.int .i64 0,.int .i64 15]:=o
   have O:=d (8,25,eqA (.agg #[.pointer (some ⟨Bc,4,none⟩),.int .i64 4,.int .i64 0,.int .i64 0,.int .i64 2147483647])) (List.mem_of_getElem? (i:=8) rfl) Kr
   replace O:ρ (.tmp 25)= .agg #[.pointer (some ⟨Bc,4,none⟩),.int .i64 4,.int .i64 0,.int .i64 0,.int .i64 2147483647]:=O
   exact Qp8 (hlo:=E.size) _ _ _ _ _ _ _ _ c o O
  case' d3_10=>
   refine⟨_,rfl,rfl,rfl,fun ρ w d hc hfn hf E=> ?_⟩;simp only [List.getElem_toArray,List.getElem_cons_zero,List.getElem_cons_succ]at d⊢;exact Qp7 E.size
 intro val WN J hall;obtain⟨Q,R,S,T,U,V,W,X,Y,Z,a0,-⟩:=hall
 replace Q:val 17= .agg #[.pointer (some ⟨Bc,2,none⟩),.int .i64 1,.int .i64 0,.int .i64 0,.int .i64 5]:=Q
 replace R:val 18= .pointer (some ⟨Bc,0,none⟩):=R
 replace S:val 19= .pointer (some ⟨Bc,0,none⟩):=S
 replace T:val 20= .pointer (some ⟨Bc,3,none⟩):=T
 replace U:val 21= .agg #[.pointer (some ⟨Bc,3,none⟩),.int .i64 1,.int .i64 0,.int .i64 0,.int .i64 15]:=U
 replace V:val 22= .pointer (some ⟨Bc,0,none⟩):=V
 replace W:val 23= .pointer (some ⟨Bc,0,none⟩):=W
 replace X:val 24= .pointer (some ⟨Bc,4,none⟩):=X
 replace Y:val 25= .agg #[.pointer (some ⟨Bc,4,none⟩),.int .i64 4,.int .i64 0,.int .i64 0,.int .i64 2147483647]:=Y
 obtain⟨m,Z,z,a4⟩:=Z;obtain⟨f,a0,a6,a2,a1⟩:=a0;simp only [List.foldl_cons,List.foldl_nil,Q,R,S,T,U,V,W,X,Y,Z,a0];clear Q R S T U V W X Y Z a0;have P:=Xh (Xt I.size a4);have y:=a1.cell 0 (by show 0<1;omega);have f7:=a1.frz 0;have a3:m≠f:=fun e=>by
  obtain⟨b,a5,D,-,d0,-⟩:=z 0 (by show 0<3;omega)
  cases D
  subst e;rw [show 0+0*5=0 from rfl,y]at d0
  cases d0
 refine QiO (C:=fun k=>k=f) ?_;refine QaO (k:=11) (N:=12) (m:=2047) Kr (Qan (m':=4095) rfl rfl Kr (Qnk (v:= .slice (some ⟨m,0,none⟩) 3 3) y f7 ⟨_,_,_,rfl⟩ Kr Kr) (Mv.st _ (.inl rfl) (Mv.refl _ _)) ?_);refine doneK (listed:=msk 12 4095) Kr ?_;obtain⟨n,u⟩: ∃n,WN.setCell ⟨f,0,none⟩ (.slice (some ⟨m,0,none⟩) 3 3)=n:=⟨_,rfl⟩;have G:Mv (fun k=>k=f) WN n:=by rw [←u];exact Mv.st _ (.inl rfl) (Mv.refl _ _)
 have E2:Ext w n:=Mv.ext_of (I.tr J) G (fun k e=>by have:=I.size;omega);have s:n.cell? ⟨g,0,none⟩=some (.pointer (some ⟨Bc,0,none⟩)):=by
  have hb:g≠f:=by have h:g<l.heap.size:=j;omega
  rw [Qa,Qf (G.same g (Xl j J.size) hb),←Qa];exact(J.cell (p:=⟨g,0,none⟩) j).trans s
 have j:Lt g n:=Xl (Xl j J.size) G.size;have z:ZM n (some ⟨m,0,none⟩) (mvL Bc):=z.mvo G (fun b a5 e=>by cases e;exact a3);have y:n.cell? ⟨f,0,none⟩=some (.slice (some ⟨m,0,none⟩) 3 3):=by rw [←u,Qa,(a1.set 0 _).r];rfl
 have t:Lt f n:=Xl a2 G.size;rw [u];clear u G a1 a2 f7 F J EW I;go_simp
 go_upto_region 5 with(fail)
 have s:n.drew.cell? ⟨g,0,none⟩=some (.pointer (some ⟨Bc,0,none⟩)):=s;have j:Lt g n.drew:=j;have y:n.drew.cell? ⟨f,0,none⟩=some (.slice (some ⟨m,0,none⟩) 3 3):=y;have t:Lt f n.drew:=t;have z:ZM n.drew (some ⟨m,0,none⟩) (mvL Bc):=z.ext (Ext.dr (Ext.rf _));refine Ru.QcE.wp (L:=cpartsL w Bc Bo g b6 f) (QvI.fits (N:=32) ⟨Ru.Qye .u8 Tryz.underlying5,?ty5,rfl,Kr,Kr,(by show List.Nodup [1,2,3,4,5,6,7,9,10,11,12,13,14,15,17,18,20,21,22,23,24,26,28,30,31,8,16,19,25,27,29,0];decide),(by show List.Nodup [29,30,31,32,33,34,35,36,37,38,39,40,41,42,43,44,45,46,47,48,49,50,51,52,4,28];decide),(by show List.Nodup [(1:Int),(2:Int),(3:Int),(4:Int),(5:Int),(6:Int)];decide),Kr,?stD5,?stI5,?hmk5,?does5,?hC5,?hI5⟩) Kr ?after5
 case' ty5=>exact Tryz.underlying259
 case' stD5=>exact⟨QX _,QX _,QX _,QX _,QX _,(Qcc _),(ZT _ _ _),QX _,QX _,QX _,QX _,QX _,(Qcc _),(ZT _ _ _),QX _,(ZT _ _ _),QX _,QX _,QX _,(Qcc _),(ZT _ _ _),(Jr),(Jr),trivial⟩
 case' stI5=>
  intro x A;simp only [cpartsL,List.mem_cons,List.not_mem_nil,or_false]at A;rcases A with rfl|rfl|rfl|rfl|rfl|rfl
  ·exact(ZT _ _ _)
  ·exact(ZT _ _ _)
  ·exact(ZT _ _ _)
  ·exact(ZT _ _ _)
  ·exact(Jr)
  ·exact(Jr)
 case' hmk5=>exact⟨_,rfl,rfl,rfl,rfl⟩
 case' does5=>
  refine⟨?d5_1,?d5_2,?d5_3,?d5_4,?d5_5,?d5_6,?d5_7,?d5_9,?d5_10,?d5_11,?d5_12,?d5_13,?d5_14,?d5_15,?d5_17,?d5_18,?d5_20,?d5_21,?d5_22,?d5_23,?d5_24,?d5_26,?d5_28,trivial⟩
  case' d5_1=>
   refine⟨_,rfl,rfl,rfl,fun ρ w d hc hfn hf E EM=> ?_⟩;simp only [List.getElem_toArray,List.getElem_cons_zero,List.getElem_cons_succ]at d⊢;have c:ρ (.tmp 8)= .func (.func 242) #[] #[.pointer (some ⟨f,0,none⟩)]:=(hf 8 rfl).trans rfl;exact .eq (by simp only [execOp,c,hc];rfl)
  case' d5_2=>
   refine⟨_,rfl,rfl,rfl,fun ρ w d hc hfn hf E EM=> ?_⟩;simp only [List.getElem_toArray,List.getElem_cons_zero,List.getElem_cons_succ]at d⊢;have c:ρ (.tmp 2)= .pointer (some ⟨g,0,none⟩):=(hf 2 rfl).trans rfl;exact .eq (Qdi (C:=fun _=>False) s j (fun h=>h) c _ (Mv.of_ext E))
  case' d5_3=>
   refine⟨_,rfl,rfl,rfl,fun ρ w d hc hfn hf E EM=> ?_⟩;simp only [List.getElem_toArray,List.getElem_cons_zero,List.getElem_cons_succ]at d⊢;have c:=d (2,30,eqA (.pointer (some ⟨Bc,0,none⟩))) (List.mem_of_getElem? (i:=1) rfl) Kr
   replace c:ρ (.tmp 30)= .pointer (some ⟨Bc,0,none⟩):=c
   exact .eq (by simp only [execOp,c];go_simp)
  case' d5_4=>
   refine⟨_,rfl,rfl,rfl,fun ρ w d hc hfn hf E EM=> ?_⟩;simp only [List.getElem_toArray,List.getElem_cons_zero,List.getElem_cons_succ]at d⊢;have c:=d (3,31,eqA (.pointer (some ⟨Bc,0,none⟩))) (List.mem_of_getElem? (i:=2) rfl) Kr
   replace c:ρ (.tmp 31)= .pointer (some ⟨Bc,0,none⟩):=c
   exact .eq (by simp only [execOp,c];go_simp)
  case' d5_5=>
   refine⟨_,rfl,rfl,rfl,fun ρ w d hc hfn hf E EM=> ?_⟩;simp only [List.getElem_toArray,List.getElem_cons_zero,List.getElem_cons_succ]at d⊢;have c:=d (4,32,eqA (.pointer (some ⟨Bc,5,none⟩))) (List.mem_of_getElem? (i:=3) rfl) Kr
   replace c:ρ (.tmp 32)= .pointer (some ⟨Bc,5,none⟩):=c
   exact .eq (by simp only [execOp,c,hc,List.map_toArray,List.map_cons,List.map_nil];kernel_rfl)
  case' d5_6=>
   refine⟨_,rfl,rfl,rfl,fun ρ w d hc hfn hf E EM=> ?_⟩;simp only [List.getElem_toArray,List.getElem_cons_zero,List.getElem_cons_succ]at d⊢;have c:=d (5,33,eqA (.agg #[.pointer (some ⟨Bc,5,none⟩),.int .i64 1,.int .i64 1,.int .i64 0,.int .i64 5])) (List.mem_of_getElem? (i:=4) rfl) Kr
   replace c:ρ (.tmp 33)= .agg #[.pointer (some ⟨Bc,5,none⟩),.int .i64 1,.int .i64 1,.int .i64 0,.int .i64 5]:=c
   exact Qe0 c
  case' d5_7=>
   refine⟨_,rfl,rfl,rfl,fun ρ w d hc hfn hf E EM=> ?_⟩;simp only [List.getElem_toArray,List.getElem_cons_zero,List.getElem_cons_succ]at d⊢;have c:=d (1,29,eqA (.func (.func 242) #[] #[.pointer (some ⟨f,0,none⟩)])) (List.mem_of_getElem? (i:=0) rfl) Kr
   replace c:ρ (.tmp 29)= .func (.func 242) #[] #[.pointer (some ⟨f,0,none⟩)]:=c
   have o:=d (6,34,Sl1 ⟨some ⟨Bc,5,none⟩,1,1,0,5⟩) (List.mem_of_getElem? (i:=5) rfl) Kr;obtain⟨q,D,K⟩:=o;exact .call (JQ _ c D Js) (Qbu _ f m P.out (some ⟨q,0,none⟩) 1 (mvL Bc) [⟨some ⟨Bc,5,none⟩,1,1,0,5⟩] _ ((E.cell (p:=⟨f,0,none⟩) t).trans y) (Xl t E.size) (z.ext E) K)
  case' d5_9=>
   refine⟨_,rfl,rfl,rfl,fun ρ w d hc hfn hf E EM=> ?_⟩;simp only [List.getElem_toArray,List.getElem_cons_zero,List.getElem_cons_succ]at d⊢;have c:ρ (.tmp 8)= .func (.func 242) #[] #[.pointer (some ⟨f,0,none⟩)]:=(hf 8 rfl).trans rfl;exact .eq (by simp only [execOp,c,hc];rfl)
  case' d5_10=>
   refine⟨_,rfl,rfl,rfl,fun ρ w d hc hfn hf E EM=> ?_⟩;simp only [List.getElem_toArray,List.getElem_cons_zero,List.getElem_cons_succ]at d⊢;have c:ρ (.tmp 2)= .pointer (some ⟨g,0,none⟩):=(hf 2 rfl).trans rfl;exact .eq (Qdi (C:=fun _=>False) s j (fun h=>h) c _ (Mv.of_ext E))
  case' d5_11=>
   refine⟨_,rfl,rfl,rfl,fun ρ w d hc hfn hf E EM=> ?_⟩;simp only [List.getElem_toArray,List.getElem_cons_zero,List.getElem_cons_succ]at d⊢;have c:=d (10,37,eqA (.pointer (some ⟨Bc,0,none⟩))) (List.mem_of_getElem? (i:=8) rfl) Kr
   replace c:ρ (.tmp 37)= .pointer (some ⟨Bc,0,none⟩):=c
   exact .eq (by simp only [execOp,c];go_simp)
  case' d5_12=>
   refine⟨_,rfl,rfl,rfl,fun ρ w d hc hfn hf E EM=> ?_⟩;simp only [List.getElem_toArray,List.getElem_cons_zero,List.getElem_cons_succ]at d⊢;have c:=d (11,38,eqA (.pointer (some ⟨Bc,0,none⟩))) (List.mem_of_getElem? (i:=9) rfl) Kr
   replace c:ρ (.tmp 38)= .pointer (some ⟨Bc,0,none⟩):=c
   exact .eq (by simp only [execOp,c];go_simp)
  case' d5_13=>
   refine⟨_,rfl,rfl,rfl,fun ρ w d hc hfn hf E EM=> ?_⟩;simp only [List.getElem_toArray,List.getElem_cons_zero,List.getElem_cons_succ]at d⊢;have c:=d (12,39,eqA (.pointer (some ⟨Bc,5,none⟩))) (List.mem_of_getElem? (i:=10) rfl) Kr
   replace c:ρ (.tmp 39)= .pointer (some ⟨Bc,5,none⟩):=c
   exact .eq (by simp only [execOp,c,hc,List.map_toArray,List.map_cons,List.map_nil];kernel_rfl)
  case' d5_14=>
   refine⟨_,rfl,rfl,rfl,fun ρ w d hc hfn hf E EM=> ?_⟩;simp only [List.getElem_toArray,List.getElem_cons_zero,List.getElem_cons_succ]at d⊢;have c:=d (13,40,eqA (.agg #[.pointer (some ⟨Bc,5,none⟩),.int .i64 1,.int .i64 1,.int .i64 (-1),.int .i64 5])) (List.mem_of_getElem? (i:=11) rfl) Kr
   replace c:ρ (.tmp 40)= .agg #[.pointer (some ⟨Bc,5,none⟩),.int .i64 1,.int .i64 1,.int .i64 (-1),.int .i64 5]:=c
   exact Qe0 c
  case' d5_15=>
   refine⟨_,rfl,rfl,rfl,fun ρ w d hc hfn hf E EM=> ?_⟩;simp only [List.getElem_toArray,List.getElem_cons_zero,List.getElem_cons_succ]at d⊢;have c:=d (9,36,eqA (.func (.func 242) #[] #[.pointer (some ⟨f,0,none⟩)])) (List.mem_of_getElem? (i:=7) rfl) Kr
   replace c:ρ (.tmp 36)= .func (.func 242) #[] #[.pointer (some ⟨f,0,none⟩)]:=c
   have o:=d (14,41,Sl1 ⟨some ⟨Bc,5,none⟩,1,1,(-1),5⟩) (List.mem_of_getElem? (i:=12) rfl) Kr;obtain⟨q,D,K⟩:=o;exact .call (JQ _ c D Js) (Qbu _ f m P.out (some ⟨q,0,none⟩) 1 (mvL Bc) [⟨some ⟨Bc,5,none⟩,1,1,(-1),5⟩] _ ((E.cell (p:=⟨f,0,none⟩) t).trans y) (Xl t E.size) (z.ext E) K)
  case' d5_17=>
   refine⟨_,rfl,rfl,rfl,fun ρ w d hc hfn hf E EM=> ?_⟩;simp only [List.getElem_toArray,List.getElem_cons_zero,List.getElem_cons_succ]at d⊢;have c:ρ (.tmp 8)= .func (.func 242) #[] #[.pointer (some ⟨f,0,none⟩)]:=(hf 8 rfl).trans rfl;exact .eq (by simp only [execOp,c,hc];rfl)
  case' d5_18=>
   refine⟨_,rfl,rfl,rfl,fun ρ w d hc hfn hf E EM=> ?_⟩;simp only [List.getElem_toArray,List.getElem_cons_zero,List.getElem_cons_succ]at d⊢;have c:=d (17,43,eqA (.func (.func 242) #[] #[.pointer (some ⟨f,0,none⟩)])) (List.mem_of_getElem? (i:=14) rfl) Kr
   replace c:ρ (.tmp 43)= .func (.func 242) #[] #[.pointer (some ⟨f,0,none⟩)]:=c
   exact .call (JQ _ c (hc _) Js) (Qbu _ f m P.out none 0 (mvL Bc) [] _ ((E.cell (p:=⟨f,0,none⟩) t).trans y) (Xl t E.size) (z.ext E) (ZM.nil _ _))
  case' d5_20=>
   refine⟨_,rfl,rfl,rfl,fun ρ w d hc hfn hf E EM=> ?_⟩;simp only [List.getElem_toArray,List.getElem_cons_zero,List.getElem_cons_succ]at d⊢;have c:ρ (.tmp 8)= .func (.func 242) #[] #[.pointer (some ⟨f,0,none⟩)]:=(hf 8 rfl).trans rfl;exact .eq (by simp only [execOp,c,hc];rfl)
  case' d5_21=>
   refine⟨_,rfl,rfl,rfl,fun ρ w d hc hfn hf E EM=> ?_⟩;simp only [List.getElem_toArray,List.getElem_cons_zero,List.getElem_cons_succ]at d⊢;have c:ρ (.tmp 1)= .pointer (some ⟨Bo,0,none⟩):=(hf 1 rfl).trans rfl;exact .eq (by simp only [execOp,c,hc];rfl)
  case' d5_22=>
   refine⟨_,rfl,rfl,rfl,fun ρ w d hc hfn hf E EM=> ?_⟩;simp only [List.getElem_toArray,List.getElem_cons_zero,List.getElem_cons_succ]at d⊢;have c:=d (21,46,eqA (.pointer (some ⟨Bo,0,none⟩))) (List.mem_of_getElem? (i:=17) rfl) Kr
   replace c:ρ (.tmp 46)= .pointer (some ⟨Bo,0,none⟩):=c
   exact .eq (by simp only [execOp,c,hc,List.map_toArray,List.map_cons,List.map_nil];kernel_rfl)
  case' d5_23=>
   refine⟨_,rfl,rfl,rfl,fun ρ w d hc hfn hf E EM=> ?_⟩;simp only [List.getElem_toArray,List.getElem_cons_zero,List.getElem_cons_succ]at d⊢;have c:=d (22,47,eqA (.agg #[.pointer (some ⟨Bo,0,none⟩),.int .i64 1,.int .i64 0,.int .i64 1,.int .i64 3])) (List.mem_of_getElem? (i:=18) rfl) Kr
   replace c:ρ (.tmp 47)= .agg #[.pointer (some ⟨Bo,0,none⟩),.int .i64 1,.int .i64 0,.int .i64 1,.int .i64 3]:=c
   exact Qe0 c
  case' d5_24=>
   refine⟨_,rfl,rfl,rfl,fun ρ w d hc hfn hf E EM=> ?_⟩;simp only [List.getElem_toArray,List.getElem_cons_zero,List.getElem_cons_succ]at d⊢;have c:=d (20,45,eqA (.func (.func 242) #[] #[.pointer (some ⟨f,0,none⟩)])) (List.mem_of_getElem? (i:=16) rfl) Kr
   replace c:ρ (.tmp 45)= .func (.func 242) #[] #[.pointer (some ⟨f,0,none⟩)]:=c
   have o:=d (23,48,Sl1 ⟨some ⟨Bo,0,none⟩,1,0,1,3⟩) (List.mem_of_getElem? (i:=19) rfl) Kr;obtain⟨q,D,K⟩:=o;exact .call (JQ _ c D Js) (Qbu _ f m P.out (some ⟨q,0,none⟩) 1 (mvL Bc) [⟨some ⟨Bo,0,none⟩,1,0,1,3⟩] _ ((E.cell (p:=⟨f,0,none⟩) t).trans y) (Xl t E.size) (z.ext E) K)
  case' d5_26=>
   refine⟨_,rfl,rfl,rfl,fun ρ w d hc hfn hf E EM=> ?_⟩;simp only [List.getElem_toArray,List.getElem_cons_zero,List.getElem_cons_succ]at d⊢;have c:ρ (.tmp 6)= .pointer (some ⟨b6,0,none⟩):=(hf 6 rfl).trans rfl;exact .val (by simp only [execOp,c];go_simp;rfl) (Ext.rf _) trivial
  case' d5_28=>
   refine⟨_,rfl,rfl,rfl,fun ρ w d hc hfn hf E EM=> ?_⟩;simp only [List.getElem_toArray,List.getElem_cons_zero,List.getElem_cons_succ]at d⊢;have c:ρ (.tmp 6)= .pointer (some ⟨b6,0,none⟩):=(hf 6 rfl).trans rfl;have o:ρ (.tmp 2)= .pointer (some ⟨g,0,none⟩):=(hf 2 rfl).trans rfl;exact .val (by simp only [execOp,c,o];go_simp;rfl) (Ext.rf _) trivial
 case' hC5=>
  intro x A;simp only [cpartsL,List.mem_cons,List.not_mem_nil,or_false]at A;rcases A with rfl|rfl
  ·exact⟨_,rfl,rfl,rfl,Or.inl rfl,Or.inl ⟨rfl,Kr⟩⟩
  ·exact⟨_,rfl,rfl,rfl,Or.inr rfl,Or.inr ⟨(30,52,28),List.mem_of_getElem? (i:=0) rfl,rfl,Kr⟩⟩
 case' hI5=>
  intro x A;simp only [cpartsL,List.mem_cons,List.not_mem_nil,or_false]at A;rcases A with rfl|rfl|rfl|rfl|rfl|rfl
  ·exact⟨_,_,35,rfl,rfl,rfl,rfl,⟨_,rfl⟩,Kr,rfl,(7,35,CloPt w.heap.size (mvL Bc) [⟨some ⟨Bc,5,none⟩,1,1,0,5⟩]),List.mem_of_getElem? (i:=6) rfl,rfl,rfl,Kr⟩
  ·exact⟨_,_,42,rfl,rfl,rfl,rfl,⟨_,rfl⟩,Kr,rfl,(15,42,CloPt w.heap.size (mvL Bc) [⟨some ⟨Bc,5,none⟩,1,1,(-1),5⟩]),List.mem_of_getElem? (i:=13) rfl,rfl,rfl,Kr⟩
  ·exact⟨_,_,44,rfl,rfl,rfl,rfl,⟨_,rfl⟩,Kr,rfl,(18,44,CloPt w.heap.size (mvL Bc) []),List.mem_of_getElem? (i:=15) rfl,rfl,rfl,Kr⟩
  ·exact⟨_,_,49,rfl,rfl,rfl,rfl,⟨_,rfl⟩,Kr,rfl,(24,49,CloPt w.heap.size (mvL Bc) [⟨some ⟨Bo,0,none⟩,1,0,1,3⟩]),List.mem_of_getElem? (i:=20) rfl,rfl,rfl,Kr⟩
  ·exact⟨_,_,50,rfl,rfl,rfl,rfl,⟨_,rfl⟩,Kr,rfl,(26,50,fun _ _=>True),List.mem_of_getElem? (i:=21) rfl,rfl,rfl,Kr⟩
  ·exact⟨_,_,51,rfl,rfl,rfl,rfl,⟨_,rfl⟩,Kr,rfl,(28,51,fun _ _=>True),List.mem_of_getElem? (i:=22) rfl,rfl,rfl,Kr⟩
 intro listed a w1 H M;obtain⟨B,ff,o,O,h3,h4,h5⟩:=M.map (H 0 (by show 0<32;omega));have c:=M.cops (31,4,52) (List.mem_of_getElem? (i:=1) rfl) (H 31 (by show 31<32;omega));have EF:Ext w w1:=E2.tr (Ext.tr (Ext.dr (Ext.rf _)) M.ext);have d:a.defers= []:=M.defers;have p1:=h4 (8,.int .u8 1,CloPt w.heap.size (mvL Bc) [⟨some ⟨Bc,5,none⟩,1,1,0,5⟩]) (List.mem_of_getElem? (i:=0) rfl) (H 8 (by show 8<32;omega));have p2:=h4 (16,.int .u8 2,CloPt w.heap.size (mvL Bc) [⟨some ⟨Bc,5,none⟩,1,1,(-1),5⟩]) (List.mem_of_getElem? (i:=1) rfl) (H 16 (by show 16<32;omega));have p3:=h4 (19,.int .u8 3,CloPt w.heap.size (mvL Bc) []) (List.mem_of_getElem? (i:=2) rfl) (H 19 (by show 19<32;omega));clear H M h4 h5 s j y t z;go_wp2;refine bodyPost_ret (v:= .map (some B)) ?_ d ⟨B,ff,rfl,EF,h3,p1,p2,p3⟩;have hs:a.tmps.getD 4 undef= .map (some B):=c.trans o;simp only [Array.getD_eq_getD_getElem?]at hs;simp [results,Tryz.results227,hs]
def exL(Bc:Nat)(k:Int):List Pt:=if k=1 then [⟨some ⟨Bc,5,none⟩,1,1,0,5⟩]else if k=2 then [⟨some ⟨Bc,5,none⟩,1,1,(-1),5⟩]else []
def Qe1(lo Bc:Nat):Q6:=fun w v=> ∃B f,v= .map (some B)∧Ru.ZE (fun x=> ∃n:Int,x= .int .u8 n) w B f∧ ∀k,(k=1∨k=2∨k=3)→ ∃v,f (.int .u8 k)=some v∧CloPt lo (mvL Bc) (exL Bc k) w v
theorem CloPt.le{lo lo':Nat}{ms xs:List Pt}{v:Value}(h:CloPt lo ms xs w v)(hl:lo'≤lo):CloPt lo' ms xs w v:=by
 obtain⟨a,b,m,c,d,e,f⟩:=h;exact⟨a,b,m,c,d,Xt hl e,f⟩
theorem Qfx(lo Bc:Nat):JO (Qe1 lo Bc):=by
 rintro w j v c ⟨B,f,g,d,i⟩;have e:B<w.heap.size:=by
  obtain⟨l,m,h,_⟩:=d;exact(Array.getElem?_eq_some_iff.1 h).1
 exact⟨B,f,g,d.keep (c.block B e),fun k hk=>by obtain⟨v,a,b⟩:=i k hk;exact⟨v,a,Qax _ _ _ _ _ _ c b⟩⟩
theorem QsN(Bc Bo lo:Nat)(w:World)(lc:Lt Bc w)(cc:(w.cell? ⟨Bc,0,none⟩).isSome=true)(hlo:lo≤w.heap.size):
  Calls Tryz.prog 227 #[.pointer (some ⟨Bc,0,none⟩),.pointer (some ⟨Bo,0,none⟩)] w fun e w'=> ∃v,e= .returned v∧Qe1 lo Bc w' v∧Ext w w':=by
 refine(Qkg Bc Bo w lc cc).mono ?_;rintro e w' ⟨B,c,rfl,d,f,g,h,i⟩;refine⟨_,rfl,⟨B,c,rfl,f,fun k hk=> ?_⟩,d⟩;rcases hk with rfl|rfl|rfl
 ·obtain⟨v,a,b⟩:=g;exact⟨v,a,b.le hlo⟩
 ·obtain⟨v,a,b⟩:=h;exact⟨v,a,b.le hlo⟩
 ·obtain⟨v,a,b⟩:=i;exact⟨v,a,b.le hlo⟩
theorem Qfy: ∀args w,(callFunc 227 args).run Tryz.prog w= .ok (.enter 227 args) w:=enters_of Tryz.func227 Kr rfl
theorem QiP(tys:Array TypeId){ty:TypeId}(f:Nat){u v:Value}(hf: ∀f,ρ (.func f)= .func (.func f) #[] #[])(hx:ρ x=u)(hy:ρ y=v)(eg: ∀args w,(callFunc f args).run Tryz.prog w= .ok (.enter f args) w):
  (execOp ρ ⟨dst,.call {callee:= .value (.func f),args:=#[x,y],argTypes:=tys},ty,pos,after,g⟩).run Tryz.prog w= .ok (.enter f #[u,v]) w:=by
 unfold execOp;simp only [resolve,hx,hy,hf,List.map_toArray,List.map_cons,List.map_nil];simp [invoke,go_sem,eg]
theorem Qdj{C:Nat→Prop}{q:Option Addr}(h0:w.cell? ⟨B,i,none⟩=some (.pointer q))(hl:Lt B w)(hC: ¬C B){ty:TypeId}
  (hx:ρ x= .pointer (some ⟨B,i,none⟩)): ∀w',Mv C w w'→(execOp ρ ⟨dst,.load 229 x,ty,pos,after,g⟩).run Tryz.prog w'= .ok (.value (.pointer q)) w':=by
 intro w' a;have b:w'.cell? ⟨B,i,none⟩=some (.pointer q):=by rw [Qa,Qf (a.same B hl hC),←Qa];exact h0
 simp only [execOp,hx];go_simp
theorem Ql2{C:Nat→Prop}{v:Int}(h0:w.cell? ⟨B,i,none⟩=some (.int .u8 v))(hl:Lt B w)(hC: ¬C B){q:Operand}{ty:TypeId}
  (hx:ρ q= .pointer (some ⟨B,i,none⟩)): ∀w',Mv C w w'→(execOp ρ ⟨dst,.load 5 q,ty,pos,after,g⟩).run Tryz.prog w'= .ok (.value (.int .u8 v)) w':=by
 intro w' a;have b:w'.cell? ⟨B,i,none⟩=some (.int .u8 v):=by rw [Qa,Qf (a.same B hl hC),←Qa];exact h0
 simp only [execOp,hx];go_simp
theorem Qkh{lo Bc:Nat}{k:Int}(hk:k=1∨k=2∨k=3){ty:TypeId}
  (h0:Qe1 lo Bc w (ρ x))(h1:ρ y= .int .u8 k):Jn Tryz.prog ρ ⟨dst,.lookup 259 x y false,ty,pos,after,g⟩ w (CloPt lo (mvL Bc) (exL Bc k)):=by
 obtain⟨B,h,e,b,c⟩:=h0;obtain⟨v,d,f⟩:=c k hk;refine .val (v:=v) ?_ (Ext.rf _) f;have a:=b.look (Ru.Qye .u8 Tryz.underlying5) Tryz.underlying259 (x:= .int .u8 k) ⟨k,rfl⟩ .nilFunc Kr;rw [d]at a;simp only [execOp,e,h1,Sem.run_bind,a,Option.getD_some,Result.andThen_ok,Sem.run_pure]
theorem Qp9(w:World)(p q:Option Addr):Calls Tryz.prog 195 #[.pointer p,.pointer q] w fun e w'=>e= .returned (.func (.func 226) #[] #[.pointer (some ⟨w.heap.size,0,none⟩),.pointer (some ⟨w.heap.size+1,0,none⟩)])∧w'=(w.alloc (.cells #[.pointer p] 228)).alloc (.cells #[.pointer q] 229):=by
 go_enter Tryz.func195,Tryz.ntmps195
 go_wp2;go_ret;exact⟨rfl,rfl⟩
theorem Qhg: ∀args w,(callFunc 226 args).run Tryz.prog w= .ok (.enter 226 args) w:=enters_of Tryz.func226 Kr rfl
theorem ZM.mvc{A B:World}{C:Nat→Prop}{p:Option Addr}{xs:List Pt}(h:ZM A p xs)(m:Mv C A B)(hb: ∀b off,p=some ⟨b,off,none⟩→ ¬C b):ZM B p xs:=fun k hk=>by
 obtain⟨b,off,a,c,d,f,g,i,j⟩:=h k hk;have e:=Qf (m.same b c (hb b off a));simp only [Qa]at d f g i j⊢;exact⟨b,off,a,Xl c m.size,by rw [e];exact d,by rw [e];exact f,by rw [e];exact g,by rw [e];exact i,by rw [e];exact j⟩
def Jo(Bc:Nat)(k:Int):List Pt:=mvL Bc++exL Bc k
theorem Qhh(Bc:Nat)(k:Int):(exL Bc k).length=0∨(exL Bc k).length=1:=by
 unfold exL;split;exact .inr rfl;split;exact .inr rfl;exact .inl rfl
@[go_sem ↓ high] theorem Qyu(f:Nat)(x y:Array Value)(w:World):(binOp .neq 258 (.func (.func f) x y) .nilFunc).run Tryz.prog w= .ok (.bool true) w:=Kr
theorem Qki(n:Nat)(Bc Bo b1 b2:Nat)(k:Int)(hk:k=1∨k=2∨k=3)(w:World)(U:Nat→Prop)(c1:w.cell? ⟨b1,0,none⟩=some (.pointer (some ⟨Bc,0,none⟩)))(l1:Lt b1 w)(c2:w.cell? ⟨b2,0,none⟩=some (.pointer (some ⟨Bo,0,none⟩)))(l2:Lt b2 w)(ck:w.cell? ⟨Bc,0,none⟩=some (.int .u8 k))(lc:Lt Bc w)(hU: ∀k,U k→k<w.heap.size):
  QlJ Fence.wide n Tryz.prog 226 #[.pointer (some ⟨b1,0,none⟩),.pointer (some ⟨b2,0,none⟩)] (fun x:Pt=>#[x.v]) (fun _=>False) U (fun _=>True) (Jo Bc k) w:=by
 intro y J Jx W r z hJ b3 A b4;have S:=Xh hJ;have e3:=Xh b3;clear hJ b3;obtain⟨d5,d6,d7,d8,A⟩:=A;have HY:=Xh A;clear A;have a1:=Xh (show ∀k,w.heap.size+2≤k→ ¬(U k∨k=w.heap.size∨k=w.heap.size+1)from fun k hk=>by rintro(h|h|h);(have:=hU _ h;omega);omega;omega);obtain⟨f,s⟩: ∃f,w.heap.size+2=f:=⟨_,rfl⟩;rw [s]at a1 z;have c1:W.cell? ⟨b1,0,none⟩=some (.pointer (some ⟨Bc,0,none⟩)):=(r.cell (p:=⟨b1,0,none⟩) l1).trans c1;have c2:W.cell? ⟨b2,0,none⟩=some (.pointer (some ⟨Bo,0,none⟩)):=(r.cell (p:=⟨b2,0,none⟩) l2).trans c2;have ck:W.cell? ⟨Bc,0,none⟩=some (.int .u8 k):=(r.cell (p:=⟨Bc,0,none⟩) lc).trans ck;have l1:Lt b1 W:=Xl l1 r.size;have l2:Lt b2 W:=Xl l2 r.size;have lc:Lt Bc W:=Xl lc r.size;clear s hU r;refine callsIn_of_wp Tryz.func226 rfl trivial ?_ rfl;simp only [Tryz.ntmps226,List.size_toArray,List.length_cons,List.length_nil,Nat.reduceAdd,Nat.reduceSub,Array.replicate_succ,Array.replicate_zero,List.push_toArray,List.append_toArray,List.nil_append,List.cons_append];refine wpIn_wide.2 ?_
 go_upto_region 0 with(fail)
 have s:f≤W.drew.heap.size:=z;have c1:W.drew.cell? ⟨b1,0,none⟩=some (.pointer (some ⟨Bc,0,none⟩)):=c1;have c2:W.drew.cell? ⟨b2,0,none⟩=some (.pointer (some ⟨Bo,0,none⟩)):=c2;have ck:W.drew.cell? ⟨Bc,0,none⟩=some (.int .u8 k):=ck;have l1:Lt b1 W.drew:=l1;have l2:Lt b2 W.drew:=l2;have lc:Lt Bc W.drew:=lc;refine Qa7 [(0,7,eqA (.pointer (some ⟨Bc,0,none⟩))),(1,8,eqA (.pointer (some ⟨Bo,0,none⟩))),(2,9,Qe1 f Bc),(3,10,eqA (.pointer (some ⟨Bc,0,none⟩))),(4,11,eqA (.pointer (some ⟨Bc,0,none⟩))),(5,12,eqA (.pointer (some ⟨Bc,0,none⟩))),(6,13,eqA (.int .u8 k)),(7,14,CloPt f (mvL Bc) (exL Bc k)),(8,4,CloPt f (mvL Bc) (exL Bc k))] 9 9 0 511 rfl Dc Kr ⟨rfl,(by show List.Nodup [7,8,9,10,11,12,13,14,4];decide),rfl,Om,rfl,Kr,Kr,?stab0,?does0⟩ ?after0
 case' stab0=>exact⟨QQ _,QQ _,(Qfx _ _),QQ _,QQ _,QQ _,QQ _,(Qax _ _ _),(Qax _ _ _),trivial⟩
 case' does0=>
  refine⟨?d0_0,?d0_1,?d0_2,?d0_3,?d0_4,?d0_5,?d0_6,?d0_7,?d0_8,trivial⟩
  case' d0_0=>
   refine⟨_,rfl,rfl,rfl,fun ρ w hd hc hfn hf E=> ?_⟩;simp only [List.getElem_toArray,List.getElem_cons_zero,List.getElem_cons_succ]at hd⊢;have c:ρ (.tmp 1)= .pointer (some ⟨b1,0,none⟩):=(hf 1 rfl).trans rfl;exact .eq (Qdi (C:=fun _=>False) c1 l1 (fun h=>h) c _ (Mv.of_ext E))
  case' d0_1=>
   refine⟨_,rfl,rfl,rfl,fun ρ w hd hc hfn hf E=> ?_⟩;simp only [List.getElem_toArray,List.getElem_cons_zero,List.getElem_cons_succ]at hd⊢;have c:ρ (.tmp 2)= .pointer (some ⟨b2,0,none⟩):=(hf 2 rfl).trans rfl;exact .eq (Qdj (C:=fun _=>False) c2 l2 (fun h=>h) c _ (Mv.of_ext E))
  case' d0_2=>
   refine⟨_,rfl,rfl,rfl,fun ρ w hd hc hfn hf E=> ?_⟩;simp only [List.getElem_toArray,List.getElem_cons_zero,List.getElem_cons_succ]at hd⊢;have c:=hd (0,7,eqA (.pointer (some ⟨Bc,0,none⟩))) (List.mem_of_getElem? (i:=0) rfl) Kr
   replace c:ρ (.tmp 7)= .pointer (some ⟨Bc,0,none⟩):=c
   have j:=hd (1,8,eqA (.pointer (some ⟨Bo,0,none⟩))) (List.mem_of_getElem? (i:=1) rfl) Kr
   replace j:ρ (.tmp 8)= .pointer (some ⟨Bo,0,none⟩):=j
   exact .call (QiP _ _ hfn c j Qfy) (QsN Bc Bo f _ (Xl lc E.size) (by rw [(E.cell (p:=⟨Bc,0,none⟩) lc),ck];rfl) (Xt s E.size))
  case' d0_3=>
   refine⟨_,rfl,rfl,rfl,fun ρ w hd hc hfn hf E=> ?_⟩;simp only [List.getElem_toArray,List.getElem_cons_zero,List.getElem_cons_succ]at hd⊢;have c:ρ (.tmp 1)= .pointer (some ⟨b1,0,none⟩):=(hf 1 rfl).trans rfl;exact .eq (Qdi (C:=fun _=>False) c1 l1 (fun h=>h) c _ (Mv.of_ext E))
  case' d0_4=>
   refine⟨_,rfl,rfl,rfl,fun ρ w hd hc hfn hf E=> ?_⟩;simp only [List.getElem_toArray,List.getElem_cons_zero,List.getElem_cons_succ]at hd⊢;have c:=hd (3,10,eqA (.pointer (some ⟨Bc,0,none⟩))) (List.mem_of_getElem? (i:=3) rfl) Kr
   replace c:ρ (.tmp 10)= .pointer (some ⟨Bc,0,none⟩):=c
   exact .eq (by simp only [execOp,c];go_simp)
  case' d0_5=>
   refine⟨_,rfl,rfl,rfl,fun ρ w hd hc hfn hf E=> ?_⟩;simp only [List.getElem_toArray,List.getElem_cons_zero,List.getElem_cons_succ]at hd⊢;have c:=hd (4,11,eqA (.pointer (some ⟨Bc,0,none⟩))) (List.mem_of_getElem? (i:=4) rfl) Kr
   replace c:ρ (.tmp 11)= .pointer (some ⟨Bc,0,none⟩):=c
   exact .eq (by simp only [execOp,c];go_simp)
  case' d0_6=>
   refine⟨_,rfl,rfl,rfl,fun ρ w hd hc hfn hf E=> ?_⟩;simp only [List.getElem_toArray,List.getElem_cons_zero,List.getElem_cons_succ]at hd⊢;have c:=hd (5,12,eqA (.pointer (some ⟨Bc,0,none⟩))) (List.mem_of_getElem? (i:=5) rfl) Kr
   replace c:ρ (.tmp 12)= .pointer (some ⟨Bc,0,none⟩):=c
   exact .eq (Ql2 (C:=fun _=>False) ck lc (fun h=>h) c _ (Mv.of_ext E))
  case' d0_7=>
   refine⟨_,rfl,rfl,rfl,fun ρ w hd hc hfn hf E=> ?_⟩;simp only [List.getElem_toArray,List.getElem_cons_zero,List.getElem_cons_succ]at hd⊢;have c:=hd (2,9,Qe1 f Bc) (List.mem_of_getElem? (i:=2) rfl) Kr;have j:=hd (6,13,eqA (.int .u8 k)) (List.mem_of_getElem? (i:=6) rfl) Kr
   replace j:ρ (.tmp 13)= .int .u8 k:=j
   exact Qkh hk c j
  case' d0_8=>
   refine⟨_,rfl,rfl,rfl,fun ρ w hd hc hfn hf E=> ?_⟩;simp only [List.getElem_toArray,List.getElem_cons_zero,List.getElem_cons_succ]at hd⊢;have c:=hd (7,14,CloPt f (mvL Bc) (exL Bc k)) (List.mem_of_getElem? (i:=7) rfl) Kr;exact .val (v:=ρ (.tmp 14)) rfl (Ext.rf _) c
 intro val WN B hall;obtain⟨D,F,G,H,I,K,M,d9,N,-⟩:=hall
 replace D:val 7= .pointer (some ⟨Bc,0,none⟩):=D
 replace F:val 8= .pointer (some ⟨Bo,0,none⟩):=F
 obtain⟨B9,f9,G,-⟩:=G
 replace H:val 10= .pointer (some ⟨Bc,0,none⟩):=H
 replace I:val 11= .pointer (some ⟨Bc,0,none⟩):=I
 replace K:val 12= .pointer (some ⟨Bc,0,none⟩):=K
 replace M:val 13= .int .u8 k:=M
 obtain⟨Bm,Bp,m,pp,cp,e0,N,cm,lm,sm,b5,lp,sp⟩:=N;simp only [List.foldl_cons,List.foldl_nil,D,F,G,H,I,K,M,N];clear D F G H I K M d9 N;refine⟨Kr,?_⟩;have b7:=Xh sm;have b8:=Xh sp;have t:=S.out _ _ _ b4 (Mv.of_ext B);have a2:=Xh (QsL f (mvL Bc) (exL Bc k) Bm Bp m e0 pp cp WN (Xt s B.size) rfl (Qhh Bc k) cm lm b7.out b5 lp b8.out);clear sm sp cm lm b5 lp b4 c1 c2 ck l1 l2 lc;go_simp;obtain⟨L,O⟩: ∃L,mvL Bc++exL Bc k=L:=⟨_,rfl⟩;rw [O]at a2;have e4:L.length≤4:=by rw [←O,List.length_append];have:=Qhh Bc k;show 3+_≤4;omega
 have T:=Xh O;have a3:=Xt z B.size;clear O s z B
 go_wp2_with (go_at_call 243;(refine(a2.out).mono ?_);rintro e wq ⟨q,d,rfl,sq,nq,X⟩;have a4:=Xh sq;have b9:=Xh nq;have a5:=Xh (S.out _ _ _ t (Mv.of_ext X));have a6:=Xt a3 X.size;clear sq nq X)
 clear t a3
 go_loopw [6,20] (fun _ a wr=> ∃i:Nat,i≤L.length∧a= .int .i64 i∧J i wr∧ZM wr q L∧f≤wr.heap.size) (fun _ a _=>L.length- (intOf a).toNat)
 case atStart=>exact⟨0,Nat.zero_le _,rfl,a5.out,a4.out,a6⟩
 case round=>
  clear a6 a5 a4;obtain⟨i,hi,rfl,P,Q,hz⟩:=hrel
  by_cases b0:i<L.length
  ·have e5:(i:Int)<L.length:=by omega
   obtain⟨b,b6,Y,hb,c0,c1,c2,c3,c4⟩:=Q i b0;obtain⟨x,Z⟩: ∃x,L[i]=x:=⟨_,rfl⟩;rw [Z]at c0 c1 c2 c3 c4;have e6:Lt b wr:=hb;have u:=Xh (show L[i]?=some x by rw [List.getElem?_eq_getElem b0,Z]);have HE:=Xh Q;have c5:=Xh P;have c6:=Xh Y;rw [Y];clear Z P Q Y
   go_upto_region 5 with(fail)
   obtain⟨g,R⟩: ∃g,wr.alloc (.cells #[.pointer x.q,.int .i64 x.by_,.int .i64 x.add,.int .i64 x.lo,.int .i64 x.hi] 231)=g:=⟨_,rfl⟩;have V:Ext wr g:=by rw [←R];exact Ea
   have o:RowZ g wr.heap.size #[.pointer x.q,.int .i64 x.by_,.int .i64 x.add,.int .i64 x.lo,.int .i64 x.hi]:=by rw [←R];exact RowZ.new _ _ _
   rw [R];clear R c0 c1 c2 c3 c4;have d0:=o.cell 0 (by show 0<5;omega);have d1:=o.cell 1 (by show 1<5;omega);have d2:=o.cell 2 (by show 2<5;omega);have d3:=o.cell 3 (by show 3<5;omega);have d4:=o.cell 4 (by show 4<5;omega);have l1:=o.l;have t:=S.out _ _ _ c5.out (Mv.of_ext V);have c7:(Instr.yield y #[.agg #[.pointer x.q,.int .i64 x.by_,.int .i64 x.add,.int .i64 x.lo,.int .i64 x.hi]]).run Tryz.prog g= .ok (.round y d5 (d6 #[.agg #[.pointer x.q,.int .i64 x.by_,.int .i64 x.add,.int .i64 x.lo,.int .i64 x.hi]]) d7 d8) g:=(HY.out i x g t (by rw [←T.out]at u;exact u.out)).1;have a7:=Xh (HY.out i x g t (by rw [←T.out]at u;exact u.out)).2;have a8:=Xh V;clear V o t;refine(wpIn_wide (n:=n)).1 ?_
   gi_wp2
   refine⟨(fun h=>by cases h),(a7.out).mono ?_⟩;rintro e w6 ⟨bb,rfl,hP⟩;clear c7 a7 d0 d1 d2 d3 d4;obtain⟨rfl,e1,a0⟩|⟨rfl,e2⟩:=hP
   ·have a9:=(HE.out.ext a8.out).mvc a0 (fun b b6 e=>a1.out b (b9.out b b6 e));have c8:=Xt (Xt hz a8.out.size) a0.size;rw [c6.out]at a9;clear a0
    gi_wp2
    go_wp2
    go_roundw
    case rel=>exact⟨i+1,Om,by go_num,e1,a9,c8⟩
    case measure=>simp [intOf];omega
   ·gi_wp2
    go_wp2;exact bodyPost_ret (results_none rfl _ _ _) rfl ⟨⟨_,rfl⟩,.inr e2⟩
  ·obtain rfl:i=L.length:=by omega
   have c9:=Xh P;clear P Q;go_wp2
   go_end0
   exact⟨⟨_,rfl⟩,.inl ⟨by have:=c9.out;rw [←T.out]at this;exact this,trivial⟩⟩
structure Ct where
 ki:Int
 of_:Int
 ag:Int
 bu:Int
 ge:Int
 pe:Int
 ve:Int
 sb:Int
 st:Int
 p:Option Addr
 n:Nat
 c:Nat
def Ct.at(x:Ct)(j:Nat):Value:=match j with|0=> .int .u8 x.ki|1=> .int .u8 x.of_|2=> .int .i64 x.ag|3=> .int .i64 x.bu|4=> .int .i64 x.ge|5=> .int .i64 x.pe|6=> .int .i64 x.ve|7=> .int .i64 x.sb|8=> .int .i64 x.st|_=> .slice x.p x.n x.c
def ctv(x:Ct):Array Value:=rowv 10 x.at
theorem ZB(x:Ct):ctv x=#[.int .u8 x.ki,.int .u8 x.of_,.int .i64 x.ag,.int .i64 x.bu,.int .i64 x.ge,.int .i64 x.pe,.int .i64 x.ve,.int .i64 x.sb,.int .i64 x.st,.slice x.p x.n x.c]:=by unfold ctv;rfl
theorem QS{x}:(ctv x).size=10:=by unfold ctv;rw [QY]
@[go_sem] theorem Qyv{x o m}:Fits o m (ctv x)=(o+m≤10):=by unfold Fits;rw [QS]
@[go_sem] theorem QvK{x}:Qn (ctv x) 10:=QS
@[go_sem ↓ high] theorem Qxe{x}:(Value.agg (ctv x)).cells=ctv x:=QF _
theorem Qf5(x:Ct)(j:Nat):(x.at j).oneCell'=true:=by unfold Ct.at;split<;>rfl
@[go_sem] theorem Qbw{x}:QK (ctv x):=Zw _ _ fun _=>Qf5 _ _
@[go_sem] theorem QdN{x}:QB (ctv x) 0 10=ctv x:=Q9 _ _ QS
@[go_sem] theorem Qnm{x}:QB (ctv x) 7 3=#[.int .i64 x.sb,.int .i64 x.st,.slice x.p x.n x.c]:=by rw [ZB];rfl
theorem QG{x:Ct}(h:Qc w B=ctv x)(j:Nat)(hj:j<10):w.cell? ⟨B,j,none⟩=some (x.at j):=by
 rw [Qa,h];unfold ctv;rw [QM,if_pos hj]
theorem Qhi:(Tryz.prog.info? 33).map (·.size)=some 10:=Kr
theorem Qnn{b o:Nat}(h:o+10≤(Qc w b).size):(Instr.loadAt 33 (.pointer (some ⟨b,o,none⟩))).run Tryz.prog w= .ok (.agg ((Qc w b).extract o (o+10))) w:=by
 have:=run_loadAt_mid w b o 33 ((Qc w b).extract o (o+10)).toList _ (QC w b o (o+10)) Tryz.underlying33 rfl (by rw [Qhi];simp;omega)
 rwa [Array.toArray_toList]at this
theorem Qkj{b o:Nat}(h:o+10≤(Qc w b).size):(loadVar 33 ⟨b,o,none⟩).run Tryz.prog w= .ok (.agg ((Qc w b).extract o (o+10))) w:=by
 have:=run_loadVar_mid w b o 33 ((Qc w b).extract o (o+10)).toList _ (QC w b o (o+10)) Tryz.underlying33 rfl (by rw [Qhi];simp;omega)
 rwa [Array.toArray_toList]at this
@[go_sem ↓ high] theorem Qaz(ρ:Operand→Value)(dst:Option Tmp)(x:Operand)(ty:TypeId)(pos:String)(after:Array Edge)(g:Option (Nat×Bool))(w:World)
  (hx:ρ x= .pointer (some ⟨Qb (ρ x),Qd (ρ x),none⟩))(h:Fits (Qd (ρ x)) 10 (Qc w (Qb (ρ x)))):
  (execOp ρ ⟨dst,.load 33 x,ty,pos,after,g⟩).run Tryz.prog w= .ok (.value (.agg (QB (Qc w (Qb (ρ x))) (Qd (ρ x)) 10))) w:=by
 unfold Fits at h;generalize a:Qb (ρ x)=B at*;generalize b:Qd (ρ x)=O at*;simp only [execOp,hx,Sem.run_bind,Qnn h,Result.andThen_ok,Sem.run_pure,QB]
@[go_sem ↓ high] theorem Quo{l:Option Nat}{ty:TypeId}(w:World)
  (hx:ρ x= .pointer (some ⟨Qb (ρ x),Qd (ρ x),none⟩))(h:Fits (Qd (ρ x)) 10 (Qc w (Qb (ρ x)))):
  (Oper.semAt l ρ ⟨dst,.load 33 x,ty,pos,after,g⟩).run Tryz.prog w= .ok (.value (.agg (QB (Qc w (Qb (ρ x))) (Qd (ρ x)) 10))) w:=by rw [Oper.semAt_eq _ _ _ (fun c h=>by cases h)];exact Qaz ρ dst x ty pos after g w hx h
@[go_sem ↓ high] theorem QbO(ρ:Operand→Value)(dst:Option Tmp)(x y:Operand)(ty:TypeId)(pos:String)(after:Array Edge)(g:Option (Nat×Bool))(w:World)
  (hx:ρ x= .pointer (some ⟨Qb (ρ x),Qd (ρ x),none⟩))(hy:ρ y= .agg (ρ y).cells)(hs:Qn (ρ y).cells 10)(h:Fits (Qd (ρ x)) 10 (Qc w (Qb (ρ x))))(hz:Qs w (Qb (ρ x))=(0,0))(h1:QK (ρ y).cells):
  (execOp ρ ⟨dst,.store 33 x y,ty,pos,after,g⟩).run Tryz.prog w= .ok .skip (Qe w (Qb (ρ x)) (Qd (ρ x)) (ρ y).cells):=by
 unfold Fits at h;unfold Qn at hs;generalize b:Qb (ρ x)=B at*;generalize c:Qd (ρ x)=O at*;generalize d:(ρ y).cells=C at*;have a:(Instr.storeAt 33 (.pointer (some ⟨B,O,none⟩)) (.agg C)).run Tryz.prog w= .ok () (Qe w B O C):=
  run_storeAt_mid w B O 33 C (fun j hj=>⟨by rw [Qa,Array.getElem?_eq_getElem Om];rfl,Ql hz _⟩) (by rw [Qhi,hs]) h1
 simp only [execOp,hx,hy,Sem.run_bind,a,Result.andThen_ok,Sem.run_pure]
@[go_sem ↓ high] theorem QsO{l:Option Nat}{ty:TypeId}(w:World)
  (hx:ρ x= .pointer (some ⟨Qb (ρ x),Qd (ρ x),none⟩))(hy:ρ y= .agg (ρ y).cells)(hs:Qn (ρ y).cells 10)(h:Fits (Qd (ρ x)) 10 (Qc w (Qb (ρ x))))(hz:Qs w (Qb (ρ x))=(0,0))(h1:QK (ρ y).cells):
  (Oper.semAt l ρ ⟨dst,.store 33 x y,ty,pos,after,g⟩).run Tryz.prog w= .ok .skip (Qe w (Qb (ρ x)) (Qd (ρ x)) (ρ y).cells):=by rw [Oper.semAt_eq _ _ _ (fun c h=>by cases h)];exact QbO ρ dst x y ty pos after g w hx hy hs h hz h1
theorem JF{cs:Array Value}(hs:(Qc w B).size=10)(hz:Qs w B=(0,0))(hcs:cs.size=10)(ho:QK cs){ty:TypeId}
  (hx:ρ x= .pointer (some ⟨B,0,none⟩))(hy:ρ y= .agg cs):(execOp ρ ⟨dst,.store 33 x y,ty,pos,after,g⟩).run Tryz.prog w= .ok .skip (Qe w B 0 cs):=by
 have e:=QbO ρ dst x y ty pos after g w (by rw [hx];rfl) (by rw [hy];rfl) (by rw [hy];exact hcs) (by rw [hx];show Fits 0 10 (Qc w B);unfold Fits;omega) (by rw [hx];exact hz) (by rw [hy];exact ho);rw [e,hx,hy];rfl
theorem Ql3:(Tryz.prog.info? 31).map (·.size)=some 3:=Kr
theorem Qno{b o:Nat}(h:o+3≤(Qc w b).size):(Instr.loadAt 31 (.pointer (some ⟨b,o,none⟩))).run Tryz.prog w= .ok (.agg ((Qc w b).extract o (o+3))) w:=by
 have:=run_loadAt_mid w b o 31 ((Qc w b).extract o (o+3)).toList _ (QC w b o (o+3)) Tryz.underlying31 rfl (by rw [Ql3];simp;omega)
 rwa [Array.toArray_toList]at this
@[go_sem ↓ high] theorem Qhj(ρ:Operand→Value)(dst:Option Tmp)(x:Operand)(ty:TypeId)(pos:String)(after:Array Edge)(g:Option (Nat×Bool))(w:World)
  (hx:ρ x= .pointer (some ⟨Qb (ρ x),Qd (ρ x),none⟩))(h:Fits (Qd (ρ x)) 3 (Qc w (Qb (ρ x)))):
  (execOp ρ ⟨dst,.load 31 x,ty,pos,after,g⟩).run Tryz.prog w= .ok (.value (.agg (QB (Qc w (Qb (ρ x))) (Qd (ρ x)) 3))) w:=by
 unfold Fits at h;generalize a:Qb (ρ x)=B at*;generalize b:Qd (ρ x)=O at*;simp only [execOp,hx,Sem.run_bind,Qno h,Result.andThen_ok,Sem.run_pure,QB]
@[go_sem ↓ high] theorem Qup{l:Option Nat}{ty:TypeId}(w:World)
  (hx:ρ x= .pointer (some ⟨Qb (ρ x),Qd (ρ x),none⟩))(h:Fits (Qd (ρ x)) 3 (Qc w (Qb (ρ x)))):
  (Oper.semAt l ρ ⟨dst,.load 31 x,ty,pos,after,g⟩).run Tryz.prog w= .ok (.value (.agg (QB (Qc w (Qb (ρ x))) (Qd (ρ x)) 3))) w:=by rw [Oper.semAt_eq _ _ _ (fun c h=>by cases h)];exact Qhj ρ dst x ty pos after g w hx h
@[go_sem ↓ high] theorem Qfz(ρ:Operand→Value)(dst:Option Tmp)(x y:Operand)(ty:TypeId)(pos:String)(after:Array Edge)(g:Option (Nat×Bool))(w:World)
  (hx:ρ x= .pointer (some ⟨Qb (ρ x),Qd (ρ x),none⟩))(hy:ρ y= .agg (ρ y).cells)(hs:Qn (ρ y).cells 3)(h:Fits (Qd (ρ x)) 3 (Qc w (Qb (ρ x))))(hz:Qs w (Qb (ρ x))=(0,0))(h1:QK (ρ y).cells):
  (execOp ρ ⟨dst,.store 31 x y,ty,pos,after,g⟩).run Tryz.prog w= .ok .skip (Qe w (Qb (ρ x)) (Qd (ρ x)) (ρ y).cells):=by
 unfold Fits at h;unfold Qn at hs;generalize b:Qb (ρ x)=B at*;generalize c:Qd (ρ x)=O at*;generalize d:(ρ y).cells=C at*;have a:(Instr.storeAt 31 (.pointer (some ⟨B,O,none⟩)) (.agg C)).run Tryz.prog w= .ok () (Qe w B O C):=
  run_storeAt_mid w B O 31 C (fun j hj=>⟨by rw [Qa,Array.getElem?_eq_getElem Om];rfl,Ql hz _⟩) (by rw [Ql3,hs]) h1
 simp only [execOp,hx,hy,Sem.run_bind,a,Result.andThen_ok,Sem.run_pure]
@[go_sem ↓ high] theorem QsP{l:Option Nat}{ty:TypeId}(w:World)
  (hx:ρ x= .pointer (some ⟨Qb (ρ x),Qd (ρ x),none⟩))(hy:ρ y= .agg (ρ y).cells)(hs:Qn (ρ y).cells 3)(h:Fits (Qd (ρ x)) 3 (Qc w (Qb (ρ x))))(hz:Qs w (Qb (ρ x))=(0,0))(h1:QK (ρ y).cells):
  (Oper.semAt l ρ ⟨dst,.store 31 x y,ty,pos,after,g⟩).run Tryz.prog w= .ok .skip (Qe w (Qb (ρ x)) (Qd (ρ x)) (ρ y).cells):=by rw [Oper.semAt_eq _ _ _ (fun c h=>by cases h)];exact Qfz ρ dst x y ty pos after g w hx hy hs h hz h1
theorem QdO{b:Nat}{x:Ct}(h:Qc w b=ctv x):(loadVar 33 ⟨b,0,none⟩).run Tryz.prog w= .ok (.agg (ctv x)) w:=by
 have e:=Qkj (w:=w) (b:=b) (o:=0) (by rw [h,QS];exact Nat.le_refl _);have c:= @QdN x;unfold QB at c;rw [h,c]at e;exact e
theorem Qkk(p:Option Addr)(n c:Nat)(w:World):
  Cr 246 #[.slice p n c,.slice none 0 0] w (.bool (decide (n=0))):=by
 by_cases b:n=0
 ·subst b
  go_enter Tryz.func246,Tryz.ntmps246
  go_wp2
  go_loopw [5,13] (fun _ a wr=>a= .int .i64 0∧wr=w) (fun _ _ _=>0)
  case atStart=>exact⟨rfl,rfl⟩
  case round=>
   obtain⟨rfl,rfl⟩:=hrel;go_wp2;go_ret;exact⟨rfl,Ext.rf _⟩
 ·have e:((n:Int) !=0)=true:=by simp;omega
  have d:=Xh (show decide (n=0)=false from decide_eq_false b);clear b
  go_enter Tryz.func246,Tryz.ntmps246
  go_wp2;go_ret;exact⟨Qm d.out.symm,Ext.rf _⟩
def Jt(sb st sb' st':Int)(n:Nat):Bool:=sb==sb'&&st==st'&&decide (n=0)
theorem Qkl(sb st sb' st':Int)(p:Option Addr)(n c:Nat)(w:World):
  Cr 228 #[.agg #[.int .i64 sb,.int .i64 st,.slice p n c],.agg #[.int .i64 sb',.int .i64 st',.slice none 0 0]] w (.bool (Jt sb st sb' st' n)):=by
 cases b:(sb==sb')
 ·have a:=Xh (show Jt sb st sb' st' n=false by unfold Jt;rw [b];rfl)
  go_enter Tryz.func228,Tryz.ntmps228
  go_wp2;go_ret;exact⟨Qm a.out.symm,Ext.al Ea _⟩
 cases d:(st==st')
 ·have a:=Xh (show Jt sb st sb' st' n=false by unfold Jt;rw [d];simp)
  go_enter Tryz.func228,Tryz.ntmps228
  go_wp2;go_ret;exact⟨Qm a.out.symm,Ext.al Ea _⟩
 have a:=Xh (show Jt sb st sb' st' n=decide (n=0)by unfold Jt;rw [b,d];rfl)
 go_enter Tryz.func228,Tryz.ntmps228
 go_wp2_with (go_at_call 246;(refine(Qkk p n c _).mono ?_);rintro e g ⟨rfl,f⟩)
 go_ret;exact⟨Qm a.out.symm,(Ext.al Ea _).tr f⟩
def Zm(x y:Ct):Bool:=x.ki==y.ki&&x.of_==y.of_&&x.ag==y.ag&&x.bu==y.bu&&x.ge==y.ge&&x.pe==y.pe&&x.ve==y.ve&&Jt x.sb x.st y.sb y.st x.n
theorem Qkm(x y:Ct)(hy:y.p=none∧y.n=0∧y.c=0)(w:World):
  Cr 196 #[.agg (ctv x),.agg (ctv y)] w (.bool (Zm x y)):=by
 have u:=Xh (fun W=>Qkl x.sb x.st y.sb y.st x.p x.n x.c W)
 go_enter Tryz.func196,Tryz.ntmps196
 go_upto_region 1 with(fail)
 obtain⟨a,h⟩: ∃a,(w.alloc (.cells (ctv x) 33)).alloc (.cells (ctv y) 33)=a:=⟨_,rfl⟩;have d:Ext w a:=by rw [←h];exact Ext.al Ea _
 have f:Qc a w.heap.size=ctv x:=by rw [←h];simp [go_sem]
 have g:Qc a (w.heap.size+1)=ctv y:=by rw [←h];simp [go_sem]
 have z:Lt (w.heap.size+1) a:=by rw [←h];simp [go_sem,Lt]
 have A:Lt w.heap.size a:=by rw [←h];simp [go_sem,Lt]
 rw [h];clear h;have B:a.cell? ⟨w.heap.size,0,none⟩=some (.int .u8 x.ki):=QG f 0 Om;have C:a.cell? ⟨w.heap.size+1,0,none⟩=some (.int .u8 y.ki):=QG g 0 Om;have D:a.cell? ⟨w.heap.size,1,none⟩=some (.int .u8 x.of_):=QG f 1 Om;have E:a.cell? ⟨w.heap.size+1,1,none⟩=some (.int .u8 y.of_):=QG g 1 Om;have F:a.cell? ⟨w.heap.size,2,none⟩=some (.int .i64 x.ag):=QG f 2 Om;have G:a.cell? ⟨w.heap.size+1,2,none⟩=some (.int .i64 y.ag):=QG g 2 Om;have H:a.cell? ⟨w.heap.size,3,none⟩=some (.int .i64 x.bu):=QG f 3 Om;have I:a.cell? ⟨w.heap.size+1,3,none⟩=some (.int .i64 y.bu):=QG g 3 Om;have J:a.cell? ⟨w.heap.size,4,none⟩=some (.int .i64 x.ge):=QG f 4 Om;have K:a.cell? ⟨w.heap.size+1,4,none⟩=some (.int .i64 y.ge):=QG g 4 Om;have L:a.cell? ⟨w.heap.size,5,none⟩=some (.int .i64 x.pe):=QG f 5 Om;have M:a.cell? ⟨w.heap.size+1,5,none⟩=some (.int .i64 y.pe):=QG g 5 Om;have N:a.cell? ⟨w.heap.size,6,none⟩=some (.int .i64 x.ve):=QG f 6 Om;have O:a.cell? ⟨w.heap.size+1,6,none⟩=some (.int .i64 y.ve):=QG g 6 Om
 cases i:(x.ki==y.ki)
 ·have b:=Xh (show Zm x y=false by unfold Zm;rw [i];simp);go_wp2;go_ret;exact⟨Qm b.out.symm,d⟩
 cases j:(x.of_==y.of_)
 ·have b:=Xh (show Zm x y=false by unfold Zm;rw [j];simp);go_wp2;go_ret;exact⟨Qm b.out.symm,d⟩
 cases k:(x.ag==y.ag)
 ·have b:=Xh (show Zm x y=false by unfold Zm;rw [k];simp);go_wp2;go_ret;exact⟨Qm b.out.symm,d⟩
 cases l:(x.bu==y.bu)
 ·have b:=Xh (show Zm x y=false by unfold Zm;rw [l];simp);go_wp2;go_ret;exact⟨Qm b.out.symm,d⟩
 cases m:(x.ge==y.ge)
 ·have b:=Xh (show Zm x y=false by unfold Zm;rw [m];simp);go_wp2;go_ret;exact⟨Qm b.out.symm,d⟩
 cases o:(x.pe==y.pe)
 ·have b:=Xh (show Zm x y=false by unfold Zm;rw [o];simp);go_wp2;go_ret;exact⟨Qm b.out.symm,d⟩
 cases q:(x.ve==y.ve)
 ·have b:=Xh (show Zm x y=false by unfold Zm;rw [q];simp);go_wp2;go_ret;exact⟨Qm b.out.symm,d⟩
 have b:=Xh (show Zm x y=Jt x.sb x.st y.sb y.st x.n by unfold Zm;rw [i,j,k,l,m,o,q];rfl);obtain⟨r,s,t⟩:=hy;have hcut:QB (ctv y) 7 3=#[.int .i64 y.sb,.int .i64 y.st,.slice none 0 0]:=by rw [Qnm,r,s,t]
 clear r s t
 go_wp2_with (go_at_call 228;(refine(u.out _).mono ?_);rintro e P ⟨rfl,v⟩)
 go_ret;exact⟨Qm b.out.symm,d.tr v⟩
@[go_sem] theorem Qyw{a0 a1 a2 a3 a4 a5 a6 a7 a8 a9:Value}{o m:Nat}:Fits o m #[a0,a1,a2,a3,a4,a5,a6,a7,a8,a9]=(o+m≤10):=by unfold Fits;rfl
@[go_sem] theorem QvL{a0 a1 a2 a3 a4 a5 a6 a7 a8 a9:Value}:Qn #[a0,a1,a2,a3,a4,a5,a6,a7,a8,a9] 10=True:=by unfold Qn;exact eq_true rfl
@[go_sem] theorem Qyx{a0 a1 a2 a3 a4 a5 a6 a7 a8 a9:Value}:QK #[a0,a1,a2,a3,a4,a5,a6,a7,a8,a9]=(a0.oneCell'=true∧a1.oneCell'=true∧a2.oneCell'=true∧a3.oneCell'=true∧a4.oneCell'=true∧a5.oneCell'=true∧a6.oneCell'=true∧a7.oneCell'=true∧a8.oneCell'=true∧a9.oneCell'=true):=by
 unfold QK;simp [and_assoc]
@[go_sem ↓ high] theorem Qxf{a0 a1 a2 a3 a4 a5 a6 a7 a8 a9:Value}:(Value.agg #[a0,a1,a2,a3,a4,a5,a6,a7,a8,a9]).cells=#[a0,a1,a2,a3,a4,a5,a6,a7,a8,a9]:=QF _
@[go_sem] theorem Qyy{a0 a1 a2 a3 a4 a5 a6 a7 a8 a9:Value}:QB #[a0,a1,a2,a3,a4,a5,a6,a7,a8,a9] 0 10=#[a0,a1,a2,a3,a4,a5,a6,a7,a8,a9]:=rfl
def QcG(k:Int):Ct:=⟨k,0,0,0,0,0,0,0,0,none,0,0⟩
theorem Ql4{ty:TypeId}(w:World):(execOp ρ ⟨dst,.alloc 33,ty,pos,after,g⟩).run Tryz.prog w= .ok (.value (.pointer (some ⟨w.heap.size,0,none⟩))) (w.alloc (.cells #[.int .u8 0,.int .u8 0,.int .i64 0,.int .i64 0,.int .i64 0,.int .i64 0,.int .i64 0,.int .i64 0,.int .i64 0,.slice none 0 0] 33)):=by
 simp only [execOp];go_simp
theorem Qqa{ty:TypeId}(w:World):(execOp ρ ⟨dst,.alloc 3,ty,pos,after,g⟩).run Tryz.prog w= .ok (.value (.pointer (some ⟨w.heap.size,0,none⟩))) (w.alloc (.cells #[.int .i64 0] 3)):=by
 simp only [execOp];go_simp
theorem Qqb{C:Nat→Prop}{x:Ct}(h0:RowZ w B (ctv x))(hC: ¬C B){q:Operand}{ty:TypeId}
  (hx:ρ q= .pointer (some ⟨B,0,none⟩)): ∀w',Mv C w w'→(execOp ρ ⟨dst,.load 33 q,ty,pos,after,g⟩).run Tryz.prog w'= .ok (.value (.agg (ctv x))) w':=by
 intro w' b;have a:=h0.mv b hC;have e:=Qaz ρ dst q ty pos after g w' (by rw [hx];rfl) (by rw [hx];show Fits 0 10 (Qc w' B);rw [a.r];unfold Fits;rw [QS];omega);rw [e,hx];show Result.ok (Next.value (Value.agg (QB (Qc w' B) 0 10))) w'=_;rw [a.r,QdN]
theorem Qqc{x:Int}(hx0:0≤x∧x<256){q:Operand}{ty:TypeId}(hx:ρ q= .int .u8 x)(w:World):
  (execOp ρ ⟨dst,.convert 5 3 q,ty,pos,after,g⟩).run Tryz.prog w= .ok (.value (.int .i64 x)) w:=by
 have e:IntKind.i64.wrap x=x:=by rw [IntKind.wrap_i64];omega
 simp only [execOp,hx];go_simp
theorem Ql5{v:Int}{u:Value}(hc:w.cell? ⟨B,i,none⟩=some u)(hf:w.frozen? ⟨B,i,none⟩=false){ty:TypeId}
  (hx:ρ x= .pointer (some ⟨B,i,none⟩))(hy:ρ y= .int .i64 v):(execOp ρ ⟨dst,.store 3 x y,ty,pos,after,g⟩).run Tryz.prog w= .ok .skip (w.setCell ⟨B,i,none⟩ (.int .i64 v)):=by
 simp only [execOp,hx,hy];go_simp
structure CrB(w:World)(x:Ct)(Bc Br Bb B4 B5:Nat)(W:World):Prop where
 c:RowZ W Bc (ctv x)
 r:RowZ W Br #[.bool false]
 b:RowZ W Bb (ctv (QcG x.ki))
 o:RowZ W B5 #[.int .i64 x.of_]
 e:Ext w W
 n:w.heap.size≤Bc∧Bc<Br∧Br<Bb∧Bb<B5
def QAF(x:Ct):Bool:=x.ki==0||((x.ki==1||x.ki==2)&&x.pe==x.ag)
def inP(v lo hi:Int):Bool:=decide (lo≤v)&&decide (v≤hi)
def zer(i:Nat)(x:Ct):Ct:={x with ag:=if 0<i then 0 else x.ag,bu:=if 1<i then 0 else x.bu,ge:=if 2<i then 0 else x.ge,pe:=if 3<i then 0 else x.pe}
theorem QAk(x:Ct):zer 0 x=x:=rfl
def Qe2(x:Ct)(j:Nat):Int:=if j=0 then x.ag else if j=1 then x.bu else if j=2 then x.ge else x.pe
def numOk(x:Ct)(j:Nat):Bool:=match (Jo 0 x.ki)[j]? with|some p=>inP (Qe2 x j) p.lo p.hi|none=>true
def crB(x:Ct):Bool:=!QAF x&&(((List.range (Jo 0 x.ki).length).all fun j=>numOk x j)&&Zm (zer (Jo 0 x.ki).length x) (QcG x.ki))
theorem Qqd{Bc:Nat}{k:Int}{s:Pt}(h:(Jo Bc k)[i]?=some s):i<4∧s.q=some ⟨Bc,i+2,none⟩∧ ∃p,(Jo 0 k)[i]?=some p∧p.lo=s.lo∧p.hi=s.hi:=by
 have a:=(List.getElem?_eq_some_iff.1 h).1;have d:i<4:=by unfold Jo at a;rw [List.length_append]at a;have:=Qhh Bc k;have e:(mvL Bc).length=3:=rfl;omega
 refine⟨d,?_⟩;unfold Jo exL at h⊢;obtain rfl|rfl|rfl|rfl:i=0∨i=1∨i=2∨i=3:=by omega
 ·cases h;exact⟨rfl,_,rfl,rfl,rfl⟩
 ·cases h;exact⟨rfl,_,rfl,rfl,rfl⟩
 ·cases h;exact⟨rfl,_,rfl,rfl,rfl⟩
 ·by_cases b:k=1
  ·rw [if_pos b]at h⊢
   cases h;exact⟨rfl,_,rfl,rfl,rfl⟩
  ·rw [if_neg b]at h⊢
   by_cases c:k=2
   ·rw [if_pos c]at h⊢
    cases h;exact⟨rfl,_,rfl,rfl,rfl⟩
   ·rw [if_neg c]at h
    cases h
theorem QvM(x:Ct)(h:i<4):(zer i x).at (i+2)= .int .i64 (Qe2 x i):=by
 obtain rfl|rfl|rfl|rfl:i=0∨i=1∨i=2∨i=3:=by omega
 all_goals rfl
theorem QsQ(x:Ct)(h:i<4):(ctv (zer i x)).setIfInBounds (i+2) (.int .i64 0)=ctv (zer (i+1) x):=by
 rw [ZB,ZB];obtain rfl|rfl|rfl|rfl:i=0∨i=1∨i=2∨i=3:=by omega
 all_goals rfl
theorem Qqe{x:Ct}(h:numOk x i=false)(hi:i<(Jo 0 x.ki).length):crB x=false:=by
 unfold crB;rw [show((List.range (Jo 0 x.ki).length).all fun j=>numOk x j)=false from List.all_eq_false.2 ⟨i,List.mem_range.2 hi,by rw [h];decide⟩];simp
theorem Qe3{x y:Int}{b:Bool}(h:decide (x<y)=b){p q:Operand}{ty:TypeId}(hx:ρ p= .int .i64 x)(hy:ρ q= .int .i64 y)(w:World):
  (execOp ρ ⟨dst,.binOp .lss 3 p q 3,ty,pos,after,g⟩).run Tryz.prog w= .ok (.value (.bool b)) w:=by
 subst h;simp only [execOp,hx,hy];go_simp
theorem QiQ{x y:Int}{b:Bool}(h:decide (y<x)=b){p q:Operand}{ty:TypeId}(hx:ρ p= .int .i64 x)(hy:ρ q= .int .i64 y)(w:World):
  (execOp ρ ⟨dst,.binOp .gtr 3 p q 3,ty,pos,after,g⟩).run Tryz.prog w= .ok (.value (.bool b)) w:=by
 subst h;simp only [execOp,hx,hy];go_simp
structure CrI(x:Ct)(Bc Br Bb i:Nat)(W:World):Prop where
 c:RowZ W Bc (ctv (zer i x))
 r:RowZ W Br #[.bool false]
 b:RowZ W Bb (ctv (QcG x.ki))
 ok: ∀j,j<i→numOk x j=true
theorem CrI.mv{x:Ct}{Bc Br Bb:Nat}{A B:World}{C:Nat→Prop}(h:CrI x Bc Br Bb i A)(m:Mv C A B)(h1: ¬C Bc)(h2: ¬C Br)(h3: ¬C Bb):CrI x Bc Br Bb i B:=⟨h.c.mv m h1,h.r.mv m h2,h.b.mv m h3,h.ok⟩
structure CrX(x:Ct)(Br:Nat)(c:Code)(W:World):Prop where
 c:c= .ret
 n:crB x=false
 r:RowZ W Br #[.bool false]
theorem Qkn{v:Bool}(h:w.cell? ⟨B,0,none⟩=some (.bool v)):(loadVar 4 ⟨B,0,none⟩).run Tryz.prog w= .ok (.bool v) w:=by go_simp
theorem Ql6{WA W2:World}{x:Ct}{Bc Br Bb B4 B5:Nat}(g2:Ext WA W2)(E:Ext w WA)(rC:RowZ WA Bc (ctv x))(rR:RowZ WA Br #[.bool false])(rB:RowZ WA Bb (ctv (QcG x.ki)))(h4:WA.heap.size≤B4)(h5:WA.heap.size≤B5)(hn:B4≠B5)(r5:RowZ (Qe W2 B4 0 (ctv x)) B5 #[.int .i64 0])(hb:w.heap.size≤Bc∧Bc<Br∧Br<Bb):
  CrB w x Bc Br Bb B4 B5 ((Qe W2 B4 0 (ctv x)).setCell ⟨B5,0,none⟩ (.int .i64 x.of_)):=by
 have a:Mv (fun k=>k=B4) W2 (Qe W2 B4 0 (ctv x)):=Mv.sa _ rfl (Mv.refl _ _);have b:Mv (fun k=>k=B5) (Qe W2 B4 0 (ctv x)) ((Qe W2 B4 0 (ctv x)).setCell ⟨B5,0,none⟩ (.int .i64 x.of_)):=Mv.st _ (.inl rfl) (Mv.refl _ _);have c:=rC.l;have d:=rR.l;have f:=rB.l;unfold Lt at c d f;have g:=E.size;exact⟨((rC.ext g2).mv a Om).mv b Om,((rR.ext g2).mv a Om).mv b Om,((rB.ext g2).mv a Om).mv b Om,r5.set 0 _,Mv.ext_of (Mv.ext_of (E.tr g2) a (fun k e=>by omega)) b (fun k e=>by omega),⟨hb.1,hb.2.1,hb.2.2,Om⟩⟩
def Qqf(ops:Array Oper):Prop:=Region.noSelect ops=true∧Qo ops 8 [0,1,2,3] 0=true∧Rd ops 8 15 [4,5]∧Rd ops 8 31 [5]∧Rd ops 8 47 [4]∧Rd ops 8 63 [6]∧Rd ops 8 127 [7]∧Rd ops 8 255 []
theorem Qko:Qqf ((Tryz.f133.body.bind (Qh 2)).getD #[]):=⟨Kr,Kr,Rk,Rk,Rk,Rk,Rk,Rk⟩
def Qqg(ops:Array Oper):Prop:=Region.noSelect ops=true∧Qo ops 16 [0,1,2,3,4,5,6,7,8,9,10,11,12,13] 0=true∧Qo ops 16 [14,15] 16383=true∧Rd ops 16 65535 []
theorem Qkp:Qqg ((Tryz.f133.body.bind (Qh 7)).getD #[]):=⟨Kr,Kr,Kr,Rk⟩
def Qqh(ops:Array Oper):Prop:=Region.noSelect ops=true∧Qo ops 16 [0,1,2,3,4,5,6,7,8,9,10,11,12,13] 0=true∧Qo ops 16 [14,15] 16383=true∧Rd ops 16 65535 []
theorem Qkq:Qqh ((Tryz.f133.body.bind (Qh 7)).getD #[]):=⟨Kr,Kr,Kr,Rk⟩
def Qqi(ops:Array Oper):Prop:=Region.noSelect ops=true∧Qo ops 16 [0,1,2,3,4,5,6,7,8,9,10,11,12,13] 0=true∧Qo ops 16 [14,15] 16383=true∧Rd ops 16 65535 []
theorem Qkr:Qqi ((Tryz.f133.body.bind (Qh 7)).getD #[]):=⟨Kr,Kr,Kr,Rk⟩
theorem Qks(x:Ct)(w:World)(hk:x.ki=0∨x.ki=1∨x.ki=2∨x.ki=3)(hof:0≤x.of_∧x.of_<256):
  Cr 133 #[.agg (ctv x)] w (.bool (crB x)):=by
 refine(callsIn_wide (n:=5)).1 ?_;refine callsIn_of_wp_marks Tryz.func133 rfl trivial ?_ rfl;simp only [Tryz.ntmps133,List.size_toArray,List.length_cons,List.length_nil,Nat.reduceAdd,Nat.reduceSub,Array.replicate_succ,Array.replicate_zero,List.push_toArray,List.append_toArray,List.nil_append,List.cons_append];refine wpIn_wide.2 ?_
 go_upto_region 1 with(fail)
 have d5:((w.alloc (.cells (ctv x) 33)).alloc (.cells #[.bool false] 4)).cell? ⟨w.heap.size,0,none⟩=some (.int .u8 x.ki):=by
  have h:Qc ((w.alloc (.cells (ctv x) 33)).alloc (.cells #[.bool false] 4)) w.heap.size=ctv x:=by simp [go_sem]
  exact QG h 0 Om
 go_upto_region 2 with(fail)
 obtain⟨Y,u⟩: ∃Y,Qe (((w.alloc (.cells (ctv x) 33)).alloc (.cells #[.bool false] 4)).alloc (.cells #[.int .u8 0,.int .u8 0,.int .i64 0,.int .i64 0,.int .i64 0,.int .i64 0,.int .i64 0,.int .i64 0,.int .i64 0,.slice none 0 0] 33)) (w.heap.size+1+1) 0 #[.int .u8 x.ki,.int .u8 0,.int .i64 0,.int .i64 0,.int .i64 0,.int .i64 0,.int .i64 0,.int .i64 0,.int .i64 0,.slice none 0 0]=Y:=⟨_,rfl⟩;have rC:RowZ Y w.heap.size (ctv x):=by rw [←u];exact⟨by rw [ZP _ _ _ _ _ Om];simp [go_sem],by rw [ZV];simp [go_sem],by rw [QaS];simp [go_sem,Lt]⟩
 have rR:RowZ Y (w.heap.size+1) #[.bool false]:=by rw [←u];exact⟨by rw [ZP _ _ _ _ _ Om];simp [go_sem],by rw [ZV];simp [go_sem],by rw [QaS];simp [go_sem,Lt]⟩
 have rB:RowZ Y (w.heap.size+1+1) (ctv (QcG x.ki)):=by
  rw [←u,ZB];exact RowZ.all (cs:=#[.int .u8 0,.int .u8 0,.int .i64 0,.int .i64 0,.int .i64 0,.int .i64 0,.int .i64 0,.int .i64 0,.int .i64 0,.slice none 0 0]) ⟨by simp [go_sem],by simp [go_sem],by simp [go_sem,Lt]⟩ _ rfl
 have E1:Ext w Y:=by rw [←u];exact Ext.sa _ Om (Ext.al (Ext.al Ea _) _)
 rw [u];clear u d5;obtain⟨m,c1⟩: ∃B,w.heap.size=B:=⟨_,rfl⟩;rw [c1]at rC rR rB⊢;obtain⟨H,c3⟩: ∃B,m+1=B:=⟨_,rfl⟩;rw [c3]at rR rB⊢;obtain⟨Bb,c4⟩: ∃B,H+1=B:=⟨_,rfl⟩;rw [c4]at rB⊢;have b6:w.heap.size≤m∧m<H∧H<Bb:=by omega
 go_cut [4,5]from 10 to 13 (fun s t wx=> ∃I J,s= .pointer (some ⟨I,0,none⟩)∧t= .pointer (some ⟨J,0,none⟩)∧CrB w x m H Bb I J wx)
 case first=>
  refine Qy (fun _=>False) (fun k=>Y.heap.size≤k) 6 Kr ?_;have b8: ¬(fun k=>Y.heap.size≤k) m:=by have h:m<Y.heap.size:=rC.l;exact Nat.not_le_of_lt h
  have E:=E1;obtain⟨G,u⟩: ∃Wdr,World.drew Y=Wdr:=⟨_,rfl⟩;have g:Ext Y G:=by rw [←u];exact Ext.dr (Ext.rf _)
  rw [u];clear u;have E:=E.tr g;have rC:=rC.ext g;have rR:=rR.ext g;have rB:=rB.ext g;refine Zi (N:=8) (R:=Qqf) (E:=((Tryz.f133.body.bind (Qh 2)).getD #[])) Kr Qko Kr fun d=> ?_;have a:=d.2.1;refine tW 1 (.agg (ctv x)) d.1 a rfl (Qqb rC b8 Kr) fun a=>tWk 3 (.pointer (some ⟨m,1,none⟩)) d.1 a rfl fun a=>tW 7 (.int .u8 x.of_) d.1 a rfl (Ql2 (QG rC.r 1 Om) rC.l b8 Kr) fun a=>tW 15 (.int .i64 x.of_) d.1 a rfl (fun w' _=>Qqc hof Kr w') fun a=> ?_;refine QmS d.2.2.1 ?_ ?_
  ·refine Zq (m':=31) rfl rfl Kr (Ql4 _) ⟨.inr (Mv.of_ext Ea),Mv.of_ext Ea⟩ ?_;refine Qr d.2.2.2.1 (Zq (m':=63) rfl rfl Kr (Qqa _) ⟨.inr (Mv.of_ext Ea),Mv.of_ext Ea⟩ ?_);obtain⟨W2,u⟩: ∃W,((G.alloc (.cells #[.int .u8 0,.int .u8 0,.int .i64 0,.int .i64 0,.int .i64 0,.int .i64 0,.int .i64 0,.int .i64 0,.int .i64 0,.slice none 0 0] 33)).alloc (.cells #[.int .i64 0] 3))=W:=⟨_,rfl⟩;obtain⟨I,a1⟩: ∃B,G.heap.size=B:=⟨_,rfl⟩;obtain⟨J,a2⟩: ∃B,(G.alloc (.cells #[.int .u8 0,.int .u8 0,.int .i64 0,.int .i64 0,.int .i64 0,.int .i64 0,.int .i64 0,.int .i64 0,.int .i64 0,.slice none 0 0] 33)).heap.size=B:=⟨_,rfl⟩;have L:I≠J∧G.heap.size≤I∧G.heap.size≤J:=by rw [←a1,←a2];simp only [World.size_alloc];omega
   have g2:Ext G W2:=by rw [←u];exact Ext.al Ea _
   have r4:RowZ W2 I #[.int .u8 0,.int .u8 0,.int .i64 0,.int .i64 0,.int .i64 0,.int .i64 0,.int .i64 0,.int .i64 0,.int .i64 0,.slice none 0 0]:=by rw [←u,←a1];exact⟨by simp [go_sem],by simp [go_sem],by simp [go_sem,Lt]⟩
   have S:RowZ W2 J #[.int .i64 0]:=by rw [←u,←a2];exact⟨by simp [go_sem],by simp [go_sem],by simp [go_sem,Lt]⟩
   rw [u,a1,a2];clear u a1 a2;refine Qr d.2.2.2.2.2.1 (QE (m':=127) rfl rfl Kr (JF (B:=I) (cs:=ctv x) (by rw [r4.r];rfl) r4.z QS Qbw Kr Kr) ⟨.inl Dc,Mv.sa _ (Xt g.size L.2.1) (Mv.refl _ _)⟩ ?_);have S:=S.mv (show Mv (fun k=>k=I) W2 (Qe W2 I 0 (ctv x))from Mv.sa _ rfl (Mv.refl _ _)) (fun e=>L.1 e.symm);refine Qr d.2.2.2.2.2.2.1 (QE (m':=255) rfl rfl Kr (Ql5 (B:=J) (i:=0) (v:=x.of_) (S.cell 0 (by show 0<1;omega)) (S.frz 0) Kr Kr) ⟨.inl Dc,Mv.st _ (.inl (Xt g.size L.2.2)) (Mv.refl _ _)⟩ ?_);refine QZ d.2.2.2.2.2.2.2 ?_;have HF:=Xh (Ql6 g2 E rC rR rB L.2.1 L.2.2 L.1 S b6);clear r4 S L g2
   go_wp2_with (fail)
   go_meet
   exact⟨I,J,rfl,rfl,HF.out⟩
  ·refine Zq (m':=47) rfl rfl Kr (Qqa _) ⟨.inr (Mv.of_ext Ea),Mv.of_ext Ea⟩ ?_;refine Qr d.2.2.2.2.1 (Zq (m':=63) rfl rfl Kr (Ql4 _) ⟨.inr (Mv.of_ext Ea),Mv.of_ext Ea⟩ ?_);obtain⟨W2,u⟩: ∃W,((G.alloc (.cells #[.int .i64 0] 3)).alloc (.cells #[.int .u8 0,.int .u8 0,.int .i64 0,.int .i64 0,.int .i64 0,.int .i64 0,.int .i64 0,.int .i64 0,.int .i64 0,.slice none 0 0] 33))=W:=⟨_,rfl⟩;obtain⟨I,a1⟩: ∃B,(G.alloc (.cells #[.int .i64 0] 3)).heap.size=B:=⟨_,rfl⟩;obtain⟨J,a2⟩: ∃B,G.heap.size=B:=⟨_,rfl⟩;have L:I≠J∧G.heap.size≤I∧G.heap.size≤J:=by rw [←a1,←a2];simp only [World.size_alloc];omega
   have g2:Ext G W2:=by rw [←u];exact Ext.al Ea _
   have r4:RowZ W2 I #[.int .u8 0,.int .u8 0,.int .i64 0,.int .i64 0,.int .i64 0,.int .i64 0,.int .i64 0,.int .i64 0,.int .i64 0,.slice none 0 0]:=by rw [←u,←a1];exact⟨by simp [go_sem],by simp [go_sem],by simp [go_sem,Lt]⟩
   have S:RowZ W2 J #[.int .i64 0]:=by rw [←u,←a2];exact⟨by simp [go_sem],by simp [go_sem],by simp [go_sem,Lt]⟩
   rw [u,a1,a2];clear u a1 a2;refine Qr d.2.2.2.2.2.1 (QE (m':=127) rfl rfl Kr (JF (B:=I) (cs:=ctv x) (by rw [r4.r];rfl) r4.z QS Qbw Kr Kr) ⟨.inl Dc,Mv.sa _ (Xt g.size L.2.1) (Mv.refl _ _)⟩ ?_);have S:=S.mv (show Mv (fun k=>k=I) W2 (Qe W2 I 0 (ctv x))from Mv.sa _ rfl (Mv.refl _ _)) (fun e=>L.1 e.symm);refine Qr d.2.2.2.2.2.2.1 (QE (m':=255) rfl rfl Kr (Ql5 (B:=J) (i:=0) (v:=x.of_) (S.cell 0 (by show 0<1;omega)) (S.frz 0) Kr Kr) ⟨.inl Dc,Mv.st _ (.inl (Xt g.size L.2.2)) (Mv.refl _ _)⟩ ?_);refine QZ d.2.2.2.2.2.2.2 ?_;have HF:=Xh (Ql6 g2 E rC rR rB L.2.1 L.2.2 L.1 S b6);clear r4 S L g2
   go_wp2_with (fail)
   go_meet
   exact⟨I,J,rfl,rfl,HF.out⟩
 case rest=>
  obtain⟨I,J,rfl,rfl,a0⟩:=hcut;obtain⟨U,c6⟩: ∃W,wc=W:=⟨_,rfl⟩;rw [c6]at a0⊢;clear c6;have c0:U.cell? ⟨m,0,none⟩=some (.int .u8 x.ki):=QG a0.c.r 0 Om;have c2:U.cell? ⟨m,2,none⟩=some (.int .i64 x.ag):=QG a0.c.r 2 Om;have c5:U.cell? ⟨m,5,none⟩=some (.int .i64 x.pe):=QG a0.c.r 5 Om;have O:=a0.c.l;obtain⟨k,b4⟩: ∃k,x.ki=k:=⟨_,rfl⟩;rw [b4]at hk c0⊢;have T:=Xh b4;have a3:=Xh a0;have cr:=a0.r.cell 0 (by show 0<1;omega);have fr:=a0.r.frz 0;have lr:=a0.r.l;clear a0 b4 rC rR rB E1 c1 c3 c4
  go_upto_region 3 with(fail)
  go_cut [38]from 14 to 38 (fun v wx=>v= .bool (QAF x)∧wx=U)
  case first=>
   rcases hk with rfl|rfl|rfl|rfl
   ·have Q:=Xh (show QAF x=true by unfold QAF;rw [T.out];rfl)
    go_wp2_with (fail)
    go_meet
    exact⟨congrArg Value.bool Q.out.symm,rfl⟩
   ·have Q:=Xh (show QAF x=(x.pe==x.ag)by unfold QAF;rw [T.out];rfl)
    go_wp2_with (fail)
    go_meet
    exact⟨congrArg Value.bool Q.out.symm,rfl⟩
   ·have Q:=Xh (show QAF x=(x.pe==x.ag)by unfold QAF;rw [T.out];rfl)
    go_wp2_with (fail)
    go_meet
    exact⟨congrArg Value.bool Q.out.symm,rfl⟩
   ·have Q:=Xh (show QAF x=false by unfold QAF;rw [T.out];rfl)
    go_wp2_with (fail)
    go_meet
    exact⟨congrArg Value.bool Q.out.symm,rfl⟩
  case rest=>
   obtain⟨rfl,c7⟩:=hcut;rw [c7];clear c7 c0 c2 c5
   cases hb:QAF x
   case true=>
    have Q:=Xh (show crB x=false by unfold crB;rw [hb];rfl);go_wp2;have m4:Mv (fun k=>k=H) U (U.setCell ⟨H,0,none⟩ (.bool false)):=Mv.st _ (.inl rfl) (Mv.refl _ _);have hq:=((a3.out).r.set 0 (.bool false)).cell 0 (by show 0<1;omega);exact⟨_,Zv rfl _ _ H rfl (Qkn hq),by rw [Q.out],Mv.ext_of a3.out.e m4 (fun k e=>by omega)⟩
   have hk:k=1∨k=2∨k=3:=by
    rcases hk with h|h
    ·have:=T.out;unfold QAF at hb;rw [this,h]at hb
     cases hb
    ·exact h
   have d6:=Xh hb;clear hb cr fr lr O
   go_wp2_with (go_at_call 195;(refine(Qp9 U (some ⟨m,0,none⟩) (some ⟨J,0,none⟩)).mono ?_);rintro e P ⟨rfl,c8⟩;have d7:=Xh c8;clear c8)
   have a4:=d7.out;have g4:Ext U P:=by rw [a4];exact Ext.al Ea _
   have e1:P.cell? ⟨U.heap.size,0,none⟩=some (.pointer (some ⟨m,0,none⟩)):=by rw [a4];simp [go_sem]
   have e2:P.cell? ⟨U.heap.size+1,0,none⟩=some (.pointer (some ⟨J,0,none⟩)):=by rw [a4];simp [go_sem]
   have z1:Lt U.heap.size P:=by rw [a4];simp [go_sem,Lt]
   have z2:Lt (U.heap.size+1) P:=by rw [a4];simp [go_sem,Lt]
   have q1:=a3.out.c.ext g4;have q2:=a3.out.r.ext g4;have q3:=a3.out.b.ext g4;have E4:=a3.out.e.tr g4;have e7:=a3.out.n;have l5:J<P.heap.size:=(a3.out.o.ext g4).l;have ck:P.cell? ⟨m,0,none⟩=some (.int .u8 k):=by rw [←T.out];exact QG q1.r 0 Om
   obtain⟨b7,h7⟩: ∃b,U.heap.size=b:=⟨_,rfl⟩;rw [h7]at e1 e2 z1 z2⊢;clear a4 g4 h7;refine(wpIn_wide (n:=5)).1 ?_;refine QaZ rfl Om (gf:=226) (lb:=#[.pointer (some ⟨b7,0,none⟩),.pointer (some ⟨b7+1,0,none⟩)]) rfl trivial Qhg
    (Qki _ m J b7 (b7+1) k hk P (fun q=>q=m∨q=H) e1 z1 e2 z2 ck q1.l (fun q h=>by have:=q1.l;have:=q2.l;unfold Lt at*;rcases h with rfl|rfl<;>assumption))
    (fun _ _ h _=>h) (fun q h=>h.elim) (fun q h=>by have:=q1.l;have:=q2.l;unfold Lt at*;rcases h with rfl|rfl<;>assumption) (fun _=>rfl)
    (CrI x m H Bb) (CrX x H)
    (fun i A B h hm=>h.mv hm (by have:=q1.l;unfold Lt at this;rintro(h|h|h)<;>first|exact False.elim h|omega) (by have:=q2.l;unfold Lt at this;rintro(h|h|h)<;>first|exact False.elim h|omega) (by have:=q3.l;unfold Lt at this;rintro(h|h|h)<;>first|exact False.elim h|omega))
    (fun c A B h hm=>⟨h.c,h.n,h.r.mv hm (by have:=q2.l;unfold Lt at this;rintro(h|h|h)<;>first|exact False.elim h|omega)⟩)
    ⟨by rw [QAk];exact q1,q2,q3,fun j hj=>by omega⟩
    (fun s a' W=> ∃D,P.heap.size+2≤D∧RowZ W D s.cl.toArray∧a'={tmps:=#[.agg (ctv x),.pointer (some ⟨m,0,none⟩),.pointer (some ⟨H,0,none⟩),.pointer (some ⟨Bb,0,none⟩),.pointer (some ⟨I,0,none⟩),.pointer (some ⟨J,0,none⟩),.pointer (some ⟨D,0,none⟩),.pointer (some ⟨m,0,none⟩),.int .u8 k,.agg #[.int .u8 k,.int .u8 0,.int .i64 0,.int .i64 0,.int .i64 0,.int .i64 0,.int .i64 0,.int .i64 0,.int .i64 0,.slice none 0 0],u10,u11,u12,u13,u14,u15,u16,u17,u18,u19,u20,u21,u22,u23,u24,u25,u26,u27,u28,u29,u30,u31,u32,u33,u34,u35,u36,u37,.bool false,.func (.func 226) #[] #[.pointer (some ⟨b7,0,none⟩),.pointer (some ⟨b7+1,0,none⟩)],s.v,undef,undef,undef,undef,undef,undef,undef,undef,undef,undef,undef,undef,undef,undef,undef,undef,undef,undef,undef,undef,undef,undef,undef,undef,undef,undef,undef,undef,undef,undef,undef,undef,undef,undef,undef,undef,undef,undef,undef],defers:= []})
    (fun s a' A B h hm=>by obtain⟨D,h1,h2,h3⟩:=h;exact⟨D,h1,h2.mv hm Om,h3⟩)
    ?assign ?body ?done ?stop
   case assign=>
    intro l i s W K c9 hv M hx hK
    gi_wp2
    refine hK _ _ (Mv.of_ext Ea) (M.mv (C:=fun _=>False) (Mv.of_ext Ea) (fun h=>h) (fun h=>h) (fun h=>h)) ⟨W.heap.size,c9,RowZ.new _ _ _,rfl⟩
   case body=>
    rintro y i s a' W e6 ⟨rr,hr⟩ c9 hv M hx ⟨D,f3,a7,rfl⟩;obtain⟨d1,d2,hp⟩:=Qqd hx;obtain⟨q,f4,f5,lo,hi⟩:=s;dsimp only at d2 hp;subst d2;have X:W.cell? ⟨D,0,none⟩=some (.pointer (some ⟨m,i+2,none⟩)):=by rw [Qa,a7.r];rfl
    have d3:W.cell? ⟨D,3,none⟩=some (.int .i64 lo):=by rw [Qa,a7.r];rfl
    have d4:W.cell? ⟨D,4,none⟩=some (.int .i64 hi):=by rw [Qa,a7.r];rfl
    have F:=a7.l;have O:=M.c.l;have V:W.cell? ⟨m,i+2,none⟩=some (.int .i64 (Qe2 x i)):=by rw [←QvM x d1];exact QG M.c.r (i+2) Om
    have fv:=M.c.frz (i+2);have cr:W.cell? ⟨H,0,none⟩=some (.bool false):=M.r.cell 0 Nat.zero_lt_one;have fr:=M.r.frz 0;have lr:=M.r.l;have HI:=Xh M;have HP:=Xh hp;obtain⟨v,b5⟩: ∃v,Qe2 x i=v:=⟨_,rfl⟩;rw [b5]at V;have b0:=Xh b5;clear hx hr hv M a7 hp e6 b5
    cases t1:decide (lo≤v)
    ·have b1:v<lo:=by have:=of_decide_eq_false t1;omega
     have T1:decide (v<lo)=true:=decide_eq_true b1
     have a5:=Xh (show numOk x i=false by
      obtain⟨p,h1,h2,h3⟩:=HP.out
      unfold numOk;rw [T.out,h1];show inP (Qe2 x i) p.lo p.hi=false;rw [h2,b0.out];unfold inP;rw [t1];rfl)
     have b2:=Xh (Qqe a5.out (by obtain⟨p,h1,-⟩:=HP.out;rw [T.out];exact(List.getElem?_eq_some_iff.1 h1).1));clear t1
     gi_upto_region 7 with(fail)
     refine ZW (fun _=>False) (fun _=>False) 16 (fun _=>trivial) (fun h=>by cases h) (fun f args w R h=>CallsIn.inRound y (callsIn_wide.2 h)) Kr Kr ?_;obtain⟨G,u⟩: ∃Wdr,World.drew W=Wdr:=⟨_,rfl⟩;have g:Ext W G:=by rw [←u];exact Ext.dr (Ext.rf _)
     rw [u];clear u;have X:=(g.cell (p:=⟨D,0,none⟩) F).trans X;have d3:=(g.cell (p:=⟨D,3,none⟩) F).trans d3;have d4:=(g.cell (p:=⟨D,4,none⟩) F).trans d4;have V:=(g.cell (p:=⟨m,i+2,none⟩) O).trans V;have F:=Xl F g.size;have O:=Xl O g.size;refine Zi (N:=16) (R:=Qqg) (E:=((Tryz.f133.body.bind (Qh 7)).getD #[])) Kr Qkp Kr fun d=> ?_;have a:=d.2.1;refine tWk 1 (.pointer (some ⟨D,0,none⟩)) d.1 a rfl fun a=>tW 3 (.pointer (some ⟨m,i+2,none⟩)) d.1 a rfl (Qdj (C:=fun _=>False) X F (fun h=>h) Kr) fun a=>tWk 7 (.pointer (some ⟨m,i+2,none⟩)) d.1 a rfl fun a=>tW 15 (.int .i64 v) d.1 a rfl (Q0 (C:=fun _=>False) V O (fun h=>h) Kr) fun a=>tWk 31 (.pointer (some ⟨D,3,none⟩)) d.1 a rfl fun a=>tW 63 (.int .i64 lo) d.1 a rfl (Q0 (C:=fun _=>False) d3 F (fun h=>h) Kr) fun a=>tW 127 (.bool true) d.1 a rfl (fun w' _=>Qe3 T1 Kr Kr w') fun a=>tWk 255 (.bool true) d.1 a rfl fun a=>tVU 511 d.1 a rfl fun a=>tVU 1023 d.1 a rfl fun a=>tVU 2047 d.1 a rfl fun a=>tVU 4095 d.1 a rfl fun a=>tVU 8191 d.1 a rfl fun a=>tVU 16383 d.1 a rfl fun a=> ?_;have a:=d.2.2.1;refine tVU 32767 d.1 a rfl fun a=>tWk 65535 (.bool true) d.1 a rfl fun a=> ?_;refine QZ d.2.2.2 ?_;clear d a;go_simp;have cr:=(g.cell (p:=⟨H,0,none⟩) lr).trans cr;have fr:G.frozen? ⟨H,0,none⟩=false:=((HI.out.r.ext g)).frz 0;have lr:=Xl lr g.size
     gi_wp2
     exact⟨(Mv.of_ext g).trans (Mv.st _ (.inl (.inr rfl)) (Mv.refl _ _)),rfl,b2.out,(HI.out.r.ext g).set 0 (.bool false)⟩
    ·have b1: ¬v<lo:=by have:=of_decide_eq_true t1;omega
     have T1:decide (v<lo)=false:=decide_eq_false b1
     cases t2:decide (v≤hi)
     ·have b3:hi<v:=by have:=of_decide_eq_false t2;omega
      have T2:decide (hi<v)=true:=decide_eq_true b3
      have a5:=Xh (show numOk x i=false by
       obtain⟨p,h1,h2,h3⟩:=HP.out
       unfold numOk;rw [T.out,h1];show inP (Qe2 x i) p.lo p.hi=false;rw [h3,b0.out];unfold inP;rw [t2];simp)
      have b2:=Xh (Qqe a5.out (by obtain⟨p,h1,-⟩:=HP.out;rw [T.out];exact(List.getElem?_eq_some_iff.1 h1).1));clear t1 t2
      gi_upto_region 7 with(fail)
      refine ZW (fun _=>False) (fun _=>False) 16 (fun _=>trivial) (fun h=>by cases h) (fun f args w R h=>CallsIn.inRound y (callsIn_wide.2 h)) Kr Kr ?_;obtain⟨G,u⟩: ∃Wdr,World.drew W=Wdr:=⟨_,rfl⟩;have g:Ext W G:=by rw [←u];exact Ext.dr (Ext.rf _)
      rw [u];clear u;have X:=(g.cell (p:=⟨D,0,none⟩) F).trans X;have d3:=(g.cell (p:=⟨D,3,none⟩) F).trans d3;have d4:=(g.cell (p:=⟨D,4,none⟩) F).trans d4;have V:=(g.cell (p:=⟨m,i+2,none⟩) O).trans V;have F:=Xl F g.size;have O:=Xl O g.size;refine Zi (N:=16) (R:=Qqh) (E:=((Tryz.f133.body.bind (Qh 7)).getD #[])) Kr Qkq Kr fun d=> ?_;have a:=d.2.1;refine tWk 1 (.pointer (some ⟨D,0,none⟩)) d.1 a rfl fun a=>tW 3 (.pointer (some ⟨m,i+2,none⟩)) d.1 a rfl (Qdj (C:=fun _=>False) X F (fun h=>h) Kr) fun a=>tWk 7 (.pointer (some ⟨m,i+2,none⟩)) d.1 a rfl fun a=>tW 15 (.int .i64 v) d.1 a rfl (Q0 (C:=fun _=>False) V O (fun h=>h) Kr) fun a=>tWk 31 (.pointer (some ⟨D,3,none⟩)) d.1 a rfl fun a=>tW 63 (.int .i64 lo) d.1 a rfl (Q0 (C:=fun _=>False) d3 F (fun h=>h) Kr) fun a=>tW 127 (.bool false) d.1 a rfl (fun w' _=>Qe3 T1 Kr Kr w') fun a=>tWk 255 (.bool false) d.1 a rfl fun a=>tWk 511 (.pointer (some ⟨D,0,none⟩)) d.1 a rfl fun a=>tW 1023 (.pointer (some ⟨m,i+2,none⟩)) d.1 a rfl (Qdj (C:=fun _=>False) X F (fun h=>h) Kr) fun a=>tWk 2047 (.pointer (some ⟨m,i+2,none⟩)) d.1 a rfl fun a=>tW 4095 (.int .i64 v) d.1 a rfl (Q0 (C:=fun _=>False) V O (fun h=>h) Kr) fun a=>tWk 8191 (.pointer (some ⟨D,4,none⟩)) d.1 a rfl fun a=>tW 16383 (.int .i64 hi) d.1 a rfl (Q0 (C:=fun _=>False) d4 F (fun h=>h) Kr) fun a=> ?_;have a:=d.2.2.1;refine tW 32767 (.bool true) d.1 a rfl (fun w' _=>QiQ T2 Kr Kr w') fun a=>tWk 65535 (.bool true) d.1 a rfl fun a=> ?_;refine QZ d.2.2.2 ?_;clear d a;go_simp;have cr:=(g.cell (p:=⟨H,0,none⟩) lr).trans cr;have fr:G.frozen? ⟨H,0,none⟩=false:=((HI.out.r.ext g)).frz 0;have lr:=Xl lr g.size
      gi_wp2
      exact⟨(Mv.of_ext g).trans (Mv.st _ (.inl (.inr rfl)) (Mv.refl _ _)),rfl,b2.out,(HI.out.r.ext g).set 0 (.bool false)⟩
     ·have b3: ¬hi<v:=by have:=of_decide_eq_true t2;omega
      have T2:decide (hi<v)=false:=decide_eq_false b3
      have a5:=Xh (show numOk x i=true by
       obtain⟨p,h1,h2,h3⟩:=HP.out
       unfold numOk;rw [T.out,h1];show inP (Qe2 x i) p.lo p.hi=true;rw [h2,h3,b0.out];unfold inP;rw [t1,t2];rfl)
      clear t1 t2
      gi_upto_region 7 with(fail)
      refine ZW (fun _=>False) (fun _=>False) 16 (fun _=>trivial) (fun h=>by cases h) (fun f args w R h=>CallsIn.inRound y (callsIn_wide.2 h)) Kr Kr ?_;obtain⟨G,u⟩: ∃Wdr,World.drew W=Wdr:=⟨_,rfl⟩;have g:Ext W G:=by rw [←u];exact Ext.dr (Ext.rf _)
      rw [u];clear u;have X:=(g.cell (p:=⟨D,0,none⟩) F).trans X;have d3:=(g.cell (p:=⟨D,3,none⟩) F).trans d3;have d4:=(g.cell (p:=⟨D,4,none⟩) F).trans d4;have V:=(g.cell (p:=⟨m,i+2,none⟩) O).trans V;have F:=Xl F g.size;have O:=Xl O g.size;refine Zi (N:=16) (R:=Qqi) (E:=((Tryz.f133.body.bind (Qh 7)).getD #[])) Kr Qkr Kr fun d=> ?_;have a:=d.2.1;refine tWk 1 (.pointer (some ⟨D,0,none⟩)) d.1 a rfl fun a=>tW 3 (.pointer (some ⟨m,i+2,none⟩)) d.1 a rfl (Qdj (C:=fun _=>False) X F (fun h=>h) Kr) fun a=>tWk 7 (.pointer (some ⟨m,i+2,none⟩)) d.1 a rfl fun a=>tW 15 (.int .i64 v) d.1 a rfl (Q0 (C:=fun _=>False) V O (fun h=>h) Kr) fun a=>tWk 31 (.pointer (some ⟨D,3,none⟩)) d.1 a rfl fun a=>tW 63 (.int .i64 lo) d.1 a rfl (Q0 (C:=fun _=>False) d3 F (fun h=>h) Kr) fun a=>tW 127 (.bool false) d.1 a rfl (fun w' _=>Qe3 T1 Kr Kr w') fun a=>tWk 255 (.bool false) d.1 a rfl fun a=>tWk 511 (.pointer (some ⟨D,0,none⟩)) d.1 a rfl fun a=>tW 1023 (.pointer (some ⟨m,i+2,none⟩)) d.1 a rfl (Qdj (C:=fun _=>False) X F (fun h=>h) Kr) fun a=>tWk 2047 (.pointer (some ⟨m,i+2,none⟩)) d.1 a rfl fun a=>tW 4095 (.int .i64 v) d.1 a rfl (Q0 (C:=fun _=>False) V O (fun h=>h) Kr) fun a=>tWk 8191 (.pointer (some ⟨D,4,none⟩)) d.1 a rfl fun a=>tW 16383 (.int .i64 hi) d.1 a rfl (Q0 (C:=fun _=>False) d4 F (fun h=>h) Kr) fun a=> ?_;have a:=d.2.2.1;refine tW 32767 (.bool false) d.1 a rfl (fun w' _=>QiQ T2 Kr Kr w') fun a=>tWk 65535 (.bool false) d.1 a rfl fun a=> ?_;refine QZ d.2.2.2 ?_;clear d a;go_simp;have fv:G.frozen? ⟨m,i+2,none⟩=false:=((HI.out.c.ext g)).frz (i+2)
      gi_wp2
      have m9:Mv (fun q=>q=m) G (G.setCell ⟨m,i+2,none⟩ (.int .i64 0)):=Mv.st _ (.inl rfl) (Mv.refl _ _);refine⟨(Mv.of_ext g).trans (m9.mono fun q _ h=> .inl h),?_,(HI.out.r.ext g).mv m9 Om,(HI.out.b.ext g).mv m9 Om,fun j hj=> ?_⟩
      ·have h:=(HI.out.c.ext g).set (i+2) (.int .i64 0)
       rwa [QsQ x d1]at h
      ·rcases Nat.lt_or_ge j i with h|h
       ·exact HI.out.ok j h
       ·obtain rfl:j=i:=by omega
        exact a5.out
   case done=>
    rintro W d M hv hK;have b9:(Jo m k).length=(Jo 0 x.ki).length:=by rw [T.out];rcases hk with rfl|rfl|rfl<;>rfl
    rw [b9]at M
    have Q:=Xh (show crB x=Zm (zer (Jo 0 x.ki).length x) (QcG x.ki)by
     unfold crB;rw [d6.out,show((List.range (Jo 0 x.ki).length).all fun j=>numOk x j)=true from List.all_eq_true.2 fun j hj=>M.ok j (List.mem_range.1 hj)]
     rfl)
    obtain⟨Z,hZ⟩: ∃Z,zer (Jo 0 x.ki).length x=Z:=⟨_,rfl⟩;have d8:Z.ki=k:=by rw [←hZ];exact T.out
    have a6:=M.c;rw [hZ]at Q a6;have c0:W.cell? ⟨m,0,none⟩=some (.int .u8 k):=by rw [←d8];exact QG a6.r 0 Om
    have e8:=a6.r;have e9:=M.b.r;have O:=a6.l;have d9:=M.b;have a8:=Xh M.r;have e0:=Xh (fun W=>Qkm Z (QcG x.ki) ⟨rfl,rfl,rfl⟩ W);have EV:Ext w W:=Mv.ext_of E4 hv (fun q h=>by rcases h with h|h|h;exact h.elim;omega;omega);have lK:=(Array.getElem?_eq_some_iff.1 hK).1;have e3:=Xh hK;clear M b9 hZ hv d a6 d9 hK;have f0:(k==4)=false:=by rcases hk with rfl|rfl|rfl<;>rfl
    have f1:(k==5)=false:=by rcases hk with rfl|rfl|rfl<;>rfl
    go_wp2_with (go_at_call 196;(refine(e0.out _).mono ?_);rintro e W6 ⟨rfl,g6⟩;have cr:=(a8.out.ext g6).cell 0 Nat.zero_lt_one;have fr:=(a8.out.ext g6).frz 0;have lr:=(a8.out.ext g6).l)
    try simp only [Exit.jump]
    obtain⟨W7,a9⟩: ∃W7,W6.setCell ⟨H,0,none⟩ (.bool (Zm Z (QcG x.ki)))=W7:=⟨_,rfl⟩;have m7:Mv (fun q=>q=H) W6 W7:=by rw [←a9];exact Mv.st _ (.inl rfl) (Mv.refl _ _)
    have r7:RowZ W7 H #[.bool (Zm Z (QcG x.ki))]:=by rw [←a9];exact(a8.out.ext g6).set 0 _
    have e4:H<P.heap.size:=q2.l;have e5:W7.heap[P.heap.size]?=some (.deferred (some [])):=(m7.same P.heap.size (Xl lK g6.size) Om).trans ((g6.block _ lK).trans e3.out);rw [a9];clear a9;refine⟨by simp,.inl ⟨_,_,rfl,run_takeDeferred e5,?_⟩⟩;have m3:Mv (fun q=>q=P.heap.size) W7 (W7.putObj P.heap.size (.deferred none)):=Mv.put _ _ _ rfl;have hq:=(r7.mv m3 Om).cell 0 Nat.zero_lt_one;refine⟨_,Zv rfl _ _ H rfl (Qkn hq),by rw [Q.out],Mv.ext_of (Mv.ext_of (EV.tr g6) m7 (fun q e=>by omega)) m3 (fun q e=>by have:=E4.size;omega)⟩
   case stop=>
    rintro cc W ⟨rfl,L,hd⟩ hv hK;have Q:=Xh L;have HD:=Xh hd;have EV:Ext w W:=Mv.ext_of E4 hv (fun q h=>by rcases h with h|h|h;exact h.elim;omega;omega);clear L hd hv;refine wpIn_ret ?_
    try simp only [Exit.inBlock,Exit.then,Exit.jump]
    have e4:H<P.heap.size:=q2.l;have f2:=EV;refine⟨by simp,.inl ⟨_,_,rfl,run_takeDeferred hK,?_⟩⟩;have m3:Mv (fun q=>q=P.heap.size) W (W.putObj P.heap.size (.deferred none)):=Mv.put _ _ _ rfl;have hq:=(HD.out.mv m3 Om).cell 0 Nat.zero_lt_one;refine⟨_,Zv rfl _ _ H rfl (Qkn hq),by rw [Q.out],Mv.ext_of EV m3 (fun q e=>by have:=E4.size;omega)⟩
def QAA(x:Ct):Bool:=decide (x.ki≤3)&&crB x
def QaA(x:Ct):Ct:=if QAA x then⟨4,x.ki,x.ag,x.bu,x.ge,0,0,0,0,none,0,0⟩else⟨0,0,0,0,0,0,0,0,0,none,0,0⟩
theorem Qqj(x:Ct)(w:World)(h0:0≤x.ki)(hof:0≤x.of_∧x.of_<256):
  Cr 55 #[.agg (ctv x)] w (.tuple #[.agg (ctv (QaA x)),.bool (QAA x)]):=by
 have t:=Xh (fun W (hk:x.ki≤3)=>Qks x W Om hof)
 go_enter Tryz.func55,Tryz.ntmps55
 go_upto_region 1 with(fail)
 obtain⟨c,m⟩: ∃c,(w.alloc (.cells (ctv x) 33)).alloc (.cells #[.int .u8 0,.int .u8 0,.int .i64 0,.int .i64 0,.int .i64 0,.int .i64 0,.int .i64 0,.int .i64 0,.int .i64 0,.slice none 0 0] 33)=c:=⟨_,rfl⟩;have p:Ext w c:=by rw [←m];exact Ext.al Ea _
 have h:RowZ c w.heap.size (ctv x):=by rw [←m];exact⟨by simp [go_sem],by simp [go_sem],by simp [go_sem,Lt]⟩
 have n:RowZ c (w.heap.size+1) #[.int .u8 0,.int .u8 0,.int .i64 0,.int .i64 0,.int .i64 0,.int .i64 0,.int .i64 0,.int .i64 0,.int .i64 0,.slice none 0 0]:=by rw [←m];exact⟨by simp [go_sem],by simp [go_sem],by simp [go_sem,Lt]⟩
 rw [m];clear m;have B:c.cell? ⟨w.heap.size,0,none⟩=some (.int .u8 x.ki):=QG h.r 0 Om;have C:=h.r;have D:=h.l;have u:=n.r;have E:=n.z;have v:=Xh h;have s:=Xh n;clear h n
 cases b:decide (x.ki≤3)
 ·have y:3<x.ki:=by have:=of_decide_eq_false b;omega
  have a:=Xh (show QAA x=false∧QaA x=⟨0,0,0,0,0,0,0,0,0,none,0,0⟩by unfold QaA QAA;rw [b];exact⟨rfl,rfl⟩);clear b;go_wp2;have i:Qc (Qe c (w.heap.size+1) 0 #[.int .u8 0,.int .u8 0,.int .i64 0,.int .i64 0,.int .i64 0,.int .i64 0,.int .i64 0,.int .i64 0,.int .i64 0,.slice none 0 0]) (w.heap.size+1)=ctv ⟨0,0,0,0,0,0,0,0,0,none,0,0⟩:=by rw [Qq _ _ _ (by rw [u]),ZB]
  exact bodyPost_ret (QL rfl _ _ (w.heap.size+1) rfl (QdO i)) rfl ⟨by rw [a.out.1,a.out.2];rfl,Ext.sa _ Om p⟩
 have y: ¬3<x.ki:=by have:=of_decide_eq_true b;omega
 have o:=Xh (fun W=>t.out W (of_decide_eq_true b))
 cases f:crB x
 ·have a:=Xh (show QAA x=false∧QaA x=⟨0,0,0,0,0,0,0,0,0,none,0,0⟩by unfold QaA QAA;rw [f];simp);rw [f]at o;clear b f
  go_wp2_with (go_at_call 133;(refine(o.out _).mono ?_);rintro e d ⟨rfl,g⟩;have j:=s.out.ext g;have q:=j.r;have A:=j.z)
  have i:Qc (Qe d (w.heap.size+1) 0 #[.int .u8 0,.int .u8 0,.int .i64 0,.int .i64 0,.int .i64 0,.int .i64 0,.int .i64 0,.int .i64 0,.int .i64 0,.slice none 0 0]) (w.heap.size+1)=ctv ⟨0,0,0,0,0,0,0,0,0,none,0,0⟩:=by rw [Qq _ _ _ (by rw [q]),ZB]
  exact bodyPost_ret (QL rfl _ _ (w.heap.size+1) rfl (QdO i)) rfl ⟨by rw [a.out.1,a.out.2];rfl,Ext.sa _ Om (p.tr g)⟩
 have a:=Xh (show QAA x=true∧QaA x=⟨4,x.ki,x.ag,x.bu,x.ge,0,0,0,0,none,0,0⟩by unfold QaA QAA;rw [b,f];exact⟨rfl,rfl⟩);rw [f]at o;clear b f
 go_wp2_with (go_at_call 133;(refine(o.out _).mono ?_);rintro e d ⟨rfl,g⟩;have j:=s.out.ext g;have q:=j.r;have A:=j.z;have k:=v.out.ext g;have F:=k.l;have G:d.cell? ⟨w.heap.size,0,none⟩=some (.int .u8 x.ki):=QG k.r 0 Om;have H:d.cell? ⟨w.heap.size,2,none⟩=some (.int .i64 x.ag):=QG k.r 2 Om;have I:d.cell? ⟨w.heap.size,3,none⟩=some (.int .i64 x.bu):=QG k.r 3 Om;have J:d.cell? ⟨w.heap.size,4,none⟩=some (.int .i64 x.ge):=QG k.r 4 Om)
 have i:Qc (Qe d (w.heap.size+1) 0 #[.int .u8 4,.int .u8 x.ki,.int .i64 x.ag,.int .i64 x.bu,.int .i64 x.ge,.int .i64 0,.int .i64 0,.int .i64 0,.int .i64 0,.slice none 0 0]) (w.heap.size+1)=ctv ⟨4,x.ki,x.ag,x.bu,x.ge,0,0,0,0,none,0,0⟩:=by rw [Qq _ _ _ (by rw [q];rfl),ZB]
 exact bodyPost_ret (QL rfl _ _ (w.heap.size+1) rfl (QdO i)) rfl ⟨by rw [a.out.1,a.out.2];rfl,Ext.sa _ Om (p.tr g)⟩
section
attribute [local go_sem ↓ high] Qz Z1
theorem Qbb{ty:TypeId}(w:World):(execOp ρ ⟨dst,.build 33 #[],ty,pos,after,g⟩).run Tryz.prog w= .ok (.value (.agg #[.int .u8 0,.int .u8 0,.int .i64 0,.int .i64 0,.int .i64 0,.int .i64 0,.int .i64 0,.int .i64 0,.int .i64 0,.slice none 0 0])) w:=Kr
attribute [go_sem ↓ high] Qbb
theorem listV{ops:Array Oper}{rest:List Oper}{o:Oper}{v:Value}(hg:o.guard=none)(he:(execOp a.eval o).run Tryz.prog w= .ok (.value v) w')(h:wpList Tryz.prog ops Q rest (a.put o.dst v) w'):wpList Tryz.prog ops Q (o::rest) a w:=by
 refine wpList_plain hg fun K hK=> ?_;unfold Oper.wp;rw [he,Oper.upon_value];exact hK _ _ h
theorem Zj{ops:Array Oper}{rest:List Oper}{o:Oper}(hg:o.guard=none)(he:(execOp a.eval o).run Tryz.prog w= .ok .skip w')(h:wpList Tryz.prog ops Q rest (a.put o.dst undef) w'):wpList Tryz.prog ops Q (o::rest) a w:=by
 refine wpList_plain hg fun K hK=> ?_;unfold Oper.wp;rw [he,Oper.upon_skip];exact hK _ _ h
theorem SlC.mvt{A B:World}{n k:Nat}{p:Option Addr}{xs:List Co}(h:SlC A p xs)(m:Mv (fun q=>q=n∨q=k) A B)(hb: ∀b off,p=some ⟨b,off,none⟩→b≠n∧b≠k):SlC B p xs:=fun j hk=>by
 obtain⟨b,off,a,c,d,f,g,i,l,o⟩:=h j hk;have e:=Qf (m.same b c (fun e=>by have:=hb b off a;omega));simp only [Qa]at d f g i l o⊢;exact⟨b,off,a,Xl c m.size,by rw [e];exact d,by rw [e];exact f,by rw [e];exact g,by rw [e];exact i,by rw [e];exact l,by rw [e];exact o⟩
theorem SlE.mvt{A B:World}{n k:Nat}{p:Option Addr}{xs:List Ev}(h:SlE A p xs)(m:Mv (fun q=>q=n∨q=k) A B)(hb: ∀b off,p=some ⟨b,off,none⟩→b≠n∧b≠k):SlE B p xs:=fun j hk=>by
 obtain⟨b,off,a,c,d,f,g,i,l,o⟩:=h j hk;have e:=Qf (m.same b c (fun e=>by have:=hb b off a;omega));simp only [Qa]at d f g i l o⊢;exact⟨b,off,a,Xl c m.size,by rw [e];exact d,by rw [e];exact f,by rw [e];exact g,by rw [e];exact i,by rw [e];exact l,by rw [e];exact o⟩
theorem QaB{C:Nat→Prop}{a:Option Addr}{m c:Nat}(h0:w.cell? ⟨B,i,none⟩=some (.slice a m c))(hl:Lt B w)(hC: ¬C B){q:Operand}{ty:TypeId}
  (hx:ρ q= .pointer (some ⟨B,i,none⟩)): ∀w',Mv C w w'→(execOp ρ ⟨dst,.load 25 q,ty,pos,after,g⟩).run Tryz.prog w'= .ok (.value (.slice a m c)) w':=by
 intro w' b;have d:w'.cell? ⟨B,i,none⟩=some (.slice a m c):=by rw [Qa,Qf (b.same B hl hC),←Qa];exact h0
 simp only [execOp,hx];go_simp
def QyJ(xs:List Co)(v:Value)(w':World):Prop:= ∃p c,v= .slice p xs.length c∧SlC w' p xs
theorem QAl(p:Option Addr)(xs:List Co)(c:Nat)(k:Int)(w:World)(hs:SlC w p xs)(hl:xs.length≤1000)(hr: ∀x∈xs,TuR x.t):Calls Tryz.prog 61 #[.slice p xs.length c,.int .i64 k] w fun e w'=> ∃v,e= .returned v∧QyJ (xs.filter (inB k)) v w'∧Ext w w':=
 (Qr8 p xs c k w hs hl hr).mono fun e w' ⟨v,h1,h2,h3⟩=>⟨v,h1,(by obtain⟨q,d,e,-,s⟩:=SlC.own h2;exact⟨q,d,e,s⟩),h3⟩
def Q7(m:Ru.Md):Md:=⟨m.k,m.p,m.g,m.r⟩
theorem Qhk(m:Ru.Md):m.v= .agg (mdv (Q7 m)):=by rw [YH];rfl
theorem Qnp(m:Md)(gen peer:Int)(w:World)(h0:0≤m.kind):Cr 56 #[.agg (mdv m),.int .i64 gen,.int .i64 peer] w (.tuple #[.agg (mdv (Q7 (Ru.Qpn (toR m) gen peer))),.bool (Ru.QjT (toR m) gen peer)]):=by
 rw [Qaw,←Qhk];exact Ru.Qw1 (toR m) gen peer w h0
theorem Qnq(m:Md)(gen peer:Int)(w:World)(h0:0≤m.kind):Cr 57 #[.agg (mdv m),.int .i64 gen,.int .i64 peer] w (.tuple #[.agg (mdv (Q7 (Ru.Qpm (toR m) gen peer))),.bool (Ru.QjS (toR m) gen peer)]):=by
 rw [Qaw,←Qhk];exact Ru.Qw0 (toR m) gen peer w h0
theorem Qkt(m:Md)(gen:Int)(w:World)(h0:0≤m.kind):Cr 58 #[.agg (mdv m),.int .i64 gen] w (.tuple #[.agg (mdv (Q7 (Ru.QjU (toR m) gen))),.bool (Ru.Qd4 (toR m) gen)]):=by
 rw [Qaw,←Qhk];exact Ru.Qvw (toR m) gen w h0
def YP(a:Ag)(o:Nat)(m:Md):Ag:={a with md:=fun i=>if i=o then m else a.md i}
theorem RowZ.md{o:Nat}{a:Ag}(h:RowZ w B (agv a))(ho:o<16)(m:Md):RowZ (Qe w B (2+o*4) (mdv m)) B (agv (YP a o m)):=⟨QiG m h.r ho,by rw [ZV];exact h.z,by rw [QaS];exact h.l⟩
theorem Qnr{a:Ag}{o:Nat}(ho:o<16):QB (agv a) (2+o*4) 4=mdv (a.md o):=by
 unfold agv mdv;rw [Q5 _ _ _ _ Om];refine QH _ _ _ fun j hj=> ?_;unfold Ag.at;rw [if_neg Om,if_neg Om,if_pos Om,show(2+o*4+j- 2)/4=o by omega,show(2+o*4+j- 2) % 4=j by omega]
theorem Qhl{C:Nat→Prop}{o:Nat}{a:Ag}(h0:RowZ w B (agv a))(ho:o<16)(hC: ¬C B){q:Operand}{ty:TypeId}
  (hx:ρ q= .pointer (some ⟨B,2+o*4,none⟩)): ∀w',Mv C w w'→(execOp ρ ⟨dst,.load 23 q,ty,pos,after,g⟩).run Tryz.prog w'= .ok (.value (.agg (mdv (a.md o)))) w':=by
 intro w' c;have b:=h0.mv c hC;have e:=QcB ρ dst q ty pos after g w' (by rw [hx];rfl) (by rw [hx];show Fits (2+o*4) 4 (Qc w' B);rw [b.r];unfold Fits;rw [Qg];omega);rw [e,hx];show Result.ok (Next.value (Value.agg (QB (Qc w' B) (2+o*4) 4))) w'=_;rw [b.r,Qnr ho]
theorem Qe4{o:Nat}{a:Ag}{m:Md}(h0:RowZ w B (agv a))(ho:o<16){ty:TypeId}
  (hx:ρ x= .pointer (some ⟨B,2+o*4,none⟩))(hy:ρ y= .agg (mdv m)):(execOp ρ ⟨dst,.store 23 x y,ty,pos,after,g⟩).run Tryz.prog w= .ok .skip (Qe w B (2+o*4) (mdv m)):=by
 have e:=QbM ρ dst x y ty pos after g w (by rw [hx];rfl) (by rw [hy];rfl) (by rw [hy];exact J2) (by rw [hx];show Fits (2+o*4) 4 (Qc w B);rw [h0.r];unfold Fits;rw [Qg];omega) (by rw [hx];exact h0.z) (by rw [hy];exact Qsf);rw [e,hx,hy];rfl
theorem YJ{P:Program}{fn:Func}{p q r s:Tmp}{ty ty2:TypeId}{v v2:Value}(h:fn.results=#[.cell p ty,.tmp q,.cell r ty2,.tmp s])(tmps:Array Value)(w:World)(g g2:Nat)
  (hp:tmps.getD p undef= .pointer (some ⟨g,0,none⟩))(hr:tmps.getD r undef= .pointer (some ⟨g2,0,none⟩))(hl:(loadVar ty ⟨g,0,none⟩).run P w= .ok v w)(hl2:(loadVar ty2 ⟨g2,0,none⟩).run P w= .ok v2 w):(results fn tmps).run P w= .ok (.tuple #[v,tmps.getD q undef,v2,tmps.getD s undef]) w:=by
 have a:tmps[p]?.getD undef= .pointer (some ⟨g,0,none⟩):=by simpa using hp
 have b:tmps[r]?.getD undef= .pointer (some ⟨g2,0,none⟩):=by simpa using hr
 simp [results,h,a,b,asAddr,hl,hl2]
theorem Qku{b:Nat}{v:Value}(h:w.cell? ⟨b,i,none⟩=some v):w.setCell ⟨b,i,none⟩ v=w:=by
 have a:(w.heap.modify b fun x=>match x with|Obj.cells c elem frozen=>Obj.cells (if(none:Option Nat).isSome=true then c else c.setIfInBounds i v) elem frozen|o=>o)=w.heap:=by
  apply Array.ext_getElem?
  intro k;rw [Array.getElem?_modify]
  split
  ·rename_i e
   subst e;unfold World.cell? at h
   cases d:w.heap[b]? with
   |none=>rfl
   |some o=>
    simp only [d]at h
    cases o with
    |cells c t f=>
     simp only [Option.isSome_none,Bool.false_eq_true,if_false]at h;simp only [Option.map_some,Option.isSome_none,Bool.false_eq_true,if_false];have:c.setIfInBounds i v=c:=by
      apply Array.ext_getElem?
      intro j;rw [Array.getElem?_setIfInBounds]
      split
      ·rename_i e2
       subst e2
       split
       ·exact h.symm
       ·rename_i hn
        rw [Array.getElem?_eq_none Om]
      ·rfl
     rw [this]
    |_=>cases h
  ·rfl
 exact congrArg (fun hp=>({heap:=hp,tape:=w.tape,drawn:=w.drawn,os:=w.os,output:=w.output}:World)) a
theorem QiR: ∀(vs:List Value) (w:World) (b o:Nat),(∀j v,vs[j]?=some v→w.cell? ⟨b,o+j,none⟩=some v)→w.setCells b o vs=w:=by
 intro vs
 induction vs with
 |nil=>intro w b o _;rfl
 |cons v vs ih=>
  intro w b o h;have a:=Qku (h 0 v rfl);show(w.setCell ⟨b,o,none⟩ v).setCells b (o+1) vs=w;rw [show w.setCell ⟨b,o,none⟩ v=w from a];exact ih w b (o+1) fun j u hu=>by have:=h (j+1) u hu;rw [show o+1+j=o+(j+1)by omega];exact this
theorem Qac{b:Nat}{cs:Array Value}(h:RowZ w b cs):Qe w b 0 cs=w:=by
 unfold Qe;refine QiR _ _ _ _ fun j v hj=> ?_;rw [Qa,h.r,Nat.zero_add];simpa using hj
theorem QI{j k:Nat}{v:Value}(h:j≠k):(a.put (some k) v).eval (.tmp j)=a.eval (.tmp j):=by
 simp only [Act.put,Act.eval,Array.getD_eq_getD_getElem?];rw [Array.getElem?_setIfInBounds_ne Om]
theorem QaC{k:Nat}{v:Value}(h:k<a.tmps.size):(a.put (some k) v).eval (.tmp k)=v:=by
 simp only [Act.put,Act.eval,Array.getD_eq_getD_getElem?];rw [Array.getElem?_setIfInBounds_self_of_lt h];rfl
theorem Zy{k:Option Nat}{v:Value}:(a.put k v).tmps.size=a.tmps.size:=by cases k<;>simp [Act.put]
theorem QaD{P:Program}{ops:Array Oper}{C:World→Prop}{Q:Act→Prop}{o:Oper}{rest:List Oper}(v:Value)(hg:o.guard=none)(h: ∀w,C w→(execOp a.eval o).run P w= .ok (.value v) w)(k:wpQuiet P ops C Q rest (a.put o.dst v)):wpQuiet P ops C Q (o::rest) a:=by
 unfold wpQuiet;rw [if_pos (by simp [Region.wanted,hg])];exact⟨v,fun w hw=>by unfold Oper.quietAt;rw [h w hw];exact⟨rfl,rfl⟩,k⟩
theorem Qdk{P:Program}{ops:Array Oper}{C:World→Prop}{Q:Act→Prop}{o:Oper}{rest:List Oper}(hg:o.guard=none)(h: ∀w,C w→(execOp a.eval o).run P w= .ok .skip w)(k:wpQuiet P ops C Q rest (a.put o.dst undef)):wpQuiet P ops C Q (o::rest) a:=by
 unfold wpQuiet;rw [if_pos (by simp [Region.wanted,hg])];exact⟨undef,fun w hw=>by unfold Oper.quietAt;rw [h w hw];exact⟨rfl,rfl⟩,k⟩
theorem Jf{v:Value}:(a.put none v).eval x=a.eval x:=rfl
theorem QvN{v:Value}{q:Operand}{ty:TypeId}(hx:ρ q=v)(w:World):(execOp ρ ⟨dst,.move q,ty,pos,after,g⟩).run Tryz.prog w= .ok (.value v) w:=by simp [execOp,hx]
theorem Ql7{v:Value}{q:Operand}{ty:TypeId}(hx:ρ q=v)(w:World):(execOp ρ ⟨dst,.assign q,ty,pos,after,g⟩).run Tryz.prog w= .ok (.value v) w:=by simp [execOp,hx]
theorem QcH{id:Nat}{b4 b6:Nat}{A:Ag}{K:Ct}{EV:Value}(h4:a.eval (.tmp 4)= .pointer (some ⟨b4,0,none⟩))(h6:a.eval (.tmp 6)= .pointer (some ⟨b6,0,none⟩))(h5:a.eval (.tmp 5)=EV)(hz:a.tmps.size=101)(r4:RowZ w b4 (agv A))(r6:RowZ w b6 (ctv K))
  (H: ∀a' w',Ext w w'→RowZ w' b4 (agv A)→RowZ w' b6 (ctv K)→a'.eval (.tmp 4)= .pointer (some ⟨b4,0,none⟩)→a'.eval (.tmp 6)= .pointer (some ⟨b6,0,none⟩)→a'.eval (.tmp 5)=EV→a'.eval (.tmp 7)= .bool true→a'.defers=a.defers→Q .normal a' w'):(Code.region id #[⟨some 98,.load 27 (.tmp 4),27, "agent.go:160",#[],none⟩,⟨some 99,.move (.tmp 5),39, "agent.go:160",#[⟨3,.gcOnly .lateStores⟩],none⟩,⟨some 100,.load 33 (.tmp 6),33, "agent.go:160",#[⟨4,.gcOnly .lateStores⟩],none⟩,⟨none,.store 27 (.tmp 4) (.tmp 98),0, "agent.go:160",#[⟨0,.data⟩,⟨0,.phase⟩,⟨1,.textOnly .lateStores⟩,⟨2,.textOnly .lateStores⟩],none⟩,⟨some 5,.assign (.tmp 99),39, "agent.go:160",#[⟨1,.data⟩,⟨3,.chain⟩,⟨0,.phase⟩,⟨1,.phase⟩,⟨2,.textOnly .lateStores⟩,⟨3,.phase⟩],none⟩,⟨none,.store 33 (.tmp 6) (.tmp 100),0, "agent.go:160",#[⟨2,.data⟩,⟨4,.chain⟩,⟨0,.phase⟩,⟨1,.phase⟩,⟨2,.phase⟩,⟨3,.phase⟩,⟨4,.phase⟩],none⟩,⟨some 7,.assign (.const (.bool true)),4, "agent.go:160",#[⟨5,.chain⟩,⟨0,.phase⟩,⟨1,.phase⟩,⟨2,.phase⟩,⟨3,.phase⟩,⟨4,.phase⟩,⟨5,.phase⟩],none⟩] true).wp Tryz.prog Q a w:=by
 refine wp_region_quiet (C:=fun w'=>Ext w w'∧RowZ w' b4 (agv A)∧RowZ w' b6 (ctv K)) Kr Kr ⟨Ext.dr (Ext.rf w),r4.ext (Ext.dr (Ext.rf w)),r6.ext (Ext.dr (Ext.rf w))⟩ ?_;refine QaD (.agg (agv A)) rfl (fun w' hw=>Zx (C:=fun _=>False) hw.2.1 (fun h=>h) h4 _ (Mv.refl _ _)) ?_;refine QaD EV rfl (fun w' hw=>QvN (by show Act.eval _ _=_;rw [QI Dc];exact h5) _) ?_;refine QaD (.agg (ctv K)) rfl (fun w' hw=>Qqb (C:=fun _=>False) hw.2.2 (fun h=>h) (by show Act.eval _ _=_;rw [QI Dc,QI Dc];exact h6) _ (Mv.refl _ _)) ?_;refine Qdk rfl (fun w' hw=>(Ze (B:=b4) (cs:=agv A) (by rw [hw.2.1.r];exact Qg) hw.2.1.z Qg Zr (by show Act.eval _ _=_;rw [QI Dc,QI Dc,QI Dc];exact h4) (by show Act.eval _ _=_;rw [QI Dc,QI Dc];exact QaC Om)).trans (by rw [Qac hw.2.1])) ?_;refine QaD EV rfl (fun w' hw=>Ql7 (by show Act.eval _ _=_;rw [Jf,QI Dc];exact QaC (by rw [Zy];omega)) _) ?_;refine Qdk rfl (fun w' hw=>(JF (B:=b6) (cs:=ctv K) (by rw [hw.2.2.r];exact QS) hw.2.2.z QS Qbw (by show Act.eval _ _=_;rw [QI Dc,Jf,QI Dc,QI Dc,QI Dc];exact h6) (by show Act.eval _ _=_;rw [QI Dc,Jf];exact QaC (by rw [Zy,Zy];omega))).trans (by rw [Qac hw.2.2])) ?_;refine QaD (.bool true) rfl (fun w' hw=>Ql7 rfl _) ?_;refine wpQuiet_nil fun w' hw=>H _ w' hw.1 hw.2.1 hw.2.2 ?_ ?_ ?_ ?_ rfl
 ·show Act.eval _ _=_;rw [QI Dc,Jf,QI Dc,Jf,QI Dc,QI Dc,QI Dc];exact h4
 ·show Act.eval _ _=_;rw [QI Dc,Jf,QI Dc,Jf,QI Dc,QI Dc,QI Dc];exact h6
 ·show Act.eval _ _=_;rw [QI Dc,Jf];exact QaC (by rw [Zy,Zy,Zy,Zy];omega)
 ·show Act.eval _ _=_;exact QaC (by rw [Zy,Zy,Zy,Zy,Zy,Zy];omega)
def JI(a:Ag)(x:Ct):Bool:=QAA x&&(x.ag==a.id&&agR a)
def Jp(x:Ct)(m:Md):Md:=if x.ki=1 then Q7 (Ru.Qpn (toR m) x.ge x.pe)else if x.ki=2 then Q7 (Ru.Qpm (toR m) x.ge x.pe)else Q7 (Ru.QjU (toR m) x.ge)
def Jq(x:Ct)(m:Md):Bool:=if x.ki=3 then Ru.Qd4 (toR m) x.ge else false
def Zt(a:Ag)(x:Ct):Ag:=if JI a x then YP a x.bu.toNat (Jp x (a.md x.bu.toNat))else a
def Jg(a:Ag)(x:Ct):Bool:=JI a x&&Jq x (a.md x.bu.toNat)
def Yb(a:Ag)(x:Ct):List Co:=if Jg a x then a.xs.filter (fun c=>!inB x.bu c)else a.xs
def Yc(a:Ag)(x:Ct):List Ev:=if Jg a x then ZN a.id (a.xs.filter (inB x.bu))else []
def JR(a:Ag)(x:Ct):Ct:=if JI a x then QaA x else⟨0,0,0,0,0,0,0,0,0,none,0,0⟩
def QvO(w:World)(a:Ag)(x:Ct)(e:Ending)(w':World):Prop:= ∃p c q d,e= .returned (.tuple #[.agg (agv {Zt a x with p:=p,xs:=Yb a x,c:=c}),.slice q (Yc a x).length d,.agg (ctv (JR a x)),.bool (JI a x)])∧SlC w' p (Yb a x)∧SlE w' q (Yc a x)∧Ext w w'
theorem Qf6{a:Ag}{x:Ct}(h0:0≤x.ki)(h:JI a x=true):(x.ki=1∨x.ki=2∨x.ki=3)∧0≤x.bu∧x.bu<16∧agR a=true∧x.ag=a.id:=by
 unfold JI QAA at h;simp only [Bool.and_eq_true,beq_iff_eq,decide_eq_true_eq]at h;obtain⟨⟨k,c⟩,g,i⟩:=h;unfold crB at c;simp only [Bool.and_eq_true,Bool.not_eq_true']at c;obtain⟨e,j,-⟩:=c;have d:x.ki=1∨x.ki=2∨x.ki=3:=by
  unfold QAF at e;simp only [Bool.or_eq_false_iff,beq_eq_false_iff_ne,ne_eq]at e;omega
 have b:=List.all_eq_true.1 j 1 (List.mem_range.2 (by unfold Jo;rw [List.length_append];show 1<3+_;omega));have f:numOk x 1=inP x.bu 0 15:=by rcases d with h|h|h<;>(unfold numOk;rw [h];rfl)
 rw [f]at b;unfold inP at b;simp only [Bool.and_eq_true,decide_eq_true_eq]at b;exact⟨d,b.1,Om,i,g⟩
def Ql8(ops:Array Oper):Prop:=Region.noSelect ops=true∧Qo ops 10 [0,1,2,3,4,5] 0=true∧Rd ops 10 63 [6]∧Rd ops 10 127 [7]∧Rd ops 10 255 [8]∧Qo ops 10 [9] 511=true∧Rd ops 10 1023 []
theorem QiS:Ql8 ((Tryz.f16.body.bind (Qh 14)).getD #[]):=⟨Kr,Kr,Rk,Rk,Rk,Kr,Rk⟩
def Qqk(ops:Array Oper):Prop:=Region.noSelect ops=true∧Qo ops 14 [0,1,2,3,4,5,6,7] 0=true∧Rd ops 14 255 [8]∧Qo ops 14 [9,10,11,12] 511=true∧Rd ops 14 8191 [13]∧Rd ops 14 16383 []∧lateB .any ops 13 3=true
theorem Qkv:Qqk ((Tryz.f16.body.bind (Qh 8)).getD #[]):=⟨Kr,Kr,Rk,Kr,Rk,Rk,Kr⟩
def Qql(ops:Array Oper):Prop:=Region.noSelect ops=true∧Qo ops 14 [0,1,2,3,4,5,6,7] 0=true∧Rd ops 14 255 [8]∧Qo ops 14 [9,10,11,12] 511=true∧Rd ops 14 8191 [13]∧Rd ops 14 16383 []∧lateB .any ops 13 3=true
theorem Qkw:Qql ((Tryz.f16.body.bind (Qh 10)).getD #[]):=⟨Kr,Kr,Rk,Kr,Rk,Rk,Kr⟩
def Qqm(ops:Array Oper):Prop:=Region.noSelect ops=true∧Qo ops 13 [0,1,2,3,4,5] 0=true∧Rd ops 13 63 [6]∧Qo ops 13 [7,8,9,10] 127=true∧Rd ops 13 2047 [11]∧Qo ops 13 [12] 4095=true∧Rd ops 13 8191 []∧lateB .any ops 11 3=true
theorem Qkx:Qqm ((Tryz.f16.body.bind (Qh 12)).getD #[]):=⟨Kr,Kr,Rk,Kr,Rk,Kr,Rk,Kr⟩
theorem Qdl(a:Ag)(x:Ct)(w:World)(hs:SlC w a.p a.xs)(hl:a.xs.length≤1000)(hr: ∀x∈a.xs,TuR x.t)(hk: ∀k,k<16→0≤(a.md k).kind)(h0:0≤x.ki)(hof:0≤x.of_∧x.of_<256):
  Calls Tryz.prog 16 #[.agg (agv a),.agg (ctv x)] w (QvO w a x):=by
 have c2:=Xh (fun W (hE:Ext w W)=>YX a W (hs.ext hE) hl hr hk);have f7:=Xh (fun W (hE:Ext w W)=>QcD a W (hs.ext hE) hl);have f8:=Xh (fun W=>Qqj x W h0 hof);have HS:=Xh hs;have f3:=Xh hr;have f9:=Xh hk;clear hs hr hk
 go_enter Tryz.func16,Tryz.ntmps16
 go_upto_region 1 with(fail)
 obtain⟨W0,y⟩: ∃W0,(((w.alloc (.cells (agv a) 27)).alloc (.cells (ctv x) 33)).alloc (.cells (agv agz) 27)).alloc (.cells #[.int .u8 0,.int .u8 0,.int .i64 0,.int .i64 0,.int .i64 0,.int .i64 0,.int .i64 0,.int .i64 0,.int .i64 0,.slice none 0 0] 33)=W0:=⟨_,rfl⟩;have g0:Ext w W0:=by rw [←y];exact Ext.al (Ext.al (Ext.al Ea _) _) _
 have n:RowZ W0 w.heap.size (agv a):=by rw [←y];exact⟨by simp [go_sem],by simp [go_sem],by simp [go_sem,Lt]⟩
 have i:RowZ W0 (w.heap.size+1) (ctv x):=by rw [←y];exact⟨by simp [go_sem],by simp [go_sem],by simp [go_sem,Lt]⟩
 have f:RowZ W0 (w.heap.size+1+1) (agv agz):=by rw [←y];exact⟨by simp [go_sem],by simp [go_sem],by simp [go_sem,Lt]⟩
 have g:RowZ W0 (w.heap.size+1+1+1) #[.int .u8 0,.int .u8 0,.int .i64 0,.int .i64 0,.int .i64 0,.int .i64 0,.int .i64 0,.int .i64 0,.int .i64 0,.slice none 0 0]:=by rw [←y];exact⟨by simp [go_sem],by simp [go_sem],by simp [go_sem,Lt]⟩
 have g2:W0.heap.size=w.heap.size+4:=by rw [←y];simp
 rw [y];clear y;obtain⟨b2,e2⟩: ∃b,w.heap.size=b:=⟨_,rfl⟩;rw [e2]at n i f g g2⊢;obtain⟨I,e3⟩: ∃b,b2+1=b:=⟨_,rfl⟩;rw [e3]at i f g⊢;obtain⟨b4,e4⟩: ∃b,I+1=b:=⟨_,rfl⟩;rw [e4]at f g⊢;obtain⟨b6,e6⟩: ∃b,b4+1=b:=⟨_,rfl⟩;rw [e6]at g⊢;have g4:=n.r;have d2:=Xh n;have d4:=Xh i;have c3:=Xh f;have d5:=Xh g;clear n i f g
 go_upto_region 2 with(go_at_call 25;(refine(f7.out _ g0).mono ?_);rintro e w1 ⟨p',c',rfl,o1⟩;have s1:=o1.own;have g1:=o1.ext;clear o1;have g6:=(c3.out.ext g1).r;have g7:=(c3.out.ext g1).z)
 obtain⟨j,f2⟩: ∃j:Ag,j={a with p:=p',c:=c'}:=⟨_,rfl⟩;rw [←f2];have a4:=Xh f2;clear f2;obtain⟨J,y⟩: ∃J,Qe w1 b4 0 (agv j)=J:=⟨_,rfl⟩;have m2:Mv (fun q=>q=b4) w1 J:=by rw [←y];exact Mv.sa _ rfl (Mv.refl _ _)
 have E2:Ext w J:=Mv.ext_of (g0.tr g1) m2 (fun q h=>by omega);have n:RowZ J b2 (agv a):=(d2.out.ext g1).mv m2 Om;have i:RowZ J I (ctv x):=(d4.out.ext g1).mv m2 Om;have g:RowZ J b6 #[.int .u8 0,.int .u8 0,.int .i64 0,.int .i64 0,.int .i64 0,.int .i64 0,.int .i64 0,.int .i64 0,.int .i64 0,.slice none 0 0]:=(d5.out.ext g1).mv m2 Om;have f:RowZ J b4 (agv j):=by rw [←y];exact(c3.out.ext g1).all _ (by rw [Qg,Qg])
 have f4: ∀b off,p'=some ⟨b,off,none⟩→b6<b:=fun b off e=>by
  have:=Qi s1 b (by rw [e];rfl);omega
 have s2:SlC J p' a.xs:=by
  obtain⟨p,c,e,-,s⟩:=SlC.own (Qw s1 m2 (fun q hq e=>by omega))
  cases e;exact s
 rw [y];clear y s1 m2 g6 g7 g4 g1 g0;have g9:=i.r;have d6:=g.r;have d7:=g.z;have h1:=Xh n;have h2:=Xh i;have h3:=Xh f;have d8:=Xh g;have h4:=Xh s2;have c4:=Xh f4;clear n i f g s2 f4
 go_upto_region 3 with(go_at_call 55;(refine(f8.out _).mono ?_);rintro e w3 ⟨rfl,g3⟩;have h5:=(d8.out.ext g3).r;have h6:=(d8.out.ext g3).z)
 obtain⟨V,y⟩: ∃V,Qe w3 b6 0 (ctv (QaA x))=V:=⟨_,rfl⟩;have m4:Mv (fun q=>q=b6) w3 V:=by rw [←y];exact Mv.sa _ rfl (Mv.refl _ _)
 have E4:Ext w V:=Mv.ext_of (E2.tr g3) m4 (fun q h=>by omega);have n:RowZ V b2 (agv a):=(h1.out.ext g3).mv m4 Om;have i:RowZ V I (ctv x):=(h2.out.ext g3).mv m4 Om;have f:RowZ V b4 (agv j):=(h3.out.ext g3).mv m4 Om;have g:RowZ V b6 (ctv (QaA x)):=by rw [←y];exact(d8.out.ext g3).all _ (by rw [QS];rfl)
 have s4:SlC V p' a.xs:=(h4.out.ext g3).mvo m4 (fun b off e=>by have:=c4.out b off e;omega);rw [y];clear y m4 g3 h5 h6 g9 d6 d7;have cA:V.cell? ⟨b2,0,none⟩=some (.int .i64 a.id):=ZQ n.r;have cX:V.cell? ⟨I,2,none⟩=some (.int .i64 x.ag):=QG i.r 2 Om;have lA:=n.l;have lX:=i.l;have h7:=n.r;have d2:=Xh n;have d4:=Xh i;have c3:=Xh f;have d5:=Xh g;have h8:=Xh s4;have HC:=Xh (fun W hE=>c2.out W hE);clear n i f g s4
 go_cut [7,12,14,16,30]from 17 to 30 (fun s7 _ _ _ v wx=>s7= .bool (QAA x)∧v= .bool (!JI a x)∧Ext V wx)
 case first=>
  cases b9:QAA x
  ·have D:=Xh (show JI a x=false by unfold JI;rw [b9];rfl)
   go_wp2_with (fail)
   go_meet
   exact⟨by rw [b9],by rw [D.out];rfl,Ext.rf _⟩
  cases c0:(x.ag==a.id)
  ·have D:=Xh (show JI a x=false by unfold JI;rw [c0];simp);have h9:(x.ag !=a.id)=true:=by unfold bne;rw [c0];rfl
   go_wp2_with (fail)
   go_meet
   exact⟨by rw [b9],by rw [D.out];rfl,Ext.rf _⟩
  have h9:(x.ag !=a.id)=false:=by unfold bne;rw [c0];rfl
  cases hb:agR a
  ·have D:=Xh (show JI a x=false by unfold JI;rw [hb];simp);rw [hb]at c2
   go_wp2_with (go_at_call 22;(refine(c2.out _ E4).mono ?_);rintro e w5 ⟨rfl,Z⟩)
   go_meet
   exact⟨by rw [b9],by rw [D.out];rfl,Z⟩
  ·have D:=Xh (show JI a x=true by unfold JI;rw [b9,c0,hb];rfl);rw [hb]at c2
   go_wp2_with (go_at_call 22;(refine(c2.out _ E4).mono ?_);rintro e w5 ⟨rfl,Z⟩)
   go_meet
   exact⟨by rw [b9],by rw [D.out];rfl,Z⟩
 case rest=>
  obtain⟨rfl,rfl,Z⟩:=hcut;obtain⟨M,f5⟩: ∃W,wc=W:=⟨_,rfl⟩;rw [f5]at Z⊢;clear f5 cA cX lA lX h7;have n:=d2.out.ext Z;have i:=d4.out.ext Z;have f:=c3.out.ext Z;have g:=d5.out.ext Z;have u:=h8.out.ext Z;have E5:=E4.tr Z;have HP:=Xh (show b2<I∧I<b4∧b4<b6∧w.heap.size=b2 by omega)
  cases ht:JI a x
  ·have D:=Xh (show Zt a x=a∧Yb a x=a.xs∧Yc a x= []∧JR a x=⟨0,0,0,0,0,0,0,0,0,none,0,0⟩by
    unfold Zt Yb Yc JR Jg;rw [ht];exact⟨rfl,rfl,rfl,rfl⟩)
   have ho:=f.r;have hz:=f.z;have d6:=g.r;have d7:=g.z;have c5:=Xh u;have i0:=Xh f;have i1:=Xh g;have Q:=Xh ht;clear u n i f g ht
   go_upto_region 4 with(fail)
   have f:=i0.out;have g:=i1.out;have hP:=HP.out;have T:RowZ (Qe M b4 0 (agv j)) b6 (ctv (QaA x)):=g.mv (show Mv (fun q=>q=b4) M (Qe M b4 0 (agv j))from Mv.sa _ rfl (Mv.refl _ _)) Om;refine wp_region_lit ?_;refine listV rfl (Zx (C:=fun _=>False) f (fun h=>h) Kr _ (Mv.refl _ _)) ?_;refine listV rfl (Qbb _) ?_;refine Zj rfl (Ze (B:=b4) (cs:=agv j) (by rw [f.r];exact Qg) f.z Qg Zr Kr Kr) ?_;refine listV (v:= .slice none 0 0) (w':=Qe M b4 0 (agv j)) rfl Kr ?_;refine Zj rfl (JF (B:=b6) (cs:=#[.int .u8 0,.int .u8 0,.int .i64 0,.int .i64 0,.int .i64 0,.int .i64 0,.int .i64 0,.int .i64 0,.int .i64 0,.slice none 0 0]) (by rw [T.r];exact QS) T.z rfl (by simp [go_sem]) Kr Kr) ?_;refine listV (v:= .bool false) (w':=Qe (Qe M b4 0 (agv j)) b6 0 #[.int .u8 0,.int .u8 0,.int .i64 0,.int .i64 0,.int .i64 0,.int .i64 0,.int .i64 0,.int .i64 0,.int .i64 0,.slice none 0 0]) rfl Kr ?_;refine wpList_nil ?_;obtain⟨W6,y⟩: ∃W6,Qe (Qe M b4 0 (agv j)) b6 0 #[.int .u8 0,.int .u8 0,.int .i64 0,.int .i64 0,.int .i64 0,.int .i64 0,.int .i64 0,.int .i64 0,.int .i64 0,.slice none 0 0]=W6:=⟨_,rfl⟩;have m6:Mv (fun q=>q=b4∨q=b6) M W6:=by rw [←y];exact Mv.sa _ (.inr rfl) (Mv.sa _ (.inl rfl) (Mv.refl _ _))
   have q4:Qc W6 b4=agv j:=by rw [←y,ZP _ _ _ _ _ Om];exact Qq _ _ _ (by rw [f.r])
   have q6:Qc W6 b6=ctv ⟨0,0,0,0,0,0,0,0,0,none,0,0⟩:=by rw [←y,Qq _ _ _ (by rw [T.r,QS];rfl),ZB]
   rw [y];clear y ho hz d6 d7 T f g;go_simp;go_wp2;refine bodyPost_ret (YJ rfl _ _ b4 b6 rfl rfl (Yp q4) (QdO q6)) rfl ⟨p',c',none,0,?_,?_,by rw [D.out.2.2.1];exact SlE.nil _ _,Mv.ext_of E5 m6 (fun q e=>by omega)⟩
   ·rw [D.out.1,D.out.2.1,D.out.2.2.1,D.out.2.2.2,a4.out,Q.out];rfl
   ·rw [D.out.2.1];exact c5.out.mvt m6 (fun b off e=>by have:=c4.out b off e;omega)
  obtain⟨hk,f6,j4,hR,c0⟩:=Qf6 h0 ht;obtain⟨o,ho⟩: ∃o:Nat,x.bu=o:=Int.eq_ofNat_of_zero_le f6;have a0:o<16:=by omega
  have j7:(o:Int)<16:=by omega
  have d3:M.cell? ⟨I,3,none⟩=some (.int .i64 (o:Int)):=by rw [←ho];exact QG i.r 3 Om
  have d0:M.cell? ⟨I,0,none⟩=some (.int .u8 x.ki):=QG i.r 0 Om;have e0:0≤(j.md o).kind:=by rw [a4.out];exact f9.out o a0
  have lX:=i.l;have Q:=Xh ht;have HO:=Xh ho;have e1:=Xh n;have e5:=Xh i;have e7:=Xh f;have e8:=Xh g;have c5:=Xh u;have HR:=Xh hR;clear ht ho n i f g u hR c0 f6 j4;rcases hk with hk|hk|hk
  ·rw [hk]at d0;have a2:=Xh hk;clear hk
   go_upto_region 8 with(fail)
   have n:=e1.out;have i:=e5.out;have f:=e7.out;have g:=e8.out;have u:=c5.out;have E:=E5;have hP:=HP.out;have a5: ¬(fun q=>q=b4) I:=by omega
   refine Qy (fun _=>False) (fun q=>q=b4) 13 Kr ?_;obtain⟨WA,y⟩: ∃Wdr,World.drew M=Wdr:=⟨_,rfl⟩;have F:Ext M WA:=by rw [←y];exact Ext.dr (Ext.rf _)
   rw [y];clear y;have E:=E.tr F;have f:=f.ext F;have i:=i.ext F;have n:=n.ext F;have g:=g.ext F;have u:=u.ext F;refine Zi (N:=14) (R:=Qqk) (E:=((Tryz.f16.body.bind (Qh 8)).getD #[])) Kr Qkv Kr fun hS=> ?_;have d:=hS.2.1;refine tWk 1 (.pointer (some ⟨b4,2+o*4,none⟩)) hS.1 d rfl fun d=>tWk 3 (.pointer (some ⟨b4,2+o*4,none⟩)) hS.1 d rfl fun d=>tWk 7 (.pointer (some ⟨b4,2+o*4,none⟩)) hS.1 d rfl fun d=> ?_;refine ZD (N:=14) (k:=3) (m':=15) (v:= .agg (mdv (j.md o))) hS.1 d hS.2.2.2.2.2.2 rfl rfl Kr (Qhl (C:=fun _=>False) f a0 (fun h=>h) Kr) fun d=>tWk 31 (.pointer (some ⟨I,4,none⟩)) hS.1 d rfl fun d=>tW 63 (.int .i64 x.ge) hS.1 d rfl (Q0 (QG i.r 4 Om) i.l a5 Kr) fun d=>tWk 127 (.pointer (some ⟨I,5,none⟩)) hS.1 d rfl fun d=>tW 255 (.int .i64 x.pe) hS.1 d rfl (Q0 (QG i.r 5 Om) i.l a5 Kr) fun d=> ?_;refine sV 511 (fun v _=>v= .tuple #[.agg (mdv (Q7 (Ru.Qpn (toR (j.md o)) x.ge x.pe))),.bool (Ru.QjT (toR (j.md o)) x.ge x.pe)]) hS.2.2.1 rfl (ZC (Qnp (j.md o) x.ge x.pe WA e0)) ?_;rintro _ a3 H rfl;have E:=E.tr H;have f:=f.ext H;have i:=i.ext H;have n:=n.ext H;have g:=g.ext H;have u:=u.ext H;have d:=hS.2.2.2.1;refine tWk 1023 (.tuple #[.agg (mdv (Q7 (Ru.Qpn (toR (j.md o)) x.ge x.pe))),.bool (Ru.QjT (toR (j.md o)) x.ge x.pe)]) hS.1 d rfl fun d=>tWk 2047 (.agg (mdv (Q7 (Ru.Qpn (toR (j.md o)) x.ge x.pe)))) hS.1 d rfl fun d=>tWk 4095 (.bool (Ru.QjT (toR (j.md o)) x.ge x.pe)) hS.1 d rfl fun d=>tWk 8191 (.pointer (some ⟨b4,2+o*4,none⟩)) hS.1 d rfl fun d=> ?_;refine Qr hS.2.2.2.2.1 (QE (m':=16383) rfl rfl Kr (Qe4 (o:=o) (m:=(Q7 (Ru.Qpn (toR (j.md o)) x.ge x.pe))) f a0 Kr Kr) ⟨.inl Dc,(Mv.sa _ rfl (Mv.refl _ _))⟩ ?_);obtain⟨L,S⟩: ∃L,Qe a3 b4 (2+o*4) (mdv (Q7 (Ru.Qpn (toR (j.md o)) x.ge x.pe)))=L:=⟨_,rfl⟩;have G:Mv (fun q=>q=b4) a3 L:=by rw [←S];exact Mv.sa _ rfl (Mv.refl _ _)
   have f:RowZ L b4 (agv (YP j o (Q7 (Ru.Qpn (toR (j.md o)) x.ge x.pe)))):=by rw [←S];exact RowZ.md f a0 _
   have E:=Mv.ext_of E G (fun q e=>by omega);have i:=i.mv G Om;have n:=n.mv G Om;have g:=g.mv G Om;have u:=u.mvo G (fun b off e=>by have:=c4.out b off e;omega);rw [S];clear S;refine QZ hS.2.2.2.2.2.1 ?_;clear hS d G F;go_simp;have b0:=Xh u;have e9:=Xh n;have f0:=Xh i;have b1:=Xh f;have b5:=Xh g;have b8:=Xh E;clear u n i f g E
   go_upto_region 16 with(fail)
   have D:=Xh (show Zt a x=YP a o (Q7 (Ru.Qpn (toR (a.md o)) x.ge x.pe))∧Yb a x=a.xs∧Yc a x= []∧JR a x=QaA x by
    have U:Jg a x=false:=by
     unfold Jg Jq;rw [Q.out,HO.out,Int.toNat_natCast,a2.out];rfl
    unfold Zt Yb Yc JR;rw [U,Q.out,HO.out,Int.toNat_natCast];unfold Jp;rw [a2.out]
    exact⟨rfl,rfl,rfl,rfl⟩)
   have f:=b1.out;have g:=b5.out;have u:=b0.out;have E:=b8.out;obtain⟨A,hA⟩: ∃A:Ag,YP j o (Q7 (Ru.Qpn (toR (j.md o)) x.ge x.pe))=A:=⟨_,rfl⟩;obtain⟨K,hK⟩: ∃K:Ct,QaA x=K:=⟨_,rfl⟩;rw [hA]at f;rw [hK]at g;refine QcH (A:=A) (K:=K) (EV:= .slice none 0 0) (b4:=b4) (b6:=b6) Kr Kr Kr Kr f g ?_;intro O J X a6 T k4 k6 k5 k7 a7;have EF:=E.tr X;go_wp2;have Y:=YJ (P:=Tryz.prog) (fn:=Tryz.f16) (p:=4) (q:=5) (r:=6) (s:=7) rfl O.tmps J b4 b6 k4 k6 (Yp a6.r) (QdO T.r);rw [show O.tmps.getD 5 undef=_ from k5,show O.tmps.getD 7 undef=_ from k7]at Y;refine bodyPost_ret Y a7 ⟨p',c',none,0,?_,by rw [D.out.2.1];exact u.ext X,by rw [D.out.2.2.1];exact SlE.nil _ _,EF⟩;rw [D.out.1,D.out.2.1,D.out.2.2.1,D.out.2.2.2,←hA,←hK,a4.out,Q.out];rfl
  ·rw [hk]at d0;have a2:=Xh hk;clear hk
   go_upto_region 10 with(fail)
   have n:=e1.out;have i:=e5.out;have f:=e7.out;have g:=e8.out;have u:=c5.out;have E:=E5;have hP:=HP.out;have a5: ¬(fun q=>q=b4) I:=by omega
   refine Qy (fun _=>False) (fun q=>q=b4) 13 Kr ?_;obtain⟨WA,y⟩: ∃Wdr,World.drew M=Wdr:=⟨_,rfl⟩;have F:Ext M WA:=by rw [←y];exact Ext.dr (Ext.rf _)
   rw [y];clear y;have E:=E.tr F;have f:=f.ext F;have i:=i.ext F;have n:=n.ext F;have g:=g.ext F;have u:=u.ext F;refine Zi (N:=14) (R:=Qql) (E:=((Tryz.f16.body.bind (Qh 10)).getD #[])) Kr Qkw Kr fun hS=> ?_;have d:=hS.2.1;refine tWk 1 (.pointer (some ⟨b4,2+o*4,none⟩)) hS.1 d rfl fun d=>tWk 3 (.pointer (some ⟨b4,2+o*4,none⟩)) hS.1 d rfl fun d=>tWk 7 (.pointer (some ⟨b4,2+o*4,none⟩)) hS.1 d rfl fun d=> ?_;refine ZD (N:=14) (k:=3) (m':=15) (v:= .agg (mdv (j.md o))) hS.1 d hS.2.2.2.2.2.2 rfl rfl Kr (Qhl (C:=fun _=>False) f a0 (fun h=>h) Kr) fun d=>tWk 31 (.pointer (some ⟨I,4,none⟩)) hS.1 d rfl fun d=>tW 63 (.int .i64 x.ge) hS.1 d rfl (Q0 (QG i.r 4 Om) i.l a5 Kr) fun d=>tWk 127 (.pointer (some ⟨I,5,none⟩)) hS.1 d rfl fun d=>tW 255 (.int .i64 x.pe) hS.1 d rfl (Q0 (QG i.r 5 Om) i.l a5 Kr) fun d=> ?_;refine sV 511 (fun v _=>v= .tuple #[.agg (mdv (Q7 (Ru.Qpm (toR (j.md o)) x.ge x.pe))),.bool (Ru.QjS (toR (j.md o)) x.ge x.pe)]) hS.2.2.1 rfl (ZC (Qnq (j.md o) x.ge x.pe WA e0)) ?_;rintro _ a3 H rfl;have E:=E.tr H;have f:=f.ext H;have i:=i.ext H;have n:=n.ext H;have g:=g.ext H;have u:=u.ext H;have d:=hS.2.2.2.1;refine tWk 1023 (.tuple #[.agg (mdv (Q7 (Ru.Qpm (toR (j.md o)) x.ge x.pe))),.bool (Ru.QjS (toR (j.md o)) x.ge x.pe)]) hS.1 d rfl fun d=>tWk 2047 (.agg (mdv (Q7 (Ru.Qpm (toR (j.md o)) x.ge x.pe)))) hS.1 d rfl fun d=>tWk 4095 (.bool (Ru.QjS (toR (j.md o)) x.ge x.pe)) hS.1 d rfl fun d=>tWk 8191 (.pointer (some ⟨b4,2+o*4,none⟩)) hS.1 d rfl fun d=> ?_;refine Qr hS.2.2.2.2.1 (QE (m':=16383) rfl rfl Kr (Qe4 (o:=o) (m:=(Q7 (Ru.Qpm (toR (j.md o)) x.ge x.pe))) f a0 Kr Kr) ⟨.inl Dc,(Mv.sa _ rfl (Mv.refl _ _))⟩ ?_);obtain⟨L,S⟩: ∃L,Qe a3 b4 (2+o*4) (mdv (Q7 (Ru.Qpm (toR (j.md o)) x.ge x.pe)))=L:=⟨_,rfl⟩;have G:Mv (fun q=>q=b4) a3 L:=by rw [←S];exact Mv.sa _ rfl (Mv.refl _ _)
   have f:RowZ L b4 (agv (YP j o (Q7 (Ru.Qpm (toR (j.md o)) x.ge x.pe)))):=by rw [←S];exact RowZ.md f a0 _
   have E:=Mv.ext_of E G (fun q e=>by omega);have i:=i.mv G Om;have n:=n.mv G Om;have g:=g.mv G Om;have u:=u.mvo G (fun b off e=>by have:=c4.out b off e;omega);rw [S];clear S;refine QZ hS.2.2.2.2.2.1 ?_;clear hS d G F;go_simp;have b0:=Xh u;have e9:=Xh n;have f0:=Xh i;have b1:=Xh f;have b5:=Xh g;have b8:=Xh E;clear u n i f g E
   go_upto_region 16 with(fail)
   have D:=Xh (show Zt a x=YP a o (Q7 (Ru.Qpm (toR (a.md o)) x.ge x.pe))∧Yb a x=a.xs∧Yc a x= []∧JR a x=QaA x by
    have U:Jg a x=false:=by
     unfold Jg Jq;rw [Q.out,HO.out,Int.toNat_natCast,a2.out];rfl
    unfold Zt Yb Yc JR;rw [U,Q.out,HO.out,Int.toNat_natCast];unfold Jp;rw [a2.out]
    exact⟨rfl,rfl,rfl,rfl⟩)
   have f:=b1.out;have g:=b5.out;have u:=b0.out;have E:=b8.out;obtain⟨A,hA⟩: ∃A:Ag,YP j o (Q7 (Ru.Qpm (toR (j.md o)) x.ge x.pe))=A:=⟨_,rfl⟩;obtain⟨K,hK⟩: ∃K:Ct,QaA x=K:=⟨_,rfl⟩;rw [hA]at f;rw [hK]at g;refine QcH (A:=A) (K:=K) (EV:= .slice none 0 0) (b4:=b4) (b6:=b6) Kr Kr Kr Kr f g ?_;intro O J X a6 T k4 k6 k5 k7 a7;have EF:=E.tr X;go_wp2;have Y:=YJ (P:=Tryz.prog) (fn:=Tryz.f16) (p:=4) (q:=5) (r:=6) (s:=7) rfl O.tmps J b4 b6 k4 k6 (Yp a6.r) (QdO T.r);rw [show O.tmps.getD 5 undef=_ from k5,show O.tmps.getD 7 undef=_ from k7]at Y;refine bodyPost_ret Y a7 ⟨p',c',none,0,?_,by rw [D.out.2.1];exact u.ext X,by rw [D.out.2.2.1];exact SlE.nil _ _,EF⟩;rw [D.out.1,D.out.2.1,D.out.2.2.1,D.out.2.2.2,←hA,←hK,a4.out,Q.out];rfl
  ·rw [hk]at d0;have a2:=Xh hk;clear hk
   go_upto_region 12 with(fail)
   have n:=e1.out;have i:=e5.out;have f:=e7.out;have g:=e8.out;have u:=c5.out;have E:=E5;have hP:=HP.out;have a5: ¬(fun q=>q=b4) I:=by omega
   refine Qy (fun _=>False) (fun q=>q=b4) 11 Kr ?_;obtain⟨WA,y⟩: ∃Wdr,World.drew M=Wdr:=⟨_,rfl⟩;have F:Ext M WA:=by rw [←y];exact Ext.dr (Ext.rf _)
   rw [y];clear y;have E:=E.tr F;have f:=f.ext F;have i:=i.ext F;have n:=n.ext F;have g:=g.ext F;have u:=u.ext F;refine Zi (N:=13) (R:=Qqm) (E:=((Tryz.f16.body.bind (Qh 12)).getD #[])) Kr Qkx Kr fun hS=> ?_;have d:=hS.2.1;refine tWk 1 (.pointer (some ⟨b4,2+o*4,none⟩)) hS.1 d rfl fun d=>tWk 3 (.pointer (some ⟨b4,2+o*4,none⟩)) hS.1 d rfl fun d=>tWk 7 (.pointer (some ⟨b4,2+o*4,none⟩)) hS.1 d rfl fun d=> ?_;refine ZD (N:=13) (k:=3) (m':=15) (v:= .agg (mdv (j.md o))) hS.1 d hS.2.2.2.2.2.2.2 rfl rfl Kr (Qhl (C:=fun _=>False) f a0 (fun h=>h) Kr) fun d=>tWk 31 (.pointer (some ⟨I,4,none⟩)) hS.1 d rfl fun d=>tW 63 (.int .i64 x.ge) hS.1 d rfl (Q0 (QG i.r 4 Om) i.l a5 Kr) fun d=> ?_;refine sV 127 (fun v _=>v= .tuple #[.agg (mdv (Q7 (Ru.QjU (toR (j.md o)) x.ge))),.bool (Ru.Qd4 (toR (j.md o)) x.ge)]) hS.2.2.1 rfl (ZC (Qkt (j.md o) x.ge WA e0)) ?_;rintro _ a3 H rfl;have E:=E.tr H;have f:=f.ext H;have i:=i.ext H;have n:=n.ext H;have g:=g.ext H;have u:=u.ext H;have d:=hS.2.2.2.1;refine tWk 255 (.tuple #[.agg (mdv (Q7 (Ru.QjU (toR (j.md o)) x.ge))),.bool (Ru.Qd4 (toR (j.md o)) x.ge)]) hS.1 d rfl fun d=>tWk 511 (.agg (mdv (Q7 (Ru.QjU (toR (j.md o)) x.ge)))) hS.1 d rfl fun d=>tWk 1023 (.bool (Ru.Qd4 (toR (j.md o)) x.ge)) hS.1 d rfl fun d=>tWk 2047 (.pointer (some ⟨b4,2+o*4,none⟩)) hS.1 d rfl fun d=> ?_;refine Qr hS.2.2.2.2.1 (QE (m':=4095) rfl rfl Kr (Qe4 (o:=o) (m:=(Q7 (Ru.QjU (toR (j.md o)) x.ge))) f a0 Kr Kr) ⟨.inl Dc,(Mv.sa _ rfl (Mv.refl _ _))⟩ ?_);obtain⟨L,S⟩: ∃L,Qe a3 b4 (2+o*4) (mdv (Q7 (Ru.QjU (toR (j.md o)) x.ge)))=L:=⟨_,rfl⟩;have G:Mv (fun q=>q=b4) a3 L:=by rw [←S];exact Mv.sa _ rfl (Mv.refl _ _)
   have f:RowZ L b4 (agv (YP j o (Q7 (Ru.QjU (toR (j.md o)) x.ge)))):=by rw [←S];exact RowZ.md f a0 _
   have E:=Mv.ext_of E G (fun q e=>by omega);have i:=i.mv G Om;have n:=n.mv G Om;have g:=g.mv G Om;have u:=u.mvo G (fun b off e=>by have:=c4.out b off e;omega);rw [S];clear S;have d:=hS.2.2.2.2.2.1;refine tWk 8191 (.bool (Ru.Qd4 (toR (j.md o)) x.ge)) hS.1 d rfl fun d=> ?_;refine QZ hS.2.2.2.2.2.2.1 ?_;clear hS d G F;go_simp;have b0:=Xh u;have e9:=Xh n;have f0:=Xh i;have b1:=Xh f;have b5:=Xh g;have b8:=Xh E;clear u n i f g E;have c8:j.md o=a.md o:=by rw [a4.out]
   cases U:Ru.Qd4 (toR (j.md o)) x.ge
   ·have f1:=Xh (show Ru.Qd4 (toR (a.md o)) x.ge=false by rw [←c8];exact U);clear U c8
    go_upto_region 16 with(fail)
    have D:=Xh (show Zt a x=YP a o (Q7 (Ru.QjU (toR (a.md o)) x.ge))∧Yb a x=a.xs∧Yc a x= []∧JR a x=QaA x by
     have U:Jg a x=false:=by
      unfold Jg Jq;rw [Q.out,HO.out,Int.toNat_natCast,a2.out];show(true&&(Ru.Qd4 (toR (a.md o)) x.ge))=_;rw [f1.out];rfl
     unfold Zt Yb Yc JR;rw [U,Q.out,HO.out,Int.toNat_natCast];unfold Jp;rw [a2.out]
     exact⟨rfl,rfl,rfl,rfl⟩)
    have f:=b1.out;have g:=b5.out;have u:=b0.out;have E:=b8.out;obtain⟨A,hA⟩: ∃A:Ag,YP j o (Q7 (Ru.QjU (toR (j.md o)) x.ge))=A:=⟨_,rfl⟩;obtain⟨K,hK⟩: ∃K:Ct,QaA x=K:=⟨_,rfl⟩;rw [hA]at f;rw [hK]at g;refine QcH (A:=A) (K:=K) (EV:= .slice none 0 0) (b4:=b4) (b6:=b6) Kr Kr Kr Kr f g ?_;intro O J X a6 T k4 k6 k5 k7 a7;have EF:=E.tr X;go_wp2;have Y:=YJ (P:=Tryz.prog) (fn:=Tryz.f16) (p:=4) (q:=5) (r:=6) (s:=7) rfl O.tmps J b4 b6 k4 k6 (Yp a6.r) (QdO T.r);rw [show O.tmps.getD 5 undef=_ from k5,show O.tmps.getD 7 undef=_ from k7]at Y;refine bodyPost_ret Y a7 ⟨p',c',none,0,?_,by rw [D.out.2.1];exact u.ext X,by rw [D.out.2.2.1];exact SlE.nil _ _,EF⟩;rw [D.out.1,D.out.2.1,D.out.2.2.1,D.out.2.2.2,←hA,←hK,a4.out,Q.out];rfl
   ·have f1:=Xh (show Ru.Qd4 (toR (a.md o)) x.ge=true by rw [←c8];exact U);clear U c8
    go_upto_region 14 with(fail)
    have D:=Xh (show Zt a x=YP a o (Q7 (Ru.QjU (toR (a.md o)) x.ge))∧Yb a x=a.xs.filter (fun c=>!inB o c)∧Yc a x=ZN a.id (a.xs.filter (inB o))∧JR a x=QaA x by
     have U:Jg a x=true:=by
      unfold Jg Jq;rw [Q.out,HO.out,Int.toNat_natCast,a2.out];show(true&&(Ru.Qd4 (toR (a.md o)) x.ge))=_;rw [f1.out];rfl
     unfold Zt Yb Yc JR;rw [U,Q.out,HO.out,Int.toNat_natCast];unfold Jp;rw [a2.out]
     exact⟨rfl,rfl,rfl,rfl⟩)
    have f:=b1.out;have g:=b5.out;have u:=b0.out;have E:=b8.out;have n:=e9.out;have i:=f0.out;refine Qy (fun _=>False) (fun _=>False) 10 Kr ?_;obtain⟨WC,y⟩: ∃Wdr,World.drew L=Wdr:=⟨_,rfl⟩;have F:Ext L WC:=by rw [←y];exact Ext.dr (Ext.rf _)
    rw [y];clear y;have E:=E.tr F;have f:=f.ext F;have i:=i.ext F;have n:=n.ext F;have g:=g.ext F;have u:=u.ext F;refine Zi (N:=10) (R:=Ql8) (E:=((Tryz.f16.body.bind (Qh 14)).getD #[])) Kr QiS Kr fun hS=> ?_;have d:=hS.2.1;refine tWk 1 (.pointer (some ⟨b2,0,none⟩)) hS.1 d rfl fun d=>tW 3 (.int .i64 a.id) hS.1 d rfl (Q0 (C:=fun _=>False) (ZQ n.r) n.l (fun h=>h) Kr) fun d=>tWk 7 (.pointer (some ⟨b2,66,none⟩)) hS.1 d rfl fun d=>tW 15 (.slice a.p a.xs.length a.c) hS.1 d rfl (QaB (C:=fun _=>False) (by rw [Qa,n.r,Qu]) n.l (fun h=>h) Kr) fun d=>tWk 31 (.pointer (some ⟨I,3,none⟩)) hS.1 d rfl fun d=>tW 63 (.int .i64 (o:Int)) hS.1 d rfl (Q0 (C:=fun _=>False) (by rw [←HO.out];exact QG i.r 3 Om) i.l (fun h=>h) Kr) fun d=> ?_;refine sV 127 (QyJ (a.xs.filter (inB o))) hS.2.2.1 rfl (QAl a.p a.xs a.c o WC (HS.out.ext E) hl f3.out) ?_;rintro _ j5 c1 ⟨p9,c9,rfl,s9⟩;have E:=E.tr c1;have f:=f.ext c1;have i:=i.ext c1;have n:=n.ext c1;have g:=g.ext c1;have u:=u.ext c1;refine sV 255 (QvF a.id p9 (a.xs.filter (inB o)).length c9) hS.2.2.2.1 rfl (Qp0 a.id p9 _ c9 j5) ?_;rintro _ j6 a8 ⟨BO,rfl,o1,o2,o3⟩;have E:=E.tr a8;have f:=f.ext a8;have i:=i.ext a8;have n:=n.ext a8;have g:=g.ext a8;have u:=u.ext a8;have s9:=s9.ext a8;refine sV 511 (QsI (b6+1) (ZN a.id (a.xs.filter (inB o)))) hS.2.2.2.2.1 rfl (Ql0 a.id p9 (a.xs.filter (inB o)) c9 BO _ j6 s9 (Xt (List.length_filter_le _ _) hl) o1 o2 o3 (by have:=g.l;unfold Lt at this;omega)) ?_;rintro _ d1 a9 ⟨q9,d9,rfl,se,ne⟩;have E:=E.tr a9;have f:=f.ext a9;have i:=i.ext a9;have n:=n.ext a9;have g:=g.ext a9;have u:=u.ext a9;have s9:=s9.ext a9;have d:=hS.2.2.2.2.2.1;refine tWk 1023 (.slice q9 (ZN a.id (a.xs.filter (inB o))).length d9) hS.1 d rfl fun d=> ?_;refine QZ hS.2.2.2.2.2.2 ?_;clear hS d F;go_simp;have i2:=Xh se;have i3:=Xh ne;have i4:=Xh f;have i5:=Xh g;have i6:=Xh E;have i7:d1.cell? ⟨b2,66,none⟩=some (.slice a.p a.xs.length a.c):=by rw [Qa,n.r,Qu]
    have d3:d1.cell? ⟨I,3,none⟩=some (.int .i64 (o:Int)):=by rw [←HO.out];exact QG i.r 3 Om
    have lA:=n.l;have lX:=i.l;have zz:=g.l;have i8:=Xh (Qr9 a.p a.xs a.c o d1 (HS.out.ext E) hl f3.out);clear se ne f g i n u s9 o1 o2 o3
    go_upto_region 16 with(go_at_call 62;(refine(i8.out).mono ?_);rintro e W8 ⟨v8,rfl,o8,g8⟩;obtain⟨p7,c7,rfl,-,s7⟩:=SlC.own o8;have b7:=Qi o8;have i9:=Xh s7;have j0:=Xh b7;have c6:=i4.out.ext g8;have j1:W8.cell? ⟨b4,66,none⟩=some (.slice (YP j o (Q7 (Ru.QjU (toR (j.md o)) x.ge))).p (YP j o (Q7 (Ru.QjU (toR (j.md o)) x.ge))).xs.length (YP j o (Q7 (Ru.QjU (toR (j.md o)) x.ge))).c):=(by rw [Qa,c6.r,Qu]);have j2:=c6.frz 66;have lO:=c6.l;have j3:=Xh c6;clear s7 b7 o8 c6)
    obtain⟨W9,y⟩: ∃W9,W8.setCell ⟨b4,66,none⟩ (.slice p7 (a.xs.filter (fun c=>!inB o c)).length c7)=W9:=⟨_,rfl⟩;have m9:Mv (fun q=>q=b4) W8 W9:=by rw [←y];exact Mv.st _ (.inl rfl) (Mv.refl _ _)
    have hP:=HP.out;have f:RowZ W9 b4 (agv {YP j o (Q7 (Ru.QjU (toR (j.md o)) x.ge))with p:=p7,xs:=(a.xs.filter (fun c=>!inB o c)),c:=c7}):=by
     have h:=j3.out;rw [←y];exact⟨(Qab (a:=YP j o (Q7 (Ru.QjU (toR (j.md o)) x.ge))) p7 (a.xs.filter (fun c=>!inB o c)) c7 h.r),(by rw [QR];exact h.z),(by rw [Zk];exact h.l)⟩
    have g:=(i5.out.ext g8).mv m9 Om;have E:=Mv.ext_of (i6.out.tr g8) m9 (fun q e=>by omega);have j8:b6<d1.heap.size:=zz;have s7:=i9.out.mvo m9 (fun b off e=>by have:=j0.out b (by rw [e];rfl);omega);have se:=(i2.out.ext g8).mvo m9 (fun b off e=>by have:=i3.out b off e;omega);rw [y];clear y m9 j1 j2 lO i7 d3 lA lX zz;obtain⟨A,hA⟩: ∃A:Ag,{YP j o (Q7 (Ru.QjU (toR (j.md o)) x.ge))with p:=p7,xs:=(a.xs.filter (fun c=>!inB o c)),c:=c7}=A:=⟨_,rfl⟩;obtain⟨K,hK⟩: ∃K:Ct,QaA x=K:=⟨_,rfl⟩;rw [hA]at f;rw [hK]at g;refine QcH (A:=A) (K:=K) (EV:= .slice q9 (ZN a.id (a.xs.filter (inB o))).length d9) (b4:=b4) (b6:=b6) Kr Kr Kr Kr f g ?_;intro O J X a6 T k4 k6 k5 k7 a7;have EF:=E.tr X;go_wp2;have Y:=YJ (P:=Tryz.prog) (fn:=Tryz.f16) (p:=4) (q:=5) (r:=6) (s:=7) rfl O.tmps J b4 b6 k4 k6 (Yp a6.r) (QdO T.r);rw [show O.tmps.getD 5 undef=_ from k5,show O.tmps.getD 7 undef=_ from k7]at Y;refine bodyPost_ret Y a7 ⟨p7,c7,q9,d9,?_,by rw [D.out.2.1];exact s7.ext X,by rw [D.out.2.2.1];exact se.ext X,EF⟩;rw [D.out.1,D.out.2.1,D.out.2.2.1,D.out.2.2.2,←hA,←hK,a4.out,Q.out];rfl
end
theorem JS{ops:Array Oper}{rest:List Oper}{o:Oper}{R:Value→World→Prop}{f:FuncId}{args:Array Value}(hg:o.guard=none)(he:(execOp a.eval o).run Tryz.prog w= .ok (.enter f args) w)(hc:Calls Tryz.prog f args w fun e w'=> ∃v,e= .returned v∧R v w')
  (h: ∀v w',R v w'→wpList Tryz.prog ops Q rest (a.put o.dst v) w'):wpList Tryz.prog ops Q (o::rest) a w:=by
 refine wpList_plain hg fun K hK=> ?_;unfold Oper.wp;rw [he,Oper.upon_enter];refine hc.mono fun e w' ⟨v,h1,h2⟩=> ?_;subst h1;exact hK _ _ (h v w' h2)
def QaE(w:World)(y:Value)(bs:List Int):Prop:=(y= .slice none 0 0∧bs= [])∨ ∃ad c,y= .slice (some ad) bs.length c∧ ∀j u,(bs.map (Value.int .u8))[j]?=some u→w.cell? (ad.add j)=some u
theorem QaE.of_slb{p:Option Addr}{c:Nat}(h:SlB w p bs)(hc:p=none→c=0):QaE w (.slice p bs.length c) bs:=by
 cases p with
 |none=>
  obtain rfl:=h.nil_of;rw [hc rfl];exact .inl ⟨rfl,rfl⟩
 |some ad=>exact .inr ⟨ad,c,rfl,h.news (Ext.rf w)⟩
theorem QsS(g j:Nat):(⟨g,0,none⟩:Addr).add j=⟨g,j,none⟩:=by unfold Addr.add;split<;>simp_all
theorem QaE.of_ob{base:Nat}{v:Value}(h:OB w base v bs):QaE w v bs:=by
 rcases Nat.eq_zero_or_pos bs.length with h0|h0
 ·obtain rfl:=List.length_eq_zero_iff.1 h0;rcases h.2 with⟨rfl,-⟩|⟨g,cap,cur,rfl,-⟩
  ·exact .inl ⟨rfl,rfl⟩
  ·exact .inr ⟨_,cap,rfl,fun j u hu=>by simp at hu⟩
 ·obtain⟨g,c,rfl,-,-,-,-,a⟩:=h.at h0;refine .inr ⟨_,c,rfl,fun j u hu=> ?_⟩;rw [List.getElem?_map]at hu;obtain⟨x,b,rfl⟩:=Option.map_eq_some_iff.1 hu;obtain⟨d,rfl⟩:=List.getElem?_eq_some_iff.1 b;rw [QsS];exact a j d
theorem OB.lit(w:World)(base:Nat)(bs:List Int)(n:Nat)(hn:n=bs.length)(hb:base≤w.heap.size)(hl:bs.length≤1000):OB (w.alloc (.cells (bs.map (Value.int .u8)).toArray 5)) base (.slice (some ⟨w.heap.size,0,none⟩) n n) bs:=by
 subst hn;exact World.ownsRow_lit (e:=5) (size:=1) w (bs.map (Value.int .u8)).toArray bs.length hb (by unfold maxLen;omega) (by simp)
theorem Ql9{base:Nat}{v1 y:Value}{b1 b2:List Int}(h1:OB w base v1 b1)(h2:QaE w y b2)(hl:b1.length+b2.length≤200000)(hb:base≤w.heap.size)
  (ρ:Operand→Value)(dst:Option Tmp)(p q:Operand)(ty:TypeId)(pos:String)(after:Array Edge)(g:Option (Nat×Bool))(hx:ρ p=v1)(hy:ρ q=y):
  ∃v' w',(execOp ρ ⟨dst,.call {callee:= .builtin .append,args:=#[p,q],argTypes:=#[28,28]},ty,pos,after,g⟩).run Tryz.prog w= .ok (.value v') w'∧OB w' base v' (b1++b2)∧Mv (fun k=>base≤k) w w':=by
 obtain⟨b,d,e,f,h⟩:=info_parts YB;rcases h2 with⟨rfl,rfl⟩|⟨ad,c,rfl,h5⟩
 ·refine⟨v1,w,?_,by rw [List.append_nil];exact h1,Mv.refl _ _⟩;have a:=run_append_owned_none (P:=Tryz.prog) w base 28 ty 5 b 1 Tryz.underlying28 d v1 b1.length _ h1;simp [execOp,resolve,invoke,builtin,hx,hy,a,Result.andThen]
 ·obtain⟨v',w',a,i,j,-,-⟩:=run_append_own_at (P:=Tryz.prog) w base 28 ty 5 b (.int .u8 0) 1 1 Tryz.underlying28 d e f h rfl Dc v1 b1.length _ h1 ad b2.length c (b2.map (Value.int .u8)) (by simp) h5 (oneB b2) (by unfold maxLen;omega) Om hb;refine⟨v',w',?_,?_,Qcp h1 j⟩
  ·simp [execOp,resolve,invoke,builtin,hx,hy,a,Result.andThen]
  ·unfold OB;rw [List.length_append,List.map_append];exact i
theorem listA{ops:Array Oper}{rest:List Oper}{p q:Operand}{ty:TypeId}{base:Nat}{v1 y:Value}{b1 b2:List Int}(h1:OB w base v1 b1)(h2:QaE w y b2)(hl:b1.length+b2.length≤200000)(hb:base≤w.heap.size)(hx:a.eval p=v1)(hy:a.eval q=y)
  (h: ∀v' w',OB w' base v' (b1++b2)→Mv (fun k=>base≤k) w w'→wpList Tryz.prog ops Q rest (a.put dst v') w'):wpList Tryz.prog ops Q (⟨dst,.call {callee:= .builtin .append,args:=#[p,q],argTypes:=#[28,28]},ty,pos,after,none⟩::rest) a w:=by
 obtain⟨v',w',b,c,d⟩:=Ql9 h1 h2 hl hb a.eval dst p q ty pos after none hx hy;exact listV rfl b (h v' w' c d)
theorem Qma{ops:Array Oper}{D:Nat→Prop}{r:Nat}{Q:Act→World→Prop}{N k m m':Nat}{ty:TypeId}{fuel:Nat}{base:Nat}{v1 v2:Value}{b1 b2:List Int}
  (hm:m|||(1<<<k)=m')(hi:ops[k]?=some ⟨dst,.call {callee:= .builtin .append,args:=#[x,y],argTypes:=#[28,28]},ty,pos,after,none⟩)(hx:a.eval x=v1)(hy:a.eval y=v2)(h1:OB w base v1 b1)(h2:QaE w v2 b2)(hl:b1.length+b2.length≤200000)(hb:base≤w.heap.size)(hD: ∀k,base≤k→D k)
  (H: ∀v' w',OB w' base v' (b1++b2)→Mv (fun k=>base≤k) w w'→QP (fun k=>base≤k) D r Tryz.prog .any ops Q fuel (msk N m') (a.put dst v') w'):QaX (fun k=>base≤k) D r Tryz.prog ops Q fuel N k m a w:=by
 obtain⟨v',w',c,d,b⟩:=Ql9 h1 h2 hl hb a.eval dst x y ty pos after none hx hy;exact Zq (v:=v') hm hi rfl c ⟨.inr b,b.mono fun k _ e=>hD k e⟩ (H v' w' d b)
def Ju(n:Int):List Int:= [n/256 % 256,n % 256]
def Qbc(n:Int):List Int:=Ju (n/65536)++Ju (n % 65536)
theorem Qe6(n:Int):ByR (Ju n):=ByR.cons Om (ByR.cons Om ByR.nil)
theorem Qmb(n:Int):ByR (Qbc n):=(Qe6 _).app (Qe6 _)
@[simp] theorem JG(n:Int):(Ju n).length=2:=rfl
@[simp] theorem Qf7(n:Int):(Qbc n).length=4:=rfl
theorem QyK{n:Int}(h0:0≤n)(h1:n<4294967296):bits .and .u32 n 65535=n % 65536:=by
 obtain⟨a,rfl⟩:=Int.eq_ofNat_of_zero_le h0;rw [show(65535:Int)=((65535:Nat):Int)from rfl,Qcr _ _ _ (by show a<2^32;omega) (by show 65535<2^32;omega),YC,show(65535:Nat)=2^16- 1 from rfl,Nat.and_two_pow_sub_one_eq_mod];omega
theorem Qbx(n:Int)(h0:0≤n∧n<4294967296)(w:World):Calls Tryz.prog 202 #[.int .i64 n] w fun e w'=> ∃v,e= .returned v∧Z8 w w' v (Ju n):=by
 have a:bits .and .i64 (n/256) 255=n/256 % 256:=QcV _ Om Om;have b:bits .and .i64 n 255=n % 256:=QcV _ Om Om;have c:IntKind.u8.wrap (n/256 % 256)=n/256 % 256:=by rw [Ye];omega
 have d:IntKind.u8.wrap (n % 256)=n % 256:=by rw [Ye];omega
 clear h0
 go_enter Tryz.func202,Tryz.ntmps202
 go_wp2;go_ret;exact⟨_,rfl,OB.lit w w.heap.size (Ju n) 2 rfl (Nat.le_refl _) (by rw [JG];omega),Ext.al (Ext.rf _) _⟩
theorem Qqq(n:Int)(h0:0≤n∧n<4294967296)(w:World):Calls Tryz.prog 204 #[.int .u32 n] w fun e w'=> ∃v,e= .returned v∧Z8 w w' v (Qbc n):=by
 obtain⟨p,q,r,s,t⟩:=info_parts YB;have l:bits .and .u32 n 65535=n % 65536:=QyK h0.1 h0.2;have m:wrap64 (n/65536)=n/65536:=by simp only [wrap64];omega
 have o:wrap64 (n % 65536)=n % 65536:=by simp only [wrap64];omega
 have d:=Xh (Qbx (n/65536) Om);have f:=Xh (Qbx (n % 65536) Om);clear h0
 go_enter Tryz.func204,Tryz.ntmps204
 go_wp2_with (first|(go_at_call 202;first|((with_reducible refine(d.out _).mono ?_);rintro e u ⟨x,rfl,c⟩)|((with_reducible refine(f.out _).mono ?_);rintro e y ⟨z,rfl,a⟩;have g:=Xh (c.own.ext a.ext);have b:=Xh (c.ext.tr a.ext)))|(at_builtin;refine listA (base:=w.heap.size) g.out (QaE.of_ob a.own) (by rw [JG,JG];omega) b.out.size rfl rfl ?_;intro A B i j))
 go_ret;exact⟨_,rfl,i,Mv.ext_of b.out j (fun k h=>h)⟩
def hdR(fl:Int)(no np:Nat):Bool:=(fl==0||fl==16384)&&decide ((no:Int)≤40)&&((no:Int) % 4==0)&&decide (20+(no:Int)+(np:Int)≤65535)
theorem QsT(fl:Int)(no np:Nat)(a b c d e:Bool)(h1:(fl==0)=a)(h2:(fl==16384)=b)(h3:decide ((no:Int)≤40)=c)(h4:((no:Int) % 4==0)=d)(h5:decide (20+(no:Int)+(np:Int)≤65535)=e):hdR fl no np=((a||b)&&c&&d&&e):=by
 unfold hdR;rw [h1,h2,h3,h4,h5]
theorem QdP(h:He)(po pp:Option Addr)(no co np cp:Nat)(hno:no≤100000)(hnp:np≤100000)(w:World):Cr 201 #[.agg (heV h (.slice po no co) (.slice pp np cp))] w (.bool (hdR h.fl no np)):=by
 cases b:(h.fl==0)<;>cases c:(h.fl==16384)<;>cases d:decide ((no:Int)≤40)<;>cases e:((no:Int) % 4==0)<;>cases f:decide (20+(no:Int)+(np:Int)≤65535)
 all_goals
  have a:=Xh (QsT h.fl no np _ _ _ _ _ b c d e f);unfold heV
  go_enter Tryz.func201,Tryz.ntmps201
  go_wp2;go_ret;exact⟨Qm (by rw [a.out];rfl),Ext.al (Ext.rf _) _⟩
theorem Qkz(h:He)(po pp:Option Addr)(no co np cp:Nat)(hno:no≤100000)(hnp:np≤100000)(hR:hdR h.fl no np=true)(w:World):Cr 203 #[.agg (heV h (.slice po no co) (.slice pp np cp))] w (.int .i64 (20+(no:Int)+(np:Int))):=by
 have c:=Xh (fun W=>QdP h po pp no co np cp hno hnp W);rw [hR]at c;clear hR;unfold heV at c⊢
 go_enter Tryz.func203,Tryz.ntmps203
 go_upto_region 1 with(fail)
 obtain⟨a,b⟩: ∃a,w.alloc (.cells #[.int .u8 h.sv,.int .u16 h.nu,.int .u16 h.fl,.int .u8 h.ho,.int .u8 h.pr,.int .u32 h.sr,.int .u32 h.ds,.slice po no co,.slice pp np cp] 132)=a:=⟨_,rfl⟩;have j:Ext w a:=by rw [←b];exact Ea
 have d:RowZ a w.heap.size #[.int .u8 h.sv,.int .u16 h.nu,.int .u16 h.fl,.int .u8 h.ho,.int .u8 h.pr,.int .u32 h.sr,.int .u32 h.ds,.slice po no co,.slice pp np cp]:=by rw [←b];exact RowZ.new _ _ _
 rw [b];clear b;have hR:=d.r;have g:=Xh d;clear d
 go_wp2_with (go_at_call 201;(refine(c.out _).mono ?_);rintro e i ⟨rfl,f⟩;have k:i.cell? ⟨w.heap.size,7,none⟩=some (.slice po no co):=(g.out.ext f).cell 7 (by show 7<9;omega);have l:i.cell? ⟨w.heap.size,8,none⟩=some (.slice pp np cp):=(g.out.ext f).cell 8 (by show 8<9;omega))
 go_ret;exact⟨rfl,j.tr f⟩
theorem Y5{n:Int}{u:Value}(hc:w.cell? ⟨B,i,none⟩=some u)(hf:w.frozen? ⟨B,i,none⟩=false){ty:TypeId}
  (hx:ρ x= .pointer (some ⟨B,i,none⟩))(hy:ρ y= .int .u8 n):(execOp ρ ⟨dst,.store 5 x y,ty,pos,after,g⟩).run Tryz.prog w= .ok .skip (w.setCell ⟨B,i,none⟩ (.int .u8 n)):=by
 simp only [execOp,hx,hy];go_simp
theorem Zp{base g n c:Nat}(h:OB w base (.slice (some ⟨g,0,none⟩) n c) bs)(k:Nat)(hk:k<bs.length):w.cell? ⟨g,k,none⟩=some (.int .u8 bs[k])∧w.frozen? ⟨g,k,none⟩=false∧base≤g∧g<w.heap.size:=by
 obtain⟨i,j,e,-,a,b,d,f⟩:=h.at Om
 cases e
 exact⟨f k hk,Ql d k,a,b⟩
theorem Qqr(lo:Nat)(n:Int)(h0:0≤n∧n<4294967296)(w:World)(hlo:lo≤w.heap.size):Calls Tryz.prog 204 #[.int .u32 n] w fun e w'=> ∃v,e= .returned v∧OB w' lo v (Qbc n)∧Ext w w':=
 (Qqq n h0 w).mono fun e w' ⟨v,h1,h2⟩=>⟨v,h1,h2.own.le hlo,h2.ext⟩
def Qf8(h:He):List Int:= [69+(h.op.length:Int)/4,h.sv]++Ju (20+(h.op.length:Int)+(h.pl.length:Int))++Ju h.nu++Ju h.fl++ [h.ho,h.pr,0,0]++Qbc h.sr++Qbc h.ds++h.op
theorem QsU(h:He)(rop:ByR h.op)(hsv:0≤h.sv∧h.sv<256)(hho:0≤h.ho∧h.ho<256)(hpr:0≤h.pr∧h.pr<256)(hop:h.op.length≤40):ByR (Qf8 h):=by
 unfold Qf8;refine((((((ByR.app ?_ (Qe6 _)).app (Qe6 _)).app (Qe6 _)).app ?_).app (Qmb _)).app (Qmb _)).app rop
 ·exact ByR.cons Om (ByR.cons hsv ByR.nil)
 ·exact ByR.cons hho (ByR.cons hpr (ByR.cons Om (ByR.cons Om ByR.nil)))
def QiT(h:He):List Int:=((Qf8 h).set 10 (Z5 (Qf8 h)/256 % 256)).set 11 (Z5 (Qf8 h) % 256)++h.pl
def Qqs(ops:Array Oper):Prop:=Region.noSelect ops=true∧Qo ops 10 [0,1,2,5,6] 0=true∧Rd ops 10 103 [3]∧Rd ops 10 111 [4]∧Rd ops 10 127 [7]∧Rd ops 10 255 [8]∧Qo ops 10 [9] 511=true∧Rd ops 10 1023 []
theorem QkA:Qqs ((Tryz.f155.body.bind (Qh 8)).getD #[]):=⟨Kr,Kr,Rk,Rk,Rk,Rk,Kr,Rk⟩
def Qmc(ops:Array Oper):Prop:=Region.noSelect ops=true∧Qo ops 12 [0,1,2,3,4,5,6,7,8] 0=true∧Rd ops 12 511 [9]∧Qo ops 12 [10] 1023=true∧Rd ops 12 2047 [11]∧Rd ops 12 4095 []
theorem QiU:Qmc ((Tryz.f155.body.bind (Qh 11)).getD #[]):=⟨Kr,Kr,Rk,Kr,Rk,Rk⟩
theorem Qe7(h:He)(po pp:Option Addr)(co cp:Nat)(w:World)(hR:hdR h.fl h.op.length h.pl.length=true)(hsv:0≤h.sv∧h.sv<256)(hnu:0≤h.nu∧h.nu<65536)(hfl:0≤h.fl∧h.fl<65536)(hho:0≤h.ho∧h.ho<256)(hpr:0≤h.pr∧h.pr<256)(hsr:0≤h.sr∧h.sr<4294967296)(hds:0≤h.ds∧h.ds<4294967296)
  (so:SlB w po h.op)(hpo:po=none→co=0)(sp:SlB w pp h.pl)(hpp:pp=none→cp=0)(rop:ByR h.op)(hop:h.op.length≤40)(hpl:h.pl.length≤2000):
  Calls Tryz.prog 155 #[.agg (heV h (.slice po h.op.length co) (.slice pp h.pl.length cp))] w fun e w'=> ∃v,e= .returned (.tuple #[v,.bool true])∧Z8 w w' v (QiT h):=by
 have HR:=Xh (fun W=>QdP h po pp h.op.length co h.pl.length cp Om Om W);have b2:=Xh (fun W=>Qkz h po pp h.op.length co h.pl.length cp Om Om hR W);have b9:=Xh (Qbx (20+(h.op.length:Int)+(h.pl.length:Int)) Om);have c6:=Xh (Qbx h.nu Om);have c9:=Xh (Qbx h.fl Om);have d0:=Xh (fun n (hn:0≤n∧n<65536)=>Qbx n Om);have d1:=Xh hsr;have d2:=Xh hds;have d3:=Xh (fun W (hE:Ext w W)=>QaE.of_slb (c:=co) (so.ext hE) hpo);have d4:=Xh (fun W (hE:Ext w W)=>QaE.of_slb (c:=cp) (sp.ext hE) hpp);have d5:=Xh (QsU h rop hsv hho hpr hop);rw [hR]at HR;have e0:wrap64 h.nu=h.nu:=by simp only [wrap64];omega
 have e2:wrap64 h.fl=h.fl:=by simp only [wrap64];omega
 have e3:IntKind.u8.wrap (69+(h.op.length:Int)/4)=69+(h.op.length:Int)/4:=by rw [Ye];omega
 clear hR hnu hfl hsr hds so hpo sp hpp rop hsv hho hpr;unfold heV at HR b2⊢
 go_enter Tryz.func155,Tryz.ntmps155
 go_upto_region 1 with(fail)
 obtain⟨W0,A⟩: ∃W0,w.alloc (.cells #[.int .u8 h.sv,.int .u16 h.nu,.int .u16 h.fl,.int .u8 h.ho,.int .u8 h.pr,.int .u32 h.sr,.int .u32 h.ds,.slice po h.op.length co,.slice pp h.pl.length cp] 132)=W0:=⟨_,rfl⟩;have g0:Ext w W0:=by rw [←A];exact Ea
 have rz:RowZ W0 w.heap.size #[.int .u8 h.sv,.int .u16 h.nu,.int .u16 h.fl,.int .u8 h.ho,.int .u8 h.pr,.int .u32 h.sr,.int .u32 h.ds,.slice po h.op.length co,.slice pp h.pl.length cp]:=by rw [←A];exact RowZ.new _ _ _
 rw [A];clear A;obtain⟨b1,e1⟩: ∃b,w.heap.size=b:=⟨_,rfl⟩;rw [e1]at rz⊢;have I:=Xh e1;have hR:=rz.r;have f:=Xh rz;have u:=Xh g0;clear rz e1 g0
 go_upto_region 3 with(go_at_call 201;(refine(HR.out _).mono ?_);rintro e P ⟨rfl,g2⟩;have f:=Xh (f.out.ext g2);have u:=Xh (u.out.tr g2))
 clear hR;have c0:P.cell? ⟨b1,0,none⟩=some (.int .u8 h.sv):=f.out.cell 0 (by show 0<9;omega);have c7:P.cell? ⟨b1,7,none⟩=some (.slice po h.op.length co):=f.out.cell 7 (by show 7<9;omega)
 go_upto_region 4 with(fail)
 clear c0 c7;obtain⟨j,e7⟩: ∃j,b1+1=j:=⟨_,rfl⟩;have a7:j≤P.heap.size:=by have:=f.out.l;unfold Lt at this;omega
 obtain⟨W3,A⟩: ∃W3,P.alloc (.cells #[.int .u8 (69+(h.op.length:Int)/4),.int .u8 h.sv] 5)=W3:=⟨_,rfl⟩;have g3:Ext P W3:=by rw [←A];exact Ea
 have x:Hid (OB W3 j (.slice (some ⟨P.heap.size,0,none⟩) 2 2) [69+(h.op.length:Int)/4,h.sv]):=Xh (by rw [←A];exact OB.lit P j [69+(h.op.length:Int)/4,h.sv] 2 rfl a7 (by simp));rw [A];clear A;have f:=Xh (f.out.ext g3);have u:=Xh (u.out.tr g3);have y:=Xh (Xt a7 g3.size);clear g3 a7;have hR:=f.out.r
 go_upto_region 7 with(first|(go_at_call 203;(with_reducible refine(b2.out _).mono ?_);rintro e ws ⟨rfl,gs⟩;have f:=Xh (f.out.ext gs);have x:=Xh (x.out.ext gs);have u:=Xh (u.out.tr gs);have y:=Xh (Xt y.out gs.size))|(go_at_call 202;(first|(with_reducible refine(b9.out _).mono ?_)|(with_reducible refine(c6.out _).mono ?_)|(with_reducible refine(c9.out _).mono ?_));rintro e wt ⟨vt,rfl,T⟩;have f:=Xh (f.out.ext T.ext);have x:=Xh (x.out.ext T.ext);have u:=Xh (u.out.tr T.ext);have d6:=Xh (QaE.of_ob T.own);have y:=Xh (Xt y.out T.ext.size);clear T;have c1:wt.cell? ⟨b1,1,none⟩=some (.int .u16 h.nu):=f.out.cell 1 (by show 1<9;omega);have c2:wt.cell? ⟨b1,2,none⟩=some (.int .u16 h.fl):=f.out.cell 2 (by show 2<9;omega);have c3:wt.cell? ⟨b1,3,none⟩=some (.int .u8 h.ho):=f.out.cell 3 (by show 3<9;omega);have c4:wt.cell? ⟨b1,4,none⟩=some (.int .u8 h.pr):=f.out.cell 4 (by show 4<9;omega))|(at_builtin;refine listA (base:=j) x.out d6.out (by simp<;>omega) y.out rfl rfl ?_;intro J F a z;have f:=Xh (RowZ.mv (C:=fun k=>j≤k) f.out z Om);have u:=Xh (Mv.ext_of (C:=fun k=>j≤k) u.out z (fun k hk=>by have:=I.out;omega));have x:=Xh a;have y:=Xh (Xt y.out z.size);clear a z;have c1:F.cell? ⟨b1,1,none⟩=some (.int .u16 h.nu):=f.out.cell 1 (by show 1<9;omega);have c2:F.cell? ⟨b1,2,none⟩=some (.int .u16 h.fl):=f.out.cell 2 (by show 2<9;omega);have c3:F.cell? ⟨b1,3,none⟩=some (.int .u8 h.ho):=f.out.cell 3 (by show 3<9;omega);have c4:F.cell? ⟨b1,4,none⟩=some (.int .u8 h.pr):=f.out.cell 4 (by show 4<9;omega)))
 clear c1 c2 hR
 go_upto_region 8 with((at_builtin;refine listA (base:=j) (x.out.ext Ea) (QaE.of_ob (OB.lit _ j [h.ho,h.pr,0,0] 4 rfl y.out (by simp))) (by simp<;>omega) (Xt y.out Ea.size) rfl rfl ?_;intro J F a z;have f:=Xh (RowZ.mv (C:=fun k=>j≤k) (f.out.ext Ea) z Om);have u:=Xh (Mv.ext_of (C:=fun k=>j≤k) (Ext.al u.out _) z (fun k hk=>by have:=I.out;omega));have x:=Xh a;have y:=Xh (Xt (Xt y.out Ea.size) z.size);clear a z;))
 clear c3 c4;obtain⟨Y,a2⟩: ∃L,([69+(h.op.length:Int)/4,h.sv]++Ju (20+(h.op.length:Int)+(h.pl.length:Int))++Ju h.nu++Ju h.fl++ [h.ho,h.pr,0,0])=L:=⟨_,rfl⟩;have e4:Y.length=12:=by rw [←a2];simp
 have d7:=Xh a2;have a:OB F j J Y:=by rw [←a2];exact x.out
 have o:=f.out;have E:=u.out;have t:=y.out;clear a2;refine Qy (fun k=>j≤k) (fun k=>j≤k) 10 Kr ?_;obtain⟨WA,A⟩: ∃Wdr,World.drew F=Wdr:=⟨_,rfl⟩;have G:Ext F WA:=by rw [←A];exact Ext.dr (Ext.rf _)
 rw [A];clear A;have E:=E.tr G;have o:=o.ext G;have a:=a.ext G;have t:=Xt t G.size;refine Zi (N:=10) (R:=Qqs) (E:=((Tryz.f155.body.bind (Qh 8)).getD #[])) Kr QkA Kr fun hS=> ?_;have d:=hS.2.1;refine tWk 1 J hS.1 d rfl fun d=>tWk 3 (.pointer (some ⟨b1,5,none⟩)) hS.1 d rfl fun d=>tW 7 (.int .u32 h.sr) hS.1 d rfl (Qa0 (o.cell 5 (by show 5<9;omega)) o.l Om Kr) fun d=>tWk 39 (.pointer (some ⟨b1,6,none⟩)) hS.1 d rfl fun d=>tW 103 (.int .u32 h.ds) hS.1 d rfl (Qa0 (o.cell 6 (by show 6<9;omega)) o.l Om Kr) fun d=> ?_;refine sV 111 (fun v w'=>OB w' j v (Qbc h.sr)) hS.2.2.1 rfl (Qqr j h.sr d1.out WA t) ?_;rintro vq e8 a3 oq;have E:=E.tr a3;have o:=o.ext a3;have a:=a.ext a3;have t:=Xt t a3.size;refine Qr hS.2.2.2.1 (Qma (m':=127) (base:=j) (b1:=Y) rfl rfl Kr Kr a (QaE.of_ob oq) (by simp<;>omega) t (fun k hk=>hk) ?_);intro v8 b6 a Q;have o:=o.mv (C:=fun k=>j≤k) Q Om;have E:=Mv.ext_of (C:=fun k=>j≤k) E Q (fun k hk=>by have:=I.out;omega);have t:=Xt t Q.size;have a8:=Ext.rf b6;have E:=E.tr a8;have o:=o.ext a8;have a:=a.ext a8;refine sV 255 (fun v w'=>OB w' j v (Qbc h.ds)) hS.2.2.2.2.1 rfl (Qqr j h.ds d2.out b6 t) ?_;rintro vq e9 a4 oq;have E:=E.tr a4;have o:=o.ext a4;have a:=a.ext a4;have t:=Xt t a4.size;refine Qr hS.2.2.2.2.2.1 (Qma (m':=511) (base:=j) (b1:=(Y++Qbc h.sr)) rfl rfl Kr Kr a (QaE.of_ob oq) (by simp<;>omega) t (fun k hk=>hk) ?_);intro v9 b7 a Q;have o:=o.mv (C:=fun k=>j≤k) Q Om;have E:=Mv.ext_of (C:=fun k=>j≤k) E Q (fun k hk=>by have:=I.out;omega);have t:=Xt t Q.size;have a9:=Ext.rf b7;have E:=E.tr a9;have o:=o.ext a9;have a:=a.ext a9;have d:=hS.2.2.2.2.2.2.1;refine tWk 1023 v9 hS.1 d rfl fun d=> ?_;refine QZ hS.2.2.2.2.2.2.2 ?_;clear hS d;go_simp;have f:=Xh o;have u:=Xh E;have x:=Xh a;have y:=Xh t;clear o E a t;have c7:b7.cell? ⟨b1,7,none⟩=some (.slice po h.op.length co):=f.out.cell 7 (by show 7<9;omega)
 go_upto_region 10 with((at_builtin;refine listA (base:=j) x.out (d3.out _ u.out) (by simp only [List.length_append,Qf7];omega) y.out rfl rfl ?_;intro J F a z;have f:=Xh (RowZ.mv (C:=fun k=>j≤k) f.out z Om);have u:=Xh (Mv.ext_of (C:=fun k=>j≤k) u.out z (fun k hk=>by have:=I.out;omega));have x:=Xh a;have y:=Xh (Xt y.out z.size);clear a z;))
 clear c7;obtain⟨D,hL⟩: ∃L,Y++Qbc h.sr++Qbc h.ds++h.op=L:=⟨_,rfl⟩;have a1:=Xh (show D.length=20+h.op.length by rw [←hL];simp only [List.length_append,Qf7];omega);have b3:=Xh (show Qf8 h=D by rw [←hL,←d7.out];rfl);have x:Hid (OB F j J D):=Xh (by rw [←hL];exact x.out);clear hL;obtain⟨g,M,rfl,f0,f1,f2,-,-⟩:=x.out.at (by have:=a1.out;omega)
 have b4:Hid (Cr 199 #[.slice (some ⟨g,0,none⟩) D.length M] F (.int .u16 (Z5 D))):=Xh (by
  obtain⟨p,c,e,-,s⟩:=x.out.slb
  cases e
  exact Qe5 D _ M F s (by rw [←b3.out];exact d5.out) (by have:=a1.out;omega))
 have hK:=Qlz D;obtain⟨K,eK⟩: ∃K,Z5 D=K:=⟨_,rfl⟩;have HK:=Xh eK;rw [eK]at b4 hK;have d8:wrap64 K=K:=by simp only [wrap64];omega
 have d9:=Xh (d0.out K hK);clear eK hK
 go_upto_region 11 with(first|(go_at_call 199;(with_reducible refine(b4.out).mono ?_);rintro e wc ⟨rfl,gc⟩)|(go_at_call 202;(with_reducible refine(d9.out _).mono ?_);rintro e Z ⟨v5,rfl,o5⟩;obtain⟨H,c5,rfl,-,f3,b8,-,b0⟩:=o5.own.at (by rw [JG];omega)))
 have V:=gc.tr o5.ext;have e5:g<H:=by have:=gc.size;omega
 have b5: ¬H=g:=by omega
 have k0:Z.cell? ⟨H,0,none⟩=some (.int .u8 (K/256 % 256)):=b0 0 (by rw [JG];omega);have k1:Z.cell? ⟨H,1,none⟩=some (.int .u8 (K % 256)):=b0 1 (by rw [JG];omega);have S:Lt H Z:=b8;have a:=x.out.ext V;have o:=f.out.ext V;have E:=u.out.tr V;have t:=Xt y.out V.size;clear gc V o5 b0 b8 d8;refine Qy (fun _=>False) (fun q=>q=g) 9 Kr ?_;obtain⟨WC,A⟩: ∃Wdr,World.drew Z=Wdr:=⟨_,rfl⟩;have G:Ext Z WC:=by rw [←A];exact Ext.dr (Ext.rf _)
 rw [A];clear A;have E:=E.tr G;have o:=o.ext G;have a:=a.ext G;have t:=Xt t G.size;have k0:=(G.cell (p:=⟨H,0,none⟩) S).trans k0;have k1:=(G.cell (p:=⟨H,1,none⟩) S).trans k1;have S:=Xl S G.size;have e6:b1<g:=by omega
 have X:=a1.out;refine Zi (N:=12) (R:=Qmc) (E:=((Tryz.f155.body.bind (Qh 11)).getD #[])) Kr QiU Kr fun hS=> ?_;have d:=hS.2.1;refine tWk 1 (.slice (some ⟨g,0,none⟩) D.length M) hS.1 d rfl fun d=>tWk 3 (.slice (some ⟨g,0,none⟩) D.length M) hS.1 d rfl fun d=>tWk 7 (.slice (some ⟨H,0,none⟩) 2 c5) hS.1 d rfl fun d=>tW 15 (.pointer (some ⟨H,0,none⟩)) hS.1 d rfl (fun w' _=>Zh (m:=2) (c:=c5) 0 Om Kr Kr w') fun d=>tW 31 (.int .u8 (K/256 % 256)) hS.1 d rfl (Yv k0 S b5 Kr) fun d=>tWk 63 (.slice (some ⟨H,0,none⟩) 2 c5) hS.1 d rfl fun d=>tW 127 (.pointer (some ⟨H,1,none⟩)) hS.1 d rfl (fun w' _=>Zh (m:=2) (c:=c5) 1 Om Kr Kr w') fun d=>tW 255 (.int .u8 (K % 256)) hS.1 d rfl (Yv k1 S b5 Kr) fun d=>tW 511 (.pointer (some ⟨g,10,none⟩)) hS.1 d rfl (fun w' _=>Zh (m:=D.length) (c:=M) 10 Om Kr Kr w') fun d=> ?_;refine Qr hS.2.2.1 (QE (m':=1023) rfl rfl Kr (Y5 (B:=g) (i:=10) (n:=K/256 % 256) (Zp a 10 (by rw [X];omega)).1 (Zp a 10 (by rw [X];omega)).2.1 Kr Kr) ⟨.inl Dc,(Mv.st _ (.inl rfl) (Mv.refl _ _))⟩ ?_);obtain⟨U,a5⟩: ∃U,World.setCell WC ⟨g,10,none⟩ (.int .u8 (K/256 % 256))=U:=⟨_,rfl⟩;have O:Mv (fun q=>q=g) WC U:=by rw [←a5];exact Mv.st _ (.inl rfl) (Mv.refl _ _)
 have a:OB U j (.slice (some ⟨g,0,none⟩) D.length M) (D.set 10 (K/256 % 256)):=by rw [←a5];exact YD a 10 _ (by simp)
 have E:=Mv.ext_of E O (fun q e=>by have:=I.out;omega);have o:=o.mv O Om;have t:=Xt t O.size;rw [a5];clear a5;have d:=hS.2.2.2.1;refine tW 2047 (.pointer (some ⟨g,11,none⟩)) hS.1 d rfl (fun w' _=>Zh (m:=D.length) (c:=M) 11 Om Kr Kr w') fun d=> ?_;refine Qr hS.2.2.2.2.1 (QE (m':=4095) rfl rfl Kr (Y5 (B:=g) (i:=11) (n:=K % 256) (Zp a 11 (by rw [List.length_set,X];omega)).1 (Zp a 11 (by rw [List.length_set,X];omega)).2.1 Kr Kr) ⟨.inl Dc,(Mv.st _ (.inl rfl) (Mv.refl _ _))⟩ ?_);obtain⟨a0,a6⟩: ∃a0,World.setCell U ⟨g,11,none⟩ (.int .u8 (K % 256))=a0:=⟨_,rfl⟩;have O:Mv (fun q=>q=g) U a0:=by rw [←a6];exact Mv.st _ (.inl rfl) (Mv.refl _ _)
 have a:OB a0 j (.slice (some ⟨g,0,none⟩) D.length M) ((D.set 10 (K/256 % 256)).set 11 (K % 256)):=by rw [←a6];exact YD a 11 _ (by simp)
 have E:=Mv.ext_of E O (fun q e=>by have:=I.out;omega);have o:=o.mv O Om;have t:=Xt t O.size;rw [a6];clear a6;refine QZ hS.2.2.2.2.2 ?_;clear hS d k0 k1 X;go_simp;have f:=Xh o;have u:=Xh E;have x:=Xh a;have y:=Xh t;clear o E a t;have c8:a0.cell? ⟨b1,8,none⟩=some (.slice pp h.pl.length cp):=f.out.cell 8 (by show 8<9;omega)
 go_wp2_with ((at_builtin;refine listA (base:=j) x.out (d4.out _ u.out) (by have:=a1.out;simp only [List.length_set];omega) y.out rfl rfl ?_;intro J F a z;have f:=Xh (RowZ.mv (C:=fun k=>j≤k) f.out z Om);have u:=Xh (Mv.ext_of (C:=fun k=>j≤k) u.out z (fun k hk=>by have:=I.out;omega));have x:=Xh a;have y:=Xh (Xt y.out z.size);clear a z;))
 refine bodyPost_ret (v:= .tuple #[J,.bool true]) (by simp [results,Tryz.results155,go_sem]) rfl ?_;refine⟨J,rfl,?_,u.out⟩;rw [I.out];unfold QiT;rw [b3.out,HK.out];exact x.out.le Om
theorem QAW(p:Option Addr)(bs:List Int)(c:Nat)(w:World)(hs:SlB w p bs)(hr:ByR bs)(hl:bs.length≤2000)(h12:12≤bs.length):
  Cr 148 #[.slice p bs.length c] w (.int .i64 (Z5 (QaU bs))):=by
 have t:=Xh (fun W (E:Ext w W)=>QaE.of_slb (c:=c) (hs.ext E) (fun e=>by subst e;have:=hs.nil_of;subst this;simp at h12));have u:=Xh hr;clear hs hr
 go_enter Tryz.func148,Tryz.ntmps148
 go_upto_region 2 with(at_builtin;refine listA (base:=w.heap.size) (OB.new w) (t.out _ Ea) (by simp<;>omega) (Nat.le_of_lt (by simp)) rfl rfl ?_;intro M o d r)
 obtain⟨g,q,rfl,F,G,N,f,i⟩:=d.at (by simp;omega);have l:=Xh d;have v:=Xh (Mv.ext_of (Ext.al (Ext.rf w) (.cells #[] 5)) r (fun k hk=>hk));rw [List.nil_append]at l F;have x:=i 10 (by simp;omega);have y:=i 11 (by simp;omega);have z:=Ql f 10;have A:=Ql f 11;have I:(10:Int)<bs.length:=by omega
 have J:(11:Int)<bs.length:=by omega
 simp only [List.nil_append];clear i d f r
 go_upto_region 3 with(fail)
 obtain⟨a,b⟩: ∃a,(o.setCell ⟨g,10,none⟩ (.int .u8 0)).setCell ⟨g,11,none⟩ (.int .u8 0)=a:=⟨_,rfl⟩;have m:OB a w.heap.size (.slice (some ⟨g,0,none⟩) (QaU bs).length q) (QaU bs):=by rw [←b,Qc6];exact YD (YD l.out 10 0 rfl) 11 0 (by simp)
 have B:Ext w a:=Mv.ext_of v.out (show Mv (fun k=>k=g) o a by rw [←b];exact Mv.st _ (.inl rfl) (Mv.st _ (.inl rfl) (Mv.refl _ _))) (fun k h=>by rw [h];exact G);rw [b]
 have n:Hid (Cr 199 #[.slice (some ⟨g,0,none⟩) bs.length q] a (.int .u16 (Z5 (QaU bs)))):=Xh (by
  obtain⟨p,c,e,-,s⟩:=m.slb
  cases e
  have h:=Qe5 (QaU bs) _ q a s (Qsh u.out) (by rw [Qc6];omega)
  rwa [Qc6]at h)
 have C:=Qlz (QaU bs);obtain⟨K,j⟩: ∃K,Z5 (QaU bs)=K:=⟨_,rfl⟩;rw [j]at n C;have D:=Xh j;have L:wrap64 K=K:=by simp only [wrap64];omega
 clear j b m x y z A
 go_wp2_with (go_at_call 199;(refine(n.out).mono ?_);rintro e O ⟨rfl,H⟩)
 go_ret;exact⟨by rw [D.out];rfl,B.tr H⟩
section
variable {P:Program} {ops:Array Oper} {a0:Act} {w0:World} {ρ:Operand→Value} {dst:Option Tmp} {ty:TypeId} {pos:String} {after:Array Edge} {g:Option (Nat×Bool)} {x y z:Operand} {w:World} {v u:Value}
def d0A:Nat×Nat×Q6:=(0,0,fun _ _=>True)
theorem dsA{D:List (Nat×Nat×Q6)}{d:Nat}{p:Q6}{o:Oper}
  (H: ∀(ρ:Operand→Value) (w:World),(∀j,(o.after.any fun e=>Region.binds .any e&&e.on==(D.getD j d0A).1)=true→(D.getD j d0A).2.2 w (ρ (.tmp (D.getD j d0A).2.1)))→(∀v,ρ (.const v)=v)→(∀f,ρ (.func f)= .func (.func f) #[] #[])→(∀s,(D.map (·.2.1)).contains s=false→ρ (.tmp s)=a0.tmps.getD s undef)→Ext w0 w→Jn P ρ o w p)
  (ho:ops[i]?=some o:=by rfl)(hg:o.guard=none:=by rfl)(hd:o.dst=some d:=by rfl): ∃o,ops[(i,d,p).1]?=some o∧o.guard=none∧o.dst=some (i,d,p).2.1∧ ∀(ρ:Operand→Value) (w:World),
  (∀y∈D,(o.after.any fun e=>Region.binds .any e&&e.on==y.1)=true→y.2.2 w (ρ (.tmp y.2.1)))→(∀v,ρ (.const v)=v)→(∀f,ρ (.func f)= .func (.func f) #[] #[])→(∀s,(D.map (·.2.1)).contains s=false→ρ (.tmp s)=a0.tmps.getD s undef)→Ext w0 w→Jn P ρ o w (i,d,p).2.2:=
 ⟨o,ho,hg,hd,fun ρ w a b c d e=>H ρ w (fun j=>by
  rw [List.getD_eq_getElem?_getD]
  by_cases h:j<D.length
  ·rw [List.getElem?_eq_getElem h];exact a _ (List.getElem_mem h)
  ·rw [List.getElem?_eq_none Om];exact fun _=>trivial) b c d e⟩
theorem mvA(h:ρ x=v):(execOp ρ ⟨dst,.move x,ty,pos,after,g⟩).run P w= .ok (.value v) w:=by simp only [execOp,h];rfl
theorem bxA{lo:Nat}{cs:Array Value}{t:TypeId}(hl:lo≤w.heap.size)(hz: ∀W:World,(Instr.alloc t true (.tuple #[])).run P W= .ok (.pointer (some ⟨W.heap.size,0,none⟩)) (W.alloc (.cells cs t)):=by intro W;kernel_rfl):
  Jn P ρ ⟨dst,.alloc t,ty,pos,after,g⟩ w fun w v=> ∃B,v= .pointer (some ⟨B,0,none⟩)∧lo≤B∧RowZ w B cs:=
 .val (v:= .pointer (some ⟨w.heap.size,0,none⟩)) (w':=w.alloc (.cells cs t)) (by simp only [execOp,Sem.run_bind,hz];rfl) Ea ⟨_,rfl,hl,RowZ.new _ _ _⟩
theorem QAN(lo:Nat)(cs:Array Value):JO fun w v=> ∃B,v= .pointer (some ⟨B,0,none⟩)∧lo≤B∧RowZ w B cs:=fun w w' v hE ⟨B,h1,h2,h3⟩=>⟨B,h1,h2,h3.ext hE⟩
theorem c1A{f:Nat}{p:Q6}{tys:Array TypeId}(hf: ∀f,ρ (.func f)= .func (.func f) #[] #[])(hx:ρ x=u)(hc:Calls P f #[u] w fun e w'=> ∃v,e= .returned v∧p w' v∧Ext w w')(eg: ∀args w,(callFunc f args).run P w= .ok (.enter f args) w):
  Jn P ρ ⟨dst,.call {callee:= .value (.func f),args:=#[x],argTypes:=tys},ty,pos,after,g⟩ w p:=by
 refine .call (args:=#[u]) ?_ hc;unfold execOp;simp only [resolve,hx,hf,List.map_toArray,List.map_cons,List.map_nil];simp [invoke,go_sem,eg]
end
inductive BL(ρ:Operand→Value):List (Nat×Operand)→List (Nat×Value)→Prop
 |nil:BL ρ [] []
 |cons {i:Nat} {x:Operand} {v:Value} {l:List (Nat×Operand)} {m:List (Nat×Value)} (h:ρ x=v) (t:BL ρ l m):BL ρ ((i,x)::l) ((i,v)::m)
theorem BL.map{ρ:Operand→Value}{l:List (Nat×Operand)}{m:List (Nat×Value)}(h:BL ρ l m):l.map (fun(i,x)=>(i,ρ x))=m:=by
 induction h with
 |nil=>rfl
 |cons h _ ih=>rw [List.map_cons,ih];simp only [h]
theorem bdA{P:Program}{ρ:Operand→Value}{dst:Option Tmp}{ty t:TypeId}{pos:String}{after:Array Edge}{g:Option (Nat×Bool)}{w:World}{v:Value}{l:List (Nat×Operand)}{m:List (Nat×Value)}(h:BL ρ l m)(hb: ∀w,(Instr.build t m.toArray).run P w= .ok v w:=by intro w;kernel_rfl):
  (execOp ρ ⟨dst,.build t l.toArray,ty,pos,after,g⟩).run P w= .ok (.value v) w:=by
 have e:l.toArray.map (fun(i,x)=>(i,ρ x))=m.toArray:=by rw [List.map_toArray,h.map]
 simp only [execOp,e,Sem.run_bind,hb];rfl
theorem ixA{ρ:Operand→Value}{dst:Option Tmp}{ty:TypeId}{pos:String}{after:Array Edge}{g:Option (Nat×Bool)}{x y:Operand}{w:World}{b off n c:Nat}(k:Nat)(hk:k<n)(hx:ρ x= .slice (some ⟨b,off,none⟩) n c)(hy:ρ y= .int .i64 (k:Nat)):
  (execOp ρ ⟨dst,.indexAddr 28 x y,ty,pos,after,g⟩).run Tryz.prog w= .ok (.value (.pointer (some ⟨b,off+k,none⟩))) w:=Zh k hk hx hy w
theorem QA3{ρ:Operand→Value}{dst:Option Tmp}{ty:TypeId}{pos:String}{after:Array Edge}{g:Option (Nat×Bool)}{x:Operand}{w w0:World}{b off:Nat}(hs:SlB w0 (some ⟨b,off,none⟩) bs)(E:Ext w0 w)(k:Nat)(hk:k<bs.length)(hx:ρ x= .pointer (some ⟨b,off+k,none⟩)):
  (execOp ρ ⟨dst,.load 5 x,ty,pos,after,g⟩).run Tryz.prog w= .ok (.value (.int .u8 (bt bs k))) w:=QlB (C:=fun _=>False) hs k hk (fun h=>h) hx w (Mv.of_ext E)
theorem slA{ρ:Operand→Value}{dst:Option Tmp}{ty:TypeId}{pos:String}{after:Array Edge}{g:Option (Nat×Bool)}{x y z:Operand}{w:World}{b off n c:Nat}(k m:Nat)(hk:k+m≤c)(hm:0<m)(hx:ρ x= .slice (some ⟨b,off,none⟩) n c)(hy:ρ y= .int .i64 (k:Nat))(hz:ρ z= .int .i64 ((k+m:Nat):Int)):
  (execOp ρ ⟨dst,.slice 28 x (some y) (some z) none,ty,pos,after,g⟩).run Tryz.prog w= .ok (.value (.slice (some ⟨b,off+k,none⟩) m (c- k))) w:=by
 have h:=QoV (lo:=k) (hi:=k+m) Om hk ρ dst x y z ty pos after g hx hy hz w;unfold ZF at h;rw [if_neg Om,show k+m- k=m by omega]at h;exact h
theorem QB5{ρ:Operand→Value}{dst:Option Tmp}{ty:TypeId}{pos:String}{after:Array Edge}{g:Option (Nat×Bool)}{x y:Operand}{w:World}{b off n c:Nat}(k m:Nat)(hk:n=k+m)(hc:n≤c)(hm:0<m)(hx:ρ x= .slice (some ⟨b,off,none⟩) n c)(hy:ρ y= .int .i64 (k:Nat)):
  (execOp ρ ⟨dst,.slice 28 x (some y) none none,ty,pos,after,g⟩).run Tryz.prog w= .ok (.value (.slice (some ⟨b,off+k,none⟩) m (c- k))) w:=by
 have h:=QaV (lo:=k) (m:=n) Om hc ρ dst x y ty pos after g hx hy w;unfold ZF at h;rw [if_neg Om,show n- k=m by omega]at h;exact h
theorem QBc{ρ:Operand→Value}{dst:Option Tmp}{ty:TypeId}{pos:String}{after:Array Edge}{g:Option (Nat×Bool)}{x:Operand}{w:World}{n:Int}(h0:0≤n∧n<65536)(hx:ρ x= .int .i64 n):(execOp ρ ⟨dst,.convert 3 62 x,ty,pos,after,g⟩).run Tryz.prog w= .ok (.value (.int .u16 n)) w:=by
 have e:IntKind.u16.wrap n=n:=by rw [Q4];omega
 simp only [execOp,hx];go_simp
theorem QBP{ρ:Operand→Value}{dst:Option Tmp}{ty:TypeId}{pos:String}{after:Array Edge}{g:Option (Nat×Bool)}{x:Operand}{w:World}{n:Int}(h0:0≤n∧n<4294967296)(hx:ρ x= .int .i64 n):(execOp ρ ⟨dst,.convert 3 61 x,ty,pos,after,g⟩).run Tryz.prog w= .ok (.value (.int .u32 n)) w:=by
 have e:IntKind.u32.wrap n=n:=by rw [YC];omega
 simp only [execOp,hx];go_simp
theorem eqC{P:Program}{f:FuncId}{args:Array Value}{w:World}{v:Value}(h:Calls P f args w fun e w'=>e= .returned v∧Ext w w'):Calls P f args w fun e w'=> ∃u,e= .returned u∧eqA v w' u∧Ext w w':=h.mono fun e w' ⟨h1,h2⟩=>⟨v,h1,rfl,h2⟩
theorem QAy: ∀args w,(callFunc 147 args).run Tryz.prog w= .ok (.enter 147 args) w:=enters_of Tryz.func147 Kr rfl
theorem numw{b off:Nat}(hs:SlB w (some ⟨b,off,none⟩) bs)(hr:ByR bs)(k c:Nat)(hk:k+2≤bs.length):Cr 147 #[.slice (some ⟨b,off+k,none⟩) 2 c] w (.int .i64 (w16 bs k)):=by
 rw [←QAO k hk];exact QBN hs hr k 2 c hk Om
theorem QBT{b off:Nat}(hs:SlB w (some ⟨b,off,none⟩) bs)(hr:ByR bs)(k c:Nat)(hk:k+4≤bs.length):Cr 147 #[.slice (some ⟨b,off+k,none⟩) 4 c] w (.int .i64 (w16 bs k*65536+w16 bs (k+2))):=by
 rw [←QBt k hk];exact QBN hs hr k 4 c hk Om
theorem QBd(h:ByR bs)(k:Nat):0≤w16 bs k*65536+w16 bs (k+2)∧w16 bs k*65536+w16 bs (k+2)<4294967296:=by
 have:=Z2 h k;have:=Z2 h (k+2);omega
theorem QAz{tmps:Array Value}{g:Nat}{cs:Array Value}(hp:tmps.getD 2 undef= .pointer (some ⟨g,0,none⟩))(hr:Qc w g=cs)(hc:cs.size=9):
  (results Tryz.f81 tmps).run Tryz.prog w= .ok (.tuple #[.agg cs,tmps.getD 3 undef]) w:=
 QL rfl tmps w g hp (by
  rw [QjC (by rw [hr,hc];omega),hr]
  rw [show cs.extract 0 (0+9)=cs by rw [←hc];simp])
theorem OB.mvx{A B:World}{C:Nat→Prop}{lo:Nat}{v:Value}(h:OB A lo v bs)(m:Mv C A B)(hc: ∀k,lo≤k→ ¬C k):OB B lo v bs:=Qw h m fun k hk c=>hc k hk c
theorem QAP{b off c n m:Nat}{l:List Int}(lo:Nat)(h:SlB w (ZF b off c lo) l)(hn:n=l.length):QaE w (.slice (ZF b off c lo) n m) l:=by
 subst hn;exact QaE.of_slb h fun e=>by unfold ZF at e;split at e<;>cases e
def QBe(ops:Array Oper):Prop:=Region.noSelect ops=true∧Qo ops 8 [0,1,2,3,4] 0=true∧Rd ops 8 31 [5]∧Qo ops 8 [6] 63=true∧Rd ops 8 127 [7]∧Rd ops 8 255 []∧lateB .any ops 7 1=true
theorem QAX:QBe ((Tryz.f81.body.bind (Qh 15)).getD #[]):=⟨Kr,Kr,Rk,Kr,Rk,Rk,Kr⟩
def QBf(ops:Array Oper):Prop:=Region.noSelect ops=true∧Qo ops 8 [0,1,2,3,4] 0=true∧Rd ops 8 31 [5]∧Qo ops 8 [6] 63=true∧Rd ops 8 127 [7]∧Rd ops 8 255 []∧lateB .any ops 7 1=true
theorem QAY:QBf ((Tryz.f81.body.bind (Qh 16)).getD #[]):=⟨Kr,Kr,Rk,Kr,Rk,Rk,Kr⟩
theorem QAB(p:Option Addr)(bs:List Int)(c:Nat)(w:World)(hs:SlB w p bs)(hr:ByR bs)(hl:bs.length≤1000)(hlc:bs.length≤c):
  Calls Tryz.prog 81 #[.slice p bs.length c] w fun e w'=>QlF bs w e w':=by
 have HS:=Xh hs;have K:=Xh hr;clear hs hr
 go_enter Tryz.func81,Tryz.ntmps81
 go_upto_region 1 with(fail)
 obtain⟨V,y⟩: ∃V,w.alloc (.cells #[.int .u8 0,.int .u16 0,.int .u16 0,.int .u8 0,.int .u8 0,.int .u32 0,.int .u32 0,.slice none 0 0,.slice none 0 0] 132)=V:=⟨_,rfl⟩;have E:Ext w V:=by rw [←y];exact Ea
 have t:Qc V w.heap.size=QoW:=by rw [←y];exact Zn _ _ _ _
 have G:Qs V w.heap.size=(0,0):=by rw [←y];simp [go_sem]
 have o:Lt w.heap.size V:=by rw [←y];simp [go_sem]
 rw [y];clear y;rcases Nat.lt_or_ge bs.length 20 with h20|h20
 ·have f5:(bs.length:Int)<20:=by omega
  have q:=Xh (show Zd bs=1 by unfold Zd;rw [if_pos h20])
  go_wp2_with (fail)
  exact bodyPost_ret (QAz rfl (Qq _ _ _ (by rw [t])) rfl) rfl (by rw [←q.out];exact .no (by rw [q.out];omega) (Ext.sa _ (Nat.le_refl _) E))
 have f5: ¬(bs.length:Int)<20:=by omega
 have u:=Xh (HS.out.ext E);obtain⟨b,a,rfl,g1,-⟩:=HS.out 0 Om;obtain⟨X,a0⟩: ∃x,bt bs 0=x:=⟨_,rfl⟩;have c0:=(u.out.bt 0 Om).1;have lb:=(u.out.bt 0 Om).2;rw [Nat.add_zero,a0]at c0;have b0:=QaI K.out 0;rw [a0]at b0;have e3:=Xh a0;have z0:(0:Int)<bs.length:=by omega
 have hN:X % 16*4=((ipN bs:Nat):Int):=by unfold ipN;rw [a0];omega
 have f6:ipN bs≤60:=by unfold ipN;omega
 obtain⟨N,d8⟩: ∃N,ipN bs=N:=⟨_,rfl⟩;rw [d8]at hN f6;have P:=Xh d8;have k1:IntKind.u8.wrap (X % 16)=X % 16:=by rw [Ye];omega
 have k2:wrap64 (X % 16)=X % 16:=by simp only [wrap64];omega
 have k3:wrap64 ((N:Nat):Int)=(N:Nat):=by simp only [wrap64];omega
 clear a0 d8
 go_upto_region 4 with(fail)
 have HN:=Xh hN;clear hN k1 k2
 cases t2:(X/16==4)
 ·have q:=Xh (show Zd bs=2 by unfold Zd;rw [if_neg Om,if_pos (by rw [e3.out];simpa using t2)])
  go_wp2_with (fail)
  exact bodyPost_ret (QAz rfl (Qq _ _ _ (by rw [t])) rfl) rfl (by rw [←q.out];exact .no (by rw [q.out];omega) (Ext.sa _ (Nat.le_refl _) E))
 have U:=Xh (show ¬bt bs 0/16≠4 by rw [e3.out];simpa using t2)
 by_cases t3:N<20
 ·have f7:(N:Int)<20:=by omega
  have q:=Xh (show Zd bs=3 by unfold Zd;rw [if_neg Om,if_neg U.out,P.out,if_pos (.inl t3)])
  go_wp2_with (fail)
  exact bodyPost_ret (QAz rfl (Qq _ _ _ (by rw [t])) rfl) rfl (by rw [←q.out];exact .no (by rw [q.out];omega) (Ext.sa _ (Nat.le_refl _) E))
 have f7: ¬(N:Int)<20:=by omega
 by_cases t4:bs.length<N
 ·have f8:(bs.length:Int)<N:=by omega
  have q:=Xh (show Zd bs=3 by unfold Zd;rw [if_neg Om,if_neg U.out,P.out,if_pos (.inr t4)])
  go_wp2_with (fail)
  exact bodyPost_ret (QAz rfl (Qq _ _ _ (by rw [t])) rfl) rfl (by rw [←q.out];exact .no (by rw [q.out];omega) (Ext.sa _ (Nat.le_refl _) E))
 have f8: ¬(bs.length:Int)<N:=by omega
 have U3:=Xh (show ¬(ipN bs<20∨bs.length<ipN bs)by rw [P.out];omega);obtain⟨v2,f1⟩: ∃v,w16 bs 2=v:=⟨_,rfl⟩;have a1:=Xh f1
 go_upto_region 8 with(fail)
 clear f1 t2 c0 lb;have q4:(4:Int)≤c:=by omega
 have q2: ¬c=2:=by omega
 cases t5:(v2==(bs.length:Int))
 ·have q:=Xh (show Zd bs=4 by unfold Zd;rw [if_neg Om,if_neg U.out,if_neg U3.out,if_pos (by rw [a1.out];simpa using t5)])
  go_wp2_with ((go_at_call 147;(with_reducible refine(numw u.out K.out 2 _ Om).mono ?_);rw [a1.out];rintro e H ⟨rfl,i⟩;have t:=Zc i o t;have G:=Qao i o G;have o:=Xl o i.size;have E:=E.tr i;have u:=Xh (u.out.ext i)))
  exact bodyPost_ret (QAz rfl (Qq _ _ _ (by rw [t])) rfl) rfl (by rw [←q.out];exact .no (by rw [q.out];omega) (Ext.sa _ (Nat.le_refl _) E))
 have U4:=Xh (show ¬w16 bs 2≠bs.length by rw [a1.out];simpa using t5)
 go_upto_region 10 with(go_at_call 147;(refine(numw u.out K.out 2 _ Om).mono ?_);rw [a1.out];rintro e H ⟨rfl,i⟩;have t:=Zc i o t;have G:=Qao i o G;have o:=Xl o i.size;have E:=E.tr i;have u:=Xh (u.out.ext i))
 have e4:=Xh (show SlB H (some ⟨b,a,none⟩) (bs.take N)from u.out.take N);have a2:(bs.take N).length=N:=by rw [List.length_take];omega
 have d7:=Xh (fun W (hE:Ext H W)=>(show Cr 148 #[.slice (some ⟨b,a,none⟩) N c] W (.int .i64 (Z5 (QaU (bs.take N)))) by
  have:=QAW (some ⟨b,a,none⟩) (bs.take N) c W (e4.out.ext hE) (K.out.take N) Om Om
  rwa [a2]at this))
 clear a2 t5;have q7:(N:Int)≤bs.length:=by omega
 have q8:(N:Int)≤c:=by omega
 have g2:(12:Int)≤c:=by omega
 have g3: ¬c=10:=by omega
 obtain⟨f2,d9⟩: ∃v,w16 bs 10=v:=⟨_,rfl⟩
 have e5:=Xh (fun W (hE:Ext H W)=>(show Cr 147 #[.slice (some ⟨b,a+10,none⟩) 2 (c- 10)] W (.int .i64 f2) by
  rw [←d9];exact numw (u.out.ext hE) K.out 10 _ Om))
 have e6:=Xh d9;obtain⟨ck,e0⟩: ∃v,Z5 (QaU (bs.take N))=v:=⟨_,rfl⟩;rw [e0]at d7;have e7:=Xh e0;clear d9 e0;refine Qk Kr Kr ?_;(repeat(go_big_quiet_step (first|(go_at_call 147;exact Zo (e5.out _ (Qt _)))|(go_at_call 148;exact Zo (d7.out _ (Qt _))))));refine wpQuiet_nil ?_;intro d
 have i:=Qt d;have t:=Zc i o t;have G:=Qao i o G;have o:=Xl o i.size;have E:=E.tr i;have u:=Xh (u.out.ext i);generalize later d=WL at*
 cases t6:(f2==ck)
 ·have q:=Xh (show Zd bs=5 by unfold Zd;rw [if_neg Om,if_neg U.out,if_neg U3.out,if_neg U4.out,P.out,if_pos (by rw [e6.out,e7.out];simpa using t6)])
  go_wp2_with (fail)
  exact bodyPost_ret (QAz rfl (Qq _ _ _ (by rw [t])) rfl) rfl (by rw [←q.out];exact .no (by rw [q.out];omega) (Ext.sa _ (Nat.le_refl _) E))
 have U5:=Xh (show ¬w16 bs 10≠Z5 (QaU (bs.take (ipN bs)))by rw [P.out,e6.out,e7.out];simpa using t6);obtain⟨v6,f3⟩: ∃v,w16 bs 6=v:=⟨_,rfl⟩;have a3:=Xh f3
 go_upto_region 12 with(fail)
 have q9:(8:Int)≤c:=by omega
 have q6: ¬c=6:=by omega
 clear t6 f3 d7 e5 e4
 cases t7:(v6 !=0)
 all_goals cases t8:(v6 !=16384)
 case true.true=>
  have q:=Xh (show Zd bs=6 by
   unfold Zd;rw [if_neg Om,if_neg U.out,if_neg U3.out,if_neg U4.out,if_neg U5.out,a3.out,if_pos]
   exact⟨by simpa using t7,by simpa using t8⟩)
  go_wp2_with ((go_at_call 147;(with_reducible refine(numw u.out K.out 6 _ Om).mono ?_);rw [a3.out];rintro e H ⟨rfl,i⟩;have t:=Zc i o t;have G:=Qao i o G;have o:=Xl o i.size;have E:=E.tr i;have u:=Xh (u.out.ext i)))
  exact bodyPost_ret (QAz rfl (Qq _ _ _ (by rw [t])) rfl) rfl (by rw [←q.out];exact .no (by rw [q.out];omega) (Ext.sa _ (Nat.le_refl _) E))
 all_goals
  have q:=Xh (show Zd bs=0 by
   unfold Zd;rw [if_neg Om,if_neg U.out,if_neg U3.out,if_neg U4.out,if_neg U5.out,a3.out,if_neg];rintro⟨h1,h2⟩
   first|(exact h1 (by simpa using t7))|(exact h2 (by simpa using t8)))
  go_upto_region 14 with(go_at_call 147;(refine(numw u.out K.out 6 _ Om).mono ?_);rw [a3.out];rintro e H ⟨rfl,i⟩;have t:=Zc i o t;have G:=Qao i o G;have o:=Xl o i.size;have E:=E.tr i;have u:=Xh (u.out.ext i))
  clear t7 t8 HS;have hC: ¬(fun k=>w.heap.size≤k) b:=Nat.not_le_of_lt g1;have s:=u.out;have n:RowZ H w.heap.size QoW:=⟨t,G,o⟩;have L:=K.out;clear u t G o i;obtain⟨lo,I⟩: ∃lo,H.heap.size=lo:=⟨_,rfl⟩;have M:lo≤H.drew.heap.size:=by rw [←I];exact Nat.le_refl _
  have g4:w.heap.size<lo:=by rw [←I];exact n.l
  have Q:SlB H.drew (some ⟨b,a,none⟩) bs:=s.ext (Ext.dr (Ext.rf _))
  refine Qa7 [(0,63,eqA (.slice (some ⟨b,a,none⟩) bs.length c)),(1,64,eqA (.pointer (some ⟨b,a+1,none⟩))),(2,65,eqA (.int .u8 (bt bs 1))),(3,66,eqA (.slice (some ⟨b,a,none⟩) bs.length c)),(4,67,eqA (.slice (some ⟨b,a+4,none⟩) 2 (c- 4))),(5,68,eqA (.int .i64 (w16 bs 4))),(6,69,eqA (.int .u16 (w16 bs 4))),(7,70,eqA (.slice (some ⟨b,a,none⟩) bs.length c)),(8,71,eqA (.slice (some ⟨b,a+6,none⟩) 2 (c- 6))),(9,72,eqA (.int .i64 (w16 bs 6))),(10,73,eqA (.int .u16 (w16 bs 6))),(11,74,eqA (.slice (some ⟨b,a,none⟩) bs.length c)),(12,75,eqA (.pointer (some ⟨b,a+8,none⟩))),(13,76,eqA (.int .u8 (bt bs 8))),(14,77,eqA (.slice (some ⟨b,a,none⟩) bs.length c)),(15,78,eqA (.pointer (some ⟨b,a+9,none⟩))),(16,79,eqA (.int .u8 (bt bs 9))),(17,80,eqA (.slice (some ⟨b,a,none⟩) bs.length c)),(18,81,eqA (.slice (some ⟨b,a+12,none⟩) 4 (c- 12))),(19,82,eqA (.int .i64 (w16 bs 12*65536+w16 bs 14))),(20,83,eqA (.int .u32 (w16 bs 12*65536+w16 bs 14))),(21,84,eqA (.slice (some ⟨b,a,none⟩) bs.length c)),(22,85,eqA (.slice (some ⟨b,a+16,none⟩) 4 (c- 16))),(23,86,eqA (.int .i64 (w16 bs 16*65536+w16 bs 18))),(24,87,eqA (.int .u32 (w16 bs 16*65536+w16 bs 18))),(25,88,eqA (.agg #[.int .u8 (bt bs 1),.int .u16 (w16 bs 4),.int .u16 (w16 bs 6),.int .u8 (bt bs 8),.int .u8 (bt bs 9),.int .u32 (w16 bs 12*65536+w16 bs 14),.int .u32 (w16 bs 16*65536+w16 bs 18),.slice none 0 0,.slice none 0 0])),(26,5,fun w v=> ∃B,v= .pointer (some ⟨B,0,none⟩)∧lo≤B∧RowZ w B #[.int .u8 0,.int .u16 0,.int .u16 0,.int .u8 0,.int .u8 0,.int .u32 0,.int .u32 0,.slice none 0 0,.slice none 0 0])] 27 28 1 134217727 rfl Dc Kr ⟨rfl,(by show List.Nodup [63,64,65,66,67,68,69,70,71,72,73,74,75,76,77,78,79,80,81,82,83,84,85,86,87,88,5];decide),rfl,Om,rfl,Kr,Kr,⟨QQ _,QQ _,QQ _,QQ _,QQ _,QQ _,QQ _,QQ _,QQ _,QQ _,QQ _,QQ _,QQ _,QQ _,QQ _,QQ _,QQ _,QQ _,QQ _,QQ _,QQ _,QQ _,QQ _,QQ _,QQ _,QQ _,QAN _ _,trivial⟩,⟨dsA fun ρ w hd hc hfn hf E=> .eq (mvA (hf 0 rfl)),
  dsA fun ρ w hd hc hfn hf E=> .eq (ixA 1 Om (hd 0 Kr) (hc _)),
  dsA fun ρ w hd hc hfn hf E=> .eq (QA3 Q E 1 Om (hd 1 Kr)),
  dsA fun ρ w hd hc hfn hf E=> .eq (mvA (hf 0 rfl)),
  dsA fun ρ w hd hc hfn hf E=> .eq (slA 4 2 Om Om (hd 3 Kr) (hc _) (hc _)),
  dsA fun ρ w hd hc hfn hf E=>c1A hfn (hd 4 Kr) (eqC (numw (Q.ext E) L 4 _ Om)) QAy,
  dsA fun ρ w hd hc hfn hf E=> .eq (QBc (Z2 L 4) (hd 5 Kr)),
  dsA fun ρ w hd hc hfn hf E=> .eq (mvA (hf 0 rfl)),
  dsA fun ρ w hd hc hfn hf E=> .eq (slA 6 2 Om Om (hd 7 Kr) (hc _) (hc _)),
  dsA fun ρ w hd hc hfn hf E=>c1A hfn (hd 8 Kr) (eqC (numw (Q.ext E) L 6 _ Om)) QAy,
  dsA fun ρ w hd hc hfn hf E=> .eq (QBc (Z2 L 6) (hd 9 Kr)),
  dsA fun ρ w hd hc hfn hf E=> .eq (mvA (hf 0 rfl)),
  dsA fun ρ w hd hc hfn hf E=> .eq (ixA 8 Om (hd 11 Kr) (hc _)),
  dsA fun ρ w hd hc hfn hf E=> .eq (QA3 Q E 8 Om (hd 12 Kr)),
  dsA fun ρ w hd hc hfn hf E=> .eq (mvA (hf 0 rfl)),
  dsA fun ρ w hd hc hfn hf E=> .eq (ixA 9 Om (hd 14 Kr) (hc _)),
  dsA fun ρ w hd hc hfn hf E=> .eq (QA3 Q E 9 Om (hd 15 Kr)),
  dsA fun ρ w hd hc hfn hf E=> .eq (mvA (hf 0 rfl)),
  dsA fun ρ w hd hc hfn hf E=> .eq (slA 12 4 Om Om (hd 17 Kr) (hc _) (hc _)),
  dsA fun ρ w hd hc hfn hf E=>c1A hfn (hd 18 Kr) (eqC (QBT (Q.ext E) L 12 _ Om)) QAy,
  dsA fun ρ w hd hc hfn hf E=> .eq (QBP (QBd L 12) (hd 19 Kr)),
  dsA fun ρ w hd hc hfn hf E=> .eq (mvA (hf 0 rfl)),
  dsA fun ρ w hd hc hfn hf E=> .eq (slA 16 4 Om Om (hd 21 Kr) (hc _) (hc _)),
  dsA fun ρ w hd hc hfn hf E=>c1A hfn (hd 22 Kr) (eqC (QBT (Q.ext E) L 16 _ Om)) QAy,
  dsA fun ρ w hd hc hfn hf E=> .eq (QBP (QBd L 16) (hd 23 Kr)),
  dsA fun ρ w hd hc hfn hf E=> .eq (bdA (.cons (hd 2 Kr)<| .cons (hd 6 Kr)<| .cons (hd 10 Kr)<| .cons (hd 13 Kr)<| .cons (hd 16 Kr)<| .cons (hd 20 Kr)<| .cons (hd 24 Kr) .nil)),
  dsA fun ρ w hd hc hfn hf E=>bxA (Xt M E.size),trivial⟩⟩ ?_
  intro val WN EN hall;obtain⟨a5,a6,a7,a8,a9,b2,b3,b4,b5,b6,b7,b8,b9,c1,c2,c3,c4,c5,c6,c7,c8,c9,d0,d1,d2,d3,d4,-⟩:=hall
  replace a5:val 63= .slice (some ⟨b,a,none⟩) bs.length c:=a5
  replace a6:val 64= .pointer (some ⟨b,a+1,none⟩):=a6
  replace a7:val 65= .int .u8 (bt bs 1):=a7
  replace a8:val 66= .slice (some ⟨b,a,none⟩) bs.length c:=a8
  replace a9:val 67= .slice (some ⟨b,a+4,none⟩) 2 (c- 4):=a9
  obtain b2:=b2
  replace b3:val 69= .int .u16 (w16 bs 4):=b3
  replace b4:val 70= .slice (some ⟨b,a,none⟩) bs.length c:=b4
  replace b5:val 71= .slice (some ⟨b,a+6,none⟩) 2 (c- 6):=b5
  obtain b6:=b6
  replace b7:val 73= .int .u16 (w16 bs 6):=b7
  replace b8:val 74= .slice (some ⟨b,a,none⟩) bs.length c:=b8
  replace b9:val 75= .pointer (some ⟨b,a+8,none⟩):=b9
  replace c1:val 76= .int .u8 (bt bs 8):=c1
  replace c2:val 77= .slice (some ⟨b,a,none⟩) bs.length c:=c2
  replace c3:val 78= .pointer (some ⟨b,a+9,none⟩):=c3
  replace c4:val 79= .int .u8 (bt bs 9):=c4
  replace c5:val 80= .slice (some ⟨b,a,none⟩) bs.length c:=c5
  replace c6:val 81= .slice (some ⟨b,a+12,none⟩) 4 (c- 12):=c6
  obtain c7:=c7
  replace c8:val 83= .int .u32 (w16 bs 12*65536+w16 bs 14):=c8
  replace c9:val 84= .slice (some ⟨b,a,none⟩) bs.length c:=c9
  replace d0:val 85= .slice (some ⟨b,a+16,none⟩) 4 (c- 16):=d0
  obtain d1:=d1
  replace d2:val 87= .int .u32 (w16 bs 16*65536+w16 bs 18):=d2
  replace d3:val 88= .agg #[.int .u8 (bt bs 1),.int .u16 (w16 bs 4),.int .u16 (w16 bs 6),.int .u8 (bt bs 8),.int .u8 (bt bs 9),.int .u32 (w16 bs 12*65536+w16 bs 14),.int .u32 (w16 bs 16*65536+w16 bs 18),.slice none 0 0,.slice none 0 0]:=d3
  obtain⟨B,d4,hB,f⟩:=d4;simp only [List.foldl_cons,List.foldl_nil,a5,a6,a7,a8,a9,b2,b3,b4,b5,b6,b7,b8,b9,c1,c2,c3,c4,c5,c6,c7,c8,c9,d0,d1,d2,d3,d4];clear a5 a6 a7 a8 a9 b2 b3 b4 b5 b6 b7 b8 b9 c1 c2 c3 c4 c5 c6 c7 c8 c9 d0 d1 d2 d3 d4;have g5:w.heap.size<B:=by omega
  refine QiO (C:=fun k=>k=B) ?_;refine QaO (k:=27) (N:=28) (m:=134217727) Kr (Qan (m':=268435455) rfl rfl Kr (QoX (B:=B) (cs:=#[.int .u8 (bt bs 1),.int .u16 (w16 bs 4),.int .u16 (w16 bs 6),.int .u8 (bt bs 8),.int .u8 (bt bs 9),.int .u32 (w16 bs 12*65536+w16 bs 14),.int .u32 (w16 bs 16*65536+w16 bs 18),.slice none 0 0,.slice none 0 0]) (by rw [f.r];rfl) f.z rfl (by simp [go_sem]) Kr Kr) (Mv.sa _ rfl (Mv.refl _ _)) ?_);refine doneK (listed:=msk 28 268435455) Kr ?_;have E:=E.tr EN;have s:=s.ext EN;have n:=n.ext EN;obtain⟨O,y⟩: ∃O,Qe WN B 0 #[.int .u8 (bt bs 1),.int .u16 (w16 bs 4),.int .u16 (w16 bs 6),.int .u8 (bt bs 8),.int .u8 (bt bs 9),.int .u32 (w16 bs 12*65536+w16 bs 14),.int .u32 (w16 bs 16*65536+w16 bs 18),.slice none 0 0,.slice none 0 0]=O:=⟨_,rfl⟩;have m2:Mv (fun k=>k=B) WN O:=by rw [←y];exact Mv.sa _ rfl (Mv.refl _ _)
  have f:RowZ O B #[.int .u8 (bt bs 1),.int .u16 (w16 bs 4),.int .u16 (w16 bs 6),.int .u8 (bt bs 8),.int .u8 (bt bs 9),.int .u32 (w16 bs 12*65536+w16 bs 14),.int .u32 (w16 bs 16*65536+w16 bs 18),.slice none 0 0,.slice none 0 0]:=by rw [←y];exact f.all _ rfl
  have E:Ext w O:=Mv.ext_of E m2 (fun k e=>by omega);have s:=s.mv m2 Om;have n:=n.mv m2 Om;rw [y];clear y m2 EN M I;go_simp
  go_upto_region 15 with(fail)
  have a2:((bs.take N).drop 20).length=N- 20:=by rw [List.length_drop,List.length_take];omega
  have f9:(bs.drop N).length=bs.length- N:=List.length_drop;have e8:=Xh (fun W (s:SlB W (some ⟨b,a,none⟩) bs)=>QAP (m:=c- 20) 20 ((s.take N).cut (c:=c) 20 (by rw [List.length_take];omega)) a2.symm);have e9:=Xh (fun W (s:SlB W (some ⟨b,a,none⟩) bs)=>QAP (m:=c- N) N (s.cut N hlc) f9.symm);obtain⟨lo,I⟩: ∃lo,O.heap.size=lo:=⟨_,rfl⟩;have g0:B<lo:=by rw [←I];exact f.l
  refine Qy (fun k=>lo≤k) (fun k=>w.heap.size≤k) 7 Kr ?_;obtain⟨WA,y⟩: ∃Wdr,World.drew O=Wdr:=⟨_,rfl⟩;have D:Ext O WA:=by rw [←y];exact Ext.dr (Ext.rf _)
  rw [y];clear y;have E:=E.tr D;have s:=s.ext D;have f:=f.ext D;have n:=n.ext D;have M:lo≤WA.heap.size:=by rw [←I];exact D.size
  refine Zi (N:=8) (R:=QBe) (E:=((Tryz.f81.body.bind (Qh 15)).getD #[])) Kr QAX Kr fun hS=> ?_;have j:=hS.2.1;refine tWk 1 (.pointer (some ⟨B,7,none⟩)) hS.1 j rfl fun j=> ?_;refine ZD (N:=8) (k:=1) (m':=3) (v:= .slice none 0 0) hS.1 j hS.2.2.2.2.2.2 rfl rfl Kr (JY (f.cell 7 (by show 7<9;omega)) f.l Om Kr) fun j=>tWk 7 (.slice (some ⟨b,a,none⟩) bs.length c) hS.1 j rfl fun j=>tWk 15 (.int .i64 (N:Nat)) hS.1 j rfl fun j=>tW 31 (.slice (ZF b a c 20) (N- 20) (c- 20)) hS.1 j rfl (fun w' _=>QoV (lo:=20) (hi:=N) (m:=bs.length) Om Om _ _ _ _ _ _ _ _ _ Kr Kr Kr w') fun j=> ?_;refine Qr hS.2.2.1 (Qma (m':=63) (base:=lo) (b1:= []) rfl rfl Kr Kr (OB.zero _ _) (e8.out _ s) (by simp<;>omega) M (fun k hk=>by omega) ?_);intro vo e1 A J;have E:=Mv.ext_of (C:=fun k=>lo≤k) E J (fun k hk=>by omega);have s:=s.mv J Om;have f:=f.mv J Om;have n:=n.mv J Om;have a4:=Ext.rf e1;have E:=E.tr a4;have s:=s.ext a4;have f:=f.ext a4;have n:=n.ext a4;have j:=hS.2.2.2.1;refine tWk 127 (.pointer (some ⟨B,7,none⟩)) hS.1 j rfl fun j=> ?_;refine Qr hS.2.2.2.2.1 (QE (m':=255) rfl rfl Kr (QeA (v:=vo) (f.cell 7 (by show 7<9;omega)) (f.frz 7) (Qa3 A) Kr Kr) ⟨.inl Dc,(Mv.st _ (.inl Om) (Mv.refl _ _))⟩ ?_);obtain⟨T,d5⟩: ∃T,World.setCell e1 ⟨B,7,none⟩ (vo)=T:=⟨_,rfl⟩;have F:Mv (fun k=>k=B) e1 T:=by rw [←d5];exact Mv.st _ (.inl rfl) (Mv.refl _ _)
  have E:=Mv.ext_of E F (fun k e=>by omega);have s:=s.mv F Om;have n:=n.mv F Om;have f:RowZ T B #[.int .u8 (bt bs 1),.int .u16 (w16 bs 4),.int .u16 (w16 bs 6),.int .u8 (bt bs 8),.int .u8 (bt bs 9),.int .u32 (w16 bs 12*65536+w16 bs 14),.int .u32 (w16 bs 16*65536+w16 bs 18),vo,.slice none 0 0]:=by rw [←d5];exact f.set 7 _
  have A:=A.mvx F (fun k hk e=>by omega);rw [d5];clear d5;refine QZ hS.2.2.2.2.2.1 ?_;clear hS j M I;go_simp
  go_upto_region 16 with(fail)
  rw [List.nil_append]at A;obtain⟨l1,f4⟩: ∃l,lo=l:=⟨_,rfl⟩;rw [f4]at A g0;clear f4 e8 D;obtain⟨lo,I⟩: ∃lo,T.heap.size=lo:=⟨_,rfl⟩;have f0: ∀g,vo.ownBlock=some g→l1≤g∧g<lo:=fun g e=>⟨Qi A g e,by rw [←I];exact QlV A g e⟩;have g6:B<lo:=by rw [←I];exact f.l
  refine Qy (fun k=>lo≤k) (fun k=>w.heap.size≤k) 7 Kr ?_;obtain⟨H,y⟩: ∃Wdr,World.drew T=Wdr:=⟨_,rfl⟩;have D:Ext T H:=by rw [←y];exact Ext.dr (Ext.rf _)
  rw [y];clear y;have E:=E.tr D;have s:=s.ext D;have f:=f.ext D;have n:=n.ext D;have A:=A.ext D;have M:lo≤H.heap.size:=by rw [←I];exact D.size
  refine Zi (N:=8) (R:=QBf) (E:=((Tryz.f81.body.bind (Qh 16)).getD #[])) Kr QAY Kr fun hS=> ?_;have j:=hS.2.1;refine tWk 1 (.pointer (some ⟨B,8,none⟩)) hS.1 j rfl fun j=> ?_;refine ZD (N:=8) (k:=1) (m':=3) (v:= .slice none 0 0) hS.1 j hS.2.2.2.2.2.2 rfl rfl Kr (JY (f.cell 8 (by show 8<9;omega)) f.l Om Kr) fun j=>tWk 7 (.slice (some ⟨b,a,none⟩) bs.length c) hS.1 j rfl fun j=>tWk 15 (.int .i64 (N:Nat)) hS.1 j rfl fun j=>tW 31 (.slice (ZF b a c N) (bs.length- N) (c- N)) hS.1 j rfl (fun w' _=>QaV (lo:=N) (m:=bs.length) Om Om _ _ _ _ _ _ _ _ Kr Kr w') fun j=> ?_;refine Qr hS.2.2.1 (Qma (m':=63) (base:=lo) (b1:= []) rfl rfl Kr Kr (OB.zero _ _) (e9.out _ s) (by simp<;>omega) M (fun k hk=>by omega) ?_);intro vp e2 S J;have E:=Mv.ext_of (C:=fun k=>lo≤k) E J (fun k hk=>by omega);have s:=s.mv J Om;have f:=f.mv J Om;have n:=n.mv J Om;have A:=QeR A J (fun g e=>by have:=f0 g e;omega);have Z:=Ext.rf e2;have E:=E.tr Z;have s:=s.ext Z;have f:=f.ext Z;have n:=n.ext Z;have A:=A.ext Z;have j:=hS.2.2.2.1;refine tWk 127 (.pointer (some ⟨B,8,none⟩)) hS.1 j rfl fun j=> ?_;refine Qr hS.2.2.2.2.1 (QE (m':=255) rfl rfl Kr (QeA (v:=vp) (f.cell 8 (by show 8<9;omega)) (f.frz 8) (Qa3 S) Kr Kr) ⟨.inl Dc,(Mv.st _ (.inl Om) (Mv.refl _ _))⟩ ?_);obtain⟨Y,d6⟩: ∃Y,World.setCell e2 ⟨B,8,none⟩ (vp)=Y:=⟨_,rfl⟩;have F:Mv (fun k=>k=B) e2 Y:=by rw [←d6];exact Mv.st _ (.inl rfl) (Mv.refl _ _)
  have E:=Mv.ext_of E F (fun k e=>by omega);have s:=s.mv F Om;have n:=n.mv F Om;have f:RowZ Y B #[.int .u8 (bt bs 1),.int .u16 (w16 bs 4),.int .u16 (w16 bs 6),.int .u8 (bt bs 8),.int .u8 (bt bs 9),.int .u32 (w16 bs 12*65536+w16 bs 14),.int .u32 (w16 bs 16*65536+w16 bs 18),vo,vp]:=by rw [←d6];exact f.set 8 _
  have A:=A.mvx F (fun k hk e=>by omega);have S:=S.mvx F (fun k hk e=>by omega);rw [d6];clear d6;refine QZ hS.2.2.2.2.2.1 ?_;clear hS j M I;go_simp
  go_upto_region 17 with(fail)
  rw [List.nil_append]at S;have t:=n.r;have G:=n.z;have g7:=f.r;have v1:vo.oneCell'=true:=by obtain⟨_,_,_,h⟩:=Qa3 A;rw [h];rfl
  have v2:vp.oneCell'=true:=by obtain⟨_,_,_,h⟩:=Qa3 S;rw [h];rfl
  have HE:=Xh E;have o1:=Xh A;have o2:=Xh S;clear s hC D E A S f0 e9;go_wp2;have F:Mv (fun k=>k=w.heap.size) Y (Qe Y w.heap.size 0 #[.int .u8 (bt bs 1),.int .u16 (w16 bs 4),.int .u16 (w16 bs 6),.int .u8 (bt bs 8),.int .u8 (bt bs 9),.int .u32 (w16 bs 12*65536+w16 bs 14),.int .u32 (w16 bs 16*65536+w16 bs 18),vo,vp]):=Mv.sa _ rfl (Mv.refl _ _);refine bodyPost_ret (QAz rfl (Qq _ _ _ (by rw [t];rfl)) rfl) rfl ?_;have h1:=o1.out.mvx F (fun k hk e=>by omega);have h2:=o2.out.mvx F (fun k hk e=>by omega);exact QlF.yes (bs:=bs) (vo:=vo) (vp:=vp) q.out (Mv.ext_of HE.out F (fun k e=>by rw [e];exact Nat.le_refl _)) (by unfold ipH;rw [P.out];exact h1.le Om) (by unfold ipH;rw [P.out];exact h2.le Om)
theorem Qbd(n:Int)(w:World):Calls Tryz.prog 231 #[.int .i64 n] w fun e w'=> ∃v,e= .returned v∧Z8 w w' v (Ju n):=by
 have a:IntKind.u8.wrap (n/256)=n/256 % 256:=Ye _;have b:IntKind.u8.wrap n=n % 256:=Ye _
 go_enter Tryz.func231,Tryz.ntmps231
 go_wp2;go_ret;exact⟨_,rfl,OB.lit w w.heap.size (Ju n) 2 rfl (Nat.le_refl _) (by rw [JG];omega),Ext.al (Ext.rf _) _⟩
theorem Qbe(n:Int):Ju (n % 65536)=Ju n:=by
 unfold Ju;rw [show n % 65536/256 % 256=n/256 % 256 by omega,show n % 65536 % 256=n % 256 by omega]
theorem QkB(src dst n:Int):Ju (src/65536)++Ju src++Ju (dst/65536)++Ju dst++ [0,6]++Ju n=Z4 src dst n:=by
 have h: ∀(x:Int) (l:List Int),Yz (x::l)=Ju x++Yz l:=fun _ _=>rfl;unfold Z4 psN;rw [h,h,h,h,h,h,Qbe,Qbe,Qbe,Qbe,Qbe];simp [Yz,Ju]
theorem QiV(src dst n:Int)(h0:0≤src∧src<4294967296)(h1:0≤dst∧dst<4294967296)(w:World):Calls Tryz.prog 206 #[.int .u32 src,.int .u32 dst,.int .i64 n] w fun e w'=> ∃v,e= .returned v∧Z8 w w' v (Z4 src dst n):=by
 have s:wrap64 (src/65536)=src/65536:=by simp only [wrap64];omega
 have t:wrap64 src=src:=by simp only [wrap64];omega
 have u:wrap64 (dst/65536)=dst/65536:=by simp only [wrap64];omega
 have x:wrap64 dst=dst:=by simp only [wrap64];omega
 have h:=Xh (Qbd (src/65536));have i:=Xh (Qbd src);have j:=Xh (Qbd (dst/65536));have l:=Xh (Qbd dst);have m:=Xh (Qbd n);clear h0 h1
 go_enter Tryz.func206,Tryz.ntmps206
 go_wp2_with (first|(go_at_call 231;first|((with_reducible refine(h.out _).mono ?_);rintro e p ⟨q,rfl,b⟩;have c:=Xh b.own;have a:=Xh b.ext;clear b)|((first|(with_reducible refine(i.out _).mono ?_)|(with_reducible refine(j.out _).mono ?_)|(with_reducible refine(l.out _).mono ?_)|(with_reducible refine(m.out _).mono ?_));rintro e p ⟨q,rfl,b⟩;have c:=Xh (c.out.ext b.ext);have a:=Xh (a.out.tr b.ext);have o:=Xh (QaE.of_ob b.own);clear b))|(at_builtin;refine listA (base:=w.heap.size) c.out o.out (by simp<;>omega) a.out.size rfl rfl ?_;intro g r d f;have a:=Xh (Mv.ext_of a.out f (fun k hk=>hk));have c:=Xh d;clear d f)|(at_builtin;refine listA (base:=w.heap.size) (c.out.ext Ea) (QaE.of_ob (OB.lit _ w.heap.size [0,6] 2 rfl a.out.size (by simp))) (by simp<;>omega) (Xt a.out.size Ea.size) rfl rfl ?_;intro g r d f;have a:=Xh (Mv.ext_of (Ext.al a.out _) f (fun k hk=>hk));have c:=Xh d;clear d f))
 go_ret;exact⟨g,rfl,by rw [←QkB];exact c.out,a.out⟩
section
variable {ρ:Operand→Value} {dst:Option Tmp} {ty r:TypeId} {pos:String} {after:Array Edge} {g:Option (Nat×Bool)} {x y:Operand} {n m:Int}
theorem QBg(h0:0≤n∧n<256)(hx:ρ x= .int .u8 n)(w:World):(execOp ρ ⟨dst,.convert 5 3 x,ty,pos,after,g⟩).run Tryz.prog w= .ok (.value (.int .i64 n)) w:=by
 have e:IntKind.i64.wrap n=n:=by rw [IntKind.wrap_i64];omega
 simp only [execOp,hx];go_simp
theorem QBQ(h0:0≤n∧n<256)(hx:ρ x= .int .i64 n)(hy:ρ y= .int .i64 256)(w:World):(execOp ρ ⟨dst,.binOp .mul 3 x y r,ty,pos,after,g⟩).run Tryz.prog w= .ok (.value (.int .i64 (n*256))) w:=by
 have e:IntKind.i64.wrap (n*256)=n*256:=by rw [IntKind.wrap_i64];omega
 simp only [execOp,hx,hy];go_simp
theorem QBR{k:Nat}(h0:0≤bt bs k∧bt bs k<256)(h1:0≤bt bs (k+1)∧bt bs (k+1)<256)(hx:ρ x= .int .i64 (bt bs k*256))(hy:ρ y= .int .i64 (bt bs (k+1)))(w:World):(execOp ρ ⟨dst,.binOp .add 3 x y r,ty,pos,after,g⟩).run Tryz.prog w= .ok (.value (.int .i64 (w16 bs k))) w:=by
 have e:IntKind.i64.wrap (bt bs k*256+bt bs (k+1))=bt bs k*256+bt bs (k+1):=by rw [IntKind.wrap_i64];omega
 unfold w16;simp only [execOp,hx,hy];go_simp
theorem QBh(w:World):(execOp ρ ⟨dst,.buildSlice 28 0 #[],ty,pos,after,g⟩).run Tryz.prog w= .ok (.value (.slice (some ⟨w.heap.size,0,none⟩) 0 0)) (w.alloc (.cells #[] 5)):=Kr
end
theorem QAC{tmps:Array Value}{g:Nat}{cs:Array Value}(hp:tmps.getD 6 undef= .pointer (some ⟨g,0,none⟩))(hr:Qc w g=cs)(hc:cs.size=5):
  (results Tryz.f85 tmps).run Tryz.prog w= .ok (.tuple #[.agg cs,tmps.getD 7 undef]) w:=
 QL rfl tmps w g hp (by
  rw [QjE (by rw [hr,hc];omega),hr]
  rw [show cs.extract 0 (0+5)=cs by rw [Nat.zero_add,←hc];simp])
theorem QAZ(src dst:Int)(h0:0≤src∧src<4294967296)(h1:0≤dst∧dst<4294967296)(p:Option Addr)(bs:List Int)(c:Nat)(w:World)(hs:SlB w p bs)(hr:ByR bs)(hl:bs.length≤1000)(hpc:p=none→c=0):
  Cr 156 #[.int .u32 src,.int .u32 dst,.slice p bs.length c] w (.bool (Qb4 (Z4 src dst bs.length++bs)==65535)):=by
 have g:=Xh (fun W (E:Ext w W)=>QaE.of_slb (c:=c) (hs.ext E) hpc);have i:=Xh (QiV src dst bs.length h0 h1);have j:=Xh (ByR.app (QfW src dst bs.length) hr);have l:=Xh (show(Z4 src dst bs.length++bs).length≤2000 by rw [List.length_append,Jd];omega);clear hs hr h0 h1
 go_enter Tryz.func156,Tryz.ntmps156
 go_wp2_with (first|(go_at_call 206;(with_reducible refine(i.out _).mono ?_);rintro e r ⟨s,rfl,a⟩)|(at_builtin;refine listA (base:=w.heap.size) a.own (g.out _ a.ext) (by rw [Jd];omega) a.ext.size rfl rfl ?_;intro t u b d;obtain⟨v,o,rfl,-,f⟩:=b.slb;have m:=Xh (by have h:=QAV _ _ o _ f j.out (by have:=l.out;omega);rwa [List.length_append]at h);have n:=Xh (Mv.ext_of a.ext d (fun k hk=>hk));clear a b d f)|(go_at_call 205;(with_reducible refine m.out.mono ?_);rintro e x ⟨rfl,q⟩))
 go_ret;exact⟨rfl,n.out.tr q⟩
def QBx(ops:Array Oper):Prop:=Region.noSelect ops=true∧Qo ops 34 [0,1,2,3,4,5,6,7,8,9,10,11,12,13] 0=true∧Qo ops 34 [14,15,16,17,18,19,20,21,22,23,24,25,27,28] 16383=true∧Qo ops 34 [29] 469762047=true∧Rd ops 34 1006632959 [26]∧Rd ops 34 1073741823 [30]∧Qo ops 34 [31] 2147483647=true∧Rd ops 34 4294967295 [32]∧Qo ops 34 [33] 8589934591=true∧Rd ops 34 17179869183 []
theorem QA4:QBx ((Tryz.f85.body.bind (Qh 8)).getD #[]):=⟨Kr,Kr,Kr,Kr,Rk,Rk,Kr,Rk,Kr,Rk⟩
theorem QAQ(src dst:Int)(h0:0≤src∧src<4294967296)(h1:0≤dst∧dst<4294967296)(p:Option Addr)(bs:List Int)(c:Nat)(w:World)(hs:SlB w p bs)(hr:ByR bs)(hl:bs.length≤1000)(hlc:bs.length≤c):
  Calls Tryz.prog 85 #[.int .u32 src,.int .u32 dst,.slice p bs.length c] w fun e w'=>QlI src dst bs w e w':=by
 have HS:=Xh hs;have U:=Xh hr;have H0:=Xh (And.intro h0 h1);clear hs hr h0 h1
 go_enter Tryz.func85,Tryz.ntmps85
 go_upto_region 1 with(fail)
 obtain⟨D,j⟩: ∃D,w.alloc (.cells #[.int .u16 0,.int .u16 0,.int .u8 0,.int .i64 0,.slice none 0 0] 142)=D:=⟨_,rfl⟩;have E:Ext w D:=by rw [←j];exact Ea
 have d:RowZ D w.heap.size Qo1:=by rw [←j];exact RowZ.new _ _ _
 have i:=d.r;have I:=d.z;have J:=d.l;rw [j];clear j;rcases Nat.lt_or_ge bs.length 20 with h20|h20
 ·have a8:(bs.length:Int)<20:=by omega
  have g:=Xh (show Yn src dst bs=8 by unfold Yn;rw [if_pos h20])
  go_wp2_with (fail)
  exact bodyPost_ret (QAC rfl (Qq _ _ _ (by rw [i];try rfl)) rfl) rfl (by rw [←g.out];exact .no (by rw [g.out];omega) (Ext.sa _ (Nat.le_refl _) E))
 have a8: ¬(bs.length:Int)<20:=by omega
 have b8: ¬(65535:Int)<bs.length:=by omega
 obtain⟨b,f,rfl,b7,-⟩:=HS.out 0 Om;obtain⟨x,O⟩: ∃x,bt bs 12=x:=⟨_,rfl⟩;have s:=HS.out.ext E;have a4:=(s.bt 12 Om).1;have lb:=(s.bt 12 Om).2;rw [O]at a4;have a9:=QaI U.out 12;rw [O]at a9;have b0:(12:Int)<bs.length:=by omega
 have k2:wrap64 (x/16)=x/16:=by simp only [wrap64];omega
 have hN:4*(x/16)=((tcN bs:Nat):Int):=by unfold tcN;rw [O];omega
 have b2:tcN bs≤60:=by unfold tcN;omega
 obtain⟨N,a0⟩: ∃N,tcN bs=N:=⟨_,rfl⟩;rw [a0]at hN b2;have q:=Xh a0;clear O a0
 go_upto_region 4 with(fail)
 clear a4 lb b0 hN k2
 by_cases t3:N<20
 ·have b3:(N:Int)<20:=by omega
  have g:=Xh (show Yn src dst bs=8 by unfold Yn;rw [if_neg Om,q.out,if_pos (.inl t3)])
  go_wp2_with (fail)
  exact bodyPost_ret (QAC rfl (Qq _ _ _ (by rw [i];try rfl)) rfl) rfl (by rw [←g.out];exact .no (by rw [g.out];omega) (Ext.sa _ (Nat.le_refl _) E))
 have b3: ¬(N:Int)<20:=by omega
 by_cases t4:bs.length<N
 ·have b4:(bs.length:Int)<N:=by omega
  have g:=Xh (show Yn src dst bs=8 by unfold Yn;rw [if_neg Om,q.out,if_pos (.inr t4)])
  go_wp2_with (fail)
  exact bodyPost_ret (QAC rfl (Qq _ _ _ (by rw [i];try rfl)) rfl) rfl (by rw [←g.out];exact .no (by rw [g.out];omega) (Ext.sa _ (Nat.le_refl _) E))
 have b4: ¬(bs.length:Int)<N:=by omega
 have U3:=Xh (show ¬(tcN bs<20∨bs.length<tcN bs)by rw [q.out];omega);have K:=Xh (QAZ src dst H0.out.1 H0.out.2 (some ⟨b,f,none⟩) bs c D s U.out hl (fun e=>by cases e));obtain⟨ws,a1⟩: ∃ws,Z4 src dst bs.length++bs=ws:=⟨_,rfl⟩;rw [a1]at K;have a5:=Xh a1;have t:=Xh E;have V:=Xh d;have X:=Xh s;clear a1 i I J s E d
 cases B:(Qb4 ws==65535)
 ·have g:=Xh (show Yn src dst bs=9 by unfold Yn;rw [if_neg Om,if_neg U3.out,a5.out,if_pos (by simpa using B)])
  go_wp2_with ((go_at_call 156;(with_reducible refine K.out.mono ?_);rw [B];rintro e P ⟨rfl,n⟩;have d:=V.out.ext n;have E:=t.out.tr n;have s:=X.out.ext n;have i:=d.r;have I:=d.z;have J:=d.l))
  exact bodyPost_ret (QAC rfl (Qq _ _ _ (by rw [i];try rfl)) rfl) rfl (by rw [←g.out];exact .no (by rw [g.out];omega) (Ext.sa _ (Nat.le_refl _) E))
 have g:=Xh (show Yn src dst bs=0 by unfold Yn;rw [if_neg Om,if_neg U3.out,a5.out,if_neg (by simpa using B)])
 go_upto_region 8 with((go_at_call 156;(with_reducible refine K.out.mono ?_);rw [B];rintro e P ⟨rfl,n⟩;have d:=V.out.ext n;have E:=t.out.tr n;have s:=X.out.ext n;have i:=d.r;have I:=d.z;have J:=d.l))
 have u: ¬(fun k=>w.heap.size≤k) b:=Nat.not_le_of_lt b7;have h:=U.out;have b5:(bs.drop N).length=bs.length- N:=List.length_drop;have b6:=Xh (fun W (s:SlB W (some ⟨b,f,none⟩) bs)=>QAP (m:=c- N) N (s.cut N hlc) b5.symm);clear i I J n B K t V X;obtain⟨lo,a6⟩: ∃lo,P.heap.size=lo:=⟨_,rfl⟩;have b9:w.heap.size<lo:=by rw [←a6];exact d.l
 refine Qy (fun k=>lo≤k) (fun k=>w.heap.size≤k) 32 Kr ?_;obtain⟨o,j⟩: ∃Wdr,World.drew P=Wdr:=⟨_,rfl⟩;have y:Ext P o:=by rw [←j];exact Ext.dr (Ext.rf _)
 rw [j];clear j;have E:=E.tr y;have s:=s.ext y;have d:=d.ext y;have L:lo≤o.heap.size:=by rw [←a6];exact y.size
 refine Zi (N:=34) (R:=QBx) (E:=((Tryz.f85.body.bind (Qh 8)).getD #[])) Kr QA4 Kr fun hS=> ?_;have a:=hS.2.1;refine tWk 1 (.slice (some ⟨b,f,none⟩) bs.length c) hS.1 a rfl fun a=>tW 3 (.pointer (some ⟨b,f+0,none⟩)) hS.1 a rfl (fun w' _=>Zh (m:=bs.length) (c:=c) 0 Om Kr Kr w') fun a=>tW 7 (.int .u8 (bt bs 0)) hS.1 a rfl (QlB s 0 Om u Kr) fun a=>tW 15 (.int .i64 (bt bs 0)) hS.1 a rfl (fun w' _=>QBg (QaI h 0) Kr w') fun a=>tW 31 (.int .i64 (bt bs 0*256)) hS.1 a rfl (fun w' _=>QBQ (QaI h 0) Kr Kr w') fun a=>tWk 63 (.slice (some ⟨b,f,none⟩) bs.length c) hS.1 a rfl fun a=>tW 127 (.pointer (some ⟨b,f+1,none⟩)) hS.1 a rfl (fun w' _=>Zh (m:=bs.length) (c:=c) 1 Om Kr Kr w') fun a=>tW 255 (.int .u8 (bt bs 1)) hS.1 a rfl (QlB s 1 Om u Kr) fun a=>tW 511 (.int .i64 (bt bs 1)) hS.1 a rfl (fun w' _=>QBg (QaI h 1) Kr w') fun a=>tW 1023 (.int .i64 (w16 bs 0)) hS.1 a rfl (fun w' _=>QBR (QaI h 0) (QaI h 1) Kr Kr w') fun a=>tW 2047 (.int .u16 (w16 bs 0)) hS.1 a rfl (fun w' _=>QBc (w:=w') (Z2 h 0) Kr) fun a=>tWk 4095 (.slice (some ⟨b,f,none⟩) bs.length c) hS.1 a rfl fun a=>tW 8191 (.pointer (some ⟨b,f+2,none⟩)) hS.1 a rfl (fun w' _=>Zh (m:=bs.length) (c:=c) 2 Om Kr Kr w') fun a=>tW 16383 (.int .u8 (bt bs 2)) hS.1 a rfl (QlB s 2 Om u Kr) fun a=> ?_;have a:=hS.2.2.1;refine tW 32767 (.int .i64 (bt bs 2)) hS.1 a rfl (fun w' _=>QBg (QaI h 2) Kr w') fun a=>tW 65535 (.int .i64 (bt bs 2*256)) hS.1 a rfl (fun w' _=>QBQ (QaI h 2) Kr Kr w') fun a=>tWk 131071 (.slice (some ⟨b,f,none⟩) bs.length c) hS.1 a rfl fun a=>tW 262143 (.pointer (some ⟨b,f+3,none⟩)) hS.1 a rfl (fun w' _=>Zh (m:=bs.length) (c:=c) 3 Om Kr Kr w') fun a=>tW 524287 (.int .u8 (bt bs 3)) hS.1 a rfl (QlB s 3 Om u Kr) fun a=>tW 1048575 (.int .i64 (bt bs 3)) hS.1 a rfl (fun w' _=>QBg (QaI h 3) Kr w') fun a=>tW 2097151 (.int .i64 (w16 bs 2)) hS.1 a rfl (fun w' _=>QBR (QaI h 2) (QaI h 3) Kr Kr w') fun a=>tW 4194303 (.int .u16 (w16 bs 2)) hS.1 a rfl (fun w' _=>QBc (w:=w') (Z2 h 2) Kr) fun a=>tWk 8388607 (.slice (some ⟨b,f,none⟩) bs.length c) hS.1 a rfl fun a=>tW 16777215 (.pointer (some ⟨b,f+13,none⟩)) hS.1 a rfl (fun w' _=>Zh (m:=bs.length) (c:=c) 13 Om Kr Kr w') fun a=>tW 33554431 (.int .u8 (bt bs 13)) hS.1 a rfl (QlB s 13 Om u Kr) fun a=>tWk 67108863 (.int .i64 (N:Nat)) hS.1 a rfl fun a=>tWk 201326591 (.slice (some ⟨b,f,none⟩) bs.length c) hS.1 a rfl fun a=>tWk 469762047 (.int .i64 (N:Nat)) hS.1 a rfl fun a=> ?_;have a:=hS.2.2.2.1;refine tW 1006632959 (.slice (ZF b f c N) (bs.length- N) (c- N)) hS.1 a rfl (fun w' _=>QaV (lo:=N) (m:=bs.length) Om Om _ _ _ _ _ _ _ _ Kr Kr w') fun a=> ?_;refine Qr hS.2.2.2.2.1 (Zq (m':=1073741823) rfl rfl Kr (QBh _) ⟨.inr (Mv.of_ext Ea),Mv.of_ext Ea⟩ ?_);obtain⟨a7,Q⟩: ∃N,o.alloc (.cells #[] 5)=N:=⟨_,rfl⟩;have o0:OB a7 lo (.slice (some ⟨o.heap.size,0,none⟩) 0 0) []:=by rw [←Q];exact(OB.new o).le L
 have M:Ext o a7:=by rw [←Q];exact Ea
 have L:=Xt L M.size;rw [Q];clear Q;have E:=E.tr M;have s:=s.ext M;have d:=d.ext M;refine Qr hS.2.2.2.2.2.1 (Qma (m':=2147483647) (base:=lo) (b1:= []) rfl rfl Kr Kr o0 (b6.out _ s) (by simp<;>omega) L (fun k hk=>by omega) ?_);intro vp a2 A a3;obtain⟨F,G,H,rfl⟩:=Qa3 A;have E:=Mv.ext_of (C:=fun k=>lo≤k) E a3 (fun k hk=>by omega);have s:=s.mv a3 Om;have d:=d.mv a3 Om;have Y:=Ext.rf a2;have E:=E.tr Y;have s:=s.ext Y;have d:=d.ext Y;have a:=hS.2.2.2.2.2.2.1;refine tWk 4294967295 (.agg #[.int .u16 (w16 bs 0),.int .u16 (w16 bs 2),.int .u8 (bt bs 13),.int .i64 (N:Nat),.slice F G H]) hS.1 a rfl fun a=> ?_;refine Qr hS.2.2.2.2.2.2.2.1 (QE (m':=8589934591) rfl rfl Kr (QBs (cs:=#[.int .u16 (w16 bs 0),.int .u16 (w16 bs 2),.int .u8 (bt bs 13),.int .i64 (N:Nat),.slice F G H]) (by rw [d.r];rfl) d.z rfl (QzS.mpr ⟨rfl,rfl,rfl,rfl,rfl⟩) Kr Kr) ⟨.inl Dc,(Mv.sa _ (Nat.le_refl _) (Mv.refl _ _))⟩ ?_);obtain⟨S,T⟩: ∃S,Qe a2 w.heap.size 0 #[.int .u16 (w16 bs 0),.int .u16 (w16 bs 2),.int .u8 (bt bs 13),.int .i64 (N:Nat),.slice F G H]=S:=⟨_,rfl⟩;have gS:Mv (fun k=>k=w.heap.size) a2 S:=by rw [←T];exact Mv.sa _ rfl (Mv.refl _ _)
 have E:=Mv.ext_of E gS (fun k e=>by omega);have A:=A.mvx gS (fun k hk e=>by omega);have d:RowZ S w.heap.size #[.int .u16 (w16 bs 0),.int .u16 (w16 bs 2),.int .u8 (bt bs 13),.int .i64 (N:Nat),.slice F G H]:=by rw [←T];exact d.all _ rfl
 rw [T];clear T;have a:=hS.2.2.2.2.2.2.2.2.1;refine tWk 17179869183 (.int .u8 0) hS.1 a rfl fun a=> ?_;refine QZ hS.2.2.2.2.2.2.2.2.2 ?_;clear hS a;go_simp;have t:=Xh E;have HO:=Xh A;have i:=d.r;clear E A y s;go_wp2;refine bodyPost_ret (QAC rfl i rfl) rfl ?_;have h2:=HO.out;rw [List.nil_append]at h2;have Z:=QlI.yes (src:=src) (dst:=dst) (bs:=bs) (v:= .slice F G H) g.out t.out (by unfold tcT;rw [q.out];exact h2.le Om);unfold tcT at Z;rw [q.out]at Z;exact Z
theorem QlF.one{e:Ending}(h:QlF bs w e w'): ∃vo vp,e= .returned (.tuple #[.agg (heV (hdI bs) vo vp),.int .u8 (Zd bs)])∧Ext w w'∧OB w' w.heap.size vo (hdI bs).op∧OB w' w.heap.size vp (hdI bs).pl:=by
 unfold hdI
 cases h with
 |no h e=>rw [if_neg h];exact⟨_,_,rfl,e,OB.zero _ _,OB.zero _ _⟩
 |yes h e ho hp=>rw [if_pos h,h];exact⟨_,_,rfl,e,ho,hp⟩
theorem QlI.one{src dst:Int}{e:Ending}(h:QlI src dst bs w e w'): ∃vd,e= .returned (.tuple #[.agg (tcV (tcI src dst bs) vd),.int .u8 (Yn src dst bs)])∧Ext w w'∧SlV w' w.heap.size vd (tcI src dst bs).da:=by
 unfold tcI
 cases h with
 |no h e=>rw [if_neg h];exact⟨_,rfl,e,SlV.nil _ _⟩
 |yes h e ho=>rw [if_pos h,h];exact⟨_,rfl,e,SlV.of ho⟩
theorem QBS(h:ByR bs):(0≤(hdI bs).sr∧(hdI bs).sr<4294967296)∧0≤(hdI bs).ds∧(hdI bs).ds<4294967296:=by
 unfold hdI
 split
 ·exact⟨QBd h 12,QBd h 16⟩
 ·decide
theorem QAH{tmps:Array Value}{g:Nat}{cs:Array Value}(hp:tmps.getD 2 undef= .pointer (some ⟨g,0,none⟩))(hr:Qc w g=cs)(hc:cs.size=6):
  (results Tryz.f31 tmps).run Tryz.prog w= .ok (.tuple #[.agg cs,tmps.getD 3 undef]) w:=
 QL rfl tmps w g hp (by
  rw [QjK (by rw [hr,hc];omega),hr]
  rw [show cs.extract 0 (0+6)=cs by rw [Nat.zero_add,←hc];simp])
def QBy(ops:Array Oper):Prop:=Region.noSelect ops=true∧Qo ops 17 [0,1,2,3,4,5,6,7,8,9,10,12] 0=true∧Rd ops 17 6143 [11]∧Rd ops 17 8191 [13]∧Qo ops 17 [14] 16383=true∧Rd ops 17 32767 [15]∧Qo ops 17 [16] 65535=true∧Rd ops 17 131071 []
theorem QA5:QBy ((Tryz.f31.body.bind (Qh 9)).getD #[]):=⟨Kr,Kr,Rk,Rk,Kr,Rk,Kr,Rk⟩
theorem QAR(p:Option Addr)(bs:List Int)(c:Nat)(w:World)(hs:SlB w p bs)(hr:ByR bs)(hl:bs.length≤1000)(hlc:bs.length≤c)(hpc:p=none→c=0):
  Calls Tryz.prog 31 #[.slice p bs.length c] w fun e w'=> ∃pb nb kb,e= .returned (.tuple #[.agg (pkV (pkI bs) (.slice pb nb kb)),.int .u8 (Yw bs)])∧Ext w w':=by
 have a0:=Xh (fun W (E:Ext w W)=>(QAB p bs c W (hs.ext E) hr hl hlc).mono fun e w' h=>h.one);have HS:=Xh (fun W (E:Ext w W)=>QaE.of_slb (c:=c) (hs.ext E) hpc);have HB:=Xh (QBS hr);have a1:=Xh (And.intro (Qx7 hr) (Xt (Qsm bs) hl));have o:=Xh (show Yw bs=if Zd bs≠0 then Zd bs else if QfX (hdI bs)≠0 then QfX (hdI bs)else Yn (hdI bs).sr (hdI bs).ds (hdI bs).pl from rfl);obtain⟨T,a⟩: ∃T,tcI (hdI bs).sr (hdI bs).ds (hdI bs).pl=T:=⟨_,rfl⟩;have HI:=Xh (show Yw bs=0→pkI bs=⟨⟨(hdI bs).sr,(hdI bs).ds,T.sp,T.dp⟩,T.fl,bs⟩from fun h=>by rw [←a,pkI,if_pos h]);have HT:=Xh a;obtain⟨H,hH⟩: ∃H,hdI bs=H:=⟨_,rfl⟩;rw [hH]at a0 HB a1 o HI HT;obtain⟨y,g⟩: ∃y,Zd bs=y:=⟨_,rfl⟩;rw [g]at a0 o;clear hs hr a hH g hpc
 go_enter Tryz.func31,Tryz.ntmps31
 go_upto_region 1 with(fail)
 obtain⟨D,d⟩: ∃D,w.alloc (.cells #[.int .u32 0,.int .u32 0,.int .u16 0,.int .u16 0,.int .u8 0,.slice none 0 0] 81)=D:=⟨_,rfl⟩;have E:Ext w D:=by rw [←d];exact Ea
 have b:RowZ D w.heap.size #[.int .u32 0,.int .u32 0,.int .u16 0,.int .u16 0,.int .u8 0,.slice none 0 0]:=by rw [←d];exact RowZ.new _ _ _
 rw [d];clear d;obtain⟨v,e2⟩: ∃B,w.heap.size=B:=⟨_,rfl⟩;have h2:w.heap.size≤v:=by omega
 rw [e2]at b⊢
 go_upto_region 2 with(go_at_call 81;(refine(a0.out _ E).mono ?_);rintro e q ⟨vo,vp,rfl,S,ho,hp⟩;obtain⟨po,co,rfl,-,-⟩:=ho.slb;obtain⟨U,V,rfl,b4,O⟩:=hp.slb;unfold heV)
 obtain⟨m,d⟩: ∃W,Qe (q.alloc (.cells #[.int .u8 0,.int .u16 0,.int .u16 0,.int .u8 0,.int .u8 0,.int .u32 0,.int .u32 0,.slice none 0 0,.slice none 0 0] 132)) q.heap.size 0 #[.int .u8 H.sv,.int .u16 H.nu,.int .u16 H.fl,.int .u8 H.ho,.int .u8 H.pr,.int .u32 H.sr,.int .u32 H.ds,.slice po H.op.length co,.slice U H.pl.length V]=W:=⟨_,rfl⟩;have M:Ext q m:=by rw [←d];exact Mv.ext_of Ea (Mv.sa (C:=fun k=>k=q.heap.size) _ rfl (Mv.refl _ _)) (fun k e=>by omega)
 have f:RowZ m q.heap.size #[.int .u8 H.sv,.int .u16 H.nu,.int .u16 H.fl,.int .u8 H.ho,.int .u8 H.pr,.int .u32 H.sr,.int .u32 H.ds,.slice po H.op.length co,.slice U H.pl.length V]:=by rw [←d];exact(RowZ.new _ _ _).all _ rfl
 rw [d];clear d;have b2:D.heap.size≤q.heap.size:=S.size;obtain⟨n,e4⟩: ∃B,q.heap.size=B:=⟨_,rfl⟩;rw [e4]at f⊢;have E:=(E.tr S).tr M;have b5:v<n:=by have:=b.l;unfold Lt at this;omega
 have b:=(b.ext S).ext M;have O:=O.ext M;clear e4 S M b2 ho hp;have A:=b.r;have a5:=b.z
 cases t:(y !=0)
 case true=>
  go_wp2;refine bodyPost_ret (QAH rfl (Qq _ _ _ (by rw [A];try rfl)) rfl) rfl ⟨none,0,0,?_,Ext.sa _ h2 E⟩;have g:Yw bs=y:=by rw [o.out,if_pos (by simpa using t)]
  rw [pkI,if_neg (by rw [g];simpa using t),g];rfl
 have HY:=Xh (show ¬y≠0 by simpa using t);have c4:m.cell? ⟨n,4,none⟩=some (.int .u8 H.pr):=f.cell 4 (by show 4<9;omega);have c5:m.cell? ⟨n,5,none⟩=some (.int .u32 H.sr):=f.cell 5 (by show 5<9;omega);have c6:m.cell? ⟨n,6,none⟩=some (.int .u32 H.ds):=f.cell 6 (by show 6<9;omega);have c8:m.cell? ⟨n,8,none⟩=some (.slice U H.pl.length V):=f.cell 8 (by show 8<9;omega)
 go_upto_region 4 with(fail)
 clear t
 cases t:(H.pr !=6)
 case true=>
  go_wp2;refine bodyPost_ret (QAH rfl (Qq _ _ _ (by rw [A];try rfl)) rfl) rfl ⟨none,0,0,?_,Ext.sa _ h2 E⟩;have g:Yw bs=7:=by rw [o.out,if_neg HY.out,show QfX H=7 from if_neg (by simpa using t),if_pos Om]
  rw [pkI,if_neg (by rw [g];omega),g];rfl
 have a6:=Xh (show ¬QfX H≠0 by unfold QfX;rw [if_pos (by simpa using t)];omega);have a2:=Xh ((QAQ H.sr H.ds HB.out.1 HB.out.2 U H.pl V m O a1.out.1 a1.out.2 b4).mono fun e w' h=>h.one);rw [HT.out]at a2;obtain⟨z,hz⟩: ∃z,Yn H.sr H.ds H.pl=z:=⟨_,rfl⟩;rw [hz]at a2 o;clear hz
 go_upto_region 7 with(go_at_call 85;(refine a2.out.mono ?_);rintro e s ⟨vd,rfl,F,⟨pd,cd,rfl,-,-,-⟩⟩;unfold tcV)
 clear t;obtain⟨G,d⟩: ∃W,Qe (s.alloc (.cells #[.int .u16 0,.int .u16 0,.int .u8 0,.int .i64 0,.slice none 0 0] 142)) s.heap.size 0 #[.int .u16 T.sp,.int .u16 T.dp,.int .u8 T.fl,.int .i64 T.hd,.slice pd T.da.length cd]=W:=⟨_,rfl⟩;have P:Ext s G:=by rw [←d];exact Mv.ext_of Ea (Mv.sa (C:=fun k=>k=s.heap.size) _ rfl (Mv.refl _ _)) (fun k e=>by omega)
 have i:RowZ G s.heap.size #[.int .u16 T.sp,.int .u16 T.dp,.int .u8 T.fl,.int .i64 T.hd,.slice pd T.da.length cd]:=by rw [←d];exact(RowZ.new _ _ _).all _ rfl
 rw [d];clear d;have b3:m.heap.size≤s.heap.size:=F.size;obtain⟨I,e6⟩: ∃B,s.heap.size=B:=⟨_,rfl⟩;rw [e6]at i⊢;have E:=(E.tr F).tr P;have b6:n<I:=by have:=f.l;unfold Lt at this;omega
 have b:=(b.ext F).ext P;have f:=(f.ext F).ext P;clear e6 F P b3 O c4 c5 c6 c8;have A:=b.r;have a5:=b.z
 cases t:(z !=0)
 case true=>
  go_wp2;refine bodyPost_ret (QAH rfl (Qq _ _ _ (by rw [A];try rfl)) rfl) rfl ⟨none,0,0,?_,Ext.sa _ h2 E⟩;have g:Yw bs=z:=by rw [o.out,if_neg HY.out,if_neg a6.out]
  rw [pkI,if_neg (by rw [g];simpa using t),g];rfl
 have HZ:=Xh (show Yw bs=0 by rw [o.out,if_neg HY.out,if_neg a6.out];simpa using t)
 go_upto_region 9 with(fail)
 clear t A a5;obtain⟨j,a8⟩: ∃j,G.heap.size=j:=⟨_,rfl⟩;have b7:I<j:=by rw [←a8];exact i.l
 refine Qy (fun k=>j≤k) (fun k=>k=v∨j≤k) 15 Kr ?_;obtain⟨x,d⟩: ∃Wdr,World.drew G=Wdr:=⟨_,rfl⟩;have u:Ext G x:=by rw [←d];exact Ext.dr (Ext.rf _)
 rw [d];clear d;have E:=E.tr u;have b:=b.ext u;have f:=f.ext u;have i:=i.ext u;have Q:j≤x.heap.size:=by rw [←a8];exact u.size
 refine Zi (N:=17) (R:=QBy) (E:=((Tryz.f31.body.bind (Qh 9)).getD #[])) Kr QA5 Kr fun hS=> ?_;have a:=hS.2.1;refine tWk 1 (.pointer (some ⟨n,5,none⟩)) hS.1 a rfl fun a=>tW 3 (.int .u32 H.sr) hS.1 a rfl (Qa0 (f.cell 5 (by show 5<9;omega)) f.l Om Kr) fun a=>tWk 7 (.pointer (some ⟨n,6,none⟩)) hS.1 a rfl fun a=>tW 15 (.int .u32 H.ds) hS.1 a rfl (Qa0 (f.cell 6 (by show 6<9;omega)) f.l Om Kr) fun a=>tWk 31 (.pointer (some ⟨I,0,none⟩)) hS.1 a rfl fun a=>tW 63 (.int .u16 T.sp) hS.1 a rfl (Qa1 (i.cell 0 (by show 0<5;omega)) i.l Om Kr) fun a=>tWk 127 (.pointer (some ⟨I,1,none⟩)) hS.1 a rfl fun a=>tW 255 (.int .u16 T.dp) hS.1 a rfl (Qa1 (i.cell 1 (by show 1<5;omega)) i.l Om Kr) fun a=>tWk 511 (.agg #[.int .u32 H.sr,.int .u32 H.ds,.int .u16 T.sp,.int .u16 T.dp]) hS.1 a rfl fun a=>tWk 1023 (.pointer (some ⟨I,2,none⟩)) hS.1 a rfl fun a=>tW 2047 (.int .u8 T.fl) hS.1 a rfl (Yv (i.cell 2 (by show 2<5;omega)) i.l Om Kr) fun a=>tWk 6143 (.slice p bs.length c) hS.1 a rfl fun a=> ?_;refine Qr hS.2.2.1 (Zq (m':=8191) rfl rfl Kr (QBh _) ⟨.inr (Mv.of_ext Ea),Mv.of_ext Ea⟩ ?_);obtain⟨a9,X⟩: ∃N,x.alloc (.cells #[] 5)=N:=⟨_,rfl⟩;have o0:OB a9 j (.slice (some ⟨x.heap.size,0,none⟩) 0 0) []:=by rw [←X];exact(OB.new x).le Q
 have a3:Ext x a9:=by rw [←X];exact Ea
 have Q:=Xt Q a3.size;rw [X];clear X;have E:=E.tr a3;have b:=b.ext a3;refine Qr hS.2.2.2.1 (Qma (m':=16383) (base:=j) (b1:= []) rfl rfl Kr Kr o0 (HS.out _ E) (by simp<;>omega) Q (fun k hk=>by omega) ?_);intro vp a4 o2 b0;obtain⟨J,K,L,rfl⟩:=Qa3 o2;have E:=Mv.ext_of (C:=fun k=>j≤k) E b0 (fun k hk=>by omega);have b:=b.mv b0 Om;have a7:=Ext.rf a4;have E:=E.tr a7;have b:=b.ext a7;have a:=hS.2.2.2.2.1;refine tWk 32767 (.agg #[.int .u32 H.sr,.int .u32 H.ds,.int .u16 T.sp,.int .u16 T.dp,.int .u8 T.fl,.slice J K L]) hS.1 a rfl fun a=> ?_;refine Qr hS.2.2.2.2.2.1 (QE (m':=65535) rfl rfl Kr (Qig (cs:=#[.int .u32 H.sr,.int .u32 H.ds,.int .u16 T.sp,.int .u16 T.dp,.int .u8 T.fl,.slice J K L]) (by rw [b.r];rfl) b.z rfl (Qsn.mpr ⟨rfl,rfl,rfl,rfl,rfl,rfl⟩) Kr Kr) ⟨.inl Dc,(Mv.sa _ Om (Mv.refl _ _))⟩ ?_);obtain⟨Y,Z⟩: ∃Y,Qe a4 v 0 #[.int .u32 H.sr,.int .u32 H.ds,.int .u16 T.sp,.int .u16 T.dp,.int .u8 T.fl,.slice J K L]=Y:=⟨_,rfl⟩;have gS:Mv (fun k=>k=v) a4 Y:=by rw [←Z];exact Mv.sa _ rfl (Mv.refl _ _)
 have E:=Mv.ext_of E gS (fun k e=>by omega);have b:RowZ Y v #[.int .u32 H.sr,.int .u32 H.ds,.int .u16 T.sp,.int .u16 T.dp,.int .u8 T.fl,.slice J K L]:=by rw [←Z];exact b.all _ rfl
 rw [Z];clear Z;have a:=hS.2.2.2.2.2.2.1;refine tWk 131071 (.int .u8 0) hS.1 a rfl fun a=> ?_;refine QZ hS.2.2.2.2.2.2.2 ?_;clear hS a;go_simp;have HE:=Xh E;have hR:=b.r;clear E u;go_wp2;refine bodyPost_ret (QAH rfl hR rfl) rfl ⟨J,K,L,?_,HE.out⟩;rw [HI.out HZ.out,HZ.out];rfl
end Go.Proofs.YtpeonbaodnmlnaaGreat
