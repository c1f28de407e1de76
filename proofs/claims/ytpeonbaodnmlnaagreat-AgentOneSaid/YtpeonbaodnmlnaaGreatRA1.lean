/- Lemmas of this claim, put together out of: A, V, V2, V4, X, C1, C2, C3, C4, Z, Z2, XR, C5, C6, C7, C8, C9, C10, C11, C12, C14, C15, C13, C16, J1, H1, H2, H3, H4, XW, HW, H5, H6, I1, XK, I2, I3. -/
import Derived.Test.YtpeonbaodnmlnaaGreatProg
import Derived.ScopeJumps
import Derived.Lib.Hide
import Derived.Deep.DeepFit
import Derived.Deep.DeepCutAuto
import Derived.WalkKit
import Derived.WalkSpells
import Derived.WalkLawsBesides
import Derived.Deep.QuietTactic
import Derived.BigQuiet
import Derived.Deep.RegionWith
import Derived.Deep.RegionHeld3
import Derived.RangeFuncNested
import Derived.Deep.MidRow
import Derived.Deep.Quiet
import Derived.Shelf.Abstract
import Derived.Maps.AppendAt
import Derived.OwnWalkIn
import Derived.TacticsInMore
import Derived.RangeFuncOne
import Derived.RangeFuncBound
import Derived.Deep.AppendLies
import Derived.RegionIn
import Derived.Lib.SliceRun
import Derived.Deep.RegionLaw
import Derived.Lib.Overlaps
import Derived.Lib.AppendZerosOnto
import Derived.Laws.IdiomCopy
import Derived.Laws.NewBlocks
import Derived.Laws.Externs
import Derived.LoopNIn
import Derived.LoopIn
import Derived.Stop.RegionWithIn
import Derived.Laws.BitsLemmas
set_option linter.unusedSimpArgs false
set_option linter.unusedVariables false
set_option maxRecDepth 100000
set_option maxHeartbeats 16000000
namespace Go.Proofs.YtpeonbaodnmlnaaGreat
open Go.RowKit
variable{K Q:Act→World→Prop}{listed:Array Bool}{after:Array Edge}{ops:Array Oper}{bs:List Int}{xs:List Value}{N base fuel i k:Nat}{C:Nat→Prop}{o oi:Oper}{x:Operand}{ρ:Operand→Value}{g:Option (Nat×Bool)}{dst:Option Tmp}{P:Program}{pos:String}{e ty:TypeId}{A B W w w' w1:World}
theorem Kr{p:Prop}(h:p:=by kernel_rfl):p:=h
theorem Om{p:Prop}(h:p:=by omega):p:=h
theorem Dc{p:Prop}(h:p:=by decide):p:=h
theorem Qp{a:Act}{Q:Exit→Act→World→Prop}{c rest:Code}(l:Nat)(hf:findLabel c l=some rest)
  (first:c.wp P (Exit.jump l (fun a w=>rest.wp P (Exit.noGoto Q) a w) Q) a w):(Code.scope c).wp P Q a w:=by
 refine wp_scope_jumps l _ (fun _ _=>0) hf first ?_
 intro a w h;refine wp_mono h ?_;intro e a w q
 cases e<;>first|exact q|exact q.elim
def Lt(b:Nat)(W:World):Prop:=b<W.heap.size
section
variable {W:World} {b:Nat}
@[go_sem] theorem Qxl(o:Obj):Lt b (W.alloc o)=(b=W.heap.size∨Lt b W):=by
 unfold Lt;simp;omega
@[go_sem] theorem Zk(a:Addr)(v:Value):Lt b (W.setCell a v)=Lt b W:=by unfold Lt;simp [World.setCell]
@[go_sem] theorem Qzy:Lt b W.drew=Lt b W:=rfl
@[go_sem] theorem Qxm(n:Nat):Lt b (W.drewN n)=Lt b W:=rfl
@[go_sem] theorem QrG(h:Lt b W)(o:Obj)(i:Nat):(W.alloc o).cell? ⟨b,i,none⟩=W.cell? ⟨b,i,none⟩:=World.cell?_alloc_past _ _ _ h
@[go_sem] theorem Qob(h:Lt b W)(o:Obj)(i:Nat):(W.alloc o).frozen? ⟨b,i,none⟩=W.frozen? ⟨b,i,none⟩:=World.frozen?_alloc_past _ _ _ h
@[go_sem] theorem QAt(h:Lt b W):(b=W.heap.size)=False:=by unfold Lt at h;simp;omega
@[go_sem] theorem Qz6(h:Lt b W):(W.heap.size=b)=False:=by unfold Lt at h;simp;omega
@[go_sem] theorem Qz7(h:Lt b W):(b=W.heap.size+1)=False:=by unfold Lt at h;simp;omega
@[go_sem] theorem Qzz(h:Lt b W):(W.heap.size+1=b)=False:=by unfold Lt at h;simp;omega
@[go_sem] theorem Qz8(h:Lt b W):(b=W.heap.size+1+1)=False:=by unfold Lt at h;simp;omega
@[go_sem] theorem QzA(h:Lt b W):(W.heap.size+1+1=b)=False:=by unfold Lt at h;simp;omega
end
def QtF(w:World)(b o:Nat):Option Value:=w.cell? ⟨b,o,none⟩
def Qlh(w:World)(b o:Nat):Bool:=w.frozen? ⟨b,o,none⟩
def LtX(b:Nat)(w:World):Prop:=b<w.heap.size
open Classical in
abbrev Qz9(W w':World):Prop:=(∀b o,w'.cell? ⟨b,o,none⟩=if Lt b W then W.cell? ⟨b,o,none⟩else QtF w' b o)∧(∀b o,w'.frozen? ⟨b,o,none⟩=if Lt b W then W.frozen? ⟨b,o,none⟩else Qlh w' b o)∧(∀b,Lt b w'=(Lt b W∨LtX b w'))∧W.heap.size≤w'.heap.size∧Below W.heap.size W w'
theorem QU{W:World}(h:Below W.heap.size W w'):Qz9 W w':=by
 refine⟨fun b o=> ?_,fun b o=> ?_,fun b=> ?_,h.size,h⟩
 ·split
  ·exact h.cell (p:=⟨b,o,none⟩) ‹Lt b W›
  ·rfl
 ·split
  ·exact h.frozen (p:=⟨b,o,none⟩) ‹Lt b W›
  ·rfl
 ·unfold Lt LtX;have:=h.size;simp only [eq_iff_iff];omega
abbrev Up(W w':World):Prop:=(∀b o,Lt b W→w'.cell? ⟨b,o,none⟩=W.cell? ⟨b,o,none⟩)∧(∀b o,Lt b W→w'.frozen? ⟨b,o,none⟩=W.frozen? ⟨b,o,none⟩)∧(∀b,Lt b W→Lt b w')∧W.heap.size≤w'.heap.size∧Below W.heap.size W w'
theorem up{W:World}(h:Below W.heap.size W w'):Up W w':=
 ⟨fun b o hb=>h.cell (p:=⟨b,o,none⟩) hb,fun b o hb=>h.frozen (p:=⟨b,o,none⟩) hb,fun _ hb=>Nat.lt_of_lt_of_le hb h.size,h.size,h⟩
theorem Up.start(W:World):Up W W.drew:=up ((Below.refl _ _).drew)
theorem Up.next{W w2:World}(h:Up W w1)(hb:Below w1.heap.size w1 w2):Up W w2:=up (h.2.2.2.2.trans (hb.mono h.2.2.2.2.size))
theorem Up.al{W:World}(h:Up W w1)(o:Obj):Up W (w1.alloc o):=up (Below.alloc h.2.2.2.2 h.2.2.2.1 o)
theorem Up.dr{W:World}(h:Up W w1):Up W w1.drew:=up (Below.drew h.2.2.2.2)
theorem Up.st{W:World}(h:Up W w1){p:Addr}(v:Value)(hp:W.heap.size≤p.block):Up W (w1.setCell p v):=up (Below.setCell h.2.2.2.2 hp v)
abbrev Ext(w w':World):Prop:=Below w.heap.size w w'
theorem Ext.rf(w:World):Ext w w:=Below.refl _ _
theorem Ext.al{W:World}(h:Ext w W)(o:Obj):Ext w (W.alloc o):=Below.alloc h h.size o
theorem Ext.dr{W:World}(h:Ext w W):Ext w W.drew:=Below.drew h
theorem Ext.dn{W:World}(h:Ext w W)(n:Nat):Ext w (W.drewN n):=⟨h.os,h.tape,h.output,h.size,h.block⟩
theorem Ext.st{W:World}{p:Addr}(v:Value)(hp:w.heap.size≤p.block)(h:Ext w W):Ext w (W.setCell p v):=Below.setCell h hp v
theorem Ext.tr{W W':World}(h:Ext w W)(hb:Ext W W'):Ext w W':=h.trans (hb.mono h.size)
theorem Qog{W:World}(h:Up W w'):Ext W w':=h.2.2.2.2
theorem Ext.of{W W':World}(e:Hid (W=W'))(h:Ext w W'):Ext w W:=by rw [e.out];exact h
theorem QW{c:Code}{Q:Exit→Act→World→Prop}{a:Act}
  (h: ∀W:World,(∀b o,W.cell? ⟨b,o,none⟩=w.cell? ⟨b,o,none⟩)→(∀b o,W.frozen? ⟨b,o,none⟩=w.frozen? ⟨b,o,none⟩)→(∀b,Lt b W=Lt b w)→W.heap.size=w.heap.size→Hid (W=w)→c.wp P Q a W):c.wp P Q a w:=
 h w (fun _ _=>rfl) (fun _ _=>rfl) (fun _=>rfl) rfl rfl
theorem Qm{a b:Bool}(h:a=b):Ending.returned (.bool a)= .returned (.bool b):=by rw [h]
theorem Xe{W:World}(h:Ext w W:=by repeat(first|(with_reducible first|exact Ext.rf _|assumption|refine Ext.al ?_ _|refine Ext.dr ?_|refine Ext.dn ?_ _)|((with_reducible refine Ext.st _ ?_ ?_);focus(first|omega|(simp;omega)|simp))|(with_reducible first|refine Ext.tr ?_ (by assumption)|refine Ext.tr ?_ (Qog (by assumption))|refine Ext.of (by assumption) ?_))):Ext w W:=h
theorem Xl{a b c:Nat}(h:a<b)(k:b≤c):a<c:=Nat.lt_of_lt_of_le h k
theorem Xt{a b c:Nat}(h:a≤b)(k:b≤c):a≤c:=Nat.le_trans h k
theorem Xh{p:Prop}(h:p):Hid p:=Lib.hid h
theorem Xu{W:World}(h:Ext w W:=by repeat(first|(with_reducible first|exact Ext.rf _|exact Qog (by assumption)|refine Ext.al ?_ _|refine Ext.dr ?_|refine Ext.dn ?_ _)|((with_reducible refine Ext.st _ ?_ ?_);focus(first|omega|(simp;omega)|simp))|with_reducible refine Ext.tr ?_ (by assumption))):Ext w W:=h
theorem Ea{o:Obj}:Ext w (w.alloc o):=Ext.al (Ext.rf w) o
abbrev Cr(f:FuncId)(a:Array Value)(w:World)(v:Value):Prop:=Calls Tryz.prog f a w fun e w'=>e= .returned v∧Ext w w'
def upd{α:Type}(f:Nat→α)(k:Nat)(v:α):Nat→α:=fun i=>if i=k then v else f i
def rowv(n:Nat)(f:Nat→Value):Array Value:=Array.ofFn (n:=n) fun i=>f i.1
@[go_sem, simp] theorem QY(n:Nat)(f:Nat→Value):(rowv n f).size=n:=by simp [rowv]
theorem QM(n:Nat)(f:Nat→Value)(i:Nat):(rowv n f)[i]?=if i<n then some (f i)else none:=by
 unfold rowv;simp [Array.getElem?_ofFn]
theorem QhA(n:Nat)(f:Nat→Value)(k:Nat)(v:Value):(rowv n f).setIfInBounds k v=rowv n (upd f k v):=by
 apply Array.ext (by simp)
 intro i h1 h2;simp only [rowv,upd,Array.getElem_setIfInBounds,Array.getElem_ofFn]
 by_cases h:k=i
 ·subst h;simp
 ·rw [if_neg (fun e=>h e.symm),Array.getElem_setIfInBounds_ne (by simpa [rowv]using h1) h];simp
theorem QH(n:Nat)(f g:Nat→Value)(h: ∀i,i<n→f i=g i):rowv n f=rowv n g:=by
 apply Array.ext (by simp)
 intro i h1 h2;simp at h1;simp [rowv,h i h1]
def Qc(w:World)(b:Nat):Array Value:=match w.heap[b]? with|some (.cells cs _ _)=>cs|_=>#[]
theorem Zn(w:World)(cs:Array Value)(t:TypeId)(fr:Nat×Nat):Qc (w.alloc (.cells cs t fr)) w.heap.size=cs:=by
 unfold Qc;rw [World.alloc_heap_new]
theorem Qf{b:Nat}(h:w'.heap[b]?=w.heap[b]?):Qc w' b=Qc w b:=by unfold Qc;rw [h]
theorem Qa(w:World)(b i:Nat):w.cell? ⟨b,i,none⟩=(Qc w b)[i]?:=by
 unfold Qc World.cell?
 cases h:w.heap[b]? with
 |none=>simp
 |some o=>cases o<;>simp
theorem YA(w:World)(b i:Nat)(v:Value)(b':Nat):Qc (w.setCell ⟨b,i,none⟩ v) b'=if b'=b then(Qc w b).setIfInBounds i v else Qc w b':=by
 unfold Qc World.setCell;simp only [Array.getElem?_modify]
 by_cases h:b'=b
 ·subst h;simp only [if_true]
  cases hh:w.heap[b']? with
  |none=>simp
  |some o=>cases o<;>simp
 ·rw [if_neg (fun e=>h e.symm),if_neg h]
def Qs(w:World)(b:Nat):Nat×Nat:=match w.heap[b]? with|some (.cells _ _ fr)=>fr|_=>(0,0)
theorem Y7(w:World)(b i:Nat):w.frozen? ⟨b,i,none⟩=(decide ((Qs w b).1≤i)&&decide (i<(Qs w b).2)):=by
 unfold Qs World.frozen?
 cases h:w.heap[b]? with
 |none=>simp
 |some o=>cases o<;>simp
theorem Ql{b:Nat}(h:Qs w b=(0,0))(i:Nat):w.frozen? ⟨b,i,none⟩=false:=by rw [Y7,h];simp
@[go_sem] theorem QuH(w:World)(cs:Array Value)(t:TypeId)(b:Nat):Qs (w.alloc (.cells cs t)) b=if b=w.heap.size then(0,0)else Qs w b:=by
 by_cases h:b=w.heap.size
 ·subst h;rw [if_pos rfl];unfold Qs;rw [World.alloc_heap_new]
 ·rw [if_neg h];unfold Qs
  by_cases h2:b<w.heap.size
  ·rw [Below.heap_alloc _ _ _ h2]
  ·rw [Array.getElem?_eq_none (by simp;omega),Array.getElem?_eq_none Om]
@[go_sem] theorem Qwp(w:World)(b:Nat):Qs w.drew b=Qs w b:=rfl
@[go_sem] theorem QuI(w:World)(n b:Nat):Qs (w.drewN n) b=Qs w b:=rfl
@[go_sem] theorem QR(w:World)(b' i:Nat)(v:Value)(b:Nat):Qs (w.setCell ⟨b',i,none⟩ v) b=Qs w b:=by
 unfold Qs World.setCell;simp only [Array.getElem?_modify]
 by_cases h:b'=b
 ·subst h;simp only [if_true]
  cases hh:w.heap[b']? with
  |none=>simp
  |some o=>cases o<;>simp
 ·rw [if_neg h]
@[go_sem] theorem Qd8(w:World)(cs:Array Value)(t:TypeId)(b:Nat):Qc (w.alloc (.cells cs t)) b=if b=w.heap.size then cs else Qc w b:=by
 by_cases h:b=w.heap.size
 ·subst h;rw [Zn];simp
 ·rw [if_neg h];unfold Qc
  by_cases h2:b<w.heap.size
  ·rw [Below.heap_alloc _ _ _ h2]
  ·rw [Array.getElem?_eq_none (by simp;omega),Array.getElem?_eq_none Om]
@[go_sem] theorem Qwq(w:World)(b:Nat):Qc w.drew b=Qc w b:=rfl
@[go_sem] theorem QuJ(w:World)(n b:Nat):Qc (w.drewN n) b=Qc w b:=rfl
attribute [go_sem] YA
def Jz(w:World)(b:Nat)(cs:Array Value):World:=w.setCells b 0 cs.toList
theorem Za(b:Nat): ∀(vs:List Value) (o:Nat) (w:World),(w.setCells b o vs).heap.size=w.heap.size∧(∀k,k≠b→(w.setCells b o vs).heap[k]?=w.heap[k]?)∧(w.setCells b o vs).os=w.os∧(w.setCells b o vs).tape=w.tape∧(w.setCells b o vs).output=w.output∧Qs (w.setCells b o vs) b=Qs w b
 | [],_,_=>⟨rfl,fun _ _=>rfl,rfl,rfl,rfl,rfl⟩
 |v::r,o,w=>by
  rw [World.setCells];obtain⟨h1,h2,h3,h4,h5,h6⟩:=Za b r (o+1) (w.setCell ⟨b,o,none⟩ v);refine⟨by rw [h1];simp [World.setCell],fun k hk=> ?_,h3,h4,h5,by rw [h6,QR]⟩;rw [h2 k hk];simp only [World.setCell,Array.getElem?_modify];rw [if_neg (fun e=>hk e.symm)]
@[go_sem] theorem Qdy(w:World)(b:Nat)(cs:Array Value):(Jz w b cs).heap.size=w.heap.size:=(Za b _ 0 w).1
theorem QaJ(w:World)(b:Nat)(cs:Array Value)(k:Nat)(h:k≠b):(Jz w b cs).heap[k]?=w.heap[k]?:=(Za b _ 0 w).2.1 k h
theorem JU(b:Nat): ∀(vs:List Value) (o:Nat) (w:World),Qc (w.setCells b o vs) b=(vs.zipIdx o).foldl (fun cs x=>cs.setIfInBounds x.2 x.1) (Qc w b)
 | [],_,_=>rfl
 |v::r,o,w=>by
  rw [World.setCells,JU b r (o+1),YA,if_pos rfl];rfl
theorem Qd9(vs:List Value): ∀(o:Nat) (cs:Array Value) (i:Nat),((vs.zipIdx o).foldl (fun cs x=>cs.setIfInBounds x.2 x.1) cs)[i]?=if o≤i∧i<o+vs.length∧i<cs.size then vs[i- o]? else cs[i]?:=by
 induction vs with
 |nil=>intro o cs i;rw [if_neg (by simp;omega)];rfl
 |cons v r ih=>
  intro o cs i;simp only [List.zipIdx_cons,List.foldl_cons];rw [ih]
  by_cases h0:i=o
  ·subst h0;rw [if_neg Om]
   by_cases hs:i<cs.size
   ·rw [if_pos ⟨Nat.le_refl _,by simp,hs⟩];simp [hs]
   ·rw [if_neg Om,Array.getElem?_eq_none (by simpa using hs),Array.getElem?_eq_none Om]
  ·rw [Array.getElem?_setIfInBounds_ne (fun e=>h0 e.symm)];simp only [Array.size_setIfInBounds,List.length_cons]
   by_cases h:o+1≤i∧i<o+1+r.length∧i<cs.size
   ·rw [if_pos h,if_pos Om];obtain⟨k,rfl⟩: ∃k,i=o+1+k:=⟨i- (o+1),Om⟩;rw [show o+1+k- (o+1)=k by omega,show o+1+k- o=k+1 by omega,List.getElem?_cons_succ]
   ·rw [if_neg h,if_neg Om]
theorem J0(w:World)(b:Nat)(cs:Array Value)(h:(Qc w b).size=cs.size):Qc (Jz w b cs) b=cs:=by
 unfold Jz;rw [JU]
 apply Array.ext_getElem?
 intro i;rw [Qd9]
 by_cases hi:i<cs.size
 ·rw [if_pos ⟨Nat.zero_le _,by simpa using hi,Om⟩];simp
 ·rw [if_neg (by simp;omega),Array.getElem?_eq_none Om,Array.getElem?_eq_none Om]
theorem Qch(w:World)(b b':Nat)(cs:Array Value)(h:b'≠b):Qc (Jz w b cs) b'=Qc w b':=Qf (QaJ w b cs b' h)
open Classical in
@[go_sem] theorem QtG(w:World)(b b':Nat)(cs:Array Value):Qc (Jz w b cs) b'=if b'=b then(if(Qc w b).size=cs.size then cs else Qc (Jz w b cs) b)else Qc w b':=by
 by_cases h:b'=b
 ·subst h;rw [if_pos rfl];split
  ·exact J0 _ _ _ ‹_›
  ·rfl
 ·rw [if_neg h,Qch _ _ _ _ h]
@[go_sem] theorem QhB(w:World)(b b':Nat)(cs:Array Value):Qs (Jz w b cs) b'=Qs w b':=by
 by_cases h:b'=b
 ·subst h;exact(Za b' _ 0 w).2.2.2.2.2
 ·unfold Qs;rw [QaJ _ _ _ _ h]
@[go_sem] theorem Qwr(w:World)(b b':Nat)(cs:Array Value):Lt b' (Jz w b cs)=Lt b' w:=by unfold Lt;rw [Qdy]
@[go_sem] theorem QrH(w:World)(b b' i:Nat)(cs:Array Value):(Jz w b cs).frozen? ⟨b',i,none⟩=w.frozen? ⟨b',i,none⟩:=by rw [Y7,Y7,QhB]
theorem Ext.sr{b:Nat}(cs:Array Value)(hp:w.heap.size≤b)(h:Ext w W):Ext w (Jz W b cs):=
 let s:=Za b cs.toList 0 W
 h.trans ⟨s.2.2.1,s.2.2.2.1,s.2.2.2.2.1,by rw [Qdy];exact Nat.le_refl _,fun k hk=>QaJ W b cs k Om⟩
def QK(cs:Array Value):Prop:=cs.all (·.oneCell')=true
def Qb:Value→Nat| .pointer (some a)=>a.block|_=>0
@[go_sem] theorem Qws(a:Addr):Qb (.pointer (some a))=a.block:=rfl
def Qxn(w:World)(b:Nat):Array Value:=Qc w b
def Qxo(w:World)(b:Nat):Nat×Nat:=Qs w b
open Classical in
abbrev Qxp(W w':World):Prop:=(∀b,Qc w' b=if Lt b W then Qc W b else Qxn w' b)∧(∀b,Qs w' b=if Lt b W then Qs W b else Qxo w' b)
theorem QtH(h:Below W.heap.size W w'):Qxp W w':=by
 refine⟨fun b=> ?_,fun b=> ?_⟩
 ·split
  ·exact Qf (h.block b ‹Lt b W›)
  ·rfl
 ·split
  ·unfold Qs;rw [h.block b ‹Lt b W›]
  ·rfl
def J1(W:World):Type:={w:World//Ext W w}
def later{W:World}(d:J1 W):World:=d.1
theorem Qt(d:J1 W):Ext W (later d):=d.2
instance {W:World}:Nonempty (J1 W):=⟨⟨W,Ext.rf W⟩⟩
open Classical in
@[go_sem] theorem QuK(d:J1 W)(b o:Nat):(later d).cell? ⟨b,o,none⟩=if Lt b W then W.cell? ⟨b,o,none⟩else QtF (later d) b o:=(QU (Qt d)).1 b o
open Classical in
@[go_sem] theorem QrM(d:J1 W)(b o:Nat):(later d).frozen? ⟨b,o,none⟩=if Lt b W then W.frozen? ⟨b,o,none⟩else Qlh (later d) b o:=(QU (Qt d)).2.1 b o
@[go_sem] theorem Qxq(d:J1 W)(b:Nat):Lt b (later d)=(Lt b W∨LtX b (later d)):=(QU (Qt d)).2.2.1 b
open Classical in
@[go_sem] theorem QuL(d:J1 W)(b:Nat):Qc (later d) b=if Lt b W then Qc W b else Qxn (later d) b:=(QtH (Qt d)).1 b
open Classical in
@[go_sem] theorem QuM(d:J1 W)(b:Nat):Qs (later d) b=if Lt b W then Qs W b else Qxo (later d) b:=(QtH (Qt d)).2 b
def Qbj(W w':World):Prop:= ∃d:J1 W,w'=later d
@[go_sem ↓ high] theorem QtI{a:Act}{K:Act→Prop}:
  Oper.quiet P o a (Qbj W) K=(∃v,(∀d:J1 W,o.quietAt P a (Qbj W) (later d) v)∧K (a.put o.dst v)):=by
 unfold Oper.quiet;refine propext (exists_congr fun v=>and_congr_left' ⟨fun h d=>h _ ⟨d,rfl⟩,fun h w hw=> ?_⟩);obtain⟨d,rfl⟩:=hw;exact h d
theorem Qk{id:Nat}{Q:Exit→Act→World→Prop}{a:Act}{l:List Oper}(hm:P.follows .mixedOrders=true)(hB:Region.lexB .any l.toArray=true)
  (h:wpQuiet P l.toArray (Qbj w) (fun a'=> ∀d:J1 w,Q .normal a' (later d)) l a):(Code.region id l.toArray true).wp P Q a w:=by
 refine wp_region_quiet (C:=Qbj w) hm hB ⟨⟨w.drew,Ext.dr (Ext.rf w)⟩,rfl⟩ ?_;have e:(fun a'=> ∀w',Qbj w w'→Q .normal a' w')=(fun a'=> ∀d:J1 w,Q .normal a' (later d)):=by
  funext a'
  exact propext ⟨fun h d=>h _ ⟨d,rfl⟩,fun h w' ⟨d,hd⟩=>by rw [hd];exact h d⟩
 rw [e];simpa using h
theorem Zo{f:FuncId}{args:Array Value}{d:J1 W}{v:Value}(h:Calls P f args (later d) fun e w'=>e= .returned v∧Ext (later d) w'):
  Calls P f args (later d) fun e w''=>e= .returned v∧Qbj W w'':=
 h.mono fun _ w' ⟨he,hx⟩=>⟨he,⟨w',(Qt d).tr hx⟩,rfl⟩
section
variable {P:Program} {ops:Array Oper} {md:Region.Mode}
def xUpon(P:Program)(N:Value→World→Prop):Result Next→Prop
 | .ok (.value u) w'=>N u w'
 | .ok .skip w'=>N undef w'
 | .ok (.enter f args) w'=>Calls P f args w' (fun e w''=> ∃v,e= .returned v∧N v w'')
 |_=>False
theorem Qea{N N':Value→World→Prop}(h: ∀v w,N v w→N' v w): ∀r:Result Next,xUpon P N r→xUpon P N' r
 | .ok (.value u) w',hh=>h _ _ hh
 | .ok .skip w',hh=>h _ _ hh
 | .ok (.enter f args) w',hh=>Calls.mono hh fun e w'' ⟨v,h1,h2⟩=>⟨v,h1,h _ _ h2⟩
def xOp(P:Program)(ops:Array Oper)(i:Nat)(K:Act→World→Prop)(a:Act)(w:World):Prop:=
 match ops[i]? with
 |none=>K a w
 |some o=>if Region.wanted o (yielded ops a.tmps)=true then xUpon P (fun v w'=>K (a.put o.dst v) w') ((execOp a.eval o).run P w)else K (a.put o.dst undef) w
theorem QhC{a:Act}{K':Act→World→Prop}(h: ∀a w,K a w→K' a w)(hh:xOp P ops i K a w):xOp P ops i K' a w:=by
 unfold xOp at*
 split
 ·exact h _ _ (by simpa [*]using hh)
 ·rename_i o ho
  simp only [ho]at hh
  split
  ·rename_i hw;simp only [hw,if_true]at hh;exact Qea (fun v w' h1=>h _ _ h1) _ hh
  ·rename_i hw;simp only [hw]at hh;exact h _ _ hh
theorem QhD{a:Act}{Q:Exit→Act→World→Prop}(hh:xOp P ops i K a w):wpOp P ops Q i K a w:=by
 unfold xOp at hh;unfold wpOp
 split
 ·rename_i ho;simp only [ho]at hh;exact hh
 ·rename_i o ho
  simp only [ho]at hh
  split
  ·rename_i hw
   simp only [hw,if_true]at hh
   left
   unfold Oper.wp;generalize (execOp a.eval o).run P w=r at*
   cases r with
   |ok n w'=>
    cases n<;>simp only [xUpon]at hh<;>simp only [Oper.upon]
    case value u=>exact hh
    case skip=>exact hh
    case enter f args=>exact hh.mono fun e w'' ⟨v,he,hw''⟩=>by subst he;exact hw''
   |halt x w'=>simp only [xUpon]at hh
  ·rename_i hw;simp only [hw]at hh;exact hh
def Zg(P:Program)(md:Region.Mode)(ops:Array Oper)(Q:Act→World→Prop):Nat→Array Bool→Act→World→Prop
 |0,listed,a,w=>Region.ready md ops listed= []∧Q a w
 |fuel+1,listed,a,w=>(Region.ready md ops listed= []→Q a w)∧
  ∀i∈Region.ready md ops listed,xOp P ops i (fun a' w'=>Ext w w'∧Zg P md ops Q fuel (listed.setIfInBounds i true) a' w') a w
theorem Qeb{Q':Exit→Act→World→Prop}(hQ: ∀a w,Q a w→Q' .normal a w): ∀(fuel:Nat) (listed:Array Bool) (a:Act) (w:World),
  Zg P md ops Q fuel listed a w→wpAny P md ops Q' fuel listed a w
 |0,_,_,_,h=>⟨h.1,hQ _ _ h.2⟩
 |fuel+1,_,_,_,h=>⟨fun h0=>hQ _ _ (h.1 h0),fun i hi=>QhD (QhC (fun a' w' h1=>Qeb hQ fuel _ a' w' h1.2) (h.2 i hi))⟩
def YY(P:Program)(ops:Array Oper)(w:World)(o:Oper)(v:Value)(a:Act):Prop:=
 (Region.wanted o (yielded ops a.tmps)=true∧ ∀w',Ext w w'→(execOp a.eval o).run P w'= .ok (.value v) w')∨(Region.wanted o (yielded ops a.tmps)=false∧v=undef)∨
  (Region.wanted o (yielded ops a.tmps)=true∧ ∃f args,∀w',Ext w w'→(execOp a.eval o).run P w'= .ok (.enter f args) w'∧Calls P f args w' fun e w''=>e= .returned v∧w''=w')
theorem YY.later{v:Value}{a:Act}(h:YY P ops w o v a)(e:Ext w w'):YY P ops w' o v a:=by
 rcases h with⟨h1,h2⟩|h|⟨h1,f,args,h2⟩
 ·exact .inl ⟨h1,fun w2 e2=>h2 w2 (e.tr e2)⟩
 ·exact .inr (.inl h)
 ·exact .inr (.inr ⟨h1,f,args,fun w2 e2=>h2 w2 (e.tr e2)⟩)
theorem YY.xOp{v:Value}{a:Act}(hi:ops[i]?=some o)(hy:YY P ops w o v a)(h:K (a.put o.dst v) w):xOp P ops i K a w:=by
 unfold Go.Proofs.YtpeonbaodnmlnaaGreat.xOp;simp only [hi];rcases hy with⟨hw,hv⟩|⟨hw,rfl⟩|⟨hw,f,args,hv⟩
 ·simp only [hw,if_true,hv w (Ext.rf _),xUpon];exact h
 ·simp only [hw,Bool.false_eq_true,if_false];exact h
 ·simp only [hw,if_true,(hv w (Ext.rf _)).1,xUpon];exact(hv w (Ext.rf _)).2.mono fun e w'' ⟨h1,h2⟩=>⟨v,h1,by rw [h2];exact h⟩
theorem QrN{j:Nat}{oj:Oper}{v:Value}(hj:ops[j]?=some oj)(hap:oi.apart ops oj=true)
  (hsi: ∀cs b,oi.op≠ .select cs b)(hsj: ∀cs b,oj.op≠ .select cs b){a:Act}
  (hy:YY P ops w oi v a)(h:xOp P ops j K (a.put oi.dst v) w):
  xOp P ops j (fun a' w'=>YY P ops w oi v a'∧K (a'.put oi.dst v) w') a w:=by
 obtain⟨h1,h2,h3⟩:=Oper.apart_spec hap;have keep: ∀u,YY P ops w oi v (a.put oj.dst u):=fun u=>by
  unfold YY at*;rw [execOp_put oi hsi a oj.dst u h3,wanted_put oi a oj.dst u h3];exact hy
 unfold xOp at*;simp only [hj]at*;rw [wanted_put oj a oi.dst v h1]at h
 split
 ·rename_i hw
  simp only [hw,if_true]at h;rw [execOp_put oj hsj a oi.dst v h1]at h;exact Qea (fun u w' h4=>⟨keep u,by rw [←Act.put_comm a v u h2];exact h4⟩) _ h
 ·rename_i hw
  simp only [hw]at h;exact⟨keep _,by rw [←Act.put_comm a v undef h2];exact h⟩
theorem Qci{v:Value}(hi:ops[i]?=some oi)(hsel: ∀(j:Nat) (o:Oper) cs b,ops[j]?=some o→o.op≠ .select cs b):
  ∀(fuel:Nat) (listed:Array Bool) (a:Act) (w:World),
   (∀j oj,ops[j]?=some oj→j≠i→listed.getD j true=false→(∀e∈oj.after,Region.binds md e=true→e.on≠i)→oi.apart ops oj=true)→
   i∈Region.ready md ops listed→YY P ops w oi v a→
   Zg P md ops Q fuel (listed.setIfInBounds i true) (a.put oi.dst v) w→Zg P md ops Q (fuel+1) listed a w:=by
 intro fuel
 induction fuel with
 |zero=>
  intro listed a w _ hr hy H;refine⟨fun h=>(by rw [h]at hr;cases hr),fun j hj=> ?_⟩
  by_cases hji:j=i
  ·subst hji;exact hy.xOp hi ⟨Ext.rf _,H⟩
  ·have:=ready_mono hj hji;rw [H.1]at this
   cases this
 |succ fuel ih=>
  intro listed a w hfree hr hy H;refine⟨fun h=>(by rw [h]at hr;cases hr),fun j hj=> ?_⟩
  by_cases hji:j=i
  ·subst hji;exact hy.xOp hi ⟨Ext.rf _,H⟩
  ·have h1:=H.2 j (ready_mono hj hji);obtain⟨hjun,oj,hoj,hall⟩:=mem_ready.1 hj;have hnot: ∀e∈oj.after,Region.binds md e=true→e.on≠i:=fun e he hb heq=>by
    have h1:=hall e he hb;have h0:=(mem_ready.1 hr).1;rw [heq]at h1;rcases Nat.lt_or_ge i listed.size with h'|h'
    ·simp [h']at h0 h1;rw [h0]at h1;cases h1
    ·simp [Array.getElem?_eq_none h']at h1
   have h2:=QrN hoj (hfree j oj hoj hji hjun hnot) (fun cs b=>hsel i oi cs b hi) (fun cs b=>hsel j oj cs b hoj) hy h1;have hfree': ∀k ok,ops[k]?=some ok→k≠i→(listed.setIfInBounds j true).getD k true=false→
     (∀e∈ok.after,Region.binds md e=true→e.on≠i)→oi.apart ops ok=true:=fun k ok hk hki hun hno=>by
    refine hfree k ok hk hki ?_ hno
    by_cases hjk:j=k
    ·subst hjk;exact hjun
    ·rw [getD_set_ne true hjk]at hun;exact hun
   refine QhC (fun a' w' h3=>⟨h3.2.1,ih (listed.setIfInBounds j true) a' w' hfree' (ready_mono hr (Ne.symm hji)) (h3.1.later h3.2.1) ?_⟩) h2;have h4:=h3.2.2;rw [Array.setIfInBounds_comm _ _ hji];exact h4
theorem Qxr{n:Nat}{v:Value}{a:Act}{f:FuncId}{args:Array Value}(hi:ops[k]?=some oi)(hs:Region.noSelect ops=true)
  (hf:Region.free md ops listed k=true)(hr:(Region.ready md ops listed).contains k=true)(hw:Region.wanted oi (yielded ops a.tmps)=true)
  (he: ∀w',Ext w w'→(execOp a.eval oi).run P w'= .ok (.enter f args) w')(hc: ∀w',Ext w w'→Calls P f args w' fun e w''=>e= .returned v∧w''=w')
  (H:Zg P md ops Q fuel (listed.setIfInBounds k true) (a.put oi.dst v) w):Zg P md ops Q (fuel+1) listed a w:=
 Qci hi (Region.noSelect_spec hs) fuel listed a w (Region.free_spec hi hf) (by simpa using hr) (.inr (.inr ⟨hw,f,args,fun w' h=>⟨he w' h,hc w' h⟩⟩)) H
theorem QhE{a:Act}(hr:Region.ready md ops listed= [i])
  (h:xOp P ops i (fun a' w'=>Ext w w'∧Zg P md ops Q fuel (listed.setIfInBounds i true) a' w') a w):Zg P md ops Q (fuel+1) listed a w:=
 by
  refine⟨fun h0=> ?_,fun j hj=> ?_⟩
  ·rw [hr]at h0;cases h0
  ·rw [hr]at hj;obtain rfl:j=i:=by simpa using hj
   exact h
theorem Qxs{v:Value}{a:Act}(hi:ops[i]?=some oi)(hs:Region.noSelect ops=true)
  (hf:Region.free md ops listed i=true)(hr:(Region.ready md ops listed).contains i=true)(hw:Region.wanted oi (yielded ops a.tmps)=true)
  (hy: ∀w',Ext w w'→(execOp a.eval oi).run P w'= .ok (.value v) w')
  (H:Zg P md ops Q fuel (listed.setIfInBounds i true) (a.put oi.dst v) w):Zg P md ops Q (fuel+1) listed a w:=
 Qci hi (Region.noSelect_spec hs) fuel listed a w (Region.free_spec hi hf) (by simpa using hr) (.inl ⟨hw,hy⟩) H
theorem QtJ{a:Act}(hi:ops[i]?=some oi)(hr:Region.ready md ops listed= [i])(hw:Region.wanted oi (yielded ops a.tmps)=true)
  (H:xUpon P (fun v w'=>Ext w w'∧Zg P md ops Q fuel (listed.setIfInBounds i true) (a.put oi.dst v) w') ((execOp a.eval oi).run P w)):Zg P md ops Q (fuel+1) listed a w:=
 QhE hr (by unfold xOp;simp only [hi,hw,if_true];exact H)
theorem Qxt{a:Act}(hr:Region.ready md ops listed= [])(H:Q a w):Zg P md ops Q fuel listed a w:=by
 cases fuel with
 |zero=>exact⟨hr,H⟩
 |succ n=>exact⟨fun _=>H,fun i hi=>by rw [hr]at hi;cases hi⟩
theorem QhF{id:Nat}{Q:Exit→Act→World→Prop}{a:Act}(hm:P.follows .mixedOrders=true)
  (h:Zg P .any ops (fun a w=>Q .normal a w) ops.size (Array.replicate ops.size false) a w.drew):(Code.region id ops true).wp P Q a w:=
 wp_region_any hm (Qeb (fun _ _ h=>h) _ _ _ _ h)
theorem Qxu{v:Value}{f:FuncId}{args:Array Value}{a:Act}(hi:ops[i]?=some oi)(hr:Region.ready md ops listed= [i])(hw:Region.wanted oi (yielded ops a.tmps)=true)
  (he:(execOp a.eval oi).run P w= .ok (.enter f args) w)(hc:Calls P f args w fun e w'=>e= .returned v∧Ext w w')
  (H: ∀w',Ext w w'→Zg P md ops Q fuel (listed.setIfInBounds i true) (a.put oi.dst v) w'):Zg P md ops Q (fuel+1) listed a w:=by
 refine QtJ hi hr hw ?_;rw [he];exact hc.mono fun e w' h=>⟨v,h.1,h.2,H w' h.2⟩
theorem Qxv{v:Value}{a:Act}(hi:ops[i]?=some oi)(hr:Region.ready md ops listed= [i])(hw:Region.wanted oi (yielded ops a.tmps)=true)
  (he:(execOp a.eval oi).run P w= .ok (.value v) w1)(hE:Ext w w1)
  (H:Zg P md ops Q fuel (listed.setIfInBounds i true) (a.put oi.dst v) w1):Zg P md ops Q (fuel+1) listed a w:=by
 refine QtJ hi hr hw ?_;rw [he];exact⟨hE,H⟩
end
def Qh(n:Nat):Code→Option (Array Oper)
 | .region id ops _=>if id=n then some ops else none
 | .seq a b=>match Qh n a with|some o=>some o|none=>Qh n b
 | .cond _ a b=>match Qh n a with|some o=>some o|none=>Qh n b
 | .block _ b=>Qh n b
 | .loop b=>Qh n b
 | .rangeFunc _ _ a b=>match Qh n a with|some o=>some o|none=>Qh n b
 | .scope b=>Qh n b
 |_=>none
def lst(n k:Nat):Array Bool:=((List.range n).map fun j=>decide (j<k)).toArray
theorem JJ(n k:Nat):(lst n k).setIfInBounds k true=lst n (k+1):=by
 unfold lst;refine Array.ext_getElem? fun i=> ?_;rw [Array.getElem?_setIfInBounds]
 by_cases hi:i<n
 ·by_cases h:k=i
  ·subst h;simp [hi]
  ·simp [h,hi,show(i<k+1)=(i<k)from propext ⟨fun h=>by omega,fun h=>by omega⟩]
 ·by_cases h:k=i
  ·subst h;simp [hi]
  ·simp [h,hi]
theorem Qec(n:Nat):Array.replicate n false=lst n 0:=by
 unfold lst;refine Array.ext_getElem? fun i=> ?_
 by_cases hi:i<n<;>simp [hi,Array.getElem?_replicate]
def upX(ops:Array Oper)(listed:Array Bool)(k:Nat):Bool:=decide (k<ops.size)&&(!listed.getD k true&&((ops[k]?).map (·.after.all fun e=>!Region.binds .any e||listed.getD e.on false)).getD false)
theorem ZZ{ops:Array Oper}(h:upX ops listed k=true):(Region.ready .any ops listed).contains k=true:=by
 unfold upX at h;rw [Bool.and_eq_true,decide_eq_true_eq]at h;rw [List.contains_iff_mem];unfold Region.ready;rw [List.mem_filter,List.mem_range];exact h
def okX(ops:Array Oper)(n k:Nat):Bool:=Region.free .any ops (lst n k) k&&upX ops (lst n k) k
def Qjh(ops:Array Oper)(n:Nat)(l:List Nat)(lo hi:Nat):Bool:=(List.range hi).all fun k=>decide (k<lo)||l.contains k||okX ops n k
theorem Qms{ops:Array Oper}{n lo hi:Nat}{l:List Nat}(h:Qjh ops n l lo hi=true)(h1:lo≤k)(h2:k<hi)(h3:l.contains k=false):okX ops n k=true:=by
 unfold Qjh at h;have:=List.all_eq_true.1 h k (List.mem_range.2 h2);rw [h3,decide_eq_false Om]at this;simpa using this
theorem takeL{P:Program}{ops:Array Oper}{n:Nat}{v:Value}{a:Act}(hs:Region.noSelect ops=true)(hok:okX ops n k=true)(hi:ops[k]?=some oi)(hw:Region.wanted oi (yielded ops a.tmps)=true)
  (hy: ∀w',Ext w w'→(execOp a.eval oi).run P w'= .ok (.value v) w')
  (H:Zg P .any ops Q fuel (lst n (k+1)) (a.put oi.dst v) w):Zg P .any ops Q (fuel+1) (lst n k) a w:=by
 unfold okX at hok;rw [Bool.and_eq_true]at hok;refine Qxs hi hs hok.1 (ZZ hok.2) hw hy ?_;rw [JJ];exact H
theorem Qxw{P:Program}{ops:Array Oper}{n:Nat}{v:Value}{f:FuncId}{args:Array Value}{a:Act}(hr:Region.ready .any ops (lst n k)= [k])(hi:ops[k]?=some oi)(hw:Region.wanted oi (yielded ops a.tmps)=true)
  (he:(execOp a.eval oi).run P w= .ok (.enter f args) w)(hc:Calls P f args w fun e w'=>e= .returned v∧Ext w w')
  (H: ∀w',Ext w w'→Zg P .any ops Q fuel (lst n (k+1)) (a.put oi.dst v) w'):Zg P .any ops Q (fuel+1) (lst n k) a w:=
 Qxu hi hr hw he hc fun w' h=>by rw [JJ];exact H w' h
theorem Qxx{P:Program}{ops:Array Oper}{n:Nat}{v:Value}{a:Act}(hr:Region.ready .any ops (lst n k)= [k])(hi:ops[k]?=some oi)(hw:Region.wanted oi (yielded ops a.tmps)=true)
  (he:(execOp a.eval oi).run P w= .ok (.value v) w1)(hE:Ext w w1)
  (H:Zg P .any ops Q fuel (lst n (k+1)) (a.put oi.dst v) w1):Zg P .any ops Q (fuel+1) (lst n k) a w:=
 Qxv hi hr hw he hE (by rw [JJ];exact H)
theorem Qgk{P:Program}{ops:Array Oper}{n:Nat}{v:Value}{a:Act}{f:FuncId}{args:Array Value}(hs:Region.noSelect ops=true)(hok:okX ops n k=true)(hi:ops[k]?=some oi)(hw:Region.wanted oi (yielded ops a.tmps)=true)
  (he: ∀w',Ext w w'→(execOp a.eval oi).run P w'= .ok (.enter f args) w')(hc: ∀w',Ext w w'→Calls P f args w' fun e w''=>e= .returned v∧w''=w')
  (H:Zg P .any ops Q fuel (lst n (k+1)) (a.put oi.dst v) w):Zg P .any ops Q (fuel+1) (lst n k) a w:=by
 unfold okX at hok;rw [Bool.and_eq_true]at hok;refine Qxr (n:=n) hi hs hok.1 (ZZ hok.2) hw he hc ?_;rw [JJ];exact H
theorem Qxy{P:Program}{ops E:Array Oper}{n:Nat}{a:Act}{R:Array Oper→Prop}(h:ops=E)(hR:R E)(hf:ops.size=n)
  (H:R ops→Zg P .any ops Q n (lst n 0) a w):Zg P .any ops Q ops.size (Array.replicate ops.size false) a w:=by
 rw [hf,Qec];exact H (h▸hR)
structure Tu where
 a:Int
 b:Int
 c:Int
 d:Int
 deriving DecidableEq
abbrev tu(a b c d:Int):Value:= .agg #[.int .u32 a,.int .u32 b,.int .u16 c,.int .u16 d]
abbrev Tu.v(t:Tu):Value:=tu t.a t.b t.c t.d
def cmpI(x y:Int):Int:=if x<y then-1 else if y<x then 1 else 0
def orR(f:Nat→Int):Nat→Int
 |0=>0
 |r+1=>if f (3- r)=0 then orR f r else f (3- r)
def QrO(x y z t:Int):Nat→Int
 |0=>x
 |1=>y
 |2=>z
 |_=>t
def YQ(s t:Tu):Int:=orR (QrO (cmpI s.a t.a) (cmpI s.b t.b) (cmpI s.c t.c) (cmpI s.d t.d)) 4
theorem QrP(x:Int)(w:World):Calls Tryz.prog 221 #[.int .u32 x] w fun e w'=>e= .returned (.bool false)∧w=w':=by
 go_enter Tryz.func221,Tryz.ntmps221
 go_wp2;go_ret;exact⟨Qm (by simp),rfl⟩
theorem Qdz(x y:Int)(w:World):Calls Tryz.prog 181 #[.int .u32 x,.int .u32 y] w fun e w'=>e= .returned (.int .i64 (cmpI x y))∧w=w':=by
 go_enter Tryz.func181,Tryz.ntmps181
 go_wp2_with (go_at_call 221;(refine(QrP _ _).mono ?_);rintro e w' ⟨rfl,rfl⟩)
 all_goals(go_ret;refine⟨?_,rfl⟩)
 all_goals(refine congrArg (fun z=>Ending.returned (.int .i64 z)) ?_;unfold cmpI;first|(simp [*];done)|(simp_all;omega)|(split<;>(try split)<;>omega))
theorem Qag{B O:Nat}{a:Int}(h0:w.cell? ⟨B,O,none⟩=some (.int .u32 a))(hl:Lt B w)
  (hx:ρ x= .pointer (some ⟨B,O,none⟩)): ∀w',Ext w w'→(execOp ρ ⟨dst,.load 61 x,ty,pos,after,g⟩).run Tryz.prog w'= .ok (.value (.int .u32 a)) w':=by
 intro w' hE;have h0:=(hE.cell (p:=⟨B,_,none⟩) hl).trans h0;simp only [execOp,hx];go_simp
theorem QrQ(x:Int)(w:World):Calls Tryz.prog 222 #[.int .u16 x] w fun e w'=>e= .returned (.bool false)∧w=w':=by
 go_enter Tryz.func222,Tryz.ntmps222
 go_wp2;go_ret;exact⟨Qm (by simp),rfl⟩
theorem QdA(x y:Int)(w:World):Calls Tryz.prog 182 #[.int .u16 x,.int .u16 y] w fun e w'=>e= .returned (.int .i64 (cmpI x y))∧w=w':=by
 go_enter Tryz.func182,Tryz.ntmps182
 go_wp2_with (go_at_call 222;(refine(QrQ _ _).mono ?_);rintro e w' ⟨rfl,rfl⟩)
 all_goals(go_ret;refine⟨?_,rfl⟩)
 all_goals(refine congrArg (fun z=>Ending.returned (.int .i64 z)) ?_;unfold cmpI;first|(simp [*];done)|(simp_all;omega)|(split<;>(try split)<;>omega))
theorem Qah{B O:Nat}{a:Int}(h0:w.cell? ⟨B,O,none⟩=some (.int .u16 a))(hl:Lt B w)
  (hx:ρ x= .pointer (some ⟨B,O,none⟩)): ∀w',Ext w w'→(execOp ρ ⟨dst,.load 62 x,ty,pos,after,g⟩).run Tryz.prog w'= .ok (.value (.int .u16 a)) w':=by
 intro w' hE;have h0:=(hE.cell (p:=⟨B,_,none⟩) hl).trans h0;simp only [execOp,hx];go_simp
theorem QrR(x y z t:Int)(W:World):
  Cr 180 #[.slice (some ⟨W.heap.size,0,none⟩) 4 4] (W.alloc (.cells #[.int .i64 x,.int .i64 y,.int .i64 z,.int .i64 t] 3)) (.int .i64 (orR (QrO x y z t) 4)):=by
 have hcells: ∀j,j<4→(W.alloc (.cells #[.int .i64 x,.int .i64 y,.int .i64 z,.int .i64 t] 3)).cell? ⟨W.heap.size,j,none⟩=some (.int .i64 (QrO x y z t j)):=fun j hj=>by
  rw [Qa,Zn];obtain rfl|rfl|rfl|rfl:j=0∨j=1∨j=2∨j=3:=by omega
  all_goals rfl
 have HC:=Xh hcells;clear hcells;obtain⟨f,hf⟩: ∃f,QrO x y z t=f:=⟨_,rfl⟩;rw [hf]at HC⊢;clear hf;generalize hV:W.alloc (.cells #[.int .i64 x,.int .i64 y,.int .i64 z,.int .i64 t] 3)=V at*;have hL:Lt W.heap.size V:=by rw [←hV];simp [Lt]
 clear hV;generalize W.heap.size=B at*
 go_enter Tryz.func180,Tryz.ntmps180
 go_wp2
 go_loopw [5,8] (fun _ a wr=> ∃k:Nat,k≤4∧a= .int .i64 k∧orR f 4=orR f (4- k)∧Ext V wr) (fun _ a _=>4- (intOf a).toNat)
 case atStart=>exact⟨0,Nat.zero_le _,rfl,rfl,Ext.rf _⟩
 case round=>
  obtain⟨k,hk,rfl,hO,hE⟩:=hrel;have hk4:(k:Int)≤4:=by omega
  by_cases hlt:k<4
  ·have hkl:(k:Int)<4:=by omega
   have hc:=(hE.cell (p:=⟨B,k,none⟩) hL).trans (HC.out k hlt);have hs:orR f (4- k)=(if f k=0 then orR f (4- (k+1))else f k):=by
    obtain⟨r,hr⟩: ∃r,4- k=r+1:=⟨4- (k+1),Om⟩;rw [hr,show 4- (k+1)=r by omega];show(if f (3- r)=0 then orR f r else f (3- r))=_;rw [show 3- r=k by omega]
   have HO:=Xh (hO.trans hs);clear hO hs
   cases hq:(f k==0)
   ·have hqn:(f k !=0)=true:=by rw [bne,hq];rfl
    have HV:=Xh (show orR f 4=f k by rw [HO.out,if_neg (by simpa using hq)]);go_wp2;go_ret;exact⟨by rw [HV.out];rfl,hE⟩
   ·have hqn:(f k !=0)=false:=by rw [bne,hq];rfl
    have HV:=Xh (show orR f 4=orR f (4- (k+1))by rw [HO.out,if_pos (by simpa using hq)]);go_wp2
    go_roundw
    case rel=>exact⟨k+1,Om,by go_num,HV.out,hE⟩
    case measure=>simp [intOf];omega
  ·obtain rfl:k=4:=by omega
   have HV:=Xh (show orR f 4=0 from hO);clear hO;go_wp2;go_ret;exact⟨by rw [HV.out];rfl,hE⟩
def Qxz(ops:Array Oper):Prop:=Region.noSelect ops=true∧(∀k,k<23→ [20,21].contains k=false→okX ops 23 k=true)∧(∀k,[20,21].contains k=true→Region.ready .any ops (lst 23 k)= [k])∧Region.ready .any ops (lst 23 23)= []
theorem QuN:Qjh ((Tryz.f108.body.bind (Qh 1)).getD #[]) 23 [20,21] 0 23=true:=Kr
theorem QrS:Region.ready .any ((Tryz.f108.body.bind (Qh 1)).getD #[]) (lst 23 20)= [20]:=Kr
theorem QrT:Region.ready .any ((Tryz.f108.body.bind (Qh 1)).getD #[]) (lst 23 21)= [21]:=Kr
theorem QAa:Qxz ((Tryz.f108.body.bind (Qh 1)).getD #[]):=by
 refine⟨Kr,fun k hk hl=>Qms QuN (Nat.zero_le _) hk hl,fun k hk=> ?_,Kr⟩;simp only [List.contains_iff_mem,List.mem_cons,List.not_mem_nil,or_false]at hk;rcases hk with rfl|rfl
 ·exact QrS
 ·exact QrT
theorem Qgl(s t:Tu)(w:World):
  Cr 108 #[tu s.a s.b s.c s.d,tu t.a t.b t.c t.d] w (.int .i64 (YQ s t)):=by
 go_enter Tryz.func108,Tryz.ntmps108
 go_wp2_with (fail)
 obtain⟨W0,hW⟩: ∃W0,(w.alloc (.cells #[.int .u32 s.a,.int .u32 s.b,.int .u16 s.c,.int .u16 s.d] 64)).alloc (.cells #[.int .u32 t.a,.int .u32 t.b,.int .u16 t.c,.int .u16 t.d] 64)=W0:=⟨_,rfl⟩;rw [hW];have e0:Ext w W0:=by rw [←hW];exact Ext.al Ea _
 have rs:Qc W0 w.heap.size=#[.int .u32 s.a,.int .u32 s.b,.int .u16 s.c,.int .u16 s.d]:=by rw [←hW];simp [go_sem]
 have rt:Qc W0 (w.heap.size+1)=#[.int .u32 t.a,.int .u32 t.b,.int .u16 t.c,.int .u16 t.d]:=by rw [←hW];simp [go_sem]
 have ls:Lt w.heap.size W0:=by rw [←hW];simp [Lt];try omega
 have lt:Lt (w.heap.size+1) W0:=by rw [←hW];simp [Lt];try omega
 clear hW;have s0:W0.cell? ⟨w.heap.size,0,none⟩=some (.int .u32 s.a):=by rw [Qa,rs];rfl
 have s1:W0.cell? ⟨w.heap.size,1,none⟩=some (.int .u32 s.b):=by rw [Qa,rs];rfl
 have s2:W0.cell? ⟨w.heap.size,2,none⟩=some (.int .u16 s.c):=by rw [Qa,rs];rfl
 have s3:W0.cell? ⟨w.heap.size,3,none⟩=some (.int .u16 s.d):=by rw [Qa,rs];rfl
 have t0:W0.cell? ⟨w.heap.size+1,0,none⟩=some (.int .u32 t.a):=by rw [Qa,rt];rfl
 have t1:W0.cell? ⟨w.heap.size+1,1,none⟩=some (.int .u32 t.b):=by rw [Qa,rt];rfl
 have t2:W0.cell? ⟨w.heap.size+1,2,none⟩=some (.int .u16 t.c):=by rw [Qa,rt];rfl
 have t3:W0.cell? ⟨w.heap.size+1,3,none⟩=some (.int .u16 t.d):=by rw [Qa,rt];rfl
 clear rs rt;refine QhF Kr ?_;obtain⟨W1,hW⟩: ∃W1,W0.drew=W1:=⟨_,rfl⟩;have h1:Ext W0 W1:=by rw [←hW];exact Ext.dr (Ext.rf _)
 rw [hW];clear hW;have s0:=(h1.cell (p:=⟨w.heap.size,_,none⟩) ls).trans s0;have s1:=(h1.cell (p:=⟨w.heap.size,_,none⟩) ls).trans s1;have s2:=(h1.cell (p:=⟨w.heap.size,_,none⟩) ls).trans s2;have s3:=(h1.cell (p:=⟨w.heap.size,_,none⟩) ls).trans s3;have t0:=(h1.cell (p:=⟨w.heap.size+1,_,none⟩) lt).trans t0;have t1:=(h1.cell (p:=⟨w.heap.size+1,_,none⟩) lt).trans t1;have t2:=(h1.cell (p:=⟨w.heap.size+1,_,none⟩) lt).trans t2;have t3:=(h1.cell (p:=⟨w.heap.size+1,_,none⟩) lt).trans t3;have ls:Lt w.heap.size W1:=Xl ls h1.size;have lt:Lt (w.heap.size+1) W1:=Xl lt h1.size;refine Qxy (n:=23) (R:=Qxz) (E:=((Tryz.f108.body.bind (Qh 1)).getD #[])) Kr QAa Kr fun hS=> ?_;refine takeL (n:=23) (k:=0) (v:= .pointer (some ⟨w.heap.size,0,none⟩)) hS.1 (hS.2.1 0 Dc Dc) rfl Kr (fun _ _=>by kernel_rfl) ?_;refine takeL (n:=23) (k:=1) (v:= .int .u32 s.a) hS.1 (hS.2.1 1 Dc Dc) rfl Kr (Qag s0 ls Kr) ?_;refine takeL (n:=23) (k:=2) (v:= .pointer (some ⟨(w.heap.size+1),0,none⟩)) hS.1 (hS.2.1 2 Dc Dc) rfl Kr (fun _ _=>by kernel_rfl) ?_;refine takeL (n:=23) (k:=3) (v:= .int .u32 t.a) hS.1 (hS.2.1 3 Dc Dc) rfl Kr (Qag t0 lt Kr) ?_;refine Qgk (n:=23) (k:=4) (v:= .int .i64 (cmpI s.a t.a)) (f:=181) (args:=#[.int .u32 s.a,.int .u32 t.a]) hS.1 (hS.2.1 4 Dc Dc) rfl Kr (fun _ _=>by kernel_rfl) (fun w' _=>(Qdz s.a t.a w').mono fun _ _ h=>⟨h.1,h.2.symm⟩) ?_;refine takeL (n:=23) (k:=5) (v:= .pointer (some ⟨w.heap.size,1,none⟩)) hS.1 (hS.2.1 5 Dc Dc) rfl Kr (fun _ _=>by kernel_rfl) ?_;refine takeL (n:=23) (k:=6) (v:= .int .u32 s.b) hS.1 (hS.2.1 6 Dc Dc) rfl Kr (Qag s1 ls Kr) ?_;refine takeL (n:=23) (k:=7) (v:= .pointer (some ⟨(w.heap.size+1),1,none⟩)) hS.1 (hS.2.1 7 Dc Dc) rfl Kr (fun _ _=>by kernel_rfl) ?_;refine takeL (n:=23) (k:=8) (v:= .int .u32 t.b) hS.1 (hS.2.1 8 Dc Dc) rfl Kr (Qag t1 lt Kr) ?_;refine Qgk (n:=23) (k:=9) (v:= .int .i64 (cmpI s.b t.b)) (f:=181) (args:=#[.int .u32 s.b,.int .u32 t.b]) hS.1 (hS.2.1 9 Dc Dc) rfl Kr (fun _ _=>by kernel_rfl) (fun w' _=>(Qdz s.b t.b w').mono fun _ _ h=>⟨h.1,h.2.symm⟩) ?_;refine takeL (n:=23) (k:=10) (v:= .pointer (some ⟨w.heap.size,2,none⟩)) hS.1 (hS.2.1 10 Dc Dc) rfl Kr (fun _ _=>by kernel_rfl) ?_;refine takeL (n:=23) (k:=11) (v:= .int .u16 s.c) hS.1 (hS.2.1 11 Dc Dc) rfl Kr (Qah s2 ls Kr) ?_;refine takeL (n:=23) (k:=12) (v:= .pointer (some ⟨(w.heap.size+1),2,none⟩)) hS.1 (hS.2.1 12 Dc Dc) rfl Kr (fun _ _=>by kernel_rfl) ?_;refine takeL (n:=23) (k:=13) (v:= .int .u16 t.c) hS.1 (hS.2.1 13 Dc Dc) rfl Kr (Qah t2 lt Kr) ?_;refine Qgk (n:=23) (k:=14) (v:= .int .i64 (cmpI s.c t.c)) (f:=182) (args:=#[.int .u16 s.c,.int .u16 t.c]) hS.1 (hS.2.1 14 Dc Dc) rfl Kr (fun _ _=>by kernel_rfl) (fun w' _=>(QdA s.c t.c w').mono fun _ _ h=>⟨h.1,h.2.symm⟩) ?_;refine takeL (n:=23) (k:=15) (v:= .pointer (some ⟨w.heap.size,3,none⟩)) hS.1 (hS.2.1 15 Dc Dc) rfl Kr (fun _ _=>by kernel_rfl) ?_;refine takeL (n:=23) (k:=16) (v:= .int .u16 s.d) hS.1 (hS.2.1 16 Dc Dc) rfl Kr (Qah s3 ls Kr) ?_;refine takeL (n:=23) (k:=17) (v:= .pointer (some ⟨(w.heap.size+1),3,none⟩)) hS.1 (hS.2.1 17 Dc Dc) rfl Kr (fun _ _=>by kernel_rfl) ?_;refine takeL (n:=23) (k:=18) (v:= .int .u16 t.d) hS.1 (hS.2.1 18 Dc Dc) rfl Kr (Qah t3 lt Kr) ?_;refine Qgk (n:=23) (k:=19) (v:= .int .i64 (cmpI s.d t.d)) (f:=182) (args:=#[.int .u16 s.d,.int .u16 t.d]) hS.1 (hS.2.1 19 Dc Dc) rfl Kr (fun _ _=>by kernel_rfl) (fun w' _=>(QdA s.d t.d w').mono fun _ _ h=>⟨h.1,h.2.symm⟩) ?_;refine Qxx (n:=23) (k:=20) (v:= .slice (some ⟨W1.heap.size,0,none⟩) 4 4) (w1:=W1.alloc (.cells #[.int .i64 (cmpI s.a t.a),.int .i64 (cmpI s.b t.b),.int .i64 (cmpI s.c t.c),.int .i64 (cmpI s.d t.d)] 3)) (hS.2.2.1 20 Dc) rfl Kr Kr Ea ?_;refine Qxw (n:=23) (k:=21) (v:= .int .i64 (YQ s t)) (f:=180) (args:=#[.slice (some ⟨W1.heap.size,0,none⟩) 4 4]) (hS.2.2.1 21 Dc) rfl Kr Kr (QrR _ _ _ _ _) ?_;intro W2 h2;refine takeL (n:=23) (k:=22) (v:= .int .i64 (YQ s t)) hS.1 (hS.2.1 22 Dc Dc) rfl Kr (fun _ _=>by kernel_rfl) ?_;refine Qxt hS.2.2.2 ?_;generalize hA:Act.put _ _ _=A;go_wp2;exact bodyPost_ret (v:= .int .i64 (YQ s t)) (by subst hA;kernel_rfl) (by subst hA;kernel_rfl) ⟨rfl,(((e0.tr h1).tr Ea).tr h2)⟩
def idx{α:Type}(pr:α→Bool)(ms:List α):Int:=if ms.any pr then ms.findIdx pr else-1
theorem QhG{α:Type}(pr:α→Bool)(ms:List α)(h: ∀k (hk:k<ms.length),pr ms[k]=false):idx pr ms= -1:=by
 unfold idx;rw [if_neg];intro hh;obtain⟨x,hx,hp⟩:=List.any_eq_true.1 hh;obtain⟨k,hk,rfl⟩:=List.mem_iff_getElem.1 hx;rw [h k hk]at hp;cases hp
theorem QhH{α:Type}(pr:α→Bool)(ms:List α)(k:Nat)(hk:k<ms.length)(h: ∀j (hj:j<k),pr (ms[j]'Om)=false)(hp:pr ms[k]=true):idx pr ms=k:=by
 unfold idx;rw [if_pos (List.any_eq_true.2 ⟨ms[k],List.getElem_mem hk,hp⟩)]
 congr 1
 rw [List.findIdx_eq hk];exact⟨hp,fun j hj=>by simpa using h j hj⟩
theorem Qoh{α:Type}(pr:α→Bool)(ms:List α):decide (0≤idx pr ms)=ms.any pr:=by
 unfold idx
 cases h:ms.any pr<;>simp
structure Co where
 t:Tu
 s:Int
 l:Int
 deriving DecidableEq
abbrev Co.v(x:Co):Value:= .agg #[.int .u32 x.t.a,.int .u32 x.t.b,.int .u16 x.t.c,.int .u16 x.t.d,.int .i64 x.s,.int .i64 x.l]
def SlC(w:World)(p:Option Addr)(xs:List Co):Prop:= ∀k,(h:k<xs.length)→ ∃b off,p=some ⟨b,off,none⟩∧b<w.heap.size∧w.cell? ⟨b,off+k*6,none⟩=some (.int .u32 xs[k].t.a)∧w.cell? ⟨b,off+k*6+1,none⟩=some (.int .u32 xs[k].t.b)∧w.cell? ⟨b,off+k*6+2,none⟩=some (.int .u16 xs[k].t.c)∧w.cell? ⟨b,off+k*6+3,none⟩=some (.int .u16 xs[k].t.d)∧w.cell? ⟨b,off+k*6+4,none⟩=some (.int .i64 xs[k].s)∧w.cell? ⟨b,off+k*6+5,none⟩=some (.int .i64 xs[k].l)
theorem SlC.ext{p:Option Addr}{xs:List Co}(h:SlC w p xs)(e:Ext w w'):SlC w' p xs:=fun k hk=>by
 obtain⟨b,off,hp,hb,c0,c1,c2,c3,c4,c5⟩:=h k hk;exact⟨b,off,hp,Xl hb e.size,(e.cell (p:=⟨b,off+k*6,none⟩) hb).trans c0,(e.cell (p:=⟨b,off+k*6+1,none⟩) hb).trans c1,(e.cell (p:=⟨b,off+k*6+2,none⟩) hb).trans c2,(e.cell (p:=⟨b,off+k*6+3,none⟩) hb).trans c3,(e.cell (p:=⟨b,off+k*6+4,none⟩) hb).trans c4,(e.cell (p:=⟨b,off+k*6+5,none⟩) hb).trans c5⟩
theorem SlC.nil(w:World)(p:Option Addr):SlC w p []:=fun k hk=>by simp at hk
theorem QdB(g:Nat)(lb:Array Value)(eg: ∀args w,(callFunc g args).run Tryz.prog w= .ok (.enter g args) w)(pr:Co→Bool)(p:Option Addr)(xs:List Co)(c:Nat)(w:World)
  (hs:SlC w p xs)(hl:xs.length≤1000)(hf: ∀x W,x∈xs→Ext w W→Cr g (#[.agg #[.int .u32 x.t.a,.int .u32 x.t.b,.int .u16 x.t.c,.int .u16 x.t.d,.int .i64 x.s,.int .i64 x.l]]++lb) W (.bool (pr x))):
  Cr 106 #[.slice p xs.length c,.func (.func g) #[] lb] w (.int .i64 (idx pr xs)):=by
 have HF:=Xh hf;clear hf
 go_enter Tryz.func106,Tryz.ntmps106
 go_wp2
 go_loopw [5,8] (fun _ i wr=> ∃k:Nat,k≤xs.length∧i= .int .i64 k∧(∀j,j<k→ ∀(hj:j<xs.length),pr xs[j]=false)∧Ext w wr) (fun _ i _=>xs.length- (intOf i).toNat)
 case atStart=>exact⟨0,Nat.zero_le _,rfl,fun j hj=>by omega,Ext.rf _⟩
 case round=>
  obtain⟨k,hk,rfl,hno,hE⟩:=hrel;have HN:=Xh hno;clear hno
  by_cases hlt:k<xs.length
  ·have hil:(k:Int)<xs.length:=by omega
   obtain⟨b,off,rfl,hb,c0,c1,c2,c3,c4,c5⟩:=(hs.ext hE) k hlt;have lbb:Lt b wr:=hb;have HC:=HF.out xs[k] wr (List.getElem_mem hlt) hE;obtain⟨x,hx⟩: ∃x,xs[k]=x:=⟨_,rfl⟩;rw [hx]at c0 c1 c2 c3 c4 c5 HC;have HX:=Xh hx;clear hx
   cases hp:pr x
   ·rw [hp]at HC;have HP:=Xh hp;clear hp;have HCC:=Xh HC;clear HC
    go_wp2_with ((with_reducible refine(HCC.out).mono ?_);rintro e w' ⟨rfl,hb'⟩)
    go_roundw
    case rel=>exact⟨k+1,Om,by go_num,fun j hj hj'=>by
     rcases Nat.lt_or_ge j k with h|h
     ·exact HN.out j h hj'
     ·obtain rfl:j=k:=by omega
      rw [HX.out,HP.out],hE.tr hb'⟩
    case measure=>simp [intOf];omega
   ·rw [hp]at HC;have HP:=Xh hp;clear hp;have HCC:=Xh HC;clear HC
    go_wp2_with ((with_reducible refine(HCC.out).mono ?_);rintro e w' ⟨rfl,hb'⟩)
    go_ret;exact⟨by rw [QhH pr xs k hlt (fun j hj=>HN.out j hj _) (by rw [HX.out,HP.out])];rfl,hE.tr hb'⟩
  ·obtain rfl:k=xs.length:=by omega
   go_wp2;go_ret;exact⟨by rw [QhG pr xs (fun j hj=>HN.out j hj hj)];rfl,hE⟩
theorem QaK(g:Nat)(lb:Array Value)(eg: ∀args w,(callFunc g args).run Tryz.prog w= .ok (.enter g args) w)(pr:Co→Bool)(p:Option Addr)(xs:List Co)(c:Nat)(w:World)
  (hs:SlC w p xs)(hl:xs.length≤1000)(hf: ∀x W,x∈xs→Ext w W→Cr g (#[.agg #[.int .u32 x.t.a,.int .u32 x.t.b,.int .u16 x.t.c,.int .u16 x.t.d,.int .i64 x.s,.int .i64 x.l]]++lb) W (.bool (pr x))):
  Cr 76 #[.slice p xs.length c,.func (.func g) #[] lb] w (.bool (xs.any pr)):=by
 have HF:=Xh hf;have HE:=Xh eg;clear hf eg
 go_enter Tryz.func76,Tryz.ntmps76
 go_wp2_with (go_at_call 106;(refine(QdB g lb HE.out pr p xs c _ hs hl HF.out).mono ?_);rintro e w' ⟨rfl,hb⟩)
 go_ret;exact⟨Qm (Qoh _ _),hb⟩
structure Ho where
 t:Tu
 n:Int
 deriving DecidableEq
abbrev Ho.v(x:Ho):Value:= .agg #[.int .u32 x.t.a,.int .u32 x.t.b,.int .u16 x.t.c,.int .u16 x.t.d,.int .i64 x.n]
def SlH(w:World)(p:Option Addr)(xs:List Ho):Prop:= ∀k,(h:k<xs.length)→ ∃b off,p=some ⟨b,off,none⟩∧b<w.heap.size∧w.cell? ⟨b,off+k*5,none⟩=some (.int .u32 xs[k].t.a)∧w.cell? ⟨b,off+k*5+1,none⟩=some (.int .u32 xs[k].t.b)∧w.cell? ⟨b,off+k*5+2,none⟩=some (.int .u16 xs[k].t.c)∧w.cell? ⟨b,off+k*5+3,none⟩=some (.int .u16 xs[k].t.d)∧w.cell? ⟨b,off+k*5+4,none⟩=some (.int .i64 xs[k].n)
theorem SlH.ext{p:Option Addr}{xs:List Ho}(h:SlH w p xs)(e:Ext w w'):SlH w' p xs:=fun k hk=>by
 obtain⟨b,off,hp,hb,c0,c1,c2,c3,c4⟩:=h k hk;exact⟨b,off,hp,Xl hb e.size,(e.cell (p:=⟨b,off+k*5,none⟩) hb).trans c0,(e.cell (p:=⟨b,off+k*5+1,none⟩) hb).trans c1,(e.cell (p:=⟨b,off+k*5+2,none⟩) hb).trans c2,(e.cell (p:=⟨b,off+k*5+3,none⟩) hb).trans c3,(e.cell (p:=⟨b,off+k*5+4,none⟩) hb).trans c4⟩
theorem SlH.nil(w:World)(p:Option Addr):SlH w p []:=fun k hk=>by simp at hk
def eqT(s t:Tu):Bool:=s.a==t.a&&s.b==t.b&&s.c==t.c&&s.d==t.d
theorem YZ{s t:Tu}:eqT s t=true↔s=t:=by
 constructor
 ·intro h;unfold eqT at h;simp only [Bool.and_eq_true,beq_iff_eq]at h
  cases s;cases t;simp_all
 ·rintro rfl;unfold eqT;simp
@[go_sem ↓ high] theorem QAu(a b c d a' b' c' d':Int)(w:World):
  (binOp .eql 64 (tu a b c d) (tu a' b' c' d')).run Tryz.prog w= .ok (.bool (a==a'&&b==b'&&c==c'&&d==d')) w:=by
 go_simp
 by_cases h1:a=a'<;>by_cases h2:b=b'<;>by_cases h3:c=c'<;>by_cases h4:d=d'<;>simp [*]
def YM(w:World)(b:Nat)(t:Tu):Prop:=Qc w b=#[.int .u32 t.a,.int .u32 t.b,.int .u16 t.c,.int .u16 t.d]∧Lt b w
theorem YM.cells{b:Nat}{t:Tu}(h:YM w b t):w.cell? ⟨b,0,none⟩=some (.int .u32 t.a)∧w.cell? ⟨b,1,none⟩=some (.int .u32 t.b)∧w.cell? ⟨b,2,none⟩=some (.int .u16 t.c)∧w.cell? ⟨b,3,none⟩=some (.int .u16 t.d):=by
 refine⟨?_,?_,?_,?_⟩<;>rw [Qa,h.1]<;>rfl
theorem YM.ext{b:Nat}{t:Tu}(h:YM w b t)(e:Ext w w'):YM w' b t:=⟨by rw [Qf (e.block b h.2)];exact h.1,Xl h.2 e.size⟩
def geT(t:Tu)(x:Co):Bool:=decide (0≤YQ x.t t)
theorem Qmt(x:Co)(t:Tu)(b:Nat)(w:World)(ht:YM w b t):
  Cr 107 #[.agg #[.int .u32 x.t.a,.int .u32 x.t.b,.int .u16 x.t.c,.int .u16 x.t.d,.int .i64 x.s,.int .i64 x.l],.pointer (some ⟨b,0,none⟩)] w (.bool (geT t x)):=by
 obtain⟨c0,c1,c2,c3⟩:=ht.cells;have lb:Lt b w:=ht.2;clear ht
 go_enter Tryz.func107,Tryz.ntmps107
 go_wp2_with (go_at_call 108;(refine(Qgl x.t t _).mono ?_);rintro e w' ⟨rfl,hb⟩)
 go_ret;refine⟨rfl,?_⟩
 (exact Xe)
theorem Qoi(x:Co)(t:Tu)(b:Nat)(w:World)(ht:YM w b t):
  Cr 107 (#[.agg #[.int .u32 x.t.a,.int .u32 x.t.b,.int .u16 x.t.c,.int .u16 x.t.d,.int .i64 x.s,.int .i64 x.l]]++ #[.pointer (some ⟨b,0,none⟩)]) w (.bool (geT t x)):=by
 rw [show(#[Value.agg #[.int .u32 x.t.a,.int .u32 x.t.b,.int .u16 x.t.c,.int .u16 x.t.d,.int .i64 x.s,.int .i64 x.l]]++ #[Value.pointer (some ⟨b,0,none⟩)]:Array Value)=#[.agg #[.int .u32 x.t.a,.int .u32 x.t.b,.int .u16 x.t.c,.int .u16 x.t.d,.int .i64 x.s,.int .i64 x.l],.pointer (some ⟨b,0,none⟩)]from rfl];exact Qmt x t b w ht
def atC(xs:List Co)(t:Tu):Nat:=xs.findIdx (geT t)
def okC(xs:List Co)(t:Tu):Bool:=match xs[atC xs t]? with|some x=>eqT x.t t|none=>false
theorem QuO(pr:Co→Bool)(xs:List Co)(h:xs.any pr=true):idx pr xs=(xs.findIdx pr:Nat)∧xs.findIdx pr<xs.length:=by
 unfold idx;rw [if_pos h];refine⟨rfl,?_⟩;obtain⟨x,hx,hp⟩:=List.any_eq_true.1 h;exact List.findIdx_lt_length_of_exists ⟨x,hx,hp⟩
theorem QuP(pr:Co→Bool)(xs:List Co)(h:xs.any pr=false):idx pr xs= -1∧xs.findIdx pr=xs.length:=by
 unfold idx;rw [if_neg (by rw [h];decide)];refine⟨rfl,?_⟩;rw [List.findIdx_eq_length];intro x hx
 cases hp:pr x
 ·rfl
 ·have:xs.any pr=true:=List.any_eq_true.2 ⟨x,hx,hp⟩;rw [this]at h;cases h
theorem Qgm: ∀args w,(callFunc 107 args).run Tryz.prog w= .ok (.enter 107 args) w:=enters_of Tryz.func107 Kr rfl
theorem Qed(t:Tu)(p:Option Addr)(xs:List Co)(c:Nat)(w:World)(hs:SlC w p xs)(hl:xs.length≤1000):
  Cr 44 #[.slice p xs.length c,tu t.a t.b t.c t.d] w (.tuple #[.int .i64 (atC xs t),.bool (okC xs t)]):=by
 go_enter Tryz.func44,Tryz.ntmps44
 go_upto_region 1 with(fail)
 obtain⟨W0,hW⟩: ∃W0,w.alloc (.cells #[.int .u32 t.a,.int .u32 t.b,.int .u16 t.c,.int .u16 t.d] 64)=W0:=⟨_,rfl⟩;have e0:Ext w W0:=by rw [←hW];exact Ea
 have s0:=hs.ext e0;have ht:YM W0 w.heap.size t:=by rw [←hW];unfold YM;simp [go_sem,Lt]
 rw [hW];clear hW hs;generalize w.heap.size=B at*
 go_upto_region 2 with(go_at_call 106;go_must (with_reducible refine(QdB 107 #[.pointer (some ⟨B,0,none⟩)] Qgm (geT t) p xs c _ s0 hl (fun x W _ hE=>Qoi x t B W (ht.ext hE))).mono ?_);rintro e W1 ⟨rfl,h1⟩)
 have ht:=ht.ext h1;have s0:=s0.ext h1;have e1:=e0.tr h1
 cases ha:xs.any (geT t)
 ·obtain⟨i1,i2⟩:=QuP _ _ ha
  have HR:=Xh (show(Value.tuple #[.int .i64 (atC xs t),.bool (okC xs t)])= .tuple #[.int .i64 xs.length,.bool false]by
   have hat:atC xs t=xs.length:=i2
   unfold okC;rw [hat];simp)
  rw [i1];clear i2 ha h1 e0 i1;go_wp2;exact bodyPost_ret (v:= .tuple #[.int .i64 xs.length,.bool false]) (by simp [results,Tryz.results44,go_sem]) rfl ⟨by rw [HR.out],e1⟩
 ·obtain⟨i1,i2⟩:=QuO _ _ ha;obtain⟨k,hk⟩: ∃k,xs.findIdx (geT t)=k:=⟨_,rfl⟩;rw [hk]at i1 i2;obtain⟨b,off,rfl,hb,c0,c1,c2,c3,c4,c5⟩:=s0 k i2;have lb:Lt b W1:=hb;obtain⟨x,hx⟩: ∃x,xs[k]=x:=⟨_,rfl⟩;rw [hx]at c0 c1 c2 c3 c4 c5
  have HR:=Xh (show(Value.tuple #[.int .i64 (atC xs t),.bool (okC xs t)])= .tuple #[.int .i64 k,.bool (x.t.a==t.a&&x.t.b==t.b&&x.t.c==t.c&&x.t.d==t.d)]by
   have hat:atC xs t=k:=hk
   unfold okC;rw [hat,List.getElem?_eq_getElem i2,hx];rfl)
  rw [i1];have hkl:(k:Int)<xs.length:=by omega
  obtain⟨d0,d1,d2,d3⟩:=ht.cells;have lB:Lt B W1:=ht.2;clear hx hk i1 ha h1 e0 ht s0;go_wp2;refine Qk Kr Kr ?_;(repeat(go_big_quiet_step (fail)));refine wpQuiet_nil ?_;intro d
  have hd:=Qt d;go_wp2;exact bodyPost_ret (v:= .tuple #[.int .i64 k,.bool (x.t.a==t.a&&x.t.b==t.b&&x.t.c==t.c&&x.t.d==t.d)]) (by simp [results,Tryz.results44,go_sem]) rfl ⟨by rw [HR.out],e1.tr hd⟩
theorem Qee(p:Option Addr)(n c:Nat)(w:World):
  Calls Tryz.prog 46 #[.slice p n c] w fun e w'=>e= .returned (.bool (decide ((n:Int)<32)))∧w=w':=by
 go_enter Tryz.func46,Tryz.ntmps46
 go_wp2;go_ret;exact⟨Qm (by simp),rfl⟩
structure Mv(C:Nat→Prop)(A B:World):Prop where
 os:B.os=A.os
 tape:B.tape=A.tape
 output:B.output=A.output
 size:A.heap.size≤B.heap.size
 same: ∀k,k<A.heap.size→ ¬C k→B.heap[k]?=A.heap[k]?
theorem Mv.refl(C:Nat→Prop)(A:World):Mv C A A:=⟨rfl,rfl,rfl,Nat.le_refl _,fun _ _ _=>rfl⟩
theorem Mv.trans{X Y Z:World}(h:Mv C X Y)(k:Mv C Y Z):Mv C X Z:=
 ⟨k.os.trans h.os,k.tape.trans h.tape,k.output.trans h.output,Xt h.size k.size,fun i hi hc=>(k.same i (Xl hi h.size) hc).trans (h.same i hi hc)⟩
theorem Mv.mono{D:Nat→Prop}(h:Mv C A B)(hd: ∀k,k<A.heap.size→C k→D k):Mv D A B:=
 ⟨h.os,h.tape,h.output,h.size,fun k hk hn=>h.same k hk (fun hc=>hn (hd k hk hc))⟩
theorem Mv.of_ext(h:Ext A B):Mv C A B:=⟨h.os,h.tape,h.output,h.size,fun k hk _=>h.block k hk⟩
theorem Mv.ext(h:Mv C w A)(hc: ∀k,k<w.heap.size→ ¬C k):Ext w A:=
 ⟨h.os,h.tape,h.output,h.size,fun k hk=>h.same k hk (hc k hk)⟩
theorem Mv.ext_of(h:Ext w A)(m:Mv C A B)(hc: ∀k,C k→w.heap.size≤k):Ext w B:=
 h.trans ⟨m.os,m.tape,m.output,m.size,fun k hk=>m.same k (Xl hk h.size) (fun c=>by have:=hc k c;omega)⟩
theorem Mv.st{b:Nat}(v:Value)(hb:C b∨A.heap.size≤b)(h:Mv C A B):Mv C A (B.setCell ⟨b,i,none⟩ v):=
 ⟨h.os,h.tape,h.output,by simpa using h.size,fun k hk hc=>by
  have hne:k≠b:=fun e=>by subst e;rcases hb with h1|h1;exact hc h1;omega
  rw [←h.same k hk hc];simp only [World.setCell,Array.getElem?_modify]
  rw [if_neg (fun e=>hne e.symm)]⟩
theorem Mv.al(o:Obj)(h:Mv C A B):Mv C A (B.alloc o):=
 h.trans (Mv.of_ext (Ext.al (Ext.rf _) o))
theorem Mv.dr(h:Mv C A B):Mv C A B.drew:=h.trans (Mv.of_ext (Ext.dr (Ext.rf _)))
theorem Mv.tr{B':World}(h:Mv C A B)(e:Ext B B'):Mv C A B':=h.trans (Mv.of_ext e)
theorem Mv.put(A:World)(l:Nat)(o:Obj)(hl:C l):Mv C A (A.putObj l o):=
 ⟨rfl,rfl,rfl,by simp,fun k _ hc=>World.putObj_heap_other (fun e=>hc (e▸hl))⟩
def QcT{α:Type}(F:Fence)(n:Nat)(P:Program)(g:Nat)(lb:Array Value)(encs:α→Array Value)(T U:Nat→Prop)(xs:List α)(w:World):Prop:=
 ∀(l:Nat) (J:Nat→World→Prop) (Jx:World→Prop) (W:World),Ext w W→
  (∀i A B,J i A→Mv T A B→J i B)→(∀A B,Jx A→Mv T A B→Jx B)→
  (∃(fn:FuncId) (tm:Array Value→Array Value) (assign body:Code),∀i x W1,J i W1→xs[i]?=some x→
   (Instr.yield l (encs x)).run P W1= .ok (.round l fn (tm (encs x)) assign body) W1∧
   RoundIn F (n- 1) P l fn (tm (encs x)) assign body W1 fun e W'=> ∃b:Bool,e= .returned (.bool b)∧((b=true∧J (i+1) W'∧Mv (fun k=>U k∨w.heap.size≤k) W1 W')∨(b=false∧Jx W')))→
  J 0 W→
  CallsIn F n P g (#[.func (.yield l) #[] #[]]++lb) W fun e W'=>(∃v,e= .returned v)∧(J xs.length W'∨Jx W')
def QxA(U:Nat→Prop)(B:Nat)(I:Nat→World→Prop)(Ix:Code→World→Prop)(i:Nat)(W:World):Exit→Act→World→Prop
 | .normal,_,W'=>Mv (fun k=>U k∨B≤k) W W'∧I (i+1) W'
 | .ret,_,W'=>Mv (fun k=>U k∨B≤k) W W'∧Ix .ret W'
 | .exit id,_,W'=>Mv (fun k=>U k∨B≤k) W W'∧Ix (.exit id) W'
 | .goto t,_,W'=>Mv (fun k=>U k∨B≤k) W W'∧Ix (.goto t) W'
 | .panic _,_,_=>False
 | .outgrown,_,_=>False
theorem ZI{α:Type}{F:Fence}{n:Nat}{g:Operand}{ps:Array Tmp}{assign body:Code}{Q:Exit→Act→World→Prop}{a:Act}
  (hro:F.round=none)(h1:1≤n){gf:Nat}{lb:Array Value}(hg:a.eval g= .func (.func gf) #[] lb)(hFg:F.fn gf)(eg: ∀args w,(callFunc gf args).run P w= .ok (.enter gf args) w)
  {encs:α→Array Value}{T U:Nat→Prop}{xs:List α}(hseq:QcT F (n- 1) P gf lb encs T U xs w)
  (hT: ∀k,T k→k<w.heap.size)(hU: ∀k,U k→k<w.heap.size)(hps: ∀x,(encs x).size=ps.size)
  (I:Nat→World→Prop)(Ix:Code→World→Prop)(hI: ∀i A B,I i A→Mv (fun k=>T k∨k=w.heap.size∨k=w.heap.size+1) A B→I i B)
  (hIx: ∀c A B,Ix c A→Mv (fun k=>T k∨k=w.heap.size∨k=w.heap.size+1) A B→Ix c B)(h0:I 0 w)
  (Ax:α→Act→World→Prop)(hAx: ∀x a' A B,Ax x a' A→Mv (fun k=>k=w.heap.size+1) A B→Ax x a' B)
  (hassign: ∀(l i:Nat) (x:α) (W:World) (K:Act→World→Prop),w.heap.size+2≤W.heap.size→Mv (fun k=>T k∨U k) w W→I i W→xs[i]?=some x→
   (∀a' W',Mv (fun k=>U k∨w.heap.size+2≤k) W W'→I i W'→Ax x a' W'→K a' W')→
   assign.wpIn (F.inRound l) (n- 1- 1) P (Exit.then K (fun _ _ _=>False)) {tmps:=(ps.zip (encs x)).foldl (fun t (p,v)=>t.setIfInBounds p v) a.tmps,defers:= []} W)
  (hbody: ∀(l i:Nat) (x:α) (a':Act) (W:World),w.heap.size≤l→(∃r,W.heap[l]?=some (.loop r))→w.heap.size+2≤W.heap.size→Mv (fun k=>T k∨U k) w W→I i W→xs[i]?=some x→Ax x a' W→
   body.wpIn (F.inRound l) (n- 1- 1) P (QxA U (w.heap.size+2) I Ix i W) a' W)
  (hdone: ∀(W:World),I xs.length W→Mv (fun k=>T k∨U k) w W→W.heap[w.heap.size]?=some (.deferred (some []))→Q .normal {a with defers:={target:= .collected w.heap.size,args:=#[]}::a.defers} W)
  (hstop: ∀(c:Code) (W:World),Ix c W→Mv (fun k=>T k∨U k) w W→W.heap[w.heap.size]?=some (.deferred (some []))→c.wpIn F n P Q {a with defers:={target:= .collected w.heap.size,args:=#[]}::a.defers} W):
  (Code.rangeFunc g ps assign body).wpIn F n P Q a w:=by
 refine wpIn_rangeFunc ?_;intro fn hfn;rw [hro];obtain⟨rec,hrec⟩: ∃rec:LoopState→Option Code→Loop,rec=fun st pe=>{state:=st,pending:=pe,fn,tmps:=a.tmps,params:=ps,assign,body,defers:=w.heap.size}:=⟨_,rfl⟩;obtain⟨W1,hW1⟩: ∃W1,(w.alloc (.deferred (some []))).alloc (.loop (rec .ready none))=W1:=⟨_,rfl⟩;have hL1:W1.heap[w.heap.size+1]?=some (.loop (rec .ready none)):=by
  rw [←hW1];have:=World.alloc_heap_new (w.alloc (.deferred (some []))) (.loop (rec .ready none));rwa [World.size_alloc]at this
 have hK1:W1.heap[w.heap.size]?=some (.deferred (some [])):=by
  rw [←hW1];exact(Below.heap_alloc _ _ _ (by simp)).trans (World.alloc_heap_new w _)
 have hb1:Ext w W1:=by rw [←hW1];exact Ext.al Ea _
 have hI1:I 0 W1:=hI 0 _ _ h0 (Mv.of_ext hb1)
 refine⟨w.heap.size+1,[{target:= .collected w.heap.size,args:=#[]}],W1,{target:= .fn (.func gf) lb,args:=#[.func (.yield (w.heap.size+1)) #[] #[]]},W1,gf,
  #[.func (.yield (w.heap.size+1)) #[] #[]]++lb,W1,?_,?_,?_,?_,fun _=>h1,?_⟩
 ·rw [←hW1,hrec];exact run_enterLoop_outer _ _ _ _ _
 ·simp only [resolve,hg];simp [go_sem]
 ·intro f' hf';simp [Target.leads]at hf';subst hf';exact hFg
 ·simp [invoke,go_sem,eg]
 ·have hsame: ∀{k:Nat} {A B:World} {o:Obj},w.heap.size≤k→A.heap[k]?=some o→Mv T A B→B.heap[k]?=some o:=fun hk ha hm=>
   (hm.same _ (Array.getElem?_eq_some_iff.1 ha).1 (fun ht=>by have:=hT _ ht;omega)).trans ha
  refine(hseq (w.heap.size+1)
   (fun i W=>I i W∧Mv (fun k=>T k∨U k) w W∧W.heap[w.heap.size+1]?=some (.loop (rec .ready none))∧W.heap[w.heap.size]?=some (.deferred (some [])))
   (fun W=> ∃c,Ix c W∧Mv (fun k=>T k∨U k) w W∧W.heap[w.heap.size+1]?=some (.loop (rec .done (some c)))∧W.heap[w.heap.size]?=some (.deferred (some [])))
   W1 hb1
   (fun i A B hs hm=>⟨hI i A B hs.1 (hm.mono fun _ _ h=> .inl h),hs.2.1.trans (hm.mono fun _ _ h=> .inl h),hsame Om hs.2.2.1 hm,hsame (Nat.le_refl _) hs.2.2.2 hm⟩)
   (fun A B hs hm=>by
    obtain⟨c,hc,hv,hl,hk⟩:=hs
    exact⟨c,hIx c A B hc (hm.mono fun _ _ h=> .inl h),hv.trans (hm.mono fun _ _ h=> .inl h),hsame Om hl hm,hsame (Nat.le_refl _) hk hm⟩)
   ?_ ⟨hI1,Mv.of_ext hb1,hL1,hK1⟩).mono ?_
  ·refine⟨fn,fun args=>(ps.zip args).foldl (fun t (p,v)=>t.setIfInBounds p v) a.tmps,assign,body,?_⟩;rintro i x W ⟨hi,hv,hl,hk⟩ hx;have hlt:w.heap.size+1<W.heap.size:=(Array.getElem?_eq_some_iff.1 hl).1;have hy:=run_yield (P:=P) (args:=encs x) hl (by rw [hrec];exact hps x);rw [hrec]at hy;refine⟨hy,roundIn_of_wpIn hfn (hassign _ i x W _ Om hv hi hx ?_)⟩;clear hy;intro a' Wa hma hia hax;have keepU: ∀{k:Nat} {A B:World} {o:Obj},w.heap.size≤k→k<w.heap.size+2→A.heap[k]?=some o→Mv (fun k=>U k∨w.heap.size+2≤k) A B→B.heap[k]?=some o:=fun hk1 hk2 ha hm=>
    (hm.same _ (Array.getElem?_eq_some_iff.1 ha).1 (fun ht=>by rcases ht with ht|ht;(have:=hU _ ht;omega);omega)).trans ha
   have hla:=keepU Om Om hl hma;have hka:=keepU (Nat.le_refl _) Om hk hma;have hva:Mv (fun k=>T k∨U k) w Wa:=
    ⟨hma.os.trans hv.os,hma.tape.trans hv.tape,hma.output.trans hv.output,Xt hv.size hma.size,fun k hk hc=>(hma.same k (Xl hk hv.size) (fun hh=>by rcases hh with hh|hh;exact hc (.inr hh);omega)).trans (hv.same k hk hc)⟩
   have hlta:w.heap.size+1<Wa.heap.size:=(Array.getElem?_eq_some_iff.1 hla).1;refine⟨_,run_beginRound hla (by rw [hrec]),?_⟩;have hput: ∀(A:World) (o:Obj),Mv (fun k=>k=w.heap.size+1) A (A.putObj (w.heap.size+1) o):=fun A o=>Mv.put A _ o rfl;have hputT: ∀(A:World) (o:Obj),Mv (fun k=>T k∨k=w.heap.size∨k=w.heap.size+1) A (A.putObj (w.heap.size+1) o):=fun A o=>Mv.put A _ o (.inr (.inr rfl));have hputV: ∀(A:World) (o:Obj),Mv (fun k=>T k∨U k) w A→Mv (fun k=>T k∨U k) w (A.putObj (w.heap.size+1) o):=fun A o h=>
    ⟨h.os,h.tape,h.output,by simpa using h.size,fun k hk hc=>(World.putObj_heap_other Om).trans (h.same k hk hc)⟩
   obtain⟨Wb,hWb⟩: ∃Wb,Wb=Wa.putObj (w.heap.size+1) (.loop {rec .ready none with state:= .busy}):=⟨_,rfl⟩;rw [←hWb];have hl2:Wb.heap[w.heap.size+1]?=some (.loop {rec .ready none with state:= .busy}):=by rw [hWb];exact World.putObj_heap_same hlta
   have hk2:Wb.heap[w.heap.size]?=some (.deferred (some [])):=by rw [hWb];exact(World.putObj_heap_other Om).trans hka
   have hvb:Mv (fun k=>T k∨U k) w Wb:=by rw [hWb];exact hputV _ _ hva
   have hib:I i Wb:=by rw [hWb];exact hI _ _ _ hia (hputT _ _)
   have haxb:Ax x a' Wb:=by rw [hWb];exact hAx _ _ _ _ hax (hput _ _)
   have hsb:w.heap.size+2≤Wb.heap.size:=by rw [hWb];simp;omega
   refine wpIn_mono (hbody (w.heap.size+1) i x a' Wb Om ⟨_,hl2⟩ hsb hvb hib hx haxb) ?_;have fin: ∀(jump:Option Code) (W3:World),Mv (fun k=>U k∨w.heap.size+2≤k) Wb W3→
     (Instr.endRound (w.heap.size+1) jump).run P W3= .ok (.bool jump.isNone) (W3.putObj (w.heap.size+1) (.loop (rec (if jump.isNone then .ready else .done) jump)))∧
     Mv (fun k=>T k∨U k) w (W3.putObj (w.heap.size+1) (.loop (rec (if jump.isNone then .ready else .done) jump)))∧
     (W3.putObj (w.heap.size+1) (.loop (rec (if jump.isNone then .ready else .done) jump))).heap[w.heap.size+1]?=some (.loop (rec (if jump.isNone then .ready else .done) jump))∧
     (W3.putObj (w.heap.size+1) (.loop (rec (if jump.isNone then .ready else .done) jump))).heap[w.heap.size]?=some (.deferred (some [])):=fun jump W3 hm3=>by
    have hl3:=keepU Om Om hl2 hm3;have:=run_endRound (P:=P) jump hl3;rw [hrec]at this⊢;refine⟨this,?_,World.putObj_heap_same (Array.getElem?_eq_some_iff.1 hl3).1,(World.putObj_heap_other Om).trans (keepU (Nat.le_refl _) Om hk2 hm3)⟩;exact hputV _ _ ⟨hm3.os.trans hvb.os,hm3.tape.trans hvb.tape,hm3.output.trans hvb.output,Xt hvb.size hm3.size,fun k hk hc=>(hm3.same k (Xl hk hvb.size) (fun hh=>by rcases hh with hh|hh;exact hc (.inr hh);omega)).trans (hvb.same k hk hc)⟩
   rintro e a3 W3 hp
   cases e with
   |normal=>
    obtain⟨hm3,hi3⟩:=hp;obtain⟨hr,hv4,hl4,hk4⟩:=fin none W3 hm3;refine⟨_,_,hr,true,rfl,.inl ⟨rfl,⟨hI _ _ _ hi3 (hputT _ _),hv4,hl4,hk4⟩,?_⟩⟩;have e1:Mv (fun k=>U k∨w.heap.size≤k) W Wa:=hma.mono fun k _ h=>h.imp id (fun h=>by omega);have e2:Mv (fun k=>U k∨w.heap.size≤k) Wa Wb:=by rw [hWb];exact(hput _ _).mono fun k _ h=> .inr Om
    have e3:Mv (fun k=>U k∨w.heap.size≤k) Wb W3:=hm3.mono fun k _ h=>h.imp id (fun h=>by omega);exact((e1.trans e2).trans e3).trans ((hput _ _).mono fun k _ h=> .inr Om)
   |ret=>
    obtain⟨hm3,hi3⟩:=hp;obtain⟨hr,hv4,hl4,hk4⟩:=fin (some .ret) W3 hm3;exact⟨_,_,hr,false,rfl,.inr ⟨rfl,.ret,hIx _ _ _ hi3 (hputT _ _),hv4,hl4,hk4⟩⟩
   |exit id=>
    obtain⟨hm3,hi3⟩:=hp;obtain⟨hr,hv4,hl4,hk4⟩:=fin (some (.exit id)) W3 hm3;exact⟨_,_,hr,false,rfl,.inr ⟨rfl,.exit id,hIx _ _ _ hi3 (hputT _ _),hv4,hl4,hk4⟩⟩
   |goto t=>
    obtain⟨hm3,hi3⟩:=hp;obtain⟨hr,hv4,hl4,hk4⟩:=fin (some (.goto t)) W3 hm3;exact⟨_,_,hr,false,rfl,.inr ⟨rfl,.goto t,hIx _ _ _ hi3 (hputT _ _),hv4,hl4,hk4⟩⟩
   |panic ch=>exact hp.elim
   |outgrown=>exact hp.elim
  ·have hputT: ∀(A:World) (o:Obj),Mv (fun k=>T k∨k=w.heap.size∨k=w.heap.size+1) A (A.putObj (w.heap.size+1) o):=fun A o=>Mv.put A _ o (.inr (.inr rfl));have hputV: ∀(A:World) (o:Obj),Mv (fun k=>T k∨U k) w A→Mv (fun k=>T k∨U k) w (A.putObj (w.heap.size+1) o):=fun A o h=>
    ⟨h.os,h.tape,h.output,by simpa using h.size,fun k hk hc=>(World.putObj_heap_other Om).trans (h.same k hk hc)⟩
   rintro e W2 ⟨⟨v,rfl⟩,(⟨hi,hv,hl,hk⟩|⟨c,hi,hv,hl,hk⟩)⟩
   ·exact⟨none,_,by have:=run_endLoop (P:=P) hl (by rw [hrec];simp);rw [hrec]at this;exact this,hdone _ (hI _ _ _ hi (hputT _ _)) (hputV _ _ hv) ((World.putObj_heap_other Om).trans hk)⟩
   ·exact⟨some c,_,by have:=run_endLoop (P:=P) hl (by rw [hrec];simp);rw [hrec]at this;exact this,hstop c _ (hIx _ _ _ hi (hputT _ _)) (hputV _ _ hv) ((World.putObj_heap_other Om).trans hk)⟩
theorem Mv.of_grown{row:Option Nat}(h:A.grownBy B row)(hr: ∀r,row=some r→C r∨A.heap.size≤r):Mv C A B:=
 ⟨h.os,h.tape,h.output,h.size,fun k hk hc=>h.block k hk (fun e=>by rcases hr k e.symm with h|h;exact hc h;omega)⟩
theorem Qj{b:Nat}{t:TypeId}{v:Value}(h:Boxed A b t v)(hm:Mv C A B)(hb: ¬C b):Boxed B b t v:=
 (hm.same b h.lt hb).trans h
theorem Qw{size:Nat}{v:Value}{n:Nat}(h:A.ownsRow base e size v n xs)(hm:Mv C A B)(hc: ∀k,base≤k→ ¬C k):B.ownsRow base e size v n xs:=by
 refine⟨h.1,?_⟩;rcases h.2 with h|⟨g,cap,cur,rfl,hg,hgb,h1,h2,h3,h4⟩
 ·exact .inl h
 ·exact .inr ⟨g,cap,cur,rfl,hg,(hm.same g (Array.getElem?_eq_some_iff.1 hgb).1 (hc g hg)).trans hgb,h1,h2,h3,h4⟩
theorem Qi{size:Nat}{v:Value}{n:Nat}(h:A.ownsRow base e size v n xs): ∀r,v.ownBlock=some r→base≤r:=by
 intro r hr;rcases h.2 with⟨rfl,_⟩|⟨g,cap,cur,rfl,hg,_⟩
 ·cases hr
 ·simp only [Value.ownBlock,Option.some.injEq]at hr;omega
theorem QA{base':Nat}{size:Nat}{v:Value}{n:Nat}(h:A.ownsRow base e size v n xs)(hb:base'≤base):A.ownsRow base' e size v n xs:=by
 refine⟨h.1,?_⟩;rcases h.2 with h|⟨g,cap,cur,rfl,hg,r⟩
 ·exact .inl h
 ·exact .inr ⟨g,cap,cur,rfl,Om,r⟩
theorem Qfi{size:Nat}{v:Value}{n:Nat}(h:A.ownsRow base e size v n xs): ∃p n c,v= .slice p n c:=by
 rcases h.2 with⟨rfl,_⟩|⟨g,cap,cur,rfl,_⟩<;>exact⟨_,_,_,rfl⟩
section
variable {P:Program} {ops:Array Oper} {md:Region.Mode} {n:Nat} {r:Nat}
def xUponR(n:Nat)(P:Program)(N:Value→World→Prop):Result Next→Prop
 | .ok (.value u) w'=>N u w'
 | .ok .skip w'=>N undef w'
 | .ok (.round l f tmps assign body) w'=>RoundIn Fence.wide (n- 1) P l f tmps assign body w' (fun e w''=> ∃v,e= .returned v∧N v w'')
 |_=>False
theorem QdC{N N':Value→World→Prop}(h: ∀v w,N v w→N' v w): ∀r:Result Next,xUponR n P N r→xUponR n P N' r
 | .ok (.value u) w',hh=>h _ _ hh
 | .ok .skip w',hh=>h _ _ hh
 | .ok (.round l f tmps assign body) w',hh=>RoundIn.mono hh fun e w'' ⟨v,h1,h2⟩=>⟨v,h1,h _ _ h2⟩
def QdT(n:Nat)(P:Program)(ops:Array Oper)(i:Nat)(K:Act→World→Prop)(a:Act)(w:World):Prop:=
 match ops[i]? with
 |none=>K a w
 |some o=>if Region.wanted o (yielded ops a.tmps)=true then xUponR n P (fun v w'=>K (a.put o.dst v) w') ((execOp a.eval o).run P w)else K (a.put o.dst undef) w
theorem QfG{a:Act}{K':Act→World→Prop}(h: ∀a w,K a w→K' a w)(hh:QdT n P ops i K a w):QdT n P ops i K' a w:=by
 unfold QdT at*
 split
 ·exact h _ _ (by simpa [*]using hh)
 ·rename_i o ho
  simp only [ho]at hh
  split
  ·rename_i hw;simp only [hw,if_true]at hh;exact QdC (fun v w' h1=>h _ _ h1) _ hh
  ·rename_i hw;simp only [hw]at hh;exact h _ _ hh
theorem QhI{a:Act}{Q:Exit→Act→World→Prop}(hh:QdT n P ops i K a w):wpOpIn Fence.wide n P ops Q i K a w:=by
 unfold QdT at hh;unfold wpOpIn
 split
 ·rename_i ho;simp only [ho]at hh;exact hh
 ·rename_i o ho
  simp only [ho]at hh
  split
  ·rename_i hw
   simp only [hw,if_true]at hh;refine⟨fun _ _=>trivial,?_⟩;show o.uponIn Fence.wide n P a K Q ((execOp a.eval o).run P w);generalize (execOp a.eval o).run P w=q at*
   cases q with
   |ok x w'=>
    cases x<;>simp only [xUponR]at hh<;>simp only [Oper.uponIn]
    case value u=>exact hh
    case skip=>exact hh
    case round l f tmps assign body=>exact⟨fun h=>by simp [Fence.wide]at h,hh.mono fun e w'' ⟨v,he,hw''⟩=>by subst he;exact hw''⟩
   |halt x w'=>simp only [xUponR]at hh
  ·rename_i hw;simp only [hw]at hh;exact⟨fun _ _=>trivial,hh⟩
def Yk(n:Nat)(P:Program)(md:Region.Mode)(ops:Array Oper)(r:Nat)(Q:Act→World→Prop):Nat→Array Bool→Act→World→Prop
 |0,listed,a,w=>Region.ready md ops listed= []∧Q a w
 |fuel+1,listed,a,w=>(Region.ready md ops listed= []→Q a w)∧
  ∀i∈Region.ready md ops listed,QdT n P ops i (fun a' w'=>(i=r∨Ext w w')∧Yk n P md ops r Q fuel (listed.setIfInBounds i true) a' w') a w
theorem Qcj{Q':Exit→Act→World→Prop}(hQ: ∀a w,Q a w→Q' .normal a w): ∀(fuel:Nat) (listed:Array Bool) (a:Act) (w:World),
  Yk n P md ops r Q fuel listed a w→wpAnyIn Fence.wide n P md ops Q' fuel listed a w
 |0,_,_,_,h=>⟨h.1,hQ _ _ h.2⟩
 |fuel+1,_,_,_,h=>⟨fun h0=>hQ _ _ (h.1 h0),fun i hi=>QhI (QfG (fun a' w' h1=>Qcj hQ fuel _ a' w' h1.2) (h.2 i hi))⟩
def Y0(P:Program)(ops:Array Oper)(w:World)(o:Oper)(v:Value)(a:Act):Prop:=
 (Region.wanted o (yielded ops a.tmps)=true∧ ∀w',Ext w w'→(execOp a.eval o).run P w'= .ok (.value v) w')∨(Region.wanted o (yielded ops a.tmps)=false∧v=undef)
theorem Y0.later{v:Value}{a:Act}(h:Y0 P ops w o v a)(e:Ext w w'):Y0 P ops w' o v a:=by
 rcases h with⟨h1,h2⟩|h
 ·exact .inl ⟨h1,fun w2 e2=>h2 w2 (e.tr e2)⟩
 ·exact .inr h
theorem Y0.xOp{v:Value}{a:Act}(hi:ops[i]?=some o)(hy:Y0 P ops w o v a)(h:K (a.put o.dst v) w):QdT n P ops i K a w:=by
 unfold QdT;simp only [hi];rcases hy with⟨hw,hv⟩|⟨hw,rfl⟩
 ·simp only [hw,if_true,hv w (Ext.rf _),xUponR];exact h
 ·simp only [hw,Bool.false_eq_true,if_false];exact h
theorem Qoj{j:Nat}{oj:Oper}{v:Value}(hj:ops[j]?=some oj)(hap:oi.apart ops oj=true)
  (hsi: ∀cs b,oi.op≠ .select cs b)(hsj: ∀cs b,oj.op≠ .select cs b){a:Act}
  (hy:Y0 P ops w oi v a)(h:QdT n P ops j K (a.put oi.dst v) w):
  QdT n P ops j (fun a' w'=>Y0 P ops w oi v a'∧K (a'.put oi.dst v) w') a w:=by
 obtain⟨h1,h2,h3⟩:=Oper.apart_spec hap;have keep: ∀u,Y0 P ops w oi v (a.put oj.dst u):=fun u=>by
  unfold Y0 at*;rw [execOp_put oi hsi a oj.dst u h3,wanted_put oi a oj.dst u h3];exact hy
 unfold QdT at*;simp only [hj]at*;rw [wanted_put oj a oi.dst v h1]at h
 split
 ·rename_i hw
  simp only [hw,if_true]at h;rw [execOp_put oj hsj a oi.dst v h1]at h;exact QdC (fun u w' h4=>⟨keep u,by rw [←Act.put_comm a v u h2];exact h4⟩) _ h
 ·rename_i hw
  simp only [hw]at h;exact⟨keep _,by rw [←Act.put_comm a v undef h2];exact h⟩
def Qai(md:Region.Mode)(ops:Array Oper)(listed:Array Bool):Prop:= ∀k o,ops[k]?=some o→listed.getD k true=true→ ∀e∈o.after,Region.binds md e=true→listed.getD e.on false=true
theorem Qai.set{j:Nat}(h:Qai md ops listed)(hj:j∈Region.ready md ops listed):Qai md ops (listed.setIfInBounds j true):=by
 intro k o hk hl e he hb;refine getD_set_true ?_
 by_cases hjk:k=j
 ·subst hjk;obtain⟨-,oj,hoj,hall⟩:=mem_ready.1 hj;rw [hk]at hoj
  cases hoj
  exact hall e he hb
 ·rw [getD_set_ne true (Ne.symm hjk)]at hl;exact h k o hk hl e he hb
def YR(md:Region.Mode)(ops:Array Oper):List Nat→Bool
 |a::b::rest=>((ops[b]?).map (fun o=>o.after.any fun e=>Region.binds md e&&e.on==a)).getD false&&YR md ops (b::rest)
 |_=>true
theorem Qaj(hc:Qai md ops listed)(hr:r∈Region.ready md ops listed): ∀(l:List Nat) (a:Nat),YR md ops (a::l)=true→(a::l).getLast?=some r→a≠r→listed.getD a false=true
 | [],a,_,hl,hn=>by simp at hl;exact absurd hl hn
 |b::rest,a,hw,hl,_=>by
  unfold YR at hw;rw [Bool.and_eq_true]at hw;obtain⟨h1,h2⟩:=hw
  cases ho:ops[b]? with
  |none=>rw [ho]at h1;simp at h1
  |some o=>
   rw [ho]at h1;simp only [Option.map_some,Option.getD_some,Array.any_eq_true',Bool.and_eq_true,beq_iff_eq]at h1;obtain⟨e,he,hb,hon⟩:=h1
   by_cases hbr:b=r
   ·subst hbr;obtain⟨-,oj,hoj,hall⟩:=mem_ready.1 hr;rw [ho]at hoj
    cases hoj
    rw [←hon];exact hall e he hb
   ·have hbl:=Qaj hc hr rest b h2 (by simpa using hl) hbr;have hbt:listed.getD b true=true:=by
     rcases Nat.lt_or_ge b listed.size with h'|h'
     ·simp [h']at hbl⊢;exact hbl
     ·simp [Array.getElem?_eq_none h']
    rw [←hon];exact hc b o ho hbt e he hb
theorem Qgn{v:Value}{l:List Nat}(hi:ops[i]?=some oi)(hsel: ∀(j:Nat) (o:Oper) cs b,ops[j]?=some o→o.op≠ .select cs b)
  (hwt:YR md ops (i::l)=true)(hla:(i::l).getLast?=some r)(hir:i≠r):
  ∀(fuel:Nat) (listed:Array Bool) (a:Act) (w:World),Qai md ops listed→
   (∀j oj,ops[j]?=some oj→j≠i→listed.getD j true=false→(∀e∈oj.after,Region.binds md e=true→e.on≠i)→oi.apart ops oj=true)→
   i∈Region.ready md ops listed→Y0 P ops w oi v a→
   Yk n P md ops r Q fuel (listed.setIfInBounds i true) (a.put oi.dst v) w→Yk n P md ops r Q (fuel+1) listed a w:=by
 intro fuel
 induction fuel with
 |zero=>
  intro listed a w _ _ hr hy H;refine⟨fun h=>(by rw [h]at hr;cases hr),fun j hj=> ?_⟩
  by_cases hji:j=i
  ·subst hji;exact hy.xOp hi ⟨.inr (Ext.rf _),H⟩
  ·have:=ready_mono hj hji;rw [H.1]at this
   cases this
 |succ fuel ih=>
  intro listed a w hcl hfree hr hy H;refine⟨fun h=>(by rw [h]at hr;cases hr),fun j hj=> ?_⟩
  by_cases hji:j=i
  ·subst hji;exact hy.xOp hi ⟨.inr (Ext.rf _),H⟩
  ·have hjr:j≠r:=fun e=>by
    subst e;have h1:=Qaj hcl hj l i hwt hla hir;have h0:=(mem_ready.1 hr).1;rcases Nat.lt_or_ge i listed.size with h'|h'
    ·simp [h']at h0 h1;rw [h0]at h1;cases h1
    ·simp [Array.getElem?_eq_none h']at h1
   have h1:=H.2 j (ready_mono hj hji);obtain⟨hjun,oj,hoj,hall⟩:=mem_ready.1 hj;have hnot: ∀e∈oj.after,Region.binds md e=true→e.on≠i:=fun e he hb heq=>by
    have h1:=hall e he hb;have h0:=(mem_ready.1 hr).1;rw [heq]at h1;rcases Nat.lt_or_ge i listed.size with h'|h'
    ·simp [h']at h0 h1;rw [h0]at h1;cases h1
    ·simp [Array.getElem?_eq_none h']at h1
   have h2:=Qoj hoj (hfree j oj hoj hji hjun hnot) (fun cs b=>hsel i oi cs b hi) (fun cs b=>hsel j oj cs b hoj) hy h1;have hfree': ∀k ok,ops[k]?=some ok→k≠i→(listed.setIfInBounds j true).getD k true=false→
     (∀e∈ok.after,Region.binds md e=true→e.on≠i)→oi.apart ops ok=true:=fun k ok hk hki hun hno=>by
    refine hfree k ok hk hki ?_ hno
    by_cases hjk:j=k
    ·subst hjk;exact hjun
    ·rw [getD_set_ne true hjk]at hun;exact hun
   refine QfG (fun a' w' h3=>⟨h3.2.1,ih (listed.setIfInBounds j true) a' w' (hcl.set hj) hfree' (ready_mono hr (Ne.symm hji)) (h3.1.later (h3.2.1.resolve_left hjr)) ?_⟩) h2;have h4:=h3.2.2;rw [Array.setIfInBounds_comm _ _ hji];exact h4
def closedB(md:Region.Mode)(ops:Array Oper)(listed:Array Bool):Bool:=(List.range ops.size).all fun k=>!listed.getD k true||((ops[k]?).map (·.after.all fun e=>!Region.binds md e||listed.getD e.on false)).getD true
theorem QfH(h:closedB md ops listed=true):Qai md ops listed:=by
 intro k o hk hl e he hb;unfold closedB at h;have hks:k<ops.size:=(Array.getElem?_eq_some_iff.1 hk).1;have:=List.all_eq_true.1 h k (List.mem_range.2 hks);rw [hl,hk]at this;simp only [Bool.not_true,Bool.false_or,Option.map_some,Option.getD_some,Array.all_eq_true',Bool.or_eq_true,Bool.not_eq_true']at this;rcases this e he with h1|h1
 ·rw [hb]at h1;cases h1
 ·exact h1
theorem ZR{l:List Nat}{v:Value}{a:Act}(hs:Region.noSelect ops=true)(hok:okX ops N k=true)
  (hcl:closedB .any ops (lst N k)=true)(hwt:YR .any ops (k::l)=true)(hla:(k::l).getLast?=some r)(hir:k≠r)(hi:ops[k]?=some oi)(hw:Region.wanted oi (yielded ops a.tmps)=true)
  (hy: ∀w',Ext w w'→(execOp a.eval oi).run P w'= .ok (.value v) w')
  (H:Yk n P .any ops r Q fuel (lst N (k+1)) (a.put oi.dst v) w):Yk n P .any ops r Q (fuel+1) (lst N k) a w:=by
 unfold okX at hok;rw [Bool.and_eq_true]at hok;refine Qgn hi (Region.noSelect_spec hs) hwt hla hir fuel _ a w (QfH hcl) (Region.free_spec hi hok.1) (by simpa using ZZ hok.2) (.inl ⟨hw,hy⟩) ?_;rw [JJ];exact H
theorem QtK{a:Act}(hr:Region.ready .any ops (lst N k)= [k])(hi:ops[k]?=some oi)(hw:Region.wanted oi (yielded ops a.tmps)=true)
  (H:xUponR n P (fun v w'=>(k=r∨Ext w w')∧Yk n P .any ops r Q fuel (lst N (k+1)) (a.put oi.dst v) w') ((execOp a.eval oi).run P w)):Yk n P .any ops r Q (fuel+1) (lst N k) a w:=by
 refine⟨fun h0=> ?_,fun j hj=> ?_⟩
 ·rw [hr]at h0;cases h0
 ·rw [hr]at hj;obtain rfl:j=k:=by simpa using hj
  unfold QdT;simp only [hi,hw,if_true];rw [JJ];exact H
theorem Qok{a:Act}{l:Nat}{f:FuncId}{tm:Array Value}{asg bo:Code}(hr:Region.ready .any ops (lst N r)= [r])(hi:ops[r]?=some oi)(hw:Region.wanted oi (yielded ops a.tmps)=true)
  (he:(execOp a.eval oi).run P w= .ok (.round l f tm asg bo) w){R:Ending→World→Prop}(hR:RoundIn Fence.wide (n- 1) P l f tm asg bo w R)
  (H: ∀e w',R e w'→ ∃v,e= .returned v∧Yk n P .any ops r Q fuel (lst N (r+1)) (a.put oi.dst v) w'):Yk n P .any ops r Q (fuel+1) (lst N r) a w:=by
 refine QtK hr hi hw ?_;rw [he];exact hR.mono fun e w' h=>by
  obtain⟨v,h1,h2⟩:=H e w' h;exact⟨v,h1,.inl rfl,h2⟩
theorem valueR{v:Value}{a:Act}(hr:Region.ready .any ops (lst N k)= [k])(hi:ops[k]?=some oi)(hw:Region.wanted oi (yielded ops a.tmps)=true)
  (he:(execOp a.eval oi).run P w= .ok (.value v) w)(H:Yk n P .any ops r Q fuel (lst N (k+1)) (a.put oi.dst v) w):Yk n P .any ops r Q (fuel+1) (lst N k) a w:=by
 refine QtK hr hi hw ?_;rw [he];exact⟨.inr (Ext.rf _),H⟩
theorem doneR{a:Act}(hr:Region.ready md ops listed= [])(H:Q a w):Yk n P md ops r Q fuel listed a w:=by
 cases fuel with
 |zero=>exact⟨hr,H⟩
 |succ m=>exact⟨fun _=>H,fun i hi=>by rw [hr]at hi;cases hi⟩
theorem QdD(r:Nat){id:Nat}{Q:Exit→Act→World→Prop}{a:Act}(hm:P.follows .mixedOrders=true)
  (h:Yk n P .any ops r (fun a w=>Q .normal a w) ops.size (Array.replicate ops.size false) a w.drew):(Code.region id ops true).wpIn Fence.wide n P Q a w:=
 wpIn_region_any hm (Qcj (fun _ _ h=>h) _ _ _ _ h)
theorem QtL{P:Program}{ops E:Array Oper}{a:Act}{R:Array Oper→Prop}(h:ops=E)(hR:R E)(hf:ops.size=N)
  (H:R ops→Yk n P .any ops r Q N (lst N 0) a w):Yk n P .any ops r Q ops.size (Array.replicate ops.size false) a w:=by
 rw [hf,Qec];exact H (h▸hR)
end
def Qol:List (Nat×List Nat):= [(0,[3,4,15]),(1,[2,3,4,15]),(2,[3,4,15]),(3,[4,15]),(4,[15]),(5,[15]),(6,[9,10,15]),(7,[8,9,10,15]),(8,[9,10,15]),(9,[10,15]),(10,[15]),(11,[13,14,15]),(12,[13,14,15]),(13,[14,15]),(14,[15])]
def QtM(ops:Array Oper):Prop:=Region.noSelect ops=true∧(∀k,k<15→okX ops 17 k=true)∧(∀k,k<15→closedB .any ops (lst 17 k)=true)∧(∀k l,(k,l)∈Qol→YR .any ops (k::l)=true)∧Region.ready .any ops (lst 17 15)= [15]∧Region.ready .any ops (lst 17 16)= [16]∧Region.ready .any ops (lst 17 17)= []
theorem QxB:QtM ((Tryz.f198.body.bind (Qh 1)).getD #[]):=by
 have h1:((List.range 15).all fun k=>okX ((Tryz.f198.body.bind (Qh 1)).getD #[]) 17 k)=true:=Kr
 have h2:((List.range 15).all fun k=>closedB .any ((Tryz.f198.body.bind (Qh 1)).getD #[]) (lst 17 k))=true:=Kr
 have h3:(Qol.all fun kl=>YR .any ((Tryz.f198.body.bind (Qh 1)).getD #[]) (kl.1::kl.2))=true:=Kr
 exact⟨Kr,fun k hk=>List.all_eq_true.1 h1 k (List.mem_range.2 hk),fun k hk=>List.all_eq_true.1 h2 k (List.mem_range.2 hk),fun k l h=>List.all_eq_true.1 h3 (k,l) h,Kr,Kr,Kr⟩
theorem QbU{B O:Nat}{a:Option Addr}{m c:Nat}(h0:w.cell? ⟨B,O,none⟩=some (.slice a m c))(hl:Lt B w)
  (hx:ρ x= .pointer (some ⟨B,O,none⟩)): ∀w',Ext w w'→(execOp ρ ⟨dst,.load 25 x,ty,pos,after,g⟩).run Tryz.prog w'= .ok (.value (.slice a m c)) w':=by
 intro w' hE;have h0:=(hE.cell (p:=⟨B,_,none⟩) hl).trans h0;simp only [execOp,hx];go_simp
theorem QfI{B O m c:Nat}(hi:i<m){y:Operand}
  (hx:ρ x= .slice (some ⟨B,O,none⟩) m c)(hy:ρ y= .int .i64 (i:Nat)): ∀w',Ext w w'→(execOp ρ ⟨dst,.indexAddr 25 x y,ty,pos,after,g⟩).run Tryz.prog w'= .ok (.value (.pointer (some ⟨B,O+i*6,none⟩))) w':=by
 intro w' hE;have hi':(i:Int)<m:=by omega
 simp only [execOp,hx,hy];go_simp
theorem QhJ{B O:Nat}{x:Co}(h0:w.cell? ⟨B,O+i*6,none⟩=some (.int .u32 x.t.a))(h1:w.cell? ⟨B,O+i*6+1,none⟩=some (.int .u32 x.t.b))(h2:w.cell? ⟨B,O+i*6+2,none⟩=some (.int .u16 x.t.c))(h3:w.cell? ⟨B,O+i*6+3,none⟩=some (.int .u16 x.t.d))(h4:w.cell? ⟨B,O+i*6+4,none⟩=some (.int .i64 x.s))(h5:w.cell? ⟨B,O+i*6+5,none⟩=some (.int .i64 x.l))(hl:Lt B w){q:Operand}
  (hx:ρ q= .pointer (some ⟨B,O+i*6,none⟩)): ∀w',Ext w w'→(execOp ρ ⟨dst,.load 66 q,ty,pos,after,g⟩).run Tryz.prog w'= .ok (.value (.agg #[.int .u32 x.t.a,.int .u32 x.t.b,.int .u16 x.t.c,.int .u16 x.t.d,.int .i64 x.s,.int .i64 x.l])) w':=by
 intro w' hE;have h0:=(hE.cell (p:=⟨B,_,none⟩) hl).trans h0;have h1:=(hE.cell (p:=⟨B,_,none⟩) hl).trans h1;have h2:=(hE.cell (p:=⟨B,_,none⟩) hl).trans h2;have h3:=(hE.cell (p:=⟨B,_,none⟩) hl).trans h3;have h4:=(hE.cell (p:=⟨B,_,none⟩) hl).trans h4;have h5:=(hE.cell (p:=⟨B,_,none⟩) hl).trans h5;simp only [execOp,hx];go_simp
theorem Qmu{y:Nat}{v1 v2:Value}{R:Result Next}(h:(Instr.yield y #[v1,v2]).run Tryz.prog w=R){q1 q2:Operand}(tys:Array TypeId)
  (hx:ρ x= .func (.yield y) #[] #[])(h1:ρ q1=v1)(h2:ρ q2=v2):(execOp ρ ⟨dst,.call {callee:= .value x,args:=#[q1,q2],argTypes:=tys},ty,pos,after,g⟩).run Tryz.prog w=R:=by
 rw [←h];subst h1 h2;simp only [execOp,hx];go_simp
def YS(xs:List Co):List (Co×Co):=xs.zip xs.tail
theorem Qef(xs:List Co):(YS xs).length=xs.length- 1:=by simp [YS]
theorem QbV(xs:List Co)(i:Nat)(hi:i+1<xs.length):(YS xs)[i]?=some (xs[i],xs[i+1]):=by
 unfold YS;rw [List.getElem?_eq_getElem (by simp;omega)];simp
theorem QhK(p:Option Addr)(m c:Nat)(w:World):
  Calls Tryz.prog 146 #[.slice p m c] w fun e w'=>e= .returned (.func (.func 198) #[] #[.pointer (some ⟨w.heap.size,0,none⟩)])∧w'=w.alloc (.cells #[.slice p m c] 25):=by
 go_enter Tryz.func146,Tryz.ntmps146
 go_wp2;go_ret;exact⟨rfl,rfl⟩
theorem Qgo(n:Nat)(xs:List Co)(p:Option Addr)(c:Nat)(w0 w:World)(Bl:Nat)(U:Nat→Prop)(h0:Ext w0 w)(hs:SlC w0 p xs)(hl:xs.length≤1000)(hc:w.cell? ⟨Bl,0,none⟩=some (.slice p xs.length c))(lb:Lt Bl w)(hU: ∀k,U k→w0.heap.size≤k∧k≠Bl):
  QcT Fence.wide n Tryz.prog 198 #[.pointer (some ⟨Bl,0,none⟩)] (fun x:Co×Co=>#[.agg #[.int .u32 x.1.t.a,.int .u32 x.1.t.b,.int .u16 x.1.t.c,.int .u16 x.1.t.d,.int .i64 x.1.s,.int .i64 x.1.l],.agg #[.int .u32 x.2.t.a,.int .u32 x.2.t.b,.int .u16 x.2.t.c,.int .u16 x.2.t.d,.int .i64 x.2.s,.int .i64 x.2.l]]) (fun _=>False) U (YS xs) w:=by
 intro y J Jx W hW hJ hJx hY hJ0;have HJ:=Xh hJ;have HJx:=Xh hJx;have HU:=Xh hU;clear hJ hJx hU;obtain⟨yfn,ytm,yas,ybo,hY⟩:=hY;have HY:=Xh hY;clear hY;have hcW:W.cell? ⟨Bl,0,none⟩=some (.slice p xs.length c):=(hW.cell (p:=⟨Bl,0,none⟩) lb).trans hc;have lbW:Lt Bl W:=Xl lb hW.size;have h0W:=h0.tr hW;refine callsIn_of_wp Tryz.func198 rfl trivial ?_ rfl;simp only [Tryz.ntmps198,List.size_toArray,List.length_cons,List.length_nil,Nat.reduceAdd,Nat.reduceSub,Array.replicate_succ,Array.replicate_zero,List.push_toArray,List.append_toArray,List.nil_append,List.cons_append];refine wpIn_wide.2 ?_;go_wp2
 go_loopw [3] (fun a wr=> ∃i:Nat,(i=0∨i<xs.length)∧a= .int .i64 ((i:Int)+1)∧J i wr∧wr.cell? ⟨Bl,0,none⟩=some (.slice p xs.length c)∧Lt Bl wr∧Ext w0 wr) (fun a _=>xs.length+1- (intOf a).toNat)
 case atStart=>exact⟨0,.inl rfl,rfl,hJ0,hcW,lbW,h0W⟩
 case round=>
  clear hcW lbW h0W hJ0;obtain⟨i,hi,rfl,hJi,hcw,lbw,hE⟩:=hrel
  by_cases hlt:i+1<xs.length
  ·have hg:decide ((i:Int)+1<xs.length)=true:=decide_eq_true Om;have hi1:0≤(i:Int)+1- 1∧(i:Int)+1- 1<xs.length:=by omega
   have HJI:=Xh hJi;clear hJi;have HXS:=Xh (QbV xs i hlt);obtain⟨b,off,rfl,hb,c0,c1,c2,c3,c4,c5⟩:=(hs.ext hE) i Om;obtain⟨b',off',hpe,-,d0,d1,d2,d3,d4,d5⟩:=(hs.ext hE) (i+1) hlt
   cases hpe
   have lbb:Lt b wr:=hb;obtain⟨x,hx⟩: ∃x,xs[i]=x:=⟨_,rfl⟩;obtain⟨z,hz⟩: ∃z,xs[i+1]=z:=⟨_,rfl⟩;rw [hx]at c0 c1 c2 c3 c4 c5;rw [hz]at d0 d1 d2 d3 d4 d5;have hw8:IntKind.i64.wrap ((i:Int)+1- 1)=i:=by
    have a1:((i:Int)+1- 1)=i:=by omega
    rw [a1];simp only [IntKind.wrap,IntKind.bits,IntKind.signed];simp;omega
   go_wp2_with (fail)
   refine(wpIn_wide (n:=n)).1 ?_;refine QdD 15 Kr ?_;obtain⟨W1,hW1⟩: ∃W1,wr.drew=W1:=⟨_,rfl⟩;have g1:Ext wr W1:=by rw [←hW1];exact Ext.dr (Ext.rf _)
   rw [hW1];clear hW1;have hJ1:J i W1:=HJ.out _ _ _ HJI.out (Mv.of_ext g1);have hcw1:W1.cell? ⟨Bl,0,none⟩=some (.slice (some ⟨b,off,none⟩) xs.length c):=(g1.cell (p:=⟨Bl,0,none⟩) lbw).trans hcw;have lbw1:Lt Bl W1:=Xl lbw g1.size;have lb1:Lt b W1:=Xl lbb g1.size;have hE1:=hE.tr g1;have c0:=(g1.cell (p:=⟨b,_,none⟩) lbb).trans c0;have d0:=(g1.cell (p:=⟨b,_,none⟩) lbb).trans d0;have c1:=(g1.cell (p:=⟨b,_,none⟩) lbb).trans c1;have d1:=(g1.cell (p:=⟨b,_,none⟩) lbb).trans d1;have c2:=(g1.cell (p:=⟨b,_,none⟩) lbb).trans c2;have d2:=(g1.cell (p:=⟨b,_,none⟩) lbb).trans d2;have c3:=(g1.cell (p:=⟨b,_,none⟩) lbb).trans c3;have d3:=(g1.cell (p:=⟨b,_,none⟩) lbb).trans d3;have c4:=(g1.cell (p:=⟨b,_,none⟩) lbb).trans c4;have d4:=(g1.cell (p:=⟨b,_,none⟩) lbb).trans d4;have c5:=(g1.cell (p:=⟨b,_,none⟩) lbb).trans c5;have d5:=(g1.cell (p:=⟨b,_,none⟩) lbb).trans d5;refine QtL (N:=17) (R:=QtM) (E:=((Tryz.f198.body.bind (Qh 1)).getD #[])) Kr QxB Kr fun hS=> ?_;refine ZR (N:=17) (k:=0) (l:= [3,4,15]) (v:= .int .i64 ((i:Int)+1)) hS.1 (hS.2.1 0 Dc) (hS.2.2.1 0 Dc) (hS.2.2.2.1 0 [3,4,15] Dc) rfl Dc rfl Kr (fun _ _=>by kernel_rfl) ?_;refine ZR (N:=17) (k:=1) (l:= [2,3,4,15]) (v:= .slice (some ⟨b,off,none⟩) xs.length c) hS.1 (hS.2.1 1 Dc) (hS.2.2.1 1 Dc) (hS.2.2.2.1 1 [2,3,4,15] Dc) rfl Dc rfl Kr (QbU hcw1 lbw1 Kr) ?_;refine ZR (N:=17) (k:=2) (l:= [3,4,15]) (v:= .int .i64 xs.length) hS.1 (hS.2.1 2 Dc) (hS.2.2.1 2 Dc) (hS.2.2.2.1 2 [3,4,15] Dc) rfl Dc rfl Kr (fun _ _=>by kernel_rfl) ?_;refine ZR (N:=17) (k:=3) (l:= [4,15]) (v:= .bool (decide ((i:Int)+1<xs.length))) hS.1 (hS.2.1 3 Dc) (hS.2.2.1 3 Dc) (hS.2.2.2.1 3 [4,15] Dc) rfl Dc rfl Kr (fun _ _=>by kernel_rfl) ?_;rw [hg];refine ZR (N:=17) (k:=4) (l:= [15]) (v:= .bool true) hS.1 (hS.2.1 4 Dc) (hS.2.2.1 4 Dc) (hS.2.2.2.1 4 [15] Dc) rfl Dc rfl Kr (fun _ _=>by kernel_rfl) ?_;refine ZR (N:=17) (k:=5) (l:= [15]) (v:= .func (.yield y) #[] #[]) hS.1 (hS.2.1 5 Dc) (hS.2.2.1 5 Dc) (hS.2.2.2.1 5 [15] Dc) rfl Dc rfl Kr (fun _ _=>by kernel_rfl) ?_;refine ZR (N:=17) (k:=6) (l:= [9,10,15]) (v:= .slice (some ⟨b,off,none⟩) xs.length c) hS.1 (hS.2.1 6 Dc) (hS.2.2.1 6 Dc) (hS.2.2.2.1 6 [9,10,15] Dc) rfl Dc rfl Kr (QbU hcw1 lbw1 Kr) ?_;refine ZR (N:=17) (k:=7) (l:= [8,9,10,15]) (v:= .int .i64 ((i:Int)+1)) hS.1 (hS.2.1 7 Dc) (hS.2.2.1 7 Dc) (hS.2.2.2.1 7 [8,9,10,15] Dc) rfl Dc rfl Kr (fun _ _=>by kernel_rfl) ?_;refine ZR (N:=17) (k:=8) (l:= [9,10,15]) (v:= .int .i64 (IntKind.i64.wrap ((i:Int)+1- 1))) hS.1 (hS.2.1 8 Dc) (hS.2.2.1 8 Dc) (hS.2.2.2.1 8 [9,10,15] Dc) rfl Dc rfl Kr (fun _ _=>by kernel_rfl) ?_;rw [hw8];refine ZR (N:=17) (k:=9) (l:= [10,15]) (v:= .pointer (some ⟨b,off+i*6,none⟩)) hS.1 (hS.2.1 9 Dc) (hS.2.2.1 9 Dc) (hS.2.2.2.1 9 [10,15] Dc) rfl Dc rfl Kr (QfI (i:=i) (m:=xs.length) (c:=c) Om Kr Kr) ?_;refine ZR (N:=17) (k:=10) (l:= [15]) (v:= .agg #[.int .u32 x.t.a,.int .u32 x.t.b,.int .u16 x.t.c,.int .u16 x.t.d,.int .i64 x.s,.int .i64 x.l]) hS.1 (hS.2.1 10 Dc) (hS.2.2.1 10 Dc) (hS.2.2.2.1 10 [15] Dc) rfl Dc rfl Kr (QhJ c0 c1 c2 c3 c4 c5 lb1 Kr) ?_;refine ZR (N:=17) (k:=11) (l:= [13,14,15]) (v:= .slice (some ⟨b,off,none⟩) xs.length c) hS.1 (hS.2.1 11 Dc) (hS.2.2.1 11 Dc) (hS.2.2.2.1 11 [13,14,15] Dc) rfl Dc rfl Kr (QbU hcw1 lbw1 Kr) ?_;refine ZR (N:=17) (k:=12) (l:= [13,14,15]) (v:= .int .i64 ((i:Int)+1)) hS.1 (hS.2.1 12 Dc) (hS.2.2.1 12 Dc) (hS.2.2.2.1 12 [13,14,15] Dc) rfl Dc rfl Kr (fun _ _=>by kernel_rfl) ?_;refine ZR (N:=17) (k:=13) (l:= [14,15]) (v:= .pointer (some ⟨b,off+(i+1)*6,none⟩)) hS.1 (hS.2.1 13 Dc) (hS.2.2.1 13 Dc) (hS.2.2.2.1 13 [14,15] Dc) rfl Dc rfl Kr (QfI (i:=i+1) (m:=xs.length) (c:=c) Om Kr Kr) ?_;refine ZR (N:=17) (k:=14) (l:= [15]) (v:= .agg #[.int .u32 z.t.a,.int .u32 z.t.b,.int .u16 z.t.c,.int .u16 z.t.d,.int .i64 z.s,.int .i64 z.l]) hS.1 (hS.2.1 14 Dc) (hS.2.2.1 14 Dc) (hS.2.2.2.1 14 [15] Dc) rfl Dc rfl Kr (QhJ d0 d1 d2 d3 d4 d5 lb1 Kr) ?_;have hrun:(Instr.yield y #[.agg #[.int .u32 x.t.a,.int .u32 x.t.b,.int .u16 x.t.c,.int .u16 x.t.d,.int .i64 x.s,.int .i64 x.l],.agg #[.int .u32 z.t.a,.int .u32 z.t.b,.int .u16 z.t.c,.int .u16 z.t.d,.int .i64 z.s,.int .i64 z.l]]).run Tryz.prog W1= .ok (.round y yfn (ytm #[.agg #[.int .u32 x.t.a,.int .u32 x.t.b,.int .u16 x.t.c,.int .u16 x.t.d,.int .i64 x.s,.int .i64 x.l],.agg #[.int .u32 z.t.a,.int .u32 z.t.b,.int .u16 z.t.c,.int .u16 z.t.d,.int .i64 z.s,.int .i64 z.l]]) yas ybo) W1:=by
    have:=(HY.out i (x,z) W1 hJ1 (by rw [HXS.out,hx,hz])).1;exact this
   have HRD:=Xh (HY.out i (x,z) W1 hJ1 (by rw [HXS.out,hx,hz])).2;refine Qok (N:=17) hS.2.2.2.2.1 rfl Kr (Qmu hrun _ Kr Kr Kr) HRD.out ?_;rintro e w6 ⟨bb,rfl,hP⟩;refine⟨_,rfl,?_⟩;refine valueR (N:=17) (k:=16) (v:= .bool bb) hS.2.2.2.2.2.1 rfl Kr Kr ?_;refine doneR hS.2.2.2.2.2.2 ?_;clear hS HRD hrun;go_simp;obtain⟨rfl,hJ6,hm6⟩|⟨rfl,hx6⟩:=hP
   ·have hcw6:w6.cell? ⟨Bl,0,none⟩=some (.slice (some ⟨b,off,none⟩) xs.length c):=by
     rw [Qa,Qf (hm6.same Bl lbw1 (fun h=>by rcases h with h|h;exact(HU.out _ h).2 rfl;unfold Lt at lb;omega)),←Qa];exact hcw1
    have lbw6:Lt Bl w6:=Xl lbw1 hm6.size;have hE6:Ext w0 w6:=Mv.ext_of hE1 hm6 (fun k h=>by rcases h with h|h;exact(HU.out _ h).1;exact Xt h0.size h);clear hm6;go_wp2;have hcast:(i:Int)+1+1=((i+1:Nat):Int)+1:=by omega
    exact⟨⟨i+1,.inr hlt,by rw [hcast],hJ6,hcw6,lbw6,hE6⟩,by simp [intOf];omega⟩
   ·go_wp2
    go_end0
    exact⟨⟨_,rfl⟩,.inr hx6⟩
  ·have hg:decide ((i:Int)+1<xs.length)=false:=decide_eq_false Om;have hln:(YS xs).length=i:=by rw [Qef];omega
   have HLN:=Xh hln;clear hln
   go_wp2_with (fail)
   refine Qk Kr Kr ?_;(repeat(go_big_quiet_step (fail)));refine wpQuiet_nil ?_;intro d
   have hd:=Qt d;generalize later d=w6 at*;go_wp2
   go_end0
   exact⟨⟨_,rfl⟩,.inl (by rw [HLN.out];exact HJ.out _ _ _ hJi (Mv.of_ext hd))⟩
def ZU(x:Co):Bool:=decide (x.s<0)||decide (x.l<x.s)||decide (1099511627776<x.l)
theorem Qmv(x:Co)(w:World):
  Cr 145 #[.agg #[.int .u32 x.t.a,.int .u32 x.t.b,.int .u16 x.t.c,.int .u16 x.t.d,.int .i64 x.s,.int .i64 x.l]] w (.bool (ZU x)):=by
 go_enter Tryz.func145,Tryz.ntmps145
 go_wp2
 all_goals go_ret
 all_goals refine⟨Qm ?_,?_⟩
 all_goals first|(guard_target=~ Below _ _ _;(exact Xe))|(simp [ZU, *];done)|grind [ZU]
theorem Qom(x:Co)(w:World):
  Cr 145 (#[.agg #[.int .u32 x.t.a,.int .u32 x.t.b,.int .u16 x.t.c,.int .u16 x.t.d,.int .i64 x.s,.int .i64 x.l]]++ #[]) w (.bool (ZU x)):=by
 rw [show(#[Value.agg #[.int .u32 x.t.a,.int .u32 x.t.b,.int .u16 x.t.c,.int .u16 x.t.d,.int .i64 x.s,.int .i64 x.l]]++ #[]:Array Value)=#[.agg #[.int .u32 x.t.a,.int .u32 x.t.b,.int .u16 x.t.c,.int .u16 x.t.d,.int .i64 x.s,.int .i64 x.l]]from rfl];exact Qmv x w
theorem Qgp: ∀args w,(callFunc 145 args).run Tryz.prog w= .ok (.enter 145 args) w:=enters_of Tryz.func145 Kr rfl
theorem Qgq: ∀args w,(callFunc 198 args).run Tryz.prog w= .ok (.enter 198 args) w:=enters_of Tryz.func198 Kr rfl
def QdE(p:Co×Co):Bool:=decide (YQ p.1.t p.2.t<0)
def QJ(xs:List Co):Bool:=decide (xs.length≤32)&&!xs.any ZU&&(YS xs).all QdE
theorem ZG(p:Option Addr)(xs:List Co)(c:Nat)(w:World)(hs:SlC w p xs)(hl:xs.length≤1000):
  Cr 75 #[.slice p xs.length c] w (.bool (QJ xs)):=by
 have HCF:=Xh (fun W (hE:Ext w W)=>QaK 145 #[] Qgp ZU p xs c W (hs.ext hE) hl (fun x W' _ _=>Qom x W'));refine(callsIn_wide (n:=5)).1 ?_;refine callsIn_of_wp_marks Tryz.func75 rfl trivial ?_ rfl;simp only [Tryz.ntmps75,List.size_toArray,List.length_cons,List.length_nil,Nat.reduceAdd,Nat.reduceSub,Array.replicate_succ,Array.replicate_zero,List.push_toArray,List.append_toArray,List.nil_append,List.cons_append];refine wpIn_wide.2 ?_;go_wp2;refine Qp 0 rfl ?_
 cases h1:decide (32<(xs.length:Int))
 ·have hle:decide (xs.length≤32)=true:=by have:=of_decide_eq_false h1;exact decide_eq_true Om
  cases h2:xs.any ZU
  ·have HRC:=Xh (show QJ xs=(YS xs).all QdE by unfold QJ;rw [hle,h2];rfl);rw [h2]at HCF;clear h2 hle
   go_wp2_with (first|(go_at_call 76;(with_reducible refine(HCF.out _ (Ext.rf _)).mono ?_);rintro e w1 ⟨rfl,g1⟩)|(go_at_call 146;(with_reducible refine(QhK _ _ _ _).mono ?_);rintro e w2 ⟨rfl,rfl⟩))
   obtain⟨W2,hW⟩: ∃W2,w1.alloc (.cells #[.slice p xs.length c] 25)=W2:=⟨_,rfl⟩;have g2:Ext w1 W2:=by rw [←hW];exact Ea
   have hcl:W2.cell? ⟨w1.heap.size,0,none⟩=some (.slice p xs.length c):=by rw [←hW,Qa,Zn];rfl
   have hlb:Lt w1.heap.size W2:=by rw [←hW];simp [Lt]
   have hs1:=hs.ext g1;rw [hW];clear hW HCF;refine(wpIn_wide (n:=5)).1 ?_;refine ZI rfl Om (gf:=198) (lb:=#[.pointer (some ⟨w1.heap.size,0,none⟩)]) rfl trivial Qgq
    (Qgo _ xs p c w1 W2 w1.heap.size (fun _=>False) g2 hs1 hl hcl hlb (fun _ h=>h.elim))
    (fun k h=>h.elim) (fun k h=>h.elim) (fun _=>rfl)
    (fun i _=> ∀j,j<i→ ∀h:j<(YS xs).length,QdE (YS xs)[j]=true) (fun cc _=>cc= .goto 0∧(YS xs).all QdE=false)
    (fun _ _ _ h _=>h) (fun _ _ _ h _=>h) (fun j hj=>by omega)
    (fun x a' W=> ∃Bx By,W2.heap.size+2≤Bx∧Bx<W.heap.size∧W2.heap.size+2≤By∧By<W.heap.size∧Qc W Bx=#[.int .u32 x.1.t.a,.int .u32 x.1.t.b,.int .u16 x.1.t.c,.int .u16 x.1.t.d,.int .i64 x.1.s,.int .i64 x.1.l]∧Qc W By=#[.int .u32 x.2.t.a,.int .u32 x.2.t.b,.int .u16 x.2.t.c,.int .u16 x.2.t.d,.int .i64 x.2.s,.int .i64 x.2.l]∧a'={tmps:=#[.slice p xs.length c,undef,.bool false,.func (.func 145) #[] #[],.pointer (some ⟨Bx,0,none⟩),.pointer (some ⟨By,0,none⟩),.slice p xs.length c,.int .i64 xs.length,.bool false,.bool false,.slice p xs.length c,.func (.func 145) #[] #[],.bool false,.bool false,.slice p xs.length c,.func (.func 198) #[] #[.pointer (some ⟨w1.heap.size,0,none⟩)],.agg #[.int .u32 x.1.t.a,.int .u32 x.1.t.b,.int .u16 x.1.t.c,.int .u16 x.1.t.d,.int .i64 x.1.s,.int .i64 x.1.l],.agg #[.int .u32 x.2.t.a,.int .u32 x.2.t.b,.int .u16 x.2.t.c,.int .u16 x.2.t.d,.int .i64 x.2.s,.int .i64 x.2.l],undef,undef,undef,undef,undef,undef],defers:= []})
    (fun x a' A B h hm=>by
     obtain⟨Bx,By,q1,q2,q3,q4,q5,q6,q7⟩:=h
     exact⟨Bx,By,q1,Xl q2 hm.size,q3,Xl q4 hm.size,by rw [Qf (hm.same Bx q2 Om)];exact q5,by rw [Qf (hm.same By q4 Om)];exact q6,q7⟩)
    ?assign ?body ?done ?stop
   case assign=>
    intro y i x W K hsz hv hI hx hK
    gi_wp2
    repeat(rw [Oper.semAt_some _ _ _ (by intro c h;cases h)];go_simp;gi_wp2)
    refine hK _ _ ?_ hI ⟨W.heap.size,W.heap.size+1,hsz,?_,Om,?_,?_,?_,rfl⟩
    ·exact Mv.al _ (Mv.al _ (Mv.refl _ _))
    ·simp;omega
    ·simp
    ·simp [go_sem]
    ·simp [go_sem]
   case body=>
    rintro y i x a' W hyl ⟨rr,hr⟩ hsz hv hI hx ⟨Bx,By,q1,q2,q3,q4,q5,q6,rfl⟩;have hil:i<(YS xs).length:=(List.getElem?_eq_some_iff.1 hx).1;have hxi:(YS xs)[i]=x:=(List.getElem?_eq_some_iff.1 hx).2;have c0:W.cell? ⟨Bx,0,none⟩=some (.int .u32 x.1.t.a):=by rw [Qa,q5];rfl
    have c1:W.cell? ⟨Bx,1,none⟩=some (.int .u32 x.1.t.b):=by rw [Qa,q5];rfl
    have c2:W.cell? ⟨Bx,2,none⟩=some (.int .u16 x.1.t.c):=by rw [Qa,q5];rfl
    have c3:W.cell? ⟨Bx,3,none⟩=some (.int .u16 x.1.t.d):=by rw [Qa,q5];rfl
    have d0:W.cell? ⟨By,0,none⟩=some (.int .u32 x.2.t.a):=by rw [Qa,q6];rfl
    have d1:W.cell? ⟨By,1,none⟩=some (.int .u32 x.2.t.b):=by rw [Qa,q6];rfl
    have d2:W.cell? ⟨By,2,none⟩=some (.int .u16 x.2.t.c):=by rw [Qa,q6];rfl
    have d3:W.cell? ⟨By,3,none⟩=some (.int .u16 x.2.t.d):=by rw [Qa,q6];rfl
    have HI:=Xh hI;have HXI:=Xh hxi;clear hI hxi hx hr q5 q6 hv
    cases hq:decide (0≤YQ x.1.t x.2.t)
    ·have hlt:=of_decide_eq_false hq;have HLS:=Xh (show QdE x=true from decide_eq_true Om)
     gi_wp2
     repeat(rw [Oper.semAt_some _ _ _ (by intro c h;cases h)];go_simp;gi_wp2)
     refine⟨trivial,CallsIn.mono (CallsIn.inRound y (callsIn_wide.2 (Qgl x.1.t x.2.t _))) ?_⟩;rintro e w6 ⟨rfl,hb⟩
     gi_wp2
     repeat(rw [Oper.semAt_some _ _ _ (by intro c h;cases h)];go_simp;gi_wp2)
     exact⟨(Mv.of_ext hb),fun j hj hjl=>by
      rcases Nat.lt_or_ge j i with h|h
      ·exact HI.out j h hjl
      ·obtain rfl:j=i:=by omega
       rw [HXI.out];exact HLS.out⟩
    ·have hge:=of_decide_eq_true hq;have HLS:=Xh (show QdE x=false from decide_eq_false Om)
     gi_wp2
     repeat(rw [Oper.semAt_some _ _ _ (by intro c h;cases h)];go_simp;gi_wp2)
     refine⟨trivial,CallsIn.mono (CallsIn.inRound y (callsIn_wide.2 (Qgl x.1.t x.2.t _))) ?_⟩;rintro e w6 ⟨rfl,hb⟩
     gi_wp2
     repeat(rw [Oper.semAt_some _ _ _ (by intro c h;cases h)];go_simp;gi_wp2)
     refine wpIn_goto ?_;exact⟨Mv.of_ext hb,rfl,List.all_eq_false.2 ⟨x,by rw [←HXI.out];exact List.getElem_mem hil,by rw [HLS.out];decide⟩⟩
   case done=>
    rintro W hI hv hK;have HRT:=Xh (show QJ xs=true by rw [HRC.out];exact List.all_eq_true.2 fun z hz=>by obtain⟨j,hj,rfl⟩:=List.mem_iff_getElem.1 hz;exact hI j hj hj);clear hI;go_wp2;simp only [Exit.jump];refine⟨by simp,.inl ⟨_,_,rfl,run_takeDeferred hK,?_⟩⟩;refine⟨_,results_tmp rfl _ _ _,by rw [HRT.out];rfl,?_⟩;have hE2:Ext w W:=Mv.ext_of (g1.tr g2) hv (fun k h=>by rcases h with h|h<;>exact h.elim);exact Mv.ext_of hE2 (Mv.put (C:=fun k=>k=W2.heap.size) _ _ _ rfl) (fun k h=>by have:=g1.size;have:=g2.size;omega)
   case stop=>
    rintro cc W ⟨rfl,hn⟩ hv hK;have HRF:=Xh (show QJ xs=false by rw [HRC.out];exact hn);clear hn;refine wpIn_goto ?_;simp only [Exit.inBlock,Exit.then,Exit.jump];refine⟨rfl,?_⟩;go_wp2;rw [Exit.noGoto_ret];refine⟨by simp,.inl ⟨_,_,rfl,run_takeDeferred hK,?_⟩⟩;refine⟨_,results_tmp rfl _ _ _,by rw [HRF.out];rfl,?_⟩;have hE2:Ext w W:=Mv.ext_of (g1.tr g2) hv (fun k h=>by rcases h with h|h<;>exact h.elim);exact Mv.ext_of hE2 (Mv.put (C:=fun k=>k=W2.heap.size) _ _ _ rfl) (fun k h=>by have:=g1.size;have:=g2.size;omega)
  ·have HRC:=Xh (show QJ xs=false by unfold QJ;rw [h2];simp);rw [h2]at HCF
   go_wp2_with (go_at_call 76;(refine(HCF.out _ (Ext.rf _)).mono ?_);rintro e w1 ⟨rfl,g1⟩)
   go_step3;refine⟨rfl,?_⟩;go_wp2;rw [Exit.noGoto_ret];exact⟨_,results_tmp rfl _ _ _,by rw [HRC.out];rfl,g1⟩
 ·have HRC:=Xh (show QJ xs=false by unfold QJ;rw [show decide (xs.length≤32)=false from decide_eq_false (by have:=of_decide_eq_true h1;omega)];rfl);go_wp2;go_step3;refine⟨rfl,?_⟩;go_wp2;rw [Exit.noGoto_ret];exact⟨_,results_tmp rfl _ _ _,by rw [HRC.out];rfl,Ext.rf _⟩
def Co.cl(x:Co):List Value:= [.int .u32 x.t.a,.int .u32 x.t.b,.int .u16 x.t.c,.int .u16 x.t.d,.int .i64 x.s,.int .i64 x.l]
def flC(xs:List Co):List Value:=xs.flatMap Co.cl
theorem Q8: ∀xs:List Co,(flC xs).length=xs.length*6
 | []=>rfl
 |x::xs=>by
  show(Co.cl x++flC xs).length=_;rw [List.length_append,Q8 xs,List.length_cons];show 6+_=_;omega
theorem Qbk: ∀(xs:List Co) (k j:Nat) (hk:k<xs.length),j<6→(flC xs)[k*6+j]?=(xs[k]).cl[j]?
 |x::xs,0,j,_,hj=>by
  show(Co.cl x++flC xs)[0*6+j]?=_;rw [Nat.zero_mul,Nat.zero_add,List.getElem?_append_left (by show j<6;exact hj)];rfl
 |x::xs,k+1,j,hk,hj=>by
  show(Co.cl x++flC xs)[(k+1)*6+j]?=_;have hc:(Co.cl x).length=6:=rfl;rw [List.getElem?_append_right Om,hc,show(k+1)*6+j- 6=k*6+j by omega];exact Qbk xs k j (by simpa using hk) hj
theorem QhL(xs:List Co)(x:Co):flC (xs++ [x])=flC xs++x.cl:=by unfold flC;simp
theorem Qbl(xs:List Co): ∀u∈flC xs,u.oneCell'=true:=by
 intro u hu;unfold flC at hu;rw [List.mem_flatMap]at hu;obtain⟨x,_,hx⟩:=hu;unfold Co.cl at hx;simp only [List.mem_cons,List.not_mem_nil,or_false]at hx;rcases hx with rfl|rfl|rfl|rfl|rfl|rfl<;>rfl
theorem QcU:(Tryz.prog.info? 66).map (fun i=>(i.zero,i.size,i.bytes))=some (some (.agg #[.int .u32 0,.int .u32 0,.int .u16 0,.int .u16 0,.int .i64 0,.int .i64 0]),6,32):=Kr
theorem SlC.own{v:Value}{xs:List Co}(h:w.ownsRow base 66 6 v xs.length (flC xs)): ∃p c,v= .slice p xs.length c∧xs.length≤c∧SlC w p xs:=by
 rcases h.2 with⟨rfl,h0⟩|⟨g,cap,cur,rfl,hg,hgb,h1,h2,h3,h4⟩
 ·have:xs= []:=List.length_eq_zero_iff.1 h0;subst this;exact⟨none,0,rfl,Nat.le_refl _,SlC.nil _ _⟩
 ·refine⟨some ⟨g,0,none⟩,cap,rfl,h1,fun k hk=> ?_⟩;have key: ∀j,j<6→w.cell? ⟨g,0+k*6+j,none⟩=(xs[k]).cl[j]?:=fun j hj=>by
   rw [←Qbk xs k j hk hj,←h4,List.getElem?_take_of_lt (by have:=Q8 xs;omega)];simp only [World.cell?,hgb];simp
  exact⟨g,0,rfl,(Array.getElem?_eq_some_iff.1 hgb).1,key 0 Om,key 1 Om,key 2 Om,key 3 Om,key 4 Om,key 5 Om⟩
theorem Qgr(p:Option Addr)(xs:List Co)(c:Nat)(w:World)(hs:SlC w p xs)(hl:xs.length≤1000):
  Calls Tryz.prog 79 #[.slice p xs.length c] w fun e w'=> ∃v,e= .returned v∧w'.ownsRow w.heap.size 66 6 v xs.length (flC xs)∧Ext w w':=by
 obtain⟨i0,hi,hz0,hz1,hz2⟩:=info_parts QcU;have hnil:=fun(W:World) (a:Option Addr) (n c:Nat)=>Lib.run_eql_slice_nil (P:=Tryz.prog) W 25 66 a n c 0 0 Tryz.underlying25
 cases p with
 |none=>
  have h0:xs= []:=by
   cases xs with
   |nil=>rfl
   |cons m r=>obtain⟨b,off,h,_⟩:=hs 0 (by simp);cases h
  subst h0
  go_enter Tryz.func79,Tryz.ntmps79
  go_wp2;go_ret;exact⟨_,rfl,World.ownsRow_nil _ _ _ _,Ext.rf _⟩
 |some a=>
  have own0:(w.alloc (.cells #[] 66)).ownsRow w.heap.size 66 6 (.slice (some ⟨w.heap.size,0,none⟩) 0 0) 0 []:=⟨rfl,.inr ⟨w.heap.size,0,#[],rfl,Nat.le_refl _,World.alloc_heap_new _ _,Nat.le_refl _,by unfold maxLen;omega,rfl,rfl⟩⟩;have hnews: ∀j u,(flC xs)[j]?=some u→(w.alloc (.cells #[] 66)).cell? (a.add j)=some u:=by
   intro j u hu;have hj:j<xs.length*6:=by have:=(List.getElem?_eq_some_iff.1 hu).1;rwa [Q8]at this
   have hk:j/6<xs.length:=by omega
   obtain⟨b,off,h,hb,c0,c1,c2,c3,c4,c5⟩:=hs (j/6) hk
   cases h
   have e:(⟨b,off,none⟩:Addr).add j=⟨b,off+j,none⟩:=by unfold Addr.add;split<;>simp_all
   have hg:=Qbk xs (j/6) (j % 6) hk (Nat.mod_lt _ Om);rw [show j/6*6+j % 6=j by omega]at hg;rw [e,World.cell?_alloc_past _ _ _ hb,←hu,hg];have hm:j % 6<6:=Nat.mod_lt _ Om;generalize hq:j/6=q at*;generalize hr:j % 6=r at*;have hjq:j=q*6+r:=by omega
   subst hjq;obtain rfl|rfl|rfl|rfl|rfl|rfl:r=0∨r=1∨r=2∨r=3∨r=4∨r=5:=by omega
   ·exact c0
   ·exact c1
   ·exact c2
   ·exact c3
   ·exact c4
   ·exact c5
  have HN:=Xh hnews;have HO:=Xh own0;clear hnews own0 hs
  go_enter Tryz.func79,Tryz.ntmps79
  go_wp2_with (at_builtin;refine wpList_append_own _ rfl _ _ 25 rfl w.heap.size 66 i0 (.agg #[.int .u32 0,.int .u32 0,.int .u16 0,.int .u16 0,.int .i64 0,.int .i64 0]) 6 32 Tryz.underlying25 hi hz0 hz1 hz2 rfl Dc _ _ _ rfl HO.out a xs.length c (flC xs) rfl (by simp [Q8]) HN.out (Qbl xs) (by unfold maxLen;omega) Om (by simp) ?_;intro v' w2 hown' hgrow _;have HOW:=Xh hown';have HG:=Xh hgrow;clear hown' hgrow)
  go_ret;refine⟨v',rfl,?_,?_⟩
  ·have:=HOW.out;rw [Nat.zero_add,List.nil_append]at this;exact this
  ·exact Mv.ext (C:=fun k=>k=w.heap.size) ((Mv.al _ (Mv.refl _ _)).trans (Mv.of_grown HG.out fun r e=> .inl (by have e':some w.heap.size=some r:=e;injection e' with h;exact h.symm))) (fun k hk e=>by omega)
theorem Qeg{row:Option Nat}{size:Nat}{v:Value}{n:Nat}(h:A.ownsRow base e size v n xs)(hg:A.grownBy B row)(hne: ∀g,v.ownBlock=some g→row≠some g):B.ownsRow base e size v n xs:=by
 refine⟨h.1,?_⟩;rcases h.2 with h|⟨g,cap,cur,rfl,hb,hgb,h1,h2,h3,h4⟩
 ·exact .inl h
 ·have hm:Mv (fun k=>row=some k) A B:=Mv.of_grown hg fun r e=> .inl e;exact .inr ⟨g,cap,cur,rfl,hb,(hm.same g (Array.getElem?_eq_some_iff.1 hgb).1 (hne g rfl)).trans hgb,h1,h2,h3,h4⟩
theorem Zl{size:Nat}{v:Value}{n:Nat}(h:A.ownsRow base e size v n xs)(he:Ext A B):B.ownsRow base e size v n xs:=
 Qw (C:=fun _=>False) h (Mv.of_ext he) (fun _ _ h=>h)
theorem QbW{size:Nat}{v:Value}{n:Nat}(h:A.ownsRow base e size v n xs): ∀g,v.ownBlock=some g→g<A.heap.size:=by
 intro g hg;rcases h.2 with⟨rfl,_⟩|⟨b,cap,cur,rfl,hb,hgb,_⟩
 ·cases hg
 ·have e:b=g:=by simpa [Value.ownBlock]using hg
  subst e;exact(Array.getElem?_eq_some_iff.1 hgb).1
theorem Qon(x:Co): ∀u∈x.cl,u.oneCell'=true:=by
 intro u hu;unfold Co.cl at hu;simp only [List.mem_cons,List.not_mem_nil,or_false]at hu;rcases hu with rfl|rfl|rfl|rfl|rfl|rfl<;>rfl
theorem QdF(W:World)(x:Co)(t:TypeId): ∀j u,x.cl[j]?=some u→(W.alloc (.cells #[.int .u32 x.t.a,.int .u32 x.t.b,.int .u16 x.t.c,.int .u16 x.t.d,.int .i64 x.s,.int .i64 x.l] t)).cell? ((⟨W.heap.size,0,none⟩:Addr).add j)=some u:=by
 intro j u hu;have hj:j<6:=(List.getElem?_eq_some_iff.1 hu).1;have e:(⟨W.heap.size,0,none⟩:Addr).add j=⟨W.heap.size,j,none⟩:=by unfold Addr.add;split<;>simp_all
 rw [e,Qa,Zn,←hu];obtain rfl|rfl|rfl|rfl|rfl|rfl:j=0∨j=1∨j=2∨j=3∨j=4∨j=5:=by omega
 all_goals rfl
def Qeh(so:Co→Bool)(xs:List Co)(k:Nat):List Co:=(xs.take k).filter so
def noN(so:Co→Bool)(xs:List Co)(k:Nat):List Co:=(xs.take k).filter fun x=>!so x
theorem Qoo(so:Co→Bool)(xs:List Co)(k:Nat)(x:Co)(h:k<xs.length)(hx:xs[k]=x)(hs:so x=true):Qeh so xs (k+1)=Qeh so xs k++ [x]∧noN so xs (k+1)=noN so xs k:=by
 unfold Qeh noN;rw [List.take_succ_eq_append_getElem h,List.filter_append,List.filter_append,hx];simp [hs]
theorem QrU(so:Co→Bool)(xs:List Co)(k:Nat)(x:Co)(h:k<xs.length)(hx:xs[k]=x)(hs:so x=false):Qeh so xs (k+1)=Qeh so xs k∧noN so xs (k+1)=noN so xs k++ [x]:=by
 unfold Qeh noN;rw [List.take_succ_eq_append_getElem h,List.filter_append,List.filter_append,hx];simp [hs]
theorem Qop(so:Co→Bool)(xs:List Co)(k:Nat):(Qeh so xs k).length≤xs.length∧(noN so xs k).length≤xs.length:=by
 unfold Qeh noN;exact⟨Xt (List.length_filter_le _ _) (List.length_take_le' _ _),Xt (List.length_filter_le _ _) (List.length_take_le' _ _)⟩
def QuQ(base:Nat)(w:World)(v1 v2:Value)(l1 l2:List Co):Prop:=
 w.ownsRow base 66 6 v1 l1.length (flC l1)∧w.ownsRow base 66 6 v2 l2.length (flC l2)∧ ∀g,v1.ownBlock=some g→v2.ownBlock≠some g
theorem ZJ(g:Nat)(lb:Array Value)(eg: ∀args w,(callFunc g args).run Tryz.prog w= .ok (.enter g args) w)(so:Co→Bool)(p:Option Addr)(xs:List Co)(c:Nat)(w:World)
  (hs:SlC w p xs)(hl:xs.length≤1000)(hf: ∀x W,x∈xs→Ext w W→Cr g (#[.agg #[.int .u32 x.t.a,.int .u32 x.t.b,.int .u16 x.t.c,.int .u16 x.t.d,.int .i64 x.s,.int .i64 x.l]]++lb) W (.bool (so x))):
  Calls Tryz.prog 139 #[.slice p xs.length c,.func (.func g) #[] lb] w fun e w'=> ∃v1 v2,e= .returned (.tuple #[v1,v2])∧QuQ w.heap.size w' v1 v2 (xs.filter so) (xs.filter fun x=>!so x)∧Ext w w':=by
 obtain⟨i0,hi,hz0,hz1,hz2⟩:=info_parts QcU;have HF:=Xh hf;clear hf
 go_enter Tryz.func139,Tryz.ntmps139
 go_wp2
 go_loopw [4,5,7,10] (fun vy vn _ a wr=> ∃k:Nat,k≤xs.length∧a= .int .i64 k∧QuQ w.heap.size wr vy vn (Qeh so xs k) (noN so xs k)∧Ext w wr) (fun _ _ _ a _=>xs.length- (intOf a).toNat)
 case atStart=>exact⟨0,Nat.zero_le _,rfl,⟨World.ownsRow_nil _ _ _ _,World.ownsRow_nil _ _ _ _,fun g h=>by cases h⟩,Ext.rf _⟩
 case round=>
  obtain⟨k,hk,rfl,⟨hy,hn,hd⟩,hE⟩:=hrel
  by_cases hlt:k<xs.length
  ·have hil:(k:Int)<xs.length:=by omega
   obtain⟨b,off,rfl,hb,c0,c1,c2,c3,c4,c5⟩:=(hs.ext hE) k hlt;have lbb:Lt b wr:=hb;obtain⟨x,hx⟩: ∃x,xs[k]=x:=⟨_,rfl⟩;have hmem:x∈xs:=by rw [←hx];exact List.getElem_mem hlt
   rw [hx]at c0 c1 c2 c3 c4 c5;have HY:=Xh hy;have HN:=Xh hn;have HD:=Xh hd;have hlen:=Qop so xs k;clear hy hn hd
   go_upto_region 4 with(fail)
   obtain⟨W1,hW⟩: ∃W1,wr.alloc (.cells #[.int .u32 x.t.a,.int .u32 x.t.b,.int .u16 x.t.c,.int .u16 x.t.d,.int .i64 x.s,.int .i64 x.l] 66)=W1:=⟨_,rfl⟩;have g1:Ext wr W1:=by rw [←hW];exact Ea
   have rx:Qc W1 wr.heap.size=#[.int .u32 x.t.a,.int .u32 x.t.b,.int .u16 x.t.c,.int .u16 x.t.d,.int .i64 x.s,.int .i64 x.l]:=by rw [←hW];simp [go_sem]
   have lx:Lt wr.heap.size W1:=by rw [←hW];simp [Lt]
   rw [hW];have hbw:=hE.size;clear hW c0 c1 c2 c3 c4 c5 lbb hb;generalize wr.heap.size=BX at*;have x0:W1.cell? ⟨BX,0,none⟩=some (.int .u32 x.t.a):=by rw [Qa,rx];rfl
   have x1:W1.cell? ⟨BX,1,none⟩=some (.int .u32 x.t.b):=by rw [Qa,rx];rfl
   have x2:W1.cell? ⟨BX,2,none⟩=some (.int .u16 x.t.c):=by rw [Qa,rx];rfl
   have x3:W1.cell? ⟨BX,3,none⟩=some (.int .u16 x.t.d):=by rw [Qa,rx];rfl
   have x4:W1.cell? ⟨BX,4,none⟩=some (.int .i64 x.s):=by rw [Qa,rx];rfl
   have x5:W1.cell? ⟨BX,5,none⟩=some (.int .i64 x.l):=by rw [Qa,rx];rfl
   have hE1:=hE.tr g1;have HC:=HF.out x W1 hmem hE1;clear rx
   cases hso:so x
   ·rw [hso]at HC;have HCC:=Xh HC;obtain⟨n1,n2⟩:=QrU so xs k x hlt hx hso;have HN1:=Xh n1;have HN2:=Xh n2;clear HC n1 n2 hx hso hmem
    go_wp2_with (first|(at_builtin;go_must (refine wpList_append_own_at _ rfl _ _ 25 rfl w.heap.size 66 i0 (.agg #[.int .u32 0,.int .u32 0,.int .u16 0,.int .u16 0,.int .i64 0,.int .i64 0]) 6 32 Tryz.underlying25 hi hz0 hz1 hz2 rfl Dc u5 _ _ rfl (HON.out.alloc _) ⟨W2.heap.size,0,none⟩ 1 1 x.cl rfl rfl (QdF _ _ _) (Qon x) (by unfold maxLen;omega) Om (by simp;omega) ?_);intro v' w3 hown' hgrow _ hat;have HOW:=Xh hown';have HG:=Xh hgrow;have HAT:=Xh hat;clear hown' hgrow hat)|((with_reducible refine(HCC.out).mono ?_);rintro e W2 ⟨rfl,g2⟩;obtain⟨hc2,hf2,hl2,hz2',-⟩:=QU g2;(try simp at hz2');have HOY:=Xh (Zl HY.out (g1.tr g2));have HON:=Xh (Zl HN.out (g1.tr g2));have hsz2:=(hE1.tr g2).size))
    go_roundw
    case rel=>
     have gX:Ext w (W2.alloc (.cells #[.int .u32 x.t.a,.int .u32 x.t.b,.int .u16 x.t.c,.int .u16 x.t.d,.int .i64 x.s,.int .i64 x.l] 66)):=Ext.al (hE1.tr g2) _;refine⟨k+1,Om,by go_num,⟨?_,?_,?_⟩,?_⟩
     ·rw [HN1.out];exact Qeg (HOY.out.alloc _) HG.out (fun g h e=>HD.out g h e)
     ·rw [HN2.out,List.length_append,QhL];exact HOW.out
     ·intro gg hg1 hg2;have b1:=QbW HOY.out;have b2:=QbW HON.out;rcases HAT.out with e|e
      ·exact HD.out gg hg1 (e▸hg2)
      ·have:=b1 gg hg1;rw [hg2]at e;simp at e;omega
     ·exact Mv.ext_of gX (Mv.of_grown (C:=fun k=>w.heap.size≤k) HG.out fun r e=> .inl (Qi HON.out r e)) (fun k h=>h)
    case measure=>simp [intOf];omega
   ·rw [hso]at HC;have HCC:=Xh HC;obtain⟨n1,n2⟩:=Qoo so xs k x hlt hx hso;have HN1:=Xh n1;have HN2:=Xh n2;clear HC n1 n2 hx hso hmem
    go_wp2_with (first|(at_builtin;go_must (refine wpList_append_own_at _ rfl _ _ 25 rfl w.heap.size 66 i0 (.agg #[.int .u32 0,.int .u32 0,.int .u16 0,.int .u16 0,.int .i64 0,.int .i64 0]) 6 32 Tryz.underlying25 hi hz0 hz1 hz2 rfl Dc u4 _ _ rfl (HOY.out.alloc _) ⟨W2.heap.size,0,none⟩ 1 1 x.cl rfl rfl (QdF _ _ _) (Qon x) (by unfold maxLen;omega) Om (by simp;omega) ?_);intro v' w3 hown' hgrow _ hat;have HOW:=Xh hown';have HG:=Xh hgrow;have HAT:=Xh hat;clear hown' hgrow hat)|((with_reducible refine(HCC.out).mono ?_);rintro e W2 ⟨rfl,g2⟩;obtain⟨hc2,hf2,hl2,hz2',-⟩:=QU g2;(try simp at hz2');have HOY:=Xh (Zl HY.out (g1.tr g2));have HON:=Xh (Zl HN.out (g1.tr g2));have hsz2:=(hE1.tr g2).size))
    go_roundw
    case rel=>
     have gX:Ext w (W2.alloc (.cells #[.int .u32 x.t.a,.int .u32 x.t.b,.int .u16 x.t.c,.int .u16 x.t.d,.int .i64 x.s,.int .i64 x.l] 66)):=Ext.al (hE1.tr g2) _;refine⟨k+1,Om,by go_num,⟨?_,?_,?_⟩,?_⟩
     ·rw [HN1.out,List.length_append,QhL];exact HOW.out
     ·rw [HN2.out];exact Qeg (HON.out.alloc _) HG.out (fun g h e=>HD.out g e h)
     ·intro gg hg1 hg2;have b1:=QbW HOY.out;have b2:=QbW HON.out;rcases HAT.out with e|e
      ·exact HD.out gg (e▸hg1) hg2
      ·have:=b2 gg hg2;rw [hg1]at e;simp at e;omega
     ·exact Mv.ext_of gX (Mv.of_grown (C:=fun k=>w.heap.size≤k) HG.out fun r e=> .inl (Qi HOY.out r e)) (fun k h=>h)
    case measure=>simp [intOf];omega
  ·obtain rfl:k=xs.length:=by omega
   have e1:Qeh so xs xs.length=xs.filter so:=by unfold Qeh;rw [List.take_length]
   have e2:noN so xs xs.length=xs.filter fun x=>!so x:=by unfold noN;rw [List.take_length]
   rw [e1]at hy;rw [e2]at hn;have HY:=Xh hy;have HN:=Xh hn;have HD:=Xh hd;clear hy hn hd;go_wp2;exact bodyPost_ret (v:= .tuple #[u4,u5]) (by simp [results,Tryz.results139,go_sem]) rfl ⟨u4,u5,rfl,⟨HY.out,HN.out,HD.out⟩,hE⟩
def Z6(idle now:Int):Bool:=decide (0≤idle)&&decide (0≤now)&&decide (now≤1099511627776)
def idleB(idle now:Int)(x:Co):Bool:=Z6 idle now&&decide (x.l≤now- idle)
theorem Qmw(x:Co)(idle now:Int)(ba bn bi:Nat)(w:World)(hi:idle≤9223372036854775807)(la:Lt ba w)(ln:Lt bn w)(li:Lt bi w)(ha:w.cell? ⟨ba,0,none⟩=some (.bool (Z6 idle now)))(hn:w.cell? ⟨bn,0,none⟩=some (.int .i64 now))(hd:w.cell? ⟨bi,0,none⟩=some (.int .i64 idle)):
  Cr 142 #[.agg #[.int .u32 x.t.a,.int .u32 x.t.b,.int .u16 x.t.c,.int .u16 x.t.d,.int .i64 x.s,.int .i64 x.l],.pointer (some ⟨ba,0,none⟩),.pointer (some ⟨bn,0,none⟩),.pointer (some ⟨bi,0,none⟩)] w (.bool (idleB idle now x)):=by
 cases hq:Z6 idle now
 ·rw [hq]at ha;have HV:=Xh (show idleB idle now x=false by unfold idleB;rw [hq];rfl);clear hq
  go_enter Tryz.func142,Tryz.ntmps142
  go_wp2;go_ret;refine⟨by rw [HV.out];rfl,?_⟩
  (exact Xe)
 ·rw [hq]at ha;have HV:=Xh (show idleB idle now x=decide (x.l≤now- idle)by unfold idleB;rw [hq];rfl);unfold Z6 at hq;simp only [Bool.and_eq_true,decide_eq_true_eq]at hq;obtain⟨⟨q1,q2⟩,q3⟩:=hq
  go_enter Tryz.func142,Tryz.ntmps142
  go_wp2;go_ret;refine⟨by rw [HV.out];rfl,?_⟩
  (exact Xe)
theorem Y8(x:Co)(idle now:Int)(ba bn bi:Nat)(w:World)(hi:idle≤9223372036854775807)(la:Lt ba w)(ln:Lt bn w)(li:Lt bi w)(ha:w.cell? ⟨ba,0,none⟩=some (.bool (Z6 idle now)))(hn:w.cell? ⟨bn,0,none⟩=some (.int .i64 now))(hd:w.cell? ⟨bi,0,none⟩=some (.int .i64 idle)):
  Cr 142 (#[.agg #[.int .u32 x.t.a,.int .u32 x.t.b,.int .u16 x.t.c,.int .u16 x.t.d,.int .i64 x.s,.int .i64 x.l]]++ #[.pointer (some ⟨ba,0,none⟩),.pointer (some ⟨bn,0,none⟩),.pointer (some ⟨bi,0,none⟩)]) w (.bool (idleB idle now x)):=by
 rw [show(#[Value.agg #[.int .u32 x.t.a,.int .u32 x.t.b,.int .u16 x.t.c,.int .u16 x.t.d,.int .i64 x.s,.int .i64 x.l]]++ #[Value.pointer (some ⟨ba,0,none⟩),.pointer (some ⟨bn,0,none⟩),.pointer (some ⟨bi,0,none⟩)]:Array Value)=#[.agg #[.int .u32 x.t.a,.int .u32 x.t.b,.int .u16 x.t.c,.int .u16 x.t.d,.int .i64 x.s,.int .i64 x.l],.pointer (some ⟨ba,0,none⟩),.pointer (some ⟨bn,0,none⟩),.pointer (some ⟨bi,0,none⟩)]from rfl];exact Qmw x idle now ba bn bi w hi la ln li ha hn hd
theorem ZS: ∀args w,(callFunc 142 args).run Tryz.prog w= .ok (.enter 142 args) w:=enters_of Tryz.func142 Kr rfl
theorem Qoq(p:Option Addr)(xs:List Co)(c:Nat)(idle now:Int)(w:World)(hs:SlC w p xs)(hl:xs.length≤1000)(hi:idle≤9223372036854775807)(b1 b2 b3:Bool)(e1:decide (0≤idle)=b1)(e2:decide (0≤now)=b2)(e3:decide (now≤1099511627776)=b3):
  Calls Tryz.prog 69 #[.slice p xs.length c,.int .i64 idle,.int .i64 now] w fun e w'=> ∃v1 v2,e= .returned (.tuple #[v1,v2])∧QuQ w.heap.size w' v1 v2 (xs.filter (idleB idle now)) (xs.filter fun x=>!idleB idle now x)∧Ext w w':=by
 have HA:=Xh (show Z6 idle now=(b1&&b2&&b3)by unfold Z6;rw [e1,e2,e3])
 cases b1<;>cases b2<;>cases b3
 all_goals
  go_enter Tryz.func69,Tryz.ntmps69
  go_upto_region 2 with(fail)
  obtain⟨W0,hW⟩: ∃W0,((w.alloc (.cells #[.int .i64 idle] 3)).alloc (.cells #[.int .i64 now] 3)).alloc (.cells #[.bool (Z6 idle now)] 4)=W0:=⟨_,rfl⟩;have HAL:=HA.out;simp only [Bool.and_true,Bool.and_false]at HAL;rw [HAL]at hW;rw [hW];have g0:Ext w W0:=by rw [←hW];exact Ext.al (Ext.al Ea _) _
  have ci:W0.cell? ⟨w.heap.size,0,none⟩=some (.int .i64 idle):=by rw [←hW];simp [go_sem]
  have cn:W0.cell? ⟨w.heap.size+1,0,none⟩=some (.int .i64 now):=by rw [←hW];simp [go_sem]
  have ca:W0.cell? ⟨w.heap.size+1+1,0,none⟩=some (.bool (Z6 idle now)):=by rw [HAL,←hW];simp [go_sem]
  have li:Lt w.heap.size W0:=by rw [←hW];simp [Lt];try omega
  have ln:Lt (w.heap.size+1) W0:=by rw [←hW];simp [Lt];try omega
  have la:Lt (w.heap.size+1+1) W0:=by rw [←hW];simp [Lt];try omega
  have s0:=hs.ext g0;have hsz:w.heap.size≤W0.heap.size:=g0.size;clear hW hs;have HCL:=Xh (fun(x:Co) (W:World) (_:x∈xs) (hE:Ext W0 W)=>Y8 x idle now _ _ _ W hi (Xl la hE.size) (Xl ln hE.size) (Xl li hE.size) ((hE.cell (p:=⟨w.heap.size+1+1,0,none⟩) la).trans ca) ((hE.cell (p:=⟨w.heap.size+1,0,none⟩) ln).trans cn) ((hE.cell (p:=⟨w.heap.size,0,none⟩) li).trans ci))
  go_wp2_with (go_at_call 139;go_must (with_reducible refine(ZJ 142 #[.pointer (some ⟨w.heap.size+1+1,0,none⟩),.pointer (some ⟨w.heap.size+1,0,none⟩),.pointer (some ⟨w.heap.size,0,none⟩)] ZS (idleB idle now) p xs c _ s0 hl HCL.out).mono ?_);rintro e w' ⟨v1,v2,rfl,⟨o1,o2,o3⟩,g1⟩;have O1:=Xh o1;have O2:=Xh o2;have O3:=Xh o3;clear o1 o2 o3)
  exact bodyPost_ret (v:= .tuple #[v1,v2]) (by simp [results,Tryz.results69,go_sem]) rfl ⟨v1,v2,rfl,⟨QA O1.out hsz,QA O2.out hsz,O3.out⟩,g0.tr g1⟩
def Qor(g:Nat)(lb:Array Value)(f:List Co→Nat→List Co)(W0:World):Prop:=
 ∀(base:Nat) (W:World) (v:Value) (xs:List Co) (k:Nat),Ext W0 W→W0.heap.size≤base→xs.length≤1000→W.ownsRow base 66 6 v xs.length (flC xs)→k<xs.length→
  Calls Tryz.prog g (#[v,.int .i64 k]++lb) W fun e w'=> ∃v',e= .returned v'∧w'.ownsRow base 66 6 v' (f xs k).length (flC (f xs k))∧Mv (fun b=>base≤b) W w'
def withOk(xs:List Co)(t:Tu):Bool:=okC xs t&&QJ xs
def withX(f:List Co→Nat→List Co)(xs:List Co)(t:Tu):List Co:=if withOk xs t=true then f xs (atC xs t)else xs
theorem QuR{xs:List Co}{t:Tu}(h:okC xs t=true):atC xs t<xs.length:=by
 unfold okC at h
 cases hg:xs[atC xs t]? with
 |none=>rw [hg]at h;cases h
 |some x=>exact(List.getElem?_eq_some_iff.1 hg).1
theorem QhM(g:Nat)(lb:Array Value)(eg: ∀args w,(callFunc g args).run Tryz.prog w= .ok (.enter g args) w)(f:List Co→Nat→List Co)(t:Tu)(p:Option Addr)(xs:List Co)(c:Nat)(w:World)
  (hs:SlC w p xs)(hl:xs.length≤1000)(hf:Qor g lb f w):
  Calls Tryz.prog 188 #[.slice p xs.length c,tu t.a t.b t.c t.d,.func (.func g) #[] lb] w fun e w'=> ∃v,e= .returned (.tuple #[v,.bool (withOk xs t)])∧w'.ownsRow w.heap.size 66 6 v (withX f xs t).length (flC (withX f xs t))∧Ext w w':=by
 have HF:=Xh hf;clear hf
 go_enter Tryz.func188,Tryz.ntmps188
 go_upto_region 1 with(fail)
 obtain⟨W0,hW⟩: ∃W0,w.alloc (.cells #[.int .u32 t.a,.int .u32 t.b,.int .u16 t.c,.int .u16 t.d] 64)=W0:=⟨_,rfl⟩;have e0:Ext w W0:=by rw [←hW];exact Ea
 have s0:=hs.ext e0;have ht:YM W0 w.heap.size t:=by rw [←hW];unfold YM;simp [go_sem,Lt]
 have hsz:w.heap.size≤W0.heap.size:=e0.size;rw [hW];clear hW hs
 go_upto_region 2 with(go_at_call 79;go_must (with_reducible refine(Qgr p xs c _ s0 hl).mono ?_);rintro e W1 ⟨v,rfl,ho,g1⟩)
 have ht:=ht.ext g1;have e1:=e0.tr g1;have ho:W1.ownsRow w.heap.size 66 6 v xs.length (flC xs):=QA ho hsz;obtain⟨p1,c1,rfl,hc1,s1⟩:=SlC.own ho;have HO:=Xh ho;obtain⟨d0,d1,d2,d3⟩:=ht.cells;have lB:Lt w.heap.size W1:=ht.2;clear ho s0 e0 g1 ht
 go_upto_region 3 with(go_at_call 44;go_must (with_reducible refine(Qed t p1 xs c1 _ s1 hl).mono ?_);rintro e W2 ⟨rfl,g2⟩)
 have s2:=s1.ext g2;have e2:=e1.tr g2;have HO2:=Xh (Zl HO.out g2);clear s1 e1 d0 d1 d2 d3 lB g2 HO
 cases hk:okC xs t
 ·have HV:=Xh (show withOk xs t=false∧withX f xs t=xs by unfold withX withOk;rw [hk];exact⟨rfl,rfl⟩);go_wp2;exact bodyPost_ret (v:= .tuple #[.slice p1 xs.length c1,.bool false]) (by simp [results,Tryz.results188,go_sem]) rfl ⟨_,by rw [HV.out.1],by rw [HV.out.2];exact HO2.out,e2⟩
 have hat:=QuR hk
 cases hr:QJ xs
 ·have HV:=Xh (show withOk xs t=false∧withX f xs t=xs by unfold withX withOk;rw [hk,hr];exact⟨rfl,rfl⟩);have HR:=Xh hr;clear hr hk
  go_wp2_with (go_at_call 75;(refine(ZG p1 xs c1 _ s2 hl).mono ?_);rw [HR.out];rintro e W3 ⟨rfl,g3⟩)
  exact bodyPost_ret (v:= .tuple #[.slice p1 xs.length c1,.bool false]) (by simp [results,Tryz.results188,go_sem]) rfl ⟨_,by rw [HV.out.1],by rw [HV.out.2];exact Zl HO2.out g3,e2.tr g3⟩
 ·have HV:=Xh (show withOk xs t=true∧withX f xs t=f xs (atC xs t)by unfold withX withOk;rw [hk,hr];exact⟨rfl,rfl⟩);have HR:=Xh hr;clear hr hk;generalize atC xs t=k at*
  go_upto_region 5 with(go_at_call 75;(refine(ZG p1 xs c1 _ s2 hl).mono ?_);rw [HR.out];rintro e W3 ⟨rfl,g3⟩)
  have HC:=Xh (HF.out w.heap.size W3 _ xs k (e2.tr g3) (Nat.le_refl _) hl (Zl HO2.out g3) hat)
  go_wp2_with ((with_reducible refine(HC.out).mono ?_);rintro e W4 ⟨v',rfl,ho4,m4⟩;have HO4:=Xh ho4;clear ho4)
  exact bodyPost_ret (v:= .tuple #[v',.bool true]) (by simp [results,Tryz.results188,go_sem]) rfl ⟨_,by rw [HV.out.1],by rw [HV.out.2];exact HO4.out,Mv.ext_of (e2.tr g3) m4 (fun _ h=>h)⟩
theorem Qgs{size n cap g:Nat}(h:w.ownsRow base e size (.slice (some ⟨g,0,none⟩) n cap) n xs)(i:Nat)(u:Value):
  (w.setCell ⟨g,i,none⟩ u).ownsRow base e size (.slice (some ⟨g,0,none⟩) n cap) n (xs.set i u):=by
 refine⟨by rw [List.length_set];exact h.1,?_⟩;rcases h.2 with⟨h0,_⟩|⟨g',cap',cur,e1,hb,hgb,h1,h2,h3,h4⟩
 ·cases h0
 ·cases e1
  refine .inr ⟨g,cap,cur.setIfInBounds i u,rfl,hb,?_,h1,h2,by simpa using h3,?_⟩
  ·simp only [World.setCell];rw [Array.getElem?_modify,if_pos rfl,hgb];rfl
  ·rw [Array.toList_setIfInBounds,List.take_set,h4]
theorem QrV(xs:List Co)(k:Nat)(x:Co)(y:Int)(hk:k<xs.length)(hx:xs[k]=x):(flC xs).set (k*6+5) (.int .i64 y)=flC (xs.set k {x with l:=y}):=by
 refine List.ext_getElem? fun j=> ?_
 by_cases hj:j<xs.length*6
 ·have hq:j/6<xs.length:=by omega
  have e:j/6*6+j % 6=j:=by omega
  have h6:j % 6<6:=Nat.mod_lt _ Om;have g1:=Qbk xs (j/6) (j % 6) hq h6;have g2:=Qbk (xs.set k {x with l:=y}) (j/6) (j % 6) (by simpa using hq) h6;rw [e]at g1 g2;rw [g2,List.getElem?_set,List.getElem_set,g1];have hlen:(flC xs).length=xs.length*6:=Q8 xs
  by_cases hkq:k=j/6
  ·subst hkq;rw [if_pos rfl];rw [hx]
   by_cases h5:j % 6=5
   ·rw [if_pos Om,if_pos Om,h5];rfl
   ·rw [if_neg Om];generalize j % 6=r at*;obtain rfl|rfl|rfl|rfl|rfl:r=0∨r=1∨r=2∨r=3∨r=4:=by omega
    all_goals rfl
  ·rw [if_neg hkq,if_neg Om]
 ·rw [List.getElem?_eq_none (by rw [List.length_set,Q8];omega),List.getElem?_eq_none (by rw [Q8,List.length_set];omega)]
def touchF(now:Int)(xs:List Co)(k:Nat):List Co:=match xs[k]? with|some x=>xs.set k {x with l:=max x.l (min now 1099511627776)}|none=>xs
theorem Qgt: ∀args w,(callFunc 189 args).run Tryz.prog w= .ok (.enter 189 args) w:=enters_of Tryz.func189 Kr rfl
theorem Qji(now:Int)(bn:Nat)(W0:World)(ln:Lt bn W0)(hn:W0.cell? ⟨bn,0,none⟩=some (.int .i64 now)):Qor 189 #[.pointer (some ⟨bn,0,none⟩)] (touchF now) W0:=by
 intro base W v xs k hE hb hl ho hk;have hcn:=(hE.cell (p:=⟨bn,0,none⟩) ln).trans hn;have lnW:Lt bn W:=Xl ln hE.size;obtain⟨g,cap,rfl,hg,hgl,hfz,hc1⟩: ∃g cap,v= .slice (some ⟨g,0,none⟩) xs.length cap∧base≤g∧g<W.heap.size∧Qs W g=(0,0)∧xs.length≤cap:=by
  rcases ho.2 with⟨_,h0⟩|⟨g,cap,cur,rfl,h1,hgb,h2,h3,h4,h5⟩
  ·omega
  ·exact⟨g,cap,rfl,h1,(Array.getElem?_eq_some_iff.1 hgb).1,by unfold Qs;rw [hgb],h2⟩
 obtain⟨p1,c1,e1,_,s1⟩:=SlC.own ho
 cases e1
 obtain⟨b,off,e2,_,c0,c1',c2,c3,c4,c5⟩:=s1 k hk
 cases e2
 obtain⟨x,hx⟩: ∃x,xs[k]=x:=⟨_,rfl⟩;rw [hx,Nat.zero_add]at c5;have HO:=Xh ho;have HX:=Xh hx;have hkl:(k:Int)<xs.length:=by omega
 have lg:Lt g W:=hgl;have hf5:=Ql hfz (k*6+5);have hne: ¬bn=g:=by unfold Lt at ln;omega
 have HT:=Xh (show touchF now xs k=xs.set k {x with l:=max x.l (min now 1099511627776)}by unfold touchF;rw [List.getElem?_eq_getElem hk,hx]);clear ho s1 hx c0 c1' c2 c3 c4 hfz;rw [show(#[Value.slice (some ⟨g,0,none⟩) xs.length cap,Value.int .i64 (k:Nat)]++ #[Value.pointer (some ⟨bn,0,none⟩)]:Array Value)=#[.slice (some ⟨g,0,none⟩) xs.length cap,.int .i64 (k:Nat),.pointer (some ⟨bn,0,none⟩)]from rfl]
 go_enter Tryz.func189,Tryz.ntmps189
 go_wp2_with (fail)
 go_region
 generalize hz:(if 1099511627776<now then 1099511627776 else now)=z;generalize hy:(if x.l<z then z else x.l)=y;have hzm:min now 1099511627776=z:=by rw [←hz];split<;>omega
 have hmax:max x.l (min now 1099511627776)=y:=by rw [hzm,←hy];split<;>omega
 have HM:=Xh hmax;clear hy hmax hz hzm;go_wp2;go_ret;refine⟨_,rfl,?_,Mv.dr (Mv.st _ (.inl hg) (Mv.refl _ _))⟩;show(W.setCell ⟨g,k*6+5,none⟩ (.int .i64 y)).ownsRow base 66 6 (.slice (some ⟨g,0,none⟩) xs.length cap) (touchF now xs k).length (flC (touchF now xs k));rw [HT.out,HM.out,List.length_set,←QrV xs k x y hk HX.out];exact Qgs HO.out _ _
theorem Qmx(t:Tu)(now:Int)(p:Option Addr)(xs:List Co)(c:Nat)(w:World)(hs:SlC w p xs)(hl:xs.length≤1000):
  Calls Tryz.prog 115 #[.slice p xs.length c,tu t.a t.b t.c t.d,.int .i64 now] w fun e w'=> ∃v,e= .returned (.tuple #[v,.bool (withOk xs t)])∧w'.ownsRow w.heap.size 66 6 v (withX (touchF now) xs t).length (flC (withX (touchF now) xs t))∧Ext w w':=by
 go_enter Tryz.func115,Tryz.ntmps115
 go_upto_region 1 with(fail)
 obtain⟨W0,hW⟩: ∃W0,(w.alloc (.cells #[.int .u32 t.a,.int .u32 t.b,.int .u16 t.c,.int .u16 t.d] 64)).alloc (.cells #[.int .i64 now] 3)=W0:=⟨_,rfl⟩;rw [hW];have g0:Ext w W0:=by rw [←hW];exact Ext.al Ea _
 have ht:YM W0 w.heap.size t:=by rw [←hW];unfold YM;simp [go_sem,Lt];try omega
 have cn:W0.cell? ⟨w.heap.size+1,0,none⟩=some (.int .i64 now):=by rw [←hW];simp [go_sem]
 have ln:Lt (w.heap.size+1) W0:=by rw [←hW];simp [Lt];try omega
 have s0:=hs.ext g0;have hsz:w.heap.size≤W0.heap.size:=g0.size;obtain⟨d0,d1,d2,d3⟩:=ht.cells;have lB:Lt w.heap.size W0:=ht.2;have HD:=Xh (Qji now (w.heap.size+1) W0 ln cn);clear hW hs ht
 go_wp2_with (go_at_call 188;go_must (with_reducible refine(QhM 189 #[.pointer (some ⟨w.heap.size+1,0,none⟩)] Qgt (touchF now) t p xs c _ s0 hl HD.out).mono ?_);rintro e w' ⟨v,rfl,ho,g1⟩;have HO:=Xh ho;clear ho)
 exact bodyPost_ret (v:= .tuple #[v,.bool (withOk xs t)]) (by simp [results,Tryz.results115,go_sem]) rfl ⟨v,rfl,QA HO.out hsz,g0.tr g1⟩
def Qck:List Value→Nat→List Value→List Value
 |xs,_,[]=>xs
 |xs,o,v::vs=>Qck (xs.set o v) (o+1) vs
theorem Y9: ∀(vs:List Value) (xs:List Value) (o:Nat),(Qck xs o vs).length=xs.length
 | [],_,_=>rfl
 |v::vs,xs,o=>by unfold Qck;rw [Y9 vs,List.length_set]
theorem JA: ∀(vs:List Value) (xs:List Value) (o j:Nat),j<xs.length→(Qck xs o vs)[j]?=if o≤j∧j<o+vs.length then vs[j- o]? else xs[j]?
 | [],xs,o,j,_=>by
  unfold Qck;rw [if_neg (by simp<;>omega)]
 |v::vs,xs,o,j,hj=>by
  unfold Qck;rw [JA vs _ _ _ (by simpa using hj),List.getElem?_set,List.length_cons]
  by_cases h:o=j
  ·subst h;rw [if_neg Om,if_pos rfl,if_pos hj,if_pos Om,Nat.sub_self];rfl
  ·by_cases h2:o+1≤j∧j<o+1+vs.length
   ·rw [if_pos h2,if_pos Om,show j- o=(j- (o+1))+1 by omega];rfl
   ·rw [if_neg h2,if_neg h,if_neg Om]
theorem Qak{size n cap g:Nat}: ∀(vs:List Value) (o:Nat) (w:World) (xs:List Value),w.ownsRow base e size (.slice (some ⟨g,0,none⟩) n cap) n xs→(w.setCells g o vs).ownsRow base e size (.slice (some ⟨g,0,none⟩) n cap) n (Qck xs o vs)
 | [],_,_,_,h=>h
 |v::vs,o,w,xs,h=>Qak vs (o+1) _ _ (Qgs h o v)
theorem Qjj{size n m cap g:Nat}(h:w.ownsRow base e size (.slice (some ⟨g,0,none⟩) n cap) n xs)(hm:m≤n):w.ownsRow base e size (.slice (some ⟨g,0,none⟩) m cap) m (xs.take (m*size)):=by
 have hms:m*size≤n*size:=Nat.mul_le_mul_right _ hm;refine⟨by rw [List.length_take,h.1];omega,?_⟩;rcases h.2 with⟨h0,_⟩|⟨g',cap',cur,e1,hb,hgb,h1,h2,h3,h4⟩
 ·cases h0
 ·cases e1
  refine .inr ⟨g,cap,cur,rfl,hb,hgb,Om,h2,h3,?_⟩;rw [←h4,List.take_take,Nat.min_eq_left hms]
theorem Mv.sc{b:Nat}(hb:C b): ∀(vs:List Value) (o:Nat) (A B:World),Mv C A B→Mv C A (B.setCells b o vs)
 | [],_,_,_,h=>h
 |v::vs,o,A,B,h=>Mv.sc hb vs (o+1) A _ (Mv.st v (.inl hb) h)
theorem Qgu(xs ys:List Co):flC (xs++ys)=flC xs++flC ys:=by unfold flC;simp
theorem Qjk(xs:List Co)(k:Nat)(zs:List Value)(hk:k<xs.length):
  (Qck (Qck (flC xs) (k*6) (flC (xs.drop (k+1)))) ((xs.length- 1)*6) zs).take ((xs.length- 1)*6)=flC (xs.eraseIdx k):=by
 rw [List.eraseIdx_eq_take_drop_succ,Qgu];have l0:=Q8 xs;have l1:(flC (xs.take k)).length=k*6:=by rw [Q8,List.length_take];rw [Nat.min_eq_left Om]
 have l2:(flC (xs.drop (k+1))).length=(xs.length- (k+1))*6:=by rw [Q8,List.length_drop]
 refine List.ext_getElem? fun j=> ?_;rw [List.getElem?_take]
 by_cases hj:j<(xs.length- 1)*6
 ·rw [if_pos hj,JA _ _ _ _ (by rw [Y9];omega),if_neg Om,JA _ _ _ _ Om]
  by_cases h1:k*6≤j
  ·rw [if_pos Om,List.getElem?_append_right Om,l1]
  ·rw [if_neg Om,List.getElem?_append_left Om];have h3:flC xs=flC (xs.take k)++flC (xs.drop k):=by rw [←Qgu,List.take_append_drop]
   rw [h3,List.getElem?_append_left Om]
 ·rw [if_neg hj,List.getElem?_eq_none (by rw [List.length_append];omega)]
theorem Y1{g n:Nat}: ∀(vs:List Value) (o:Nat) (w:World),(∀i,i<n→(w.cell? ⟨g,i,none⟩).isSome=true)→ ∀i,i<n→((w.setCells g o vs).cell? ⟨g,i,none⟩).isSome=true
 | [],_,_,h=>h
 |v::vs,o,w,h=>Y1 vs (o+1) _ fun i hi=>by
  have h0:=h i hi;rw [Qa]at h0⊢;rw [YA,if_pos rfl];simpa using h0
theorem Qal{g b:Nat}: ∀(vs:List Value) (o:Nat) (w:World),Qs (w.setCells g o vs) b=Qs w b
 | [],_,_=>rfl
 |v::vs,o,w=>(Qal vs (o+1) _).trans (QR _ _ _ _ _)
theorem Qfj(w:World)(t e ty:TypeId)(z:Value)(ht:P.underlying t=some (.slice e))(hv: ∀w,(zeroValue e).run P w= .ok z w)(b o c:Nat)
  (hc: ∀j,j<z.cells.toList.length→(w.cell? ⟨b,o+j,none⟩).isSome=true)(hf: ∀j,j<z.cells.toList.length→w.frozen? ⟨b,o+j,none⟩=false)(h1: ∀u∈z.cells.toList,u.oneCell'=true):
  (Builtin.clear_ #[t] ty #[.slice (some ⟨b,o,none⟩) 1 c]).run P w= .ok (.tuple #[]) (w.setCells b o z.cells.toList):=by
 have hzc:(Builtin.zeroCells z.cells 1).toList=z.cells.toList:=by
  simp [Builtin.zeroCells]
  apply List.ext_getElem
  ·simp
  ·intro i h1 h2;simp at h2;simp [Nat.mod_eq_of_lt h2,h2]
 have hst:=run_storeCells_cells (P:=P) b o z.cells.toList 0 w (by simpa using hc) (by simpa using hf) h1;simp only [Nat.add_zero]at hst;simp [Builtin.clear_,run_underlying ht,hv,hzc,hst]
theorem Qjl(base:Nat)(w:World)(v:Value)(xs:List Co)(k j:Nat)(hj:j=k+1)(hl:xs.length≤1000)(ho:w.ownsRow base 66 6 v xs.length (flC xs))(hk:k<xs.length):
  Calls Tryz.prog 191 #[v,.int .i64 k,.int .i64 j] w fun e w'=> ∃v',e= .returned v'∧w'.ownsRow base 66 6 v' (xs.eraseIdx k).length (flC (xs.eraseIdx k))∧Mv (fun b=>base≤b) w w':=by
 obtain⟨i0,hi,hz0,hz1,hz2⟩:=info_parts QcU;obtain⟨g,cap,cur,rfl,hg,hgb,hc1,hcm,hcs,hct⟩: ∃g cap cur,v= .slice (some ⟨g,0,none⟩) xs.length cap∧base≤g∧w.heap[g]?=some (.cells cur 66 (0,0))∧xs.length≤cap∧cap≤maxLen∧cur.size=cap*6∧cur.toList.take (xs.length*6)=flC xs:=by
  rcases ho.2 with⟨_,h0⟩|h
  ·omega
  ·obtain⟨g,cap,cur,h1,h2,h3,h4,h5,h6,h7⟩:=h;exact⟨g,cap,cur,h1,h2,h3,h4,h5,h6,h7⟩
 have hrow:Qc w g=cur:=by unfold Qc;rw [hgb]
 have hfz:Qs w g=(0,0):=by unfold Qs;rw [hgb]
 have hsome: ∀j,j<cap*6→(w.cell? ⟨g,j,none⟩).isSome=true:=fun j hj=>by rw [Qa,hrow,Array.getElem?_eq_getElem Om];rfl
 have HSM:=Xh hsome;have HO:=Xh ho;have hk1:((k:Int)==(j:Int))=false:=by rw [beq_eq_false_iff_ne];omega
 have hic:k≤cap:=by omega
 have hjc:j≤cap:=by omega
 have hjl:j≤xs.length:=by omega
 have hkj:k≤j:=by omega
 have hkl:(k:Int)<xs.length:=by omega
 obtain⟨A,hA,hsrc⟩: ∃A:Addr,(if cap=j then some (⟨g,0,none⟩:Addr)else some ⟨g,j*6,none⟩)=some A∧Hid (∀t u,(flC (xs.drop j))[t]?=some u→w.drew.cell? (A.add t)=some u):=by
  by_cases h:cap=j
  ·refine⟨⟨g,0,none⟩,by simp [h],fun t u hu=> ?_⟩;rw [show xs.drop j= []from List.drop_eq_nil_of_le Om]at hu
   cases hu
  ·refine⟨⟨g,j*6,none⟩,by simp [h],fun t u hu=> ?_⟩;have ht:t<(xs.length- j)*6:=by
    have:=(List.getElem?_eq_some_iff.1 hu).1
    rwa [Q8,List.length_drop]at this
   have e1:(flC xs)[j*6+t]?=some u:=by
    rw [←List.take_append_drop j xs,Qgu,List.getElem?_append_right (by rw [Q8,List.length_take];omega),←hu]
    congr 1
    rw [Q8,List.length_take];omega
   rw [Addr.add_lit];show w.cell? _=_;rw [Qa,hrow];rw [←hct,List.getElem?_take,if_pos Om,Array.getElem?_toList]at e1;exact e1
 have s1:Hid ((flC (xs.drop j)).length=(xs.length- j)*6):=by rw [Q8,List.length_drop];rfl
 have s2:Hid (∀u∈flC (xs.drop j),u.oneCell'=true):=Qbl _;have s3:Hid (∀t,t<(flC (xs.drop j)).length→(w.drew.cell? ⟨g,0+k*6+t,none⟩).isSome=true∧w.drew.frozen? ⟨g,0+k*6+t,none⟩=false):=by
  intro t ht;rw [Q8,List.length_drop]at ht;exact⟨hsome _ Om,Ql hfz _⟩
 obtain⟨W1,hW1⟩: ∃W1,W1=w.drew.setCells g (0+k*6) (flC (xs.drop j)):=⟨_,rfl⟩;have hs1: ∀i,i<cap*6→(W1.cell? ⟨g,i,none⟩).isSome=true:=by rw [hW1];exact Y1 _ _ w.drew hsome
 have hf1:Qs W1 g=(0,0):=by rw [hW1,Qal];exact hfz
 have hlj:k+(xs.length- j)=xs.length- 1:=by omega
 have hcl: ∀ty,(Builtin.clear_ #[25] ty #[.slice (some ⟨g,(k+(xs.length- j))*6,none⟩) (xs.length- (k+(xs.length- j))) (cap- (k+(xs.length- j)))]).run Tryz.prog W1= .ok (.tuple #[]) (W1.setCells g ((k+(xs.length- j))*6) [.int .u32 0,.int .u32 0,.int .u16 0,.int .u16 0,.int .i64 0,.int .i64 0]):=fun ty=>by
  rw [show xs.length- (k+(xs.length- j))=1 by omega];exact Qfj W1 25 66 ty (.agg #[.int .u32 0,.int .u32 0,.int .u16 0,.int .u16 0,.int .i64 0,.int .i64 0]) Tryz.underlying25 (fun w=>by kernel_rfl) g _ _ (fun i hi=>hs1 _ (by have:i<6:=hi;omega)) (fun i hi=>Ql hf1 _) (by intro u hu;simp [Value.cells]at hu;rcases hu with rfl|rfl|rfl|rfl|rfl|rfl<;>rfl)
 have hW:Hid (W1=w.drew.setCells g (0+k*6) (flC (xs.drop j))):=hW1;have HJ:=Xh hj;have hne: ¬cap=k+(xs.length- j):=by omega
 clear hW1 hs1 hf1 hlj;clear ho hsome hct hj
 go_enter Tryz.func191,Tryz.ntmps191
 go_wp2_with (fail)
 go_region_law (refine step_append_room rfl (.tmp 22) (.tmp 25) 25 rfl 66 i0 6 Tryz.underlying25 hi hz1 g 0 k cap (by simp [Act.eval,Act.put]) A (xs.length- j) (cap- j) (flC (xs.drop j)) (by simp [Act.eval,Act.put]) s1.out hsrc.out s2.out Om s3.out ?_;rw [←hW.out])
 go_wp2;have hj:=HJ.out;have h0:w.drew.ownsRow base 66 6 (.slice (some ⟨g,0,none⟩) xs.length cap) xs.length (flC xs):=HO.out;have e1:k+(xs.length- j)=xs.length- 1:=by omega
 have h1:=Qjj (Qak [.int .u32 0,.int .u32 0,.int .u16 0,.int .u16 0,.int .i64 0,.int .i64 0] ((k+(xs.length- j))*6) _ _ (Qak (flC (xs.drop j)) (0+k*6) w.drew _ h0)) (m:=k+(xs.length- j)) Om;rw [←hW.out]at h1;refine bodyPost_ret (v:= .slice (some ⟨g,0,none⟩) (k+(xs.length- j)) cap) Kr rfl ⟨_,rfl,?_,?_⟩
 ·rw [List.length_eraseIdx_of_lt hk,←e1];rw [e1,Nat.zero_add]at h1;subst hj;rw [Qjk xs k _ hk]at h1;rw [e1];exact h1
 ·rw [hW.out];exact Mv.sc hg _ _ _ _ (Mv.sc hg _ _ _ _ (Mv.dr (Mv.refl _ _)))
theorem Y2(w:World)(dT sT ty elem:TypeId)(size b o dLen dCap:Nat)(a:Addr)(sLen sCap:Nat)(cs:List Value)
  (hu:P.underlying dT=some (.slice elem))(hs:(P.info? elem).map (·.size)=some size)(hn:cs.length=Nat.min sLen dLen*size)
  (hsrc: ∀j v,cs[j]?=some v→w.cell? (a.add j)=some v)(hc: ∀j,j<cs.length→(w.cell? ⟨b,o+j,none⟩).isSome=true)(hf: ∀j,j<cs.length→w.frozen? ⟨b,o+j,none⟩=false)(h1: ∀v∈cs,v.oneCell'=true):
  (Builtin.copy_ #[dT,sT] ty #[.slice (some ⟨b,o,none⟩) dLen dCap,.slice (some a) sLen sCap]).run P w= .ok (goInt (Nat.min sLen dLen:Nat)) (w.setCells b o cs):=by
 have hl:=run_loadCells_list (P:=P) w a cs hsrc;have hst:=run_storeCells_cells (P:=P) b o cs 0 w (by simpa using hc) (by simpa using hf) h1
 cases hq:P.info? elem with
 |none=>simp [hq]at hs
 |some i=>
  have hi:i.size=size:=by simpa [hq]using hs
  simp only [Nat.add_zero]at hst;have hm:Nat.min sLen dLen=min sLen dLen:=rfl;rw [hm]at hn;simp [Builtin.copy_,run_underlying hu,Builtin.lenOf,Builtin.firstCells,sizeOf,typeInfo,hq,hi,←hn,hl,hst]
theorem Qgv(w:World){a:Act}{Q:Exit→Act→World→Prop}(d s:Operand)(t t':TypeId)
  (ho:o.op= .call {callee:= .builtin .copy,args:=#[d,s],argTypes:=#[t,t']})(v u:Value)(hd:a.eval d=v)(hs:a.eval s=u){v':Value}
  (hr:(Builtin.copy_ #[t,t'] o.type #[v,u]).run P w= .ok v' w')(h:K (a.put o.dst v') w'):o.wp P a w K Q:=by
 unfold Oper.wp execOp;simp only [ho,resolve,invoke,builtin,Sem.run_bind,Sem.run_pure,Result.andThen_ok,List.map_toArray,List.map_cons,List.map_nil,hd,hs,hr];exact h
theorem YT(w:World){rest:List Oper}{a:Act}{Q:Exit→Act→World→Prop}(hgd:o.guard=none)(d s:Operand)(t t':TypeId)
  (ho:o.op= .call {callee:= .builtin .copy,args:=#[d,s],argTypes:=#[t,t']})(v u:Value)(hd:a.eval d=v)(hs:a.eval s=u){v':Value}
  (hr:(Builtin.copy_ #[t,t'] o.type #[v,u]).run P w= .ok v' w')(h:wpList P ops Q rest (a.put o.dst v') w'):wpList P ops Q (o::rest) a w:=
 wpList_plain hgd fun _ hK=>Qgv w d s t t' ho v u hd hs hr (hK _ _ h)
theorem QaL{a:Act}{Q:Exit→Act→World→Prop}{E:Prop}
  (hg:o.guard=none)(d x:Operand)(dT sT:TypeId)(hop:o.op=Op.call {callee:=Callee.builtin Builtin.copy,args:=#[d,x],argTypes:=#[dT,sT]})
  (v u:Value)(hd:a.eval d=v)(hx:a.eval x=u){v':Value}(hr:(Builtin.copy_ #[dT,sT] o.type #[v,u]).run P w= .ok v' w')(hK:K (a.put o.dst v') w'):
  if Region.wanted o (yielded ops a.tmps)=true then Oper.wp P o a w K Q else E:=by
 have hw:Region.wanted o (yielded ops a.tmps)=true:=by simp [Region.wanted,hg]
 rw [if_pos hw];unfold Oper.wp;simp [execOp,hop,resolve,invoke,builtin,hd,hx,hr,Result.andThen];exact hK
theorem Z7{g:Nat}{T:TypeId}{z:Nat×Nat}: ∀(vs:List Value) (o:Nat) (w:World) (cur:Array Value),w.heap[g]?=some (.cells cur T z)→ ∃cur':Array Value,(w.setCells g o vs).heap[g]?=some (.cells cur' T z)∧cur'.toList=Qck cur.toList o vs
 | [],_,w,cur,h=>⟨cur,h,rfl⟩
 |v::vs,o,w,cur,h=>by
  have h1:(w.setCell ⟨g,o,none⟩ v).heap[g]?=some (.cells (cur.setIfInBounds o v) T z):=by
   simp only [World.setCell];rw [Array.getElem?_modify,if_pos rfl,h];rfl
  obtain⟨cur',h2,h3⟩:=Z7 vs (o+1) _ _ h1;exact⟨cur',h2,by rw [h3,Array.toList_setIfInBounds];rfl⟩
theorem Qos{g:Nat}{size n cap:Nat}{cur:Array Value}(hb:base≤g)(hg:w.heap[g]?=some (.cells cur e (0,0)))(hn:n≤cap)(hm:cap≤maxLen)(hs:cur.toList.length=cap*size)(hx:cur.toList.take (n*size)=xs):
  w.ownsRow base e size (.slice (some ⟨g,0,none⟩) n cap) n xs:=by
 refine⟨?_,.inr ⟨g,cap,cur,rfl,hb,hg,hn,hm,by simpa using hs,hx⟩⟩;rw [←hx,List.length_take,hs];exact Nat.min_eq_left (Nat.mul_le_mul_right _ hn)
theorem QrW(cur cs vs:List Value)(i n s:Nat)(hi:i≤n)(hcs:cur.take (n*s)=cs)(hcl:cs.length=n*s)(hvl:vs.length=s)(hcur:(n+1)*s≤cur.length):
  (Qck (Qck cur ((i+1)*s) (cs.drop (i*s))) (i*s) vs).take ((n+1)*s)=cs.take (i*s)++vs++cs.drop (i*s):=by
 have e1:(i+1)*s=i*s+s:=by rw [Nat.add_mul,Nat.one_mul]
 have e2:(n+1)*s=n*s+s:=by rw [Nat.add_mul,Nat.one_mul]
 have e3:i*s≤n*s:=Nat.mul_le_mul_right _ hi;rw [e1,e2];rw [e2]at hcur;generalize i*s=p at*;generalize n*s=q at*;refine List.ext_getElem? fun j=> ?_;rw [List.getElem?_take];have ld:(cs.drop p).length=q- p:=by rw [List.length_drop,hcl]
 have lt:(cs.take p).length=p:=by rw [List.length_take,hcl];omega
 by_cases hj:j<q+s
 ·rw [if_pos hj,JA _ _ _ _ (by rw [Y9];omega),hvl]
  by_cases h1:p≤j∧j<p+s
  ·rw [if_pos h1,List.getElem?_append_left (by rw [List.length_append,lt,hvl];omega),List.getElem?_append_right Om,lt]
  ·rw [if_neg h1,JA _ _ _ _ Om,ld]
   by_cases h2:p+s≤j
   ·rw [if_pos ⟨h2,Om⟩,List.getElem?_append_right (by rw [List.length_append,lt,hvl];omega),List.length_append,lt,hvl]
   ·rw [if_neg (fun h=>h2 h.1),List.append_assoc,List.getElem?_append_left Om,List.getElem?_take_of_lt Om,←hcs,List.getElem?_take_of_lt Om]
 ·rw [if_neg hj,List.getElem?_eq_none (by rw [List.length_append,List.length_append,lt,ld,hvl];omega)]
theorem Qot(cur cs vs r:List Value)(i n s:Nat)(hi:i≤n)(hcur:cur=cs.take (i*s)++r)(hcl:cs.length=n*s)(hvl:vs.length=s)(hlen:(n+1)*s≤cur.length):
  (Qck (Qck cur (i*s) vs) ((i+1)*s) (cs.drop (i*s))).take ((n+1)*s)=cs.take (i*s)++vs++cs.drop (i*s):=by
 have e1:(i+1)*s=i*s+s:=by rw [Nat.add_mul,Nat.one_mul]
 have e2:(n+1)*s=n*s+s:=by rw [Nat.add_mul,Nat.one_mul]
 have e3:i*s≤n*s:=Nat.mul_le_mul_right _ hi;rw [e1,e2];rw [e2]at hlen;generalize i*s=p at*;generalize n*s=q at*;refine List.ext_getElem? fun j=> ?_;rw [List.getElem?_take];have ld:(cs.drop p).length=q- p:=by rw [List.length_drop,hcl]
 have lt:(cs.take p).length=p:=by rw [List.length_take,hcl];omega
 by_cases hj:j<q+s
 ·rw [if_pos hj,JA _ _ _ _ (by rw [Y9];omega),ld]
  by_cases h2:p+s≤j
  ·rw [if_pos ⟨h2,Om⟩,List.getElem?_append_right (by rw [List.length_append,lt,hvl];omega),List.length_append,lt,hvl]
  ·rw [if_neg (fun h=>h2 h.1),JA _ _ _ _ Om,hvl]
   by_cases h1:p≤j
   ·rw [if_pos ⟨h1,Om⟩,List.getElem?_append_left (by rw [List.length_append,lt,hvl];omega),List.getElem?_append_right Om,lt]
   ·rw [if_neg (fun h=>h1 h.1),List.append_assoc,List.getElem?_append_left Om,hcur,List.getElem?_append_left Om]
 ·rw [if_neg hj,List.getElem?_eq_none (by rw [List.length_append,List.length_append,lt,ld,hvl];omega)]
def Ja{α:Type}(xs:List α)(i:Nat)(x:α):List α:=xs.take i++x::xs.drop i
theorem QfJ{α:Type}(xs:List α)(i:Nat)(x:α):(Ja xs i x).length=xs.length+1:=by
 unfold Ja;rw [List.length_append,List.length_take,List.length_cons,List.length_drop];omega
theorem Qli(xs:List Co)(i:Nat)(hi:i≤xs.length):(flC xs).take (i*6)=flC (xs.take i)∧(flC xs).drop (i*6)=flC (xs.drop i):=by
 have h:flC xs=flC (xs.take i)++flC (xs.drop i):=by
  have h0:flC (xs.take i++xs.drop i)=flC (xs.take i)++flC (xs.drop i):=by unfold flC;rw [List.flatMap_append]
  rw [←h0,List.take_append_drop]
 have hl:(flC (xs.take i)).length=i*6:=by rw [Q8,List.length_take,Nat.min_eq_left hi]
 rw [h];exact⟨by rw [←hl,List.take_left],by rw [←hl,List.drop_left]⟩
theorem Qgw(xs:List Co)(i:Nat)(x:Co)(hi:i≤xs.length):flC (Ja xs i x)=(flC xs).take (i*6)++x.cl++(flC xs).drop (i*6):=by
 rw [(Qli xs i hi).1,(Qli xs i hi).2];unfold Ja flC;simp
theorem QhN(b n c i vb m vc:Nat)(cs vs:List Value)(w:World)(hi:i<n)(hm:0<m)(hroom:n+m≤c)(hc63:c≤9223372036854775807)(hvb:vb≠b)
  (hcl:cs.length=n*6)(hvl:vs.length=m*6)
  (hcs: ∀j v,cs[j]?=some v→w.cell? ⟨b,j,none⟩=some v)(hsp: ∀j,j<(n+m)*6→(w.cell? ⟨b,j,none⟩).isSome=true)(hfz: ∀j,w.frozen? ⟨b,j,none⟩=false)
  (hvs: ∀j v,vs[j]?=some v→w.cell? ⟨vb,j,none⟩=some v)(h1c: ∀v∈cs,v.oneCell'=true)(h1v: ∀v∈vs,v.oneCell'=true)
  (tA tB:TypeId)(kA kB:Nat)(hsa:w.shape? vb=some (tA,kA))(hsb:w.shape? b=some (tB,kB))(hkB:kB≠0)(hfa:w.frozen? ⟨vb,0,none⟩=false)(hfe:w.frozen? ⟨vb,kA,none⟩=false):
  Calls Tryz.prog 192 #[.slice (some ⟨b,0,none⟩) n c,.int .i64 i,.slice (some ⟨vb,0,none⟩) m vc] w fun e w'=>
   e= .returned (.slice (some ⟨b,0,none⟩) (n+m) c)∧w'=(w.drew.setCells b ((i+m)*6) (cs.drop (i*6))).setCells b (i*6) vs:=by
 obtain⟨i0,hi0,hz0,hzs,hzb⟩:=info_parts QcU;have hz1: ¬((m:Int)=0):=by omega
 have hz2: ¬((i:Int)=(n:Int)):=by omega
 have hsz:(Tryz.prog.info? 66).map (·.size)=some 6:=by rw [hi0];simp [hzs]
 have hov: ∀lb cb,(callFunc 224 #[.slice (some ⟨vb,0,none⟩) m vc,.slice (some ⟨b,(i+m)*6,none⟩) lb cb]).run Tryz.prog w= .ok (.value (.bool false)) w:=fun lb cb=>by
  rw [run_callFunc_extern Tryz.func224 Kr Kr Kr (e:=Extern.SlicesOverlaps.overlaps #[25,25] #[4]) Kr,
   Lib.run_overlaps_apart w 25 4 66 Tryz.underlying25 6 (fun w=>by kernel_rfl) ⟨vb,0,none⟩ ⟨b,(i+m)*6,none⟩ m vc lb cb hvb tA tB kA kB hsa hsb hkB hfa hfe]
  rfl
 have hdl:(cs.drop (i*6)).length=(n- i)*6:=by rw [List.length_drop,hcl];omega
 have hw1:IntKind.i64.wrap ((i:Int)+(m:Int))=(i:Int)+(m:Int):=by rw [IntKind.wrap_i64];omega
 have hb1:(0:Int)≤(i:Int)+(m:Int):=by omega
 have hin:i≤n:=by omega
 have htn:((i:Int)+(m:Int)).toNat=i+m:=by omega
 have hb2: ¬(c=i+m):=by omega
 have hb3:(i:Int)≤(n:Int)+(m:Int):=by omega
 have hb4: ¬(c=i):=by omega
 have hmin1:Nat.min (n+m- i) (n+m- (i+m))=n- i:=by show min _ _=_;omega
 have hmin2:Nat.min m (n+m- i)=m:=by show min _ _=_;omega
 have hcp1: ∀ty dc sc,(Builtin.copy_ #[25,25] ty #[.slice (some ⟨b,(i+m)*6,none⟩) (n+m- (i+m)) dc,.slice (some ⟨b,i*6,none⟩) (n+m- i) sc]).run Tryz.prog w.drew= .ok (goInt (Nat.min (n+m- i) (n+m- (i+m)):Nat)) (w.drew.setCells b ((i+m)*6) (cs.drop (i*6))):=fun ty dc sc=>
  Y2 w.drew _ _ ty 66 6 b ((i+m)*6) (n+m- (i+m)) dc ⟨b,i*6,none⟩ (n+m- i) sc (cs.drop (i*6)) Tryz.underlying25 hsz (by rw [hdl,hmin1])
   (fun j v hj=>by rw [Addr.add_lit];exact hcs (i*6+j) v (by rwa [List.getElem?_drop]at hj))
   (fun j hj=>hsp _ Om) (fun j hj=>hfz _) (fun v hv=>h1c v (List.mem_of_mem_drop hv))
 obtain⟨W1,hW1⟩: ∃W1,W1=w.drew.setCells b ((i+m)*6) (cs.drop (i*6)):=⟨_,rfl⟩;have hsp1: ∀k,k<(n+m)*6→(W1.cell? ⟨b,k,none⟩).isSome=true:=by rw [hW1];exact Y1 _ _ w.drew hsp
 have hcp2: ∀(W:World),(∀x,W.cell? x=W1.cell? x)→(∀x,W.frozen? x=W1.frozen? x)→ ∀ty dc,(Builtin.copy_ #[25,25] ty #[.slice (some ⟨b,i*6,none⟩) (n+m- i) dc,.slice (some ⟨vb,0,none⟩) m vc]).run Tryz.prog W= .ok (goInt (Nat.min m (n+m- i):Nat)) (W.setCells b (i*6) vs):=fun W hWc hWf ty dc=>
  Y2 W _ _ ty 66 6 b (i*6) (n+m- i) dc ⟨vb,0,none⟩ m vc vs Tryz.underlying25 hsz (by rw [hvl,hmin2])
   (fun j v hj=>by
    rw [Addr.add_lit,hWc,hW1,World.cell?_setCells_out b _ _ _ _ (fun h _=>absurd h hvb),Nat.zero_add]
    exact hvs j v hj)
   (fun j hj=>by rw [hWc];exact hsp1 _ Om) (fun j hj=>by rw [hWf,hW1,World.frozen?_setCells];exact hfz _) h1v
 rw [←hW1]at hcp1;clear hmin1 hmin2 hdl hcs hsp hsp1 hvs h1c h1v
 go_enter Tryz.func192,Tryz.ntmps192
 go_wp2_with (simp only [hov])
 go_region_law (refine QaL rfl _ _ 25 25 rfl _ _ (by simp [Act.eval,Act.put]) (by simp [Act.eval,Act.put]) (hcp1 _ _ _) ?_)
 go_wp2_with (at_builtin;refine YT _ rfl _ _ 25 25 rfl _ _ rfl rfl (hcp2 _ (fun _=>rfl) (fun _=>rfl) _ _) ?_)
 go_ret
 first|exact⟨rfl,rfl⟩|exact⟨rfl,by rw [hW1]⟩
theorem Qjm(b n c i vb m vc:Nat)(cs vs:List Value)(w:World)(hi:i<n)(hm:0<m)(hnc:n≤c)(hroom:c<n+m)(hbig:(n+m)*32≤140737488355328)
  (hcl:cs.length=n*6)(hvl:vs.length=m*6)
  (hcs: ∀j v,cs[j]?=some v→w.cell? ⟨b,j,none⟩=some v)
  (hvs: ∀j v,vs[j]?=some v→w.cell? ⟨vb,j,none⟩=some v)(h1c: ∀v∈cs,v.oneCell'=true)(h1v: ∀v∈vs,v.oneCell'=true):
  Calls Tryz.prog 192 #[.slice (some ⟨b,0,none⟩) n c,.int .i64 i,.slice (some ⟨vb,0,none⟩) m vc] w fun e w'=>
   e= .returned (.slice (some ⟨w.heap.size,0,none⟩) (n+m) (grownCap w (n+m) c 66))∧
   w'=(((w.alloc (.cells ((cs.take (i*6)).toArray++Builtin.zeroCells (Value.cells (.agg #[.int .u32 0,.int .u32 0,.int .u16 0,.int .u16 0,.int .i64 0,.int .i64 0])) (n+m- i)++Builtin.zeroCells (Value.cells (.agg #[.int .u32 0,.int .u32 0,.int .u16 0,.int .u16 0,.int .i64 0,.int .i64 0])) (grownCap w (n+m) c 66- (n+m))) 66)).drew.setCells w.heap.size (i*6) vs).drew).setCells w.heap.size ((i+m)*6) (cs.drop (i*6)):=by
 obtain⟨i0,hi0,hz0,hzs,hzb⟩:=info_parts QcU;have hz1: ¬((m:Int)=0):=by omega
 have hz2: ¬((i:Int)=(n:Int)):=by omega
 have hz3:(c:Int)<(n:Int)+(m:Int):=by omega
 have hsz:(Tryz.prog.info? 66).map (·.size)=some 6:=by rw [hi0];simp [hzs]
 have hbw:b<w.heap.size:=block_lt_of_cell (hcs 0 _ (List.getElem?_eq_getElem Om));have hvw:vb<w.heap.size:=block_lt_of_cell (hvs 0 _ (List.getElem?_eq_getElem Om));have hkk:(n:Int)+(m:Int)- (i:Int)=((n+m- i:Nat):Int):=by omega
 have hik:i+(n+m- i)=n+m:=by omega
 have hold:(Builtin.firstCells i0.size i (.slice (some ⟨b,0,none⟩) i c)).run Tryz.prog w.drew= .ok (cs.take (i*6)).toArray w.drew:=by
  rw [hzs]
  exact run_firstCells_some w.drew 6 i ⟨b,0,none⟩ i c (cs.take (i*6)) (by rw [List.length_take];omega) (fun j v hj=>by
   rw [Addr.add_lit,Nat.zero_add];rw [List.getElem?_take]at hj
   split at hj
   ·exact hcs j v hj
   ·cases hj)
 have hrz: ∀ty,(Builtin.append_ #[25,3] ty #[.slice (some ⟨b,0,none⟩) i c,.int .i64 ((n:Int)+(m:Int)- (i:Int))]).run Tryz.prog w=
   .ok (.slice (some ⟨w.heap.size,0,none⟩) (n+m) (grownCap w (n+m) c 66)) (w.drew.alloc (.cells ((cs.take (i*6)).toArray++Builtin.zeroCells (Value.cells (.agg #[.int .u32 0,.int .u32 0,.int .u16 0,.int .u16 0,.int .i64 0,.int .i64 0])) (n+m- i)++Builtin.zeroCells (Value.cells (.agg #[.int .u32 0,.int .u32 0,.int .u16 0,.int .u16 0,.int .i64 0,.int .i64 0])) (grownCap w (n+m) c 66- (n+m))) 66)):=fun ty=>by
  have h:=Lib.run_append_grow_zeros w 25 3 ty 66 i0 _ .i64 .i64 Tryz.underlying25 Tryz.underlying3 hi0 hz0 (some ⟨b,0,none⟩) i c (cs.take (i*6)) hold (n+m- i) Om Om Om Om (by rw [hzb];omega) (by rw [hzb,hik];exact growslice_fits hroom hbig);rw [hik]at h;rw [hkk];exact h
 obtain⟨G,hG⟩: ∃G,G=grownCap w (n+m) c 66:=⟨_,rfl⟩;obtain⟨ROW,hROW⟩: ∃ROW:Array Value,ROW=(cs.take (i*6)).toArray++Builtin.zeroCells (Value.cells (.agg #[.int .u32 0,.int .u32 0,.int .u16 0,.int .u16 0,.int .i64 0,.int .i64 0])) (n+m- i)++Builtin.zeroCells (Value.cells (.agg #[.int .u32 0,.int .u32 0,.int .u16 0,.int .u16 0,.int .i64 0,.int .i64 0])) (G- (n+m)):=⟨_,rfl⟩;rw [←hG]at hrz⊢;rw [←hROW]at hrz⊢;have hRl:(n+m)*6≤ROW.size:=by
  rw [hROW];simp [Builtin.zeroCells,Value.cells];omega
 obtain⟨W1,hW1⟩: ∃W1,W1=w.drew.alloc (.cells ROW 66):=⟨_,rfl⟩;rw [←hW1]at hrz;have hN: ∀j,j<(n+m)*6→(W1.cell? ⟨w.heap.size,j,none⟩).isSome=true:=fun j hj=>by
  rw [hW1,World.cell?_alloc_at (w:=w.drew) ROW _ w.heap.size j rfl,Array.getElem?_eq_getElem Om];rfl
 have hNf: ∀j,W1.frozen? ⟨w.heap.size,j,none⟩=false:=fun j=>by rw [hW1];exact World.frozen?_alloc_at (w:=w.drew) ROW _ w.heap.size j rfl
 have hOb: ∀j v,w.cell? ⟨b,j,none⟩=some v→W1.cell? ⟨b,j,none⟩=some v:=fun j v h=>by rw [hW1,World.cell?_alloc_past (w:=w.drew) _ b j hbw];exact h
 have hOv: ∀j v,w.cell? ⟨vb,j,none⟩=some v→W1.cell? ⟨vb,j,none⟩=some v:=fun j v h=>by rw [hW1,World.cell?_alloc_past (w:=w.drew) _ vb j hvw];exact h
 have hdl:(cs.drop (i*6)).length=(n- i)*6:=by rw [List.length_drop,hcl];omega
 have hmin1:Nat.min (n- i) (n+m- (i+m))=n- i:=by show min _ _=_;omega
 have hmin2:Nat.min m (n+m- i)=m:=by show min _ _=_;omega
 have hcpA: ∀(W:World),(∀x,W.cell? x=W1.cell? x)→(∀x,W.frozen? x=W1.frozen? x)→ ∀ty dc,(Builtin.copy_ #[25,25] ty #[.slice (some ⟨w.heap.size,i*6,none⟩) (n+m- i) dc,.slice (some ⟨vb,0,none⟩) m vc]).run Tryz.prog W= .ok (goInt (Nat.min m (n+m- i):Nat)) (W.setCells w.heap.size (i*6) vs):=fun W hWc hWf ty dc=>
  Y2 W _ _ ty 66 6 w.heap.size (i*6) (n+m- i) dc ⟨vb,0,none⟩ m vc vs Tryz.underlying25 hsz (by rw [hvl,hmin2])
   (fun j v hj=>by rw [Addr.add_lit,hWc,Nat.zero_add];exact hOv _ v (hvs j v hj))
   (fun j hj=>by rw [hWc];exact hN _ Om) (fun j hj=>by rw [hWf];exact hNf _) h1v
 have hGn:n+m≤G:=by rw [hG];exact grownCap_ge w _ _ _
 have hG63:G≤9223372036854775807:=by
  have:=grownCap_le_maxLen w (n+m) c 66 (by unfold maxLen;omega);rw [←hG]at this;unfold maxLen at this;omega
 have hGi: ¬(G=i):=by omega
 have hGim: ¬(G=i+m):=by omega
 have hci: ¬(c=i):=by omega
 have hbN:b≠w.heap.size:=by omega
 have hcpB: ∀(W:World),(∀x,W.cell? x=(W1.setCells w.heap.size (i*6) vs).cell? x)→(∀x,W.frozen? x=(W1.setCells w.heap.size (i*6) vs).frozen? x)→ ∀ty dc sc,(Builtin.copy_ #[25,25] ty #[.slice (some ⟨w.heap.size,(i+m)*6,none⟩) (n+m- (i+m)) dc,.slice (some ⟨b,i*6,none⟩) (n- i) sc]).run Tryz.prog W= .ok (goInt (Nat.min (n- i) (n+m- (i+m)):Nat)) (W.setCells w.heap.size ((i+m)*6) (cs.drop (i*6))):=fun W hWc hWf ty dc sc=>
  Y2 W _ _ ty 66 6 w.heap.size ((i+m)*6) (n+m- (i+m)) dc ⟨b,i*6,none⟩ (n- i) sc (cs.drop (i*6)) Tryz.underlying25 hsz (by rw [hdl,hmin1])
   (fun j v hj=>by
    rw [Addr.add_lit,hWc,World.cell?_setCells_out _ _ _ _ _ (fun h _=>absurd h hbN)]
    exact hOb _ v (hcs (i*6+j) v (by rwa [List.getElem?_drop]at hj)))
   (fun j hj=>by rw [hWc];exact Y1 _ _ _ hN _ Om)
   (fun j hj=>by rw [hWf,World.frozen?_setCells];exact hNf _) (fun v hv=>h1c v (List.mem_of_mem_drop hv))
 subst hW1;have hE1: ∀x,((w.alloc (.cells ROW 66)).drew).cell? x=(w.drew.alloc (.cells ROW 66)).cell? x:=fun x=>rfl;have hE2: ∀x,((w.alloc (.cells ROW 66)).drew).frozen? x=(w.drew.alloc (.cells ROW 66)).frozen? x:=fun x=>rfl;have hF1: ∀x,(((w.alloc (.cells ROW 66)).drew.setCells w.heap.size (i*6) vs).drew).cell? x=((w.drew.alloc (.cells ROW 66)).setCells w.heap.size (i*6) vs).cell? x:=fun x=>rfl;have hF2: ∀x,(((w.alloc (.cells ROW 66)).drew.setCells w.heap.size (i*6) vs).drew).frozen? x=((w.drew.alloc (.cells ROW 66)).setCells w.heap.size (i*6) vs).frozen? x:=fun x=>rfl;have hw1:IntKind.i64.wrap ((i:Int)+(m:Int))=(i:Int)+(m:Int):=by rw [IntKind.wrap_i64];omega
 have hb1:(0:Int)≤(i:Int)+(m:Int):=by omega
 have hin:i≤n:=by omega
 have htn:((i:Int)+(m:Int)).toNat=i+m:=by omega
 have hb3:(i:Int)≤(n:Int):=by omega
 clear hkk hik hold hROW hG hRl hmin1 hmin2 hcs hvs h1c h1v
 go_enter Tryz.func192,Tryz.ntmps192
 go_wp2_with (first
  |(at_builtin;refine Lib.wpList_append_run _ rfl _ _ _ _ rfl _ _ rfl rfl _ _ (hrz _) ?_)
  |(at_builtin;refine YT _ rfl _ _ 25 25 rfl _ _ rfl rfl (hcpA _ hE1 hE2 _ _) ?_)
  |(at_builtin;refine YT _ rfl _ _ 25 25 rfl _ _ rfl rfl (hcpB _ (fun _=>rfl) (fun _=>rfl) _ _ _) ?_))
 go_region_law (refine QaL rfl _ _ 25 25 rfl (.slice (some ⟨w.heap.size,(i+m)*6,none⟩) (n+m- (i+m)) (G- (i+m))) (.slice (some ⟨b,i*6,none⟩) (n- i) (c- i)) (by simp [Act.eval,Act.put]) (by simp [Act.eval,Act.put]) (hcpB _ hF1 hF2 66 (G- (i+m)) (c- i)) ?_)
 go_wp2;go_ret;exact⟨rfl,rfl⟩
theorem Qmy(w:World):w.drew.heap=w.heap:=rfl
theorem Qmz(base:Nat)(w:World)(v:Value)(xs:List Co)(x:Co)(vb:Nat)(hl:xs.length≤1000)(hbs:base≤w.heap.size)(ho:w.ownsRow base 66 6 v xs.length (flC xs))
  (hx:w.heap[vb]?=some (.cells #[.int .u32 x.t.a,.int .u32 x.t.b,.int .u16 x.t.c,.int .u16 x.t.d,.int .i64 x.s,.int .i64 x.l] 66 (0,0))):
  Calls Tryz.prog 192 #[v,.int .i64 xs.length,.slice (some ⟨vb,0,none⟩) 1 1] w fun e w'=> ∃v',e= .returned v'∧w'.ownsRow base 66 6 v' (xs.length+1) (flC (Ja xs xs.length x))∧Mv (fun b=>base≤b) w w':=by
 obtain⟨i0,hi,hz0,hz1,hz2⟩:=info_parts QcU;have hnews: ∀j u,(x.cl)[j]?=some u→w.cell? (Addr.add ⟨vb,0,none⟩ j)=some u:=by
  intro j u hu;rw [Addr.add_lit,Nat.zero_add,show w.cell? ⟨vb,j,none⟩=(x.cl.toArray)[j]? by unfold World.cell?;rw [hx];rfl];simpa using hu
 have HN:=Xh hnews;have HO:=Xh ho;have hone: ∀u∈x.cl,u.oneCell'=true:=by
  have:=Qbl [x];unfold flC at this;simpa using this
 have hfin:flC xs++x.cl=flC (Ja xs xs.length x):=by
  rw [Qgw xs _ x (Nat.le_refl _),←Q8 xs,List.take_length,List.drop_length,List.append_nil]
 have H1:=Xh hone;have HF:=Xh hfin;have hob: ∀r,v.ownBlock=some r→base≤r:=fun r h=>(ho.lt r h).1;clear hone hfin hnews hx;obtain⟨rfl,h0⟩|⟨g,cap,rfl,hc⟩:(v= .slice none 0 0∧xs.length=0)∨ ∃g cap,v= .slice (some ⟨g,0,none⟩) xs.length cap∧xs.length≤cap:=by
  rcases ho.2 with⟨rfl,h0⟩|⟨g,cap,cur,rfl,hg,hgb,h1,h2,h3,h4⟩
  ·exact .inl ⟨rfl,h0⟩
  ·exact .inr ⟨g,cap,rfl,h1⟩
 ·clear ho;rw [h0]at HO⊢;have H0:=Xh h0;clear h0
  go_enter Tryz.func192,Tryz.ntmps192
  go_wp2_with (at_builtin;refine wpList_append_own _ rfl _ _ 25 rfl base 66 i0 (.agg #[.int .u32 0,.int .u32 0,.int .u16 0,.int .u16 0,.int .i64 0,.int .i64 0]) 6 32 Tryz.underlying25 hi hz0 hz1 hz2 rfl Dc _ _ _ rfl HO.out ⟨vb,0,none⟩ 1 1 x.cl rfl rfl HN.out H1.out (by unfold maxLen;omega) Om hbs ?_;intro v' w2 hown' hgrow _;have HOW:=Xh hown';have HG:=Xh hgrow;clear hown' hgrow)
  go_ret;refine⟨v',rfl,?_,Mv.of_grown HG.out fun r e=> .inl (hob r e)⟩;rw [H0.out]at HF;rw [←HF.out];exact HOW.out
 ·clear ho
  go_enter Tryz.func192,Tryz.ntmps192
  go_wp2_with (at_builtin;refine wpList_append_own _ rfl _ _ 25 rfl base 66 i0 (.agg #[.int .u32 0,.int .u32 0,.int .u16 0,.int .u16 0,.int .i64 0,.int .i64 0]) 6 32 Tryz.underlying25 hi hz0 hz1 hz2 rfl Dc _ _ _ rfl HO.out ⟨vb,0,none⟩ 1 1 x.cl rfl rfl HN.out H1.out (by unfold maxLen;omega) Om hbs ?_;intro v' w2 hown' hgrow _;have HOW:=Xh hown';have HG:=Xh hgrow;clear hown' hgrow)
  all_goals go_ret
  all_goals(refine⟨v',rfl,?_,Mv.of_grown HG.out fun r e=> .inl (hob r e)⟩;rw [←HF.out];exact HOW.out)
theorem QxC(base:Nat)(w:World)(v:Value)(xs:List Co)(i:Nat)(x:Co)(vb:Nat)(hi:i≤xs.length)(hl:xs.length≤1000)(hbs:base≤w.heap.size)(ho:w.ownsRow base 66 6 v xs.length (flC xs))
  (hx:w.heap[vb]?=some (.cells #[.int .u32 x.t.a,.int .u32 x.t.b,.int .u16 x.t.c,.int .u16 x.t.d,.int .i64 x.s,.int .i64 x.l] 66 (0,0)))(hvb:v.ownBlock≠some vb):
  Calls Tryz.prog 192 #[v,.int .i64 i,.slice (some ⟨vb,0,none⟩) 1 1] w fun e w'=> ∃v',e= .returned v'∧w'.ownsRow base 66 6 v' (Ja xs i x).length (flC (Ja xs i x))∧Mv (fun b=>base≤b) w w':=by
 rw [QfJ]
 by_cases hn:i=xs.length
 ·subst hn;exact Qmz base w v xs x vb hl hbs ho hx
 obtain⟨g,cap,cur,rfl,hg,hgb,hc1,hcm,hcs,hct⟩: ∃g cap cur,v= .slice (some ⟨g,0,none⟩) xs.length cap∧base≤g∧w.heap[g]?=some (.cells cur 66 (0,0))∧xs.length≤cap∧cap≤maxLen∧cur.size=cap*6∧cur.toList.take (xs.length*6)=flC xs:=by
  rcases ho.2 with⟨_,h0⟩|h
  ·omega
  ·obtain⟨g,cap,cur,h1,h2,h3,h4,h5,h6,h7⟩:=h;exact⟨g,cap,cur,h1,h2,h3,h4,h5,h6,h7⟩
 have hne:vb≠g:=fun e=>hvb (by rw [e];rfl);have hrow:Qc w g=cur:=by unfold Qc;rw [hgb]
 have hfz: ∀j,w.frozen? ⟨g,j,none⟩=false:=fun j=>Ql (by unfold Qs;rw [hgb]) j;have hfv: ∀j,w.frozen? ⟨vb,j,none⟩=false:=fun j=>Ql (by unfold Qs;rw [hx]) j;have hcell: ∀j u,(flC xs)[j]?=some u→w.cell? ⟨g,j,none⟩=some u:=by
  intro j u hu;rw [Qa,hrow];rw [←hct,List.getElem?_take]at hu
  split at hu
  ·rw [Array.getElem?_toList]at hu;exact hu
  ·cases hu
 have hnews: ∀j u,(x.cl)[j]?=some u→w.cell? ⟨vb,j,none⟩=some u:=by
  intro j u hu;rw [show w.cell? ⟨vb,j,none⟩=(x.cl.toArray)[j]? by unfold World.cell?;rw [hx];rfl];simpa using hu
 have hone: ∀u∈x.cl,u.oneCell'=true:=by
  have:=Qbl [x];unfold flC at this;simpa using this
 have hlx:xs.length*6=(flC xs).length:=(Q8 xs).symm;have hcl:cur.toList.length=cap*6:=by simpa using hcs
 by_cases hr:xs.length+1≤cap
 ·refine(QhN g xs.length cap i vb 1 1 (flC xs) x.cl w Om Om hr hcm hne (Q8 xs) rfl hcell (fun j hj=>by rw [Qa,hrow,Array.getElem?_eq_getElem Om];rfl) hfz hnews (Qbl xs) hone
   66 66 6 cur.size (by unfold World.shape?;rw [hx];rfl) (by unfold World.shape?;rw [hgb]) Om (hfv _) (hfv _)).mono ?_
  rintro e w' ⟨rfl,rfl⟩;obtain⟨cur1,h1,e1⟩:=Z7 ((flC xs).drop (i*6)) ((i+1)*6) w.drew cur hgb;obtain⟨cur2,h2,e2⟩:=Z7 x.cl (i*6) _ cur1 h1;refine⟨_,rfl,Qos hg h2 hr hcm ?_ ?_,Mv.sc hg _ _ _ _ (Mv.sc hg _ _ _ _ (Mv.dr (Mv.refl _ _)))⟩
  ·rw [e2,Y9,e1,Y9];exact hcl
  ·rw [e2,e1,Qgw xs i x hi];exact QrW _ _ _ i xs.length 6 hi hct (Q8 xs) rfl Om
 ·have hcap:cap=xs.length:=by omega
  refine(Qjm g xs.length cap i vb 1 1 (flC xs) x.cl w Om Om hc1 Om Om (Q8 xs) rfl hcell hnews (Qbl xs) hone).mono ?_;rintro e w' ⟨rfl,rfl⟩;have hGn:xs.length+1≤grownCap w (xs.length+1) cap 66:=grownCap_ge w _ _ _;have hGm:grownCap w (xs.length+1) cap 66≤maxLen:=grownCap_le_maxLen w (xs.length+1) cap 66 (by unfold maxLen;omega);generalize grownCap w (xs.length+1) cap 66=G at*;obtain⟨ROW,hROW⟩: ∃ROW:Array Value,ROW=((flC xs).take (i*6)).toArray++Builtin.zeroCells (Value.cells (.agg #[.int .u32 0,.int .u32 0,.int .u16 0,.int .u16 0,.int .i64 0,.int .i64 0])) (xs.length+1- i)++Builtin.zeroCells (Value.cells (.agg #[.int .u32 0,.int .u32 0,.int .u16 0,.int .u16 0,.int .i64 0,.int .i64 0])) (G- (xs.length+1)):=⟨_,rfl⟩;rw [←hROW];have hRs:ROW.toList.length=G*6:=by
   rw [hROW];simp [Builtin.zeroCells,Value.cells,Q8];omega
  obtain⟨R,hR⟩: ∃R:List Value,R=(Builtin.zeroCells (Value.cells (.agg #[.int .u32 0,.int .u32 0,.int .u16 0,.int .u16 0,.int .i64 0,.int .i64 0])) (xs.length+1- i)).toList++(Builtin.zeroCells (Value.cells (.agg #[.int .u32 0,.int .u32 0,.int .u16 0,.int .u16 0,.int .i64 0,.int .i64 0])) (G- (xs.length+1))).toList:=⟨_,rfl⟩;have hcut:ROW.toList=(flC xs).take (i*6)++R:=by rw [hROW,hR,Array.toList_append,Array.toList_append,List.append_assoc]
  clear hROW hR;obtain⟨cur1,h1,e1⟩:=Z7 x.cl (i*6) ((w.alloc (.cells ROW 66)).drew) ROW (World.alloc_heap_new _ _);obtain⟨cur2,h2,e2⟩:=Z7 ((flC xs).drop (i*6)) ((i+1)*6) (((w.alloc (.cells ROW 66)).drew.setCells w.heap.size (i*6) x.cl).drew) cur1 (by rw [Qmy];exact h1);refine⟨_,rfl,Qos hbs h2 hGn hGm ?_ ?_,Mv.sc hbs _ _ _ _ (Mv.dr (Mv.sc hbs _ _ _ _ (Mv.dr (Mv.al _ (Mv.refl _ _)))))⟩
  ·rw [e2,Y9,e1,Y9];exact hRs
  ·rw [e2,e1,Qgw xs i x hi];exact Qot _ _ _ R i xs.length 6 hi hcut (Q8 xs) rfl (by rw [hRs];omega)
theorem Qgx: ∀args w,(callFunc 190 args).run Tryz.prog w= .ok (.enter 190 args) w:=enters_of Tryz.func190 Kr rfl
theorem Qjn(W0:World):Qor 190 #[] (fun xs k=>xs.eraseIdx k) W0:=by
 intro base W v xs k hE hb hl ho hk;have HC:=Xh (Qjl base W v xs k (k+1) rfl hl ho hk);have e:((k+1:Nat):Int)=(k:Int)+1:=rfl;rw [e]at HC;have hkl:(k:Int)<xs.length:=by omega
 clear ho;rw [show(#[v,Value.int .i64 (k:Nat)]++ #[]:Array Value)=#[v,.int .i64 (k:Nat)]from rfl]
 go_enter Tryz.func190,Tryz.ntmps190
 go_wp2_with ((with_reducible refine(HC.out).mono ?_);rintro e w' ⟨v',rfl,ho,m⟩;have HO:=Xh ho;clear ho)
 go_ret;exact⟨v',rfl,HO.out,m⟩
theorem QmA(t:Tu)(p:Option Addr)(xs:List Co)(c:Nat)(w:World)(hs:SlC w p xs)(hl:xs.length≤1000):
  Calls Tryz.prog 117 #[.slice p xs.length c,tu t.a t.b t.c t.d] w fun e w'=> ∃v,e= .returned (.tuple #[v,.bool (withOk xs t)])∧w'.ownsRow w.heap.size 66 6 v (withX (fun xs k=>xs.eraseIdx k) xs t).length (flC (withX (fun xs k=>xs.eraseIdx k) xs t))∧Ext w w':=by
 go_enter Tryz.func117,Tryz.ntmps117
 go_upto_region 1 with(fail)
 obtain⟨W0,hW⟩: ∃W0,w.alloc (.cells #[.int .u32 t.a,.int .u32 t.b,.int .u16 t.c,.int .u16 t.d] 64)=W0:=⟨_,rfl⟩;rw [hW];have g0:Ext w W0:=by rw [←hW];exact Ea
 have ht:YM W0 w.heap.size t:=by rw [←hW];unfold YM;simp [go_sem,Lt]
 have s0:=hs.ext g0;have hsz:w.heap.size≤W0.heap.size:=g0.size;obtain⟨d0,d1,d2,d3⟩:=ht.cells;have lB:Lt w.heap.size W0:=ht.2;clear hW hs ht
 go_wp2_with (go_at_call 188;go_must (with_reducible refine(QhM 190 #[] Qgx (fun xs k=>xs.eraseIdx k) t p xs c _ s0 hl (Qjn _)).mono ?_);rintro e w' ⟨v,rfl,ho,g1⟩;have HO:=Xh ho;clear ho)
 exact bodyPost_ret (v:= .tuple #[v,.bool (withOk xs t)]) (by simp [results,Tryz.results117,go_sem]) rfl ⟨v,rfl,QA HO.out hsz,g0.tr g1⟩
def QrX(xs:List Co)(now:Int):Bool:=!QJ xs||decide (now<0)||decide (1099511627776<now)
def QaM(xs:List Co)(t:Tu)(now:Int):Int:=if QrX xs now=true then 2 else if okC xs t=true then 201 else if(xs.length:Int)<32 then 0 else 150
def QhO(t:Tu)(now:Int):Co:=⟨t,now,now⟩
def JV(xs:List Co)(t:Tu)(now:Int):List Co:=if QaM xs t now=0 then Ja xs (atC xs t) (QhO t now)else xs
theorem Qou(xs:List Co)(t:Tu):atC xs t≤xs.length:=List.findIdx_le_length
theorem QrY(t:Tu)(now:Int)(p:Option Addr)(xs:List Co)(c:Nat)(w:World)(hs:SlC w p xs)(hl:xs.length≤1000):
  Calls Tryz.prog 119 #[.slice p xs.length c,tu t.a t.b t.c t.d,.int .i64 now] w fun e w'=> ∃v,e= .returned (.tuple #[v,.int .i64 (QaM xs t now)])∧w'.ownsRow w.heap.size 66 6 v (JV xs t now).length (flC (JV xs t now))∧Ext w w':=by
 go_enter Tryz.func119,Tryz.ntmps119
 go_upto_region 1 with(fail)
 obtain⟨W0,hW⟩: ∃W0,w.alloc (.cells #[.int .u32 t.a,.int .u32 t.b,.int .u16 t.c,.int .u16 t.d] 64)=W0:=⟨_,rfl⟩;rw [hW];have g0:Ext w W0:=by rw [←hW];exact Ea
 have ht:YM W0 w.heap.size t:=by rw [←hW];unfold YM;simp [go_sem,Lt]
 have s0:=hs.ext g0;have hsz:w.heap.size≤W0.heap.size:=g0.size;clear hW hs
 go_wp2_with (fail)
 refine Qp 0 rfl ?_
 go_upto_region 2 with(go_at_call 79;(refine(Qgr p xs c _ s0 hl).mono ?_);rintro e W1 ⟨v,rfl,ho,g1⟩)
 have ht:=ht.ext g1;have e1:=g0.tr g1;have ho:W1.ownsRow w.heap.size 66 6 v xs.length (flC xs):=QA ho hsz;have s1:=s0.ext g1;have HO:=Xh ho;obtain⟨d0,d1,d2,d3⟩:=ht.cells;have lB:Lt w.heap.size W1:=ht.2;clear ho s0 g0 g1 hsz
 go_upto_region 3 with(go_at_call 44;go_must (with_reducible refine(Qed t p xs c _ s1 hl).mono ?_);rintro e W2 ⟨rfl,g2⟩)
 have s2:=s1.ext g2;have e2:=e1.tr g2;have HO2:=Xh (Zl HO.out g2);have ht:=ht.ext g2;clear s1 e1 d0 d1 d2 d3 lB g2 HO;obtain⟨d0,d1,d2,d3⟩:=ht.cells;have lB:Lt w.heap.size W2:=ht.2;have HA:=Xh (Qou xs t);have hE:QaM xs t now=if QrX xs now=true then 2 else if okC xs t=true then 201 else if(xs.length:Int)<32 then 0 else 150:=rfl
 have hB:QrX xs now=(!QJ xs||decide (now<0)||decide (1099511627776<now)):=rfl;have hX:JV xs t now=if QaM xs t now=0 then Ja xs (atC xs t) (QhO t now)else xs:=rfl
 have hg0:w.heap.size≤W2.heap.size:=e2.size;have dn0: ∀(k:Int) W,k≠0→Ext W2 W→QaM xs t now=k→ ∃v',(Ending.returned (.tuple #[v,.int .i64 k]))= .returned (.tuple #[v',.int .i64 (QaM xs t now)])∧W.ownsRow w.heap.size 66 6 v' (JV xs t now).length (flC (JV xs t now))∧Ext w W:=fun k W hk g h=>by
  rw [h,if_neg hk]at hX;exact⟨v,by rw [h],by rw [hX];exact Zl HO2.out g,e2.tr g⟩
 have DN:=Xh dn0;clear dn0
 cases hr:QJ xs
 ·have HE:=Xh (show QaM xs t now=2 by rw [hE,hB,hr];rfl);clear hE hB hX
  go_wp2_with (go_at_call 75;(refine(ZG p xs c _ s2 hl).mono ?_);rw [hr];rintro e W3 ⟨rfl,g3⟩)
  go_step3;refine⟨rfl,?_⟩;go_wp2;rw [Exit.noGoto_ret];exact bodyPost_ret (v:= .tuple #[v,.int .i64 2]) (by simp [results,Tryz.results119,go_sem]) rfl (DN.out 2 _ Om g3 HE.out)
 by_cases h1:now<0
 ·have HE:=Xh (show QaM xs t now=2 by rw [hE,hB,hr,decide_eq_true h1];rfl);clear hE hB hX
  go_wp2_with (go_at_call 75;(refine(ZG p xs c _ s2 hl).mono ?_);rw [hr];rintro e W3 ⟨rfl,g3⟩)
  go_step3;refine⟨rfl,?_⟩;go_wp2;rw [Exit.noGoto_ret];exact bodyPost_ret (v:= .tuple #[v,.int .i64 2]) (by simp [results,Tryz.results119,go_sem]) rfl (DN.out 2 _ Om g3 HE.out)
 by_cases h2:1099511627776<now
 ·have HE:=Xh (show QaM xs t now=2 by rw [hE,hB,hr,decide_eq_true h2];simp);clear hE hB hX
  go_wp2_with (go_at_call 75;(refine(ZG p xs c _ s2 hl).mono ?_);rw [hr];rintro e W3 ⟨rfl,g3⟩)
  go_step3;refine⟨rfl,?_⟩;go_wp2;rw [Exit.noGoto_ret];exact bodyPost_ret (v:= .tuple #[v,.int .i64 2]) (by simp [results,Tryz.results119,go_sem]) rfl (DN.out 2 _ Om g3 HE.out)
 rw [hr,decide_eq_false h1,decide_eq_false h2]at hB;rw [hB]at hE;simp only [Bool.not_true,Bool.or_false,Bool.false_eq_true,if_false]at hE
 cases hk:okC xs t
 rotate_left
 ·have HE:=Xh (show QaM xs t now=201 by rw [hE,if_pos hk]);clear hE hB hX
  go_wp2_with (go_at_call 75;(refine(ZG p xs c _ s2 hl).mono ?_);rw [hr];rintro e W3 ⟨rfl,g3⟩)
  go_step3;refine⟨rfl,?_⟩;go_wp2;rw [Exit.noGoto_ret];exact bodyPost_ret (v:= .tuple #[v,.int .i64 201]) (by simp [results,Tryz.results119,go_sem]) rfl (DN.out 201 _ Om g3 HE.out)
 rw [if_neg (by rw [hk];simp)]at hE
 by_cases h3:(xs.length:Int)<32
 rotate_left
 ·have HE:=Xh (show QaM xs t now=150 by rw [hE,if_neg h3]);have hd:decide ((xs.length:Int)<32)=false:=decide_eq_false h3;clear hE hB hX
  go_wp2_with (first|(go_at_call 75;(with_reducible refine(ZG p xs c _ s2 hl).mono ?_);rw [hr];rintro e W3 ⟨rfl,g3⟩)|(go_at_call 46;(with_reducible refine(Qee p xs.length c _).mono ?_);rw [hd];rintro e W4 ⟨rfl,rfl⟩))
  go_step3;refine⟨rfl,?_⟩;go_wp2;rw [Exit.noGoto_ret];exact bodyPost_ret (v:= .tuple #[v,.int .i64 150]) (by simp [results,Tryz.results119,go_sem]) rfl (DN.out 150 _ Om g3 HE.out)
 have hd:decide ((xs.length:Int)<32)=true:=decide_eq_true h3;rw [if_pos h3]at hE;have HE:=Xh hE;rw [hE,if_pos rfl]at hX;have HY:=Xh hX;clear hE hB hX DN
 go_upto_region 9 with(first|(go_at_call 75;(with_reducible refine(ZG p xs c _ s2 hl).mono ?_);rw [hr];rintro e W3 ⟨rfl,g3⟩)|(go_at_call 46;(with_reducible refine(Qee p xs.length c _).mono ?_);rw [hd];rintro e W4 ⟨rfl,rfl⟩))
 have ht:=ht.ext g3;have e3:=e2.tr g3;have HO3:=Xh (Zl HO2.out g3);clear d0 d1 d2 d3 lB HO2 s2 e2 g3 hg0;obtain⟨d0,d1,d2,d3⟩:=ht.cells;have lB:Lt w.heap.size W3:=ht.2;have hg3:w.heap.size≤W3.heap.size:=e3.size;obtain⟨WN,hWN⟩: ∃WN,WN=W3.alloc (.cells #[.int .u32 t.a,.int .u32 t.b,.int .u16 t.c,.int .u16 t.d,.int .i64 now,.int .i64 now] 66):=⟨_,rfl⟩;have hnb:v.ownBlock≠some W3.heap.size:=fun h=>by have:=(HO3.out.lt _ h).2;omega
 have hOn:WN.ownsRow w.heap.size 66 6 v xs.length (flC xs):=by rw [hWN];exact Zl HO3.out Ea
 have HI:=Xh (QxC w.heap.size WN v xs (atC xs t) (QhO t now) W3.heap.size HA.out hl (by rw [hWN];simp [go_sem];omega) hOn (by rw [hWN];exact World.alloc_heap_new _ _) hnb);rw [hWN]at HI
 go_wp2_with ((with_reducible refine(HI.out).mono ?_);rintro e W5 ⟨v',rfl,ho5,m5⟩;have HO5:=Xh ho5;clear ho5)
 simp only [Exit.jump];exact bodyPost_ret (v:= .tuple #[v',.int .i64 0]) (by simp [results,Tryz.results119,go_sem]) rfl ⟨v',by rw [HE.out],by rw [HY.out];exact HO5.out,Mv.ext_of (Ext.al e3 _) m5 (fun _ h=>h)⟩
theorem QdG{C:World→Prop}{Q:Act→Prop}{a:Act}{rest:List Oper}{v:Value}(hw:Region.wanted o (yielded ops a.tmps)=true)(hr: ∀w,(execOp a.eval o).run P w= .ok (.value v) w)(h:wpQuiet P ops C Q rest (a.put o.dst v)):wpQuiet P ops C Q (o::rest) a:=by
 unfold wpQuiet;rw [if_pos hw];exact⟨v,fun w hc=>by unfold Oper.quietAt;rw [hr];exact⟨rfl,rfl⟩,h⟩
theorem SlC.news{a:Addr}{xs:List Co}(hs:SlC w (some a) xs)(e:Ext w W): ∀j u,(flC xs)[j]?=some u→W.cell? (a.add j)=some u:=by
 intro j u hu;have hj:j<xs.length*6:=by have:=(List.getElem?_eq_some_iff.1 hu).1;rwa [Q8]at this
 have hk:j/6<xs.length:=by omega
 obtain⟨b,off,h,hb,c0,c1,c2,c3,c4,c5⟩:=(hs.ext e) (j/6) hk
 cases h
 have e:(⟨b,off,none⟩:Addr).add j=⟨b,off+j,none⟩:=by unfold Addr.add;split<;>simp_all
 have hg:=Qbk xs (j/6) (j % 6) hk (Nat.mod_lt _ Om);rw [show j/6*6+j % 6=j by omega]at hg;rw [e,←hu,hg];have hm:j % 6<6:=Nat.mod_lt _ Om;generalize hq:j/6=q at*;generalize hr:j % 6=r at*;have hjq:j=q*6+r:=by omega
 subst hjq;obtain rfl|rfl|rfl|rfl|rfl|rfl:r=0∨r=1∨r=2∨r=3∨r=4∨r=5:=by omega
 ·exact c0
 ·exact c1
 ·exact c2
 ·exact c3
 ·exact c4
 ·exact c5
theorem SlC.nil_of{xs:List Co}(hs:SlC w none xs):xs= []:=by
 cases xs with
 |nil=>rfl
 |cons m r=>obtain⟨b,off,h,_⟩:=hs 0 (by simp);cases h
theorem QxD{x y:Co}(h:x≠y){p q:Operand}(hx:ρ p= .agg #[.int .u32 x.t.a,.int .u32 x.t.b,.int .u16 x.t.c,.int .u16 x.t.d,.int .i64 x.s,.int .i64 x.l])(hy:ρ q= .agg #[.int .u32 y.t.a,.int .u32 y.t.b,.int .u16 y.t.c,.int .u16 y.t.d,.int .i64 y.s,.int .i64 y.l])(w:World):
  (execOp ρ ⟨dst,.binOp .neq 66 p q 66,ty,pos,after,g⟩).run Tryz.prog w= .ok (.value (.bool true)) w:=by
 simp only [execOp,hx,hy];go_simp;intro h1 h2 h3 h4 h5 h6
 apply h
 rcases x with⟨⟨_,_,_,_⟩,_,_⟩
 rcases y with⟨⟨_,_,_,_⟩,_,_⟩
 simp_all
def QbX(c:Int):Int:=(167*c+13) % 256 % 16*16+(167*c+13) % 256/16
def Qgy(s c:Int):Int:=bits BinOp.xor IntKind.u8 s c
theorem QrZ(c:Int):0≤QbX c∧QbX c<256:=by unfold QbX;omega
theorem Qr0(s c:Int):0≤Qgy s c∧Qgy s c<256:=by
 have h1:=bits_lo_u8 .xor s c;have h2:=bits_hi_u8 .xor s c;unfold Qgy;omega
theorem QfK(p:Int→Prop)[∀c,Decidable (p c)](h:((List.range 256).all fun n=>decide (p (n:Int)))=true){c:Int}(h0:0≤c)(h1:c<256):p c:=by
 obtain⟨n,rfl⟩: ∃n:Nat,c=n:=⟨c.toNat,Om⟩;exact of_decide_eq_true (List.all_eq_true.1 h n (List.mem_range.2 Om))
theorem QuS(n:Int)(h0:0≤n)(h1:n<256):bits BinOp.or IntKind.u8 (n*16 % 256) (n/16)=n % 16*16+n/16:=by
 refine QfK (fun n=>bits BinOp.or IntKind.u8 (n*16 % 256) (n/16)=n % 16*16+n/16) ?_ h0 h1
 kernel_rfl
def Qei(s:Int):Int:=s/16 % 16+s % 16- 2*(bits BinOp.and IntKind.u8 (s/16) (s % 16))
theorem Qov(n:Int)(h0:0≤n)(h1:n<256):wrap64 (bits BinOp.and IntKind.u8 (bits BinOp.xor IntKind.u8 n (n/16)) 15)=Qei n:=by
 refine QfK (fun n=>wrap64 (bits BinOp.and IntKind.u8 (bits BinOp.xor IntKind.u8 n (n/16)) 15)=Qei n) ?_ h0 h1
 kernel_rfl
theorem Qr1(n:Int)(h0:0≤n)(h1:n<256):0≤Qei n∧Qei n<16:=by
 refine QfK (fun n=>0≤Qei n∧Qei n<16) ?_ h0 h1
 kernel_rfl
theorem Qr2(c:Int)(w:World)(h0:0≤c)(h1:c<256):Calls Tryz.prog 239 #[.int .u8 c,.int .i64 4] w fun e w'=>e= .returned (.int .u8 (c % 16*16+c/16))∧w=w':=by
 have HV:=Xh (QuS c h0 h1);have b47:bits BinOp.and IntKind.u64 4 7=4:=Kr
 clear h0 h1
 go_enter Tryz.func239,Tryz.ntmps239
 go_wp2;go_ret;exact⟨by rw [←HV.out];rfl,rfl⟩
theorem Qjo(c:Int)(w:World)(h0:0≤c)(h1:c<256):Calls Tryz.prog 104 #[.int .u8 c] w fun e w'=>e= .returned (.int .i64 (Qei c))∧w=w':=by
 have HV:=Xh (Qov c h0 h1);clear h0 h1
 go_enter Tryz.func104,Tryz.ntmps104
 go_wp2;go_ret;exact⟨by rw [←HV.out];rfl,rfl⟩
theorem Qow(c:Int)(w:World):Calls Tryz.prog 219 #[.int .u8 c] w fun e w'=>e= .returned (.int .u8 (QbX c))∧w=w':=by
 have HR:=Xh (fun w=>Qr2 ((167*c+13) % 256) w Om Om)
 go_enter Tryz.func219,Tryz.ntmps219
 go_wp2_with ((with_reducible refine(HR.out _).mono ?_);(rintro e w' ⟨rfl,rfl⟩))
 exact bodyPost_ret (v:= .int .u8 ((167*c+13) % 16*16+(167*c+13) % 256/16)) Kr rfl ⟨by rw [show(167*c+13) % 16*16+(167*c+13) % 256/16=QbX c by unfold QbX;omega],rfl⟩
theorem QmB(c:Int)(h0:0≤c)(h1:c<256):(wrap64 (wrap64 ((wrap64 (wrap64 (167*wrap64 c)+13)).tmod 16*16)+wrap64 (((wrap64 (wrap64 (167*wrap64 c)+13)).tmod 256).tdiv 16)) % 256)=QbX c:=by
 refine QfK (fun c=>(wrap64 (wrap64 ((wrap64 (wrap64 (167*wrap64 c)+13)).tmod 16*16)+wrap64 (((wrap64 (wrap64 (167*wrap64 c)+13)).tmod 256).tdiv 16)) % 256)=QbX c) ?_ h0 h1
 kernel_rfl
theorem QmC(c:Int)(w:World)(h0:0≤c)(h1:c<256):Calls Tryz.prog 207 #[.int .u8 c] w fun e w'=>e= .returned (.int .u8 (QbX c))∧w=w':=by
 have HV:=Xh (QmB c h0 h1);clear h0 h1
 go_enter Tryz.func207,Tryz.ntmps207
 go_wp2;go_ret;exact⟨by rw [←HV.out];rfl,rfl⟩
def SlB(w:World)(p:Option Addr)(bs:List Int):Prop:= ∀k,(h:k<bs.length)→ ∃b off,p=some ⟨b,off,none⟩∧b<w.heap.size∧w.cell? ⟨b,off+k,none⟩=some (.int .u8 bs[k])
theorem SlB.ext{p:Option Addr}(h:SlB w p bs)(e:Ext w w'):SlB w' p bs:=fun k hk=>by
 obtain⟨b,off,hp,hb,hc⟩:=h k hk;exact⟨b,off,hp,Xl hb e.size,(e.cell (p:=⟨b,off+k,none⟩) hb).trans hc⟩
def goL(s:Int)(bs:List Int):Int:=bs.foldl (fun s c=>QbX (Qgy s c)) s
def stL:Int→List Int→List Int
 |_,[]=> []
 |s,c::cs=>QbX (Qgy s c)::stL (QbX (Qgy s c)) cs
theorem Qd0: ∀(bs:List Int) (s:Int),(stL s bs).length=bs.length
 | [],_=>rfl
 |c::cs,s=>by unfold stL;simp [Qd0 cs]
theorem Qgz: ∀(bs:List Int) (s:Int) (i:Nat),i<bs.length→(stL s bs)[i]?=some (goL s (bs.take (i+1)))
 |c::cs,s,0,_=>rfl
 |c::cs,s,i+1,h=>by
  unfold stL;rw [List.getElem?_cons_succ,Qgz cs _ i (by simpa using h)];rfl
theorem Qej(bs:List Int)(s:Int)(i:Nat)(h:i<bs.length):goL s (bs.take (i+1))=QbX (Qgy (goL s (bs.take i)) bs[i]):=by
 unfold goL;rw [List.take_succ_eq_append_getElem h,List.foldl_append];rfl
theorem QuT(bs:List Int)(s:Int)(h0:0≤s)(h1:s<256):0≤goL s bs∧goL s bs<256:=by
 induction bs generalizing s with
 |nil=>exact⟨h0,h1⟩
 |cons c cs ih=>have:=QrZ (Qgy s c);exact ih _ this.1 this.2
theorem Qjp(s:Int)(p:Option Addr)(n c:Nat)(w:World):
  Calls Tryz.prog 238 #[.func (.func 219) #[] #[],.int .u8 s,.slice p n c] w fun e w'=>
   e= .returned (.func (.func 255) #[] #[.pointer (some ⟨w.heap.size+2,0,none⟩),.pointer (some ⟨w.heap.size,0,none⟩),.pointer (some ⟨w.heap.size+1,0,none⟩)])∧
   w'=((w.alloc (.cells #[.func (.func 219) #[] #[]] 239)).alloc (.cells #[.int .u8 s] 5)).alloc (.cells #[.slice p n c] 28):=by
 go_enter Tryz.func238,Tryz.ntmps238
 go_wp2;go_ret;exact⟨rfl,rfl⟩
theorem Qfk: ∀args w,(callFunc 255 args).run Tryz.prog w= .ok (.enter 255 args) w:=enters_of Tryz.func255 Kr rfl
theorem QhP(n:Nat)(s0:Int)(bs:List Int)(p:Option Addr)(c:Nat)(w0 w:World)(Bb Bt Bs:Nat)(U:Nat→Prop)(h0:Ext w0 w)(hb:SlB w0 p bs)(hl:bs.length≤1000)
  (hcb:w.cell? ⟨Bb,0,none⟩=some (.slice p bs.length c))(hct:w.cell? ⟨Bt,0,none⟩=some (.func (.func 219) #[] #[]))(hcs:w.cell? ⟨Bs,0,none⟩=some (.int .u8 s0))(hz:Qs w Bs=(0,0))
  (lb:Lt Bb w)(lt:Lt Bt w)(ls:Lt Bs w)(n1:Bb≠Bs)(n2:Bt≠Bs)(nb:w0.heap.size≤Bs)(hU: ∀k,U k→w0.heap.size≤k∧k≠Bb∧k≠Bt∧k≠Bs):
  QcT Fence.wide n Tryz.prog 255 #[.pointer (some ⟨Bb,0,none⟩),.pointer (some ⟨Bt,0,none⟩),.pointer (some ⟨Bs,0,none⟩)] (fun x:Int=>#[.int .u8 x]) (fun k=>k=Bs) U (stL s0 bs) w:=by
 intro y J Jx W hW hJ hJx hY hJ0;have HJ:=Xh hJ;have HJx:=Xh hJx;have HU:=Xh hU;clear hJ hJx hU;obtain⟨yfn,ytm,yas,ybo,hY⟩:=hY;have HY:=Xh hY;clear hY;have kb:W.cell? ⟨Bb,0,none⟩=some (.slice p bs.length c):=(hW.cell (p:=⟨Bb,0,none⟩) lb).trans hcb;have kt:W.cell? ⟨Bt,0,none⟩=some (.func (.func 219) #[] #[]):=(hW.cell (p:=⟨Bt,0,none⟩) lt).trans hct;have ks:W.cell? ⟨Bs,0,none⟩=some (.int .u8 s0):=(hW.cell (p:=⟨Bs,0,none⟩) ls).trans hcs;have kz:Qs W Bs=(0,0):=by unfold Qs;rw [hW.block Bs ls];exact hz
 have lbW:Lt Bb W:=Xl lb hW.size;have ltW:Lt Bt W:=Xl lt hW.size;have lsW:Lt Bs W:=Xl ls hW.size;have h0W:=h0.tr hW;clear hcb hct hcs hz;refine callsIn_of_wp Tryz.func255 rfl trivial ?_ rfl;simp only [Tryz.ntmps255,List.size_toArray,List.length_cons,List.length_nil,Nat.reduceAdd,Nat.reduceSub,Array.replicate_succ,Array.replicate_zero,List.push_toArray,List.append_toArray,List.nil_append,List.cons_append];refine wpIn_wide.2 ?_;go_wp2
 go_loopw [6,9] (fun _ a wr=> ∃i:Nat,i≤bs.length∧a= .int .i64 i∧J i wr∧wr.cell? ⟨Bb,0,none⟩=some (.slice p bs.length c)∧wr.cell? ⟨Bt,0,none⟩=some (.func (.func 219) #[] #[])∧wr.cell? ⟨Bs,0,none⟩=some (.int .u8 (goL s0 (bs.take i)))∧Qs wr Bs=(0,0)∧Lt Bb wr∧Lt Bt wr∧Lt Bs wr∧Ext w0 wr) (fun _ a _=>bs.length- (intOf a).toNat)
 case atStart=>exact⟨0,Nat.zero_le _,rfl,hJ0,kb,kt,ks,kz,lbW,ltW,lsW,h0W⟩
 case round=>
  clear kb kt ks kz lbW ltW lsW h0W hJ0;obtain⟨i,hi,rfl,hJi,kb,kt,ks,kz,lbw,ltw,lsw,hE⟩:=hrel
  by_cases hlt:i<bs.length
  ·have hlt':(i:Int)<bs.length:=by omega
   obtain⟨b,off,rfl,hbl,hcell⟩:=(hb.ext hE) i hlt;have HXS:=Xh ((Qgz bs s0 i hlt).trans (congrArg some (Qej bs s0 i hlt)));have HGS:=Xh (Qej bs s0 i hlt);generalize goL s0 (bs.take i)=S at*;generalize bs[i]=C at*;have HJI:=Xh hJi;have hf0:=Ql kz 0;obtain⟨V,hV⟩: ∃V,QbX (Qgy S C)=V:=⟨_,rfl⟩;rw [hV]at HXS HGS;have HV:=Xh hV;clear hV;clear hJi
   go_upto_region 4 with(go_at_call 219;(refine(Qow _ _).mono ?_);rintro e w' ⟨rfl,rfl⟩)
   rw [show QbX (bits BinOp.xor IntKind.u8 S C)=V from HV.out];obtain⟨W1,hW1⟩: ∃W1,wr.setCell ⟨Bs,0,none⟩ (.int .u8 V)=W1:=⟨_,rfl⟩;have g1:Mv (fun k=>k=Bs) wr W1:=by rw [←hW1];exact Mv.st _ (.inl rfl) (Mv.refl _ _)
   have ks1:W1.cell? ⟨Bs,0,none⟩=some (.int .u8 V):=by rw [←hW1];exact World.cell?_setCell_same _ _ _ ks
   have kz1:Qs W1 Bs=(0,0):=by rw [←hW1,QR];exact kz
   rw [hW1];clear hW1;have sb: ∀{k:Nat} {A B:World},k≠Bs→Lt k A→Mv (fun k=>k=Bs) A B→B.heap[k]?=A.heap[k]?:=fun hk hl hm=>hm.same _ hl hk;have kb1:W1.cell? ⟨Bb,0,none⟩=some (.slice (some ⟨b,off,none⟩) bs.length c):=by rw [Qa,Qf (sb n1 lbw g1),←Qa];exact kb
   have kt1:W1.cell? ⟨Bt,0,none⟩=some (.func (.func 219) #[] #[]):=by rw [Qa,Qf (sb n2 ltw g1),←Qa];exact kt
   have lb1:Lt Bb W1:=Xl lbw g1.size;have lt1:Lt Bt W1:=Xl ltw g1.size;have ls1:Lt Bs W1:=Xl lsw g1.size;have hE1:Ext w0 W1:=Mv.ext_of hE g1 (fun k e=>by rw [e];exact nb);have hJ1:J i W1:=HJ.out _ _ _ HJI.out g1;have hrun:(Instr.yield y #[.int .u8 V]).run Tryz.prog W1= .ok (.round y yfn (ytm #[.int .u8 V]) yas ybo) W1:=(HY.out i V W1 hJ1 HXS.out).1;have HRD:=Xh (HY.out i V W1 hJ1 HXS.out).2;clear kb kt ks kz hf0 g1 HJI;refine(wpIn_wide (n:=n)).1 ?_
   gi_wp2
   refine⟨(fun h=>by cases h),(HRD.out).mono ?_⟩;rintro e w6 ⟨bb,rfl,hP⟩;clear hrun HRD;obtain⟨rfl,hJ6,hm6⟩|⟨rfl,hx6⟩:=hP
   ·have so: ∀{k:Nat},k<w.heap.size→k=Bb∨k=Bt∨k=Bs→Lt k W1→w6.heap[k]?=W1.heap[k]?:=fun hk h hl=>hm6.same _ hl (fun hh=>by rcases hh with hh|hh;(have:=HU.out _ hh;omega);omega);have kb6:w6.cell? ⟨Bb,0,none⟩=some (.slice (some ⟨b,off,none⟩) bs.length c):=by rw [Qa,Qf (so lb (.inl rfl) lb1),←Qa];exact kb1
    have kt6:w6.cell? ⟨Bt,0,none⟩=some (.func (.func 219) #[] #[]):=by rw [Qa,Qf (so lt (.inr (.inl rfl)) lt1),←Qa];exact kt1
    have ks6:w6.cell? ⟨Bs,0,none⟩=some (.int .u8 V):=by rw [Qa,Qf (so ls (.inr (.inr rfl)) ls1),←Qa];exact ks1
    have kz6:Qs w6 Bs=(0,0):=by unfold Qs at kz1⊢;rw [so ls (.inr (.inr rfl)) ls1];exact kz1
    have lb6:Lt Bb w6:=Xl lb1 hm6.size;have lt6:Lt Bt w6:=Xl lt1 hm6.size;have ls6:Lt Bs w6:=Xl ls1 hm6.size;have hE6:Ext w0 w6:=Mv.ext_of hE1 hm6 (fun k h=>by rcases h with h|h;exact(HU.out _ h).1;exact Xt h0.size h);clear hm6 kb1 kt1 ks1 kz1 so sb
    gi_wp2
    go_wp2
    go_roundw
    case rel=>exact⟨i+1,Om,by go_num,hJ6,kb6,kt6,by rw [HGS.out];exact ks6,kz6,lb6,lt6,ls6,hE6⟩
    case measure=>simp [intOf];omega
   ·gi_wp2
    go_wp2;refine bodyPost_ret (results_none rfl _ _ _) rfl ⟨⟨_,rfl⟩,.inr hx6⟩
  ·obtain rfl:i=bs.length:=by omega
   have HLN:=Xh (Qd0 bs s0);go_wp2
   go_end0
   exact⟨⟨_,rfl⟩,.inl (by rw [HLN.out];exact hJi)⟩
section
attribute [local go_sem] Oper.semAt_some
theorem Qox(s:Int)(bs:List Int)(p:Option Addr)(c:Nat)(w:World)(hb:SlB w p bs)(hl:bs.length≤1000):
  Cr 218 #[.func (.func 219) #[] #[],.int .u8 s,.slice p bs.length c] w (.int .u8 (goL s bs)):=by
 refine(callsIn_wide (n:=5)).1 ?_;refine callsIn_of_wp_marks Tryz.func218 rfl trivial ?_ rfl;simp only [Tryz.ntmps218,List.size_toArray,List.length_cons,List.length_nil,Nat.reduceAdd,Nat.reduceSub,Array.replicate_succ,Array.replicate_zero,List.push_toArray,List.append_toArray,List.nil_append,List.cons_append];refine wpIn_wide.2 ?_
 go_wp2_with (go_at_call 238;(refine(Qjp s p bs.length c _).mono ?_);rintro e w2 ⟨rfl,rfl⟩)
 obtain⟨W1,hW1⟩: ∃W1,w.alloc (.cells #[.int .u8 s] 5)=W1:=⟨_,rfl⟩;have g1:Ext w W1:=by rw [←hW1];exact Ea
 have c4:W1.cell? ⟨w.heap.size,0,none⟩=some (.int .u8 s):=by rw [←hW1];simp [go_sem]
 have z4:Qs W1 w.heap.size=(0,0):=by rw [←hW1];unfold Qs;rw [World.alloc_heap_new]
 have l4:Lt w.heap.size W1:=by rw [←hW1];simp [Lt]
 rw [hW1];have hsz:W1.heap.size=w.heap.size+1:=by rw [←hW1];simp
 clear hW1;obtain⟨W2,hW2⟩: ∃W2,(((W1.alloc (Obj.cells #[.func (.func 219) #[] #[]] 239)).alloc (Obj.cells #[.int .u8 s] 5)).alloc (Obj.cells #[.slice p bs.length c] 28))=W2:=⟨_,rfl⟩;have g2:Ext W1 W2:=by rw [←hW2];exact Ext.al (Ext.al Ea _) _
 have hsz2:W2.heap.size=w.heap.size+4:=by rw [←hW2];simp [hsz]
 have cB:W2.cell? ⟨w.heap.size+1+2,0,none⟩=some (.slice p bs.length c):=by rw [←hW2];simp [go_sem,hsz]
 have cT:W2.cell? ⟨w.heap.size+1,0,none⟩=some (.func (.func 219) #[] #[]):=by rw [←hW2];simp [go_sem,hsz]
 have cS:W2.cell? ⟨w.heap.size+1+1,0,none⟩=some (.int .u8 s):=by rw [←hW2];simp [go_sem,hsz]
 have zS:Qs W2 (w.heap.size+1+1)=(0,0):=by rw [←hW2];simp [go_sem,hsz]
 have k4:W2.cell? ⟨w.heap.size,0,none⟩=some (.int .u8 s):=(g2.cell (p:=⟨w.heap.size,0,none⟩) l4).trans c4;have y4:Qs W2 w.heap.size=(0,0):=by unfold Qs;rw [g2.block _ l4];exact z4
 rw [hW2];clear hW2 c4 z4;refine(wpIn_wide (n:=5)).1 ?_;refine ZI rfl Om (gf:=255) (lb:=#[.pointer (some ⟨w.heap.size+1+2,0,none⟩),.pointer (some ⟨w.heap.size+1,0,none⟩),.pointer (some ⟨w.heap.size+1+1,0,none⟩)]) rfl trivial Qfk
  (QhP _ s bs p c w W2 (w.heap.size+1+2) (w.heap.size+1) (w.heap.size+1+1) (fun k=>k=w.heap.size) (g1.tr g2) hb hl cB cT cS zS (by unfold Lt;omega) (by unfold Lt;omega) (by unfold Lt;omega) Om Om Om (fun k e=>by subst e;exact⟨Nat.le_refl _,Om,Om,Om⟩))
  (fun k e=>by omega) (fun k e=>by omega) (fun _=>rfl)
  (fun i W=> ∃v,W.cell? ⟨w.heap.size,0,none⟩=some (.int .u8 v)∧Qs W w.heap.size=(0,0)∧Lt w.heap.size W∧(v=goL s (bs.take i)∨(stL s bs)[i]?=some v)) (fun _ _=>False)
  (fun i A B h hm=>by
   obtain⟨v,h1,h2,h3,h4⟩:=h;have hs:=hm.same w.heap.size h3 Om
   exact⟨v,by rw [Qa,Qf hs,←Qa];exact h1,by unfold Qs at h2⊢;rw [hs];exact h2,Xl h3 hm.size,h4⟩)
  (fun _ _ _ h _=>h) ⟨s,k4,y4,Xl l4 g2.size,.inl rfl⟩
  (fun x a' W=>W.cell? ⟨w.heap.size,0,none⟩=some (.int .u8 x)∧Lt w.heap.size W)
  (fun x a' A B h hm=>⟨by rw [Qa,Qf (hm.same w.heap.size h.2 Om),←Qa];exact h.1,Xl h.2 hm.size⟩)
  ?assign ?body ?done ?stop
 case assign=>
  rintro y i x W K hsz' hv ⟨v,h1,h2,h3,h4⟩ hx hK;have hf0:=Ql h2 0
  gi_wp2
  repeat(rw [Oper.semAt_some _ _ _ (by intro c h;cases h)];go_simp;gi_wp2)
  refine hK _ _ (Mv.st _ (.inl (.inl rfl)) (Mv.refl _ _)) ⟨x,World.cell?_setCell_same _ _ _ h1,by rw [QR];exact h2,by rw [Zk];exact h3,.inr hx⟩ ⟨World.cell?_setCell_same _ _ _ h1,by rw [Zk];exact h3⟩
 case body=>
  rintro y i x a' W hyl ⟨rr,hr⟩ hsz' hv ⟨v,h1,h2,h3,h4⟩ hx ⟨h5,h6⟩;have hil:i<bs.length:=by have:=(List.getElem?_eq_some_iff.1 hx).1;rwa [Qd0]at this
  gi_wp2
  refine⟨Mv.refl _ _,x,h5,h2,h3,.inl ?_⟩;have:=Qgz bs s i hil;rw [hx]at this;exact Option.some.inj this
 case done=>
  rintro W ⟨v,h1,h2,h3,h4⟩ hv hK;have hvv:v=goL s bs:=by
   rcases h4 with h|h
   ·rw [h,Qd0,List.take_length]
   ·rw [List.getElem?_eq_none (Nat.le_refl _)]at h;cases h
  subst hvv;go_wp2;refine⟨by simp,.inl ⟨_,_,rfl,run_takeDeferred hK,?_⟩⟩;refine⟨_,results_tmp rfl _ _ _,rfl,?_⟩;have hE2:Ext w W:=Mv.ext_of (g1.tr g2) hv (fun k h=>by rcases h with h|h<;>omega);exact Mv.ext_of hE2 (Mv.put (C:=fun k=>k=W2.heap.size) _ _ _ rfl) (fun k h=>by omega)
 case stop=>intro _ _ h;exact h.elim
theorem QuU(s:Int)(bs:List Int)(p:Option Addr)(c:Nat)(w:World)(hb:SlB w p bs)(hl:bs.length≤1000):
  Cr 178 #[.int .u8 s,.slice p bs.length c] w (.int .u8 (goL s bs)):=by
 go_enter Tryz.func178,Tryz.ntmps178
 go_wp2_with ((with_reducible refine(Qox s bs p c _ hb hl).mono ?_);rintro e w' ⟨rfl,hb⟩)
 go_ret;exact⟨rfl,hb⟩
end
section
def partsL(t:Tu):List (Int×Int):= [(t.a,4),(t.b,4),(t.c,2),(t.d,2)]
theorem QmD(t:Tu)(w:World):
  Calls Tryz.prog 220 #[tu t.a t.b t.c t.d] w fun e w'=>e= .returned (.func (.func 240) #[] #[.pointer (some ⟨w.heap.size,0,none⟩)])∧w'=w.alloc (.cells #[.int .u32 t.a,.int .u32 t.b,.int .u16 t.c,.int .u16 t.d] 64):=by
 go_enter Tryz.func220,Tryz.ntmps220
 go_wp2;go_ret;exact⟨rfl,rfl⟩
theorem QgA: ∀args w,(callFunc 240 args).run Tryz.prog w= .ok (.enter 240 args) w:=enters_of Tryz.func240 Kr rfl
attribute [local go_sem] Oper.semAt_some
theorem Qjq(n:Nat)(t:Tu)(hc:t.c % 4294967296=t.c)(hd:t.d % 4294967296=t.d)(w:World)(Bt:Nat)(U:Nat→Prop)(ht:YM w Bt t)(hU: ∀k,U k→k≠Bt):
  QcT Fence.wide n Tryz.prog 240 #[.pointer (some ⟨Bt,0,none⟩)] (fun x:Int×Int=>#[.int .u32 x.1,.int .i64 x.2]) (fun _=>False) U (partsL t) w:=by
 intro y J Jx W hW hJ hJx hY hJ0;have HJ:=Xh hJ;have HJx:=Xh hJx;have HU:=Xh hU;clear hJ hJx hU;obtain⟨yfn,ytm,yas,ybo,hY⟩:=hY;have HY:=Xh hY;clear hY;have HT:=ht.ext hW;have HC:=Xh hc;have HD:=Xh hd;have HB:=Xh ht.2;clear ht hc hd;refine callsIn_of_wp Tryz.func240 rfl trivial ?_ rfl;simp only [Tryz.ntmps240,List.size_toArray,List.length_cons,List.length_nil,Nat.reduceAdd,Nat.reduceSub,Array.replicate_succ,Array.replicate_zero,List.push_toArray,List.append_toArray,List.nil_append,List.cons_append];have HT0:=HT;have hJ0:J 0 W:=hJ0;clear HT hW;obtain⟨c0,c1,c2,c3⟩:=HT0.cells;have HR0:=Xh (HY.out 0 (t.a,4) W hJ0 rfl);have hrun:(Instr.yield y #[.int .u32 t.a,.int .i64 4]).run Tryz.prog W= .ok (.round y yfn (ytm #[.int .u32 t.a,.int .i64 4]) yas ybo) W:=HR0.out.1;have lB:Lt Bt W:=HT0.2
 skip
 gi_wp2
 refine⟨(fun h=>by cases h),(HR0.out.2).mono ?_⟩;clear c0 c1 c2 c3 hrun lB HR0;rintro e W1 ⟨bb,rfl,hP⟩;obtain⟨rfl,hJ1,hm⟩|⟨rfl,hx⟩:=hP
 rotate_left
 ·gi_wp2
  repeat(refine⟨(fun _ h=>by cases h),?_⟩;gi_wp2)
  go_end0
  exact⟨⟨_,rfl⟩,.inr hx⟩
 have HT1:YM W1 Bt t:=⟨by rw [Qf (hm.same Bt HT0.2 (fun h=>by rcases h with h|h;exact HU.out _ h rfl;have:=HB.out;unfold Lt at this;omega))];exact HT0.1,Xl HT0.2 hm.size⟩;clear hm hJ0 HT0;obtain⟨c0,c1,c2,c3⟩:=HT1.cells;have HR1:=Xh (HY.out 1 (t.b,4) W1 hJ1 rfl);have hrun:(Instr.yield y #[.int .u32 t.b,.int .i64 4]).run Tryz.prog W1= .ok (.round y yfn (ytm #[.int .u32 t.b,.int .i64 4]) yas ybo) W1:=HR1.out.1;have lB:Lt Bt W1:=HT1.2
 skip
 gi_wp2
 refine⟨(fun h=>by cases h),(HR1.out.2).mono ?_⟩;clear c0 c1 c2 c3 hrun lB HR1;rintro e W2 ⟨bb,rfl,hP⟩;obtain⟨rfl,hJ2,hm⟩|⟨rfl,hx⟩:=hP
 rotate_left
 ·gi_wp2
  repeat(refine⟨(fun _ h=>by cases h),?_⟩;gi_wp2)
  go_end0
  exact⟨⟨_,rfl⟩,.inr hx⟩
 have HT2:YM W2 Bt t:=⟨by rw [Qf (hm.same Bt HT1.2 (fun h=>by rcases h with h|h;exact HU.out _ h rfl;have:=HB.out;unfold Lt at this;omega))];exact HT1.1,Xl HT1.2 hm.size⟩;clear hm hJ1 HT1;obtain⟨c0,c1,c2,c3⟩:=HT2.cells;have HR2:=Xh (HY.out 2 (t.c,2) W2 hJ2 rfl);have hrun:(Instr.yield y #[.int .u32 t.c,.int .i64 2]).run Tryz.prog W2= .ok (.round y yfn (ytm #[.int .u32 t.c,.int .i64 2]) yas ybo) W2:=HR2.out.1;have lB:Lt Bt W2:=HT2.2;have hcv:=HC.out
 gi_wp2
 refine⟨(fun h=>by cases h),(HR2.out.2).mono ?_⟩;clear c0 c1 c2 c3 hrun lB HR2 hcv;rintro e W3 ⟨bb,rfl,hP⟩;obtain⟨rfl,hJ3,hm⟩|⟨rfl,hx⟩:=hP
 rotate_left
 ·gi_wp2
  repeat(refine⟨(fun _ h=>by cases h),?_⟩;gi_wp2)
  go_end0
  exact⟨⟨_,rfl⟩,.inr hx⟩
 have HT3:YM W3 Bt t:=⟨by rw [Qf (hm.same Bt HT2.2 (fun h=>by rcases h with h|h;exact HU.out _ h rfl;have:=HB.out;unfold Lt at this;omega))];exact HT2.1,Xl HT2.2 hm.size⟩;clear hm hJ2 HT2;obtain⟨c0,c1,c2,c3⟩:=HT3.cells;have HR3:=Xh (HY.out 3 (t.d,2) W3 hJ3 rfl);have hrun:(Instr.yield y #[.int .u32 t.d,.int .i64 2]).run Tryz.prog W3= .ok (.round y yfn (ytm #[.int .u32 t.d,.int .i64 2]) yas ybo) W3:=HR3.out.1;have lB:Lt Bt W3:=HT3.2;have hcv:=HD.out
 gi_wp2
 refine⟨(fun h=>by cases h),(HR3.out.2).mono ?_⟩;clear c0 c1 c2 c3 hrun lB HR3 hcv;rintro e W4 ⟨bb,rfl,hP⟩;obtain⟨rfl,hJ4,hm⟩|⟨rfl,hx⟩:=hP
 rotate_left
 ·gi_wp2
  repeat(refine⟨(fun _ h=>by cases h),?_⟩;gi_wp2)
  go_end0
  exact⟨⟨_,rfl⟩,.inr hx⟩
 have HT4:YM W4 Bt t:=⟨by rw [Qf (hm.same Bt HT3.2 (fun h=>by rcases h with h|h;exact HU.out _ h rfl;have:=HB.out;unfold Lt at this;omega))];exact HT3.1,Xl HT3.2 hm.size⟩;clear hm hJ3 HT3
 gi_wp2
 go_end0
 exact⟨⟨_,rfl⟩,.inl hJ4⟩
end
section
variable {P:Program} {ops:Array Oper} {md:Region.Mode} {n:Nat} {r:Nat} {F:Fence} {C:Nat→Prop}
def xUponW(P:Program)(N:Value→World→Prop):Result Next→Prop
 | .ok (.value u) w'=>N u w'
 | .ok .skip w'=>N undef w'
 |_=>False
theorem QdH{N N':Value→World→Prop}(h: ∀v w,N v w→N' v w): ∀r:Result Next,xUponW P N r→xUponW P N' r
 | .ok (.value u) w',hh=>h _ _ hh
 | .ok .skip w',hh=>h _ _ hh
def QdU(P:Program)(ops:Array Oper)(i:Nat)(K:Act→World→Prop)(a:Act)(w:World):Prop:=
 match ops[i]? with
 |none=>K a w
 |some o=>if Region.wanted o (yielded ops a.tmps)=true then xUponW P (fun v w'=>K (a.put o.dst v) w') ((execOp a.eval o).run P w)else K (a.put o.dst undef) w
theorem QfL{a:Act}{K':Act→World→Prop}(h: ∀a w,K a w→K' a w)(hh:QdU P ops i K a w):QdU P ops i K' a w:=by
 unfold QdU at*
 split
 ·exact h _ _ (by simpa [*]using hh)
 ·rename_i o ho
  simp only [ho]at hh
  split
  ·rename_i hw;simp only [hw,if_true]at hh;exact QdH (fun v w' h1=>h _ _ h1) _ hh
  ·rename_i hw;simp only [hw]at hh;exact h _ _ hh
theorem QhQ{a:Act}{Q:Exit→Act→World→Prop}(hF: ∀f,F.fn f)(hd: ∀o,ops[i]?=some o→ ∀c,o.op≠ .defer c)(hh:QdU P ops i K a w):wpOpIn F n P ops Q i K a w:=by
 unfold QdU at hh;unfold wpOpIn
 split
 ·rename_i ho;simp only [ho]at hh;exact hh
 ·rename_i o ho
  simp only [ho]at hh
  split
  ·rename_i hw
   simp only [hw,if_true]at hh;refine⟨fun f _=>hF f,?_⟩;have hs:Oper.semAt F.round a.eval o=execOp a.eval o:=by
    cases F.round with
    |none=>rfl
    |some l=>exact Oper.semAt_some l _ _ (hd o ho)
   rw [hs];generalize (execOp a.eval o).run P w=q at*
   cases q with
   |ok x w'=>
    cases x<;>simp only [xUponW]at hh<;>simp only [Oper.uponIn]
    case value u=>exact hh
    case skip=>exact hh
   |halt x w'=>simp only [xUponW]at hh
  ·rename_i hw;simp only [hw]at hh;exact⟨fun f _=>hF f,hh⟩
def Yl(C:Nat→Prop)(P:Program)(md:Region.Mode)(ops:Array Oper)(r:Nat)(Q:Act→World→Prop):Nat→Array Bool→Act→World→Prop
 |0,listed,a,w=>Region.ready md ops listed= []∧Q a w
 |fuel+1,listed,a,w=>(Region.ready md ops listed= []→Q a w)∧
  ∀i∈Region.ready md ops listed,QdU P ops i (fun a' w'=>(i=r∨Mv C w w')∧Yl C P md ops r Q fuel (listed.setIfInBounds i true) a' w') a w
theorem Qcl{Q':Exit→Act→World→Prop}(hF: ∀f,F.fn f)(hd: ∀(i:Nat) o,ops[i]?=some o→ ∀c,o.op≠ .defer c)(hQ: ∀a w,Q a w→Q' .normal a w): ∀(fuel:Nat) (listed:Array Bool) (a:Act) (w:World),
  Yl C P md ops r Q fuel listed a w→wpAnyIn F n P md ops Q' fuel listed a w
 |0,_,_,_,h=>⟨h.1,hQ _ _ h.2⟩
 |fuel+1,_,_,_,h=>⟨fun h0=>hQ _ _ (h.1 h0),fun i hi=>QhQ hF (hd i) (QfL (fun a' w' h1=>Qcl hF hd hQ fuel _ a' w' h1.2) (h.2 i hi))⟩
def Y3(C:Nat→Prop)(P:Program)(ops:Array Oper)(w:World)(o:Oper)(v:Value)(a:Act):Prop:=
 (Region.wanted o (yielded ops a.tmps)=true∧ ∀w',Mv C w w'→(execOp a.eval o).run P w'= .ok (.value v) w')∨(Region.wanted o (yielded ops a.tmps)=false∧v=undef)
theorem Y3.later{v:Value}{a:Act}(h:Y3 C P ops w o v a)(e:Mv C w w'):Y3 C P ops w' o v a:=by
 rcases h with⟨h1,h2⟩|h
 ·exact .inl ⟨h1,fun w2 e2=>h2 w2 (e.trans e2)⟩
 ·exact .inr h
theorem Y3.xOp{v:Value}{a:Act}(hi:ops[i]?=some o)(hy:Y3 C P ops w o v a)(h:K (a.put o.dst v) w):QdU P ops i K a w:=by
 unfold QdU;simp only [hi];rcases hy with⟨hw,hv⟩|⟨hw,rfl⟩
 ·simp only [hw,if_true,hv w (Mv.refl _ _),xUponW];exact h
 ·simp only [hw,Bool.false_eq_true,if_false];exact h
theorem Qoy{j:Nat}{oj:Oper}{v:Value}(hj:ops[j]?=some oj)(hap:oi.apart ops oj=true)
  (hsi: ∀cs b,oi.op≠ .select cs b)(hsj: ∀cs b,oj.op≠ .select cs b){a:Act}
  (hy:Y3 C P ops w oi v a)(h:QdU P ops j K (a.put oi.dst v) w):
  QdU P ops j (fun a' w'=>Y3 C P ops w oi v a'∧K (a'.put oi.dst v) w') a w:=by
 obtain⟨h1,h2,h3⟩:=Oper.apart_spec hap;have keep: ∀u,Y3 C P ops w oi v (a.put oj.dst u):=fun u=>by
  unfold Y3 at*;rw [execOp_put oi hsi a oj.dst u h3,wanted_put oi a oj.dst u h3];exact hy
 unfold QdU at*;simp only [hj]at*;rw [wanted_put oj a oi.dst v h1]at h
 split
 ·rename_i hw
  simp only [hw,if_true]at h;rw [execOp_put oj hsj a oi.dst v h1]at h;exact QdH (fun u w' h4=>⟨keep u,by rw [←Act.put_comm a v u h2];exact h4⟩) _ h
 ·rename_i hw
  simp only [hw]at h;exact⟨keep _,by rw [←Act.put_comm a v undef h2];exact h⟩
theorem QgB{v:Value}{l:List Nat}(hi:ops[i]?=some oi)(hsel: ∀(j:Nat) (o:Oper) cs b,ops[j]?=some o→o.op≠ .select cs b)
  (hwt:YR md ops (i::l)=true)(hla:(i::l).getLast?=some r)(hir:i≠r):
  ∀(fuel:Nat) (listed:Array Bool) (a:Act) (w:World),Qai md ops listed→
   (∀j oj,ops[j]?=some oj→j≠i→listed.getD j true=false→(∀e∈oj.after,Region.binds md e=true→e.on≠i)→oi.apart ops oj=true)→
   i∈Region.ready md ops listed→Y3 C P ops w oi v a→
   Yl C P md ops r Q fuel (listed.setIfInBounds i true) (a.put oi.dst v) w→Yl C P md ops r Q (fuel+1) listed a w:=by
 intro fuel
 induction fuel with
 |zero=>
  intro listed a w _ _ hr hy H;refine⟨fun h=>(by rw [h]at hr;cases hr),fun j hj=> ?_⟩
  by_cases hji:j=i
  ·subst hji;exact hy.xOp hi ⟨.inr (Mv.refl _ _),H⟩
  ·have:=ready_mono hj hji;rw [H.1]at this
   cases this
 |succ fuel ih=>
  intro listed a w hcl hfree hr hy H;refine⟨fun h=>(by rw [h]at hr;cases hr),fun j hj=> ?_⟩
  by_cases hji:j=i
  ·subst hji;exact hy.xOp hi ⟨.inr (Mv.refl _ _),H⟩
  ·have hjr:j≠r:=fun e=>by
    subst e;have h1:=Qaj hcl hj l i hwt hla hir;have h0:=(mem_ready.1 hr).1;rcases Nat.lt_or_ge i listed.size with h'|h'
    ·simp [h']at h0 h1;rw [h0]at h1;cases h1
    ·simp [Array.getElem?_eq_none h']at h1
   have h1:=H.2 j (ready_mono hj hji);obtain⟨hjun,oj,hoj,hall⟩:=mem_ready.1 hj;have hnot: ∀e∈oj.after,Region.binds md e=true→e.on≠i:=fun e he hb heq=>by
    have h1:=hall e he hb;have h0:=(mem_ready.1 hr).1;rw [heq]at h1;rcases Nat.lt_or_ge i listed.size with h'|h'
    ·simp [h']at h0 h1;rw [h0]at h1;cases h1
    ·simp [Array.getElem?_eq_none h']at h1
   have h2:=Qoy hoj (hfree j oj hoj hji hjun hnot) (fun cs b=>hsel i oi cs b hi) (fun cs b=>hsel j oj cs b hoj) hy h1;have hfree': ∀k ok,ops[k]?=some ok→k≠i→(listed.setIfInBounds j true).getD k true=false→
     (∀e∈ok.after,Region.binds md e=true→e.on≠i)→oi.apart ops ok=true:=fun k ok hk hki hun hno=>by
    refine hfree k ok hk hki ?_ hno
    by_cases hjk:j=k
    ·subst hjk;exact hjun
    ·rw [getD_set_ne true hjk]at hun;exact hun
   refine QfL (fun a' w' h3=>⟨h3.2.1,ih (listed.setIfInBounds j true) a' w' (hcl.set hj) hfree' (ready_mono hr (Ne.symm hji)) (h3.1.later (h3.2.1.resolve_left hjr)) ?_⟩) h2;have h4:=h3.2.2;rw [Array.setIfInBounds_comm _ _ hji];exact h4
theorem QfM{l:List Nat}{v:Value}{a:Act}(hs:Region.noSelect ops=true)(hok:okX ops N k=true)
  (hcl:closedB .any ops (lst N k)=true)(hwt:YR .any ops (k::l)=true)(hla:(k::l).getLast?=some r)(hir:k≠r)(hi:ops[k]?=some oi)(hw:Region.wanted oi (yielded ops a.tmps)=true)
  (hy: ∀w',Mv C w w'→(execOp a.eval oi).run P w'= .ok (.value v) w')
  (H:Yl C P .any ops r Q fuel (lst N (k+1)) (a.put oi.dst v) w):Yl C P .any ops r Q (fuel+1) (lst N k) a w:=by
 unfold okX at hok;rw [Bool.and_eq_true]at hok;refine QgB hi (Region.noSelect_spec hs) hwt hla hir fuel _ a w (QfH hcl) (Region.free_spec hi hok.1) (by simpa using ZZ hok.2) (.inl ⟨hw,hy⟩) ?_;rw [JJ];exact H
theorem QtN{a:Act}(hr:Region.ready .any ops (lst N k)= [k])(hi:ops[k]?=some oi)(hw:Region.wanted oi (yielded ops a.tmps)=true)
  (H:xUponW P (fun v w'=>(k=r∨Mv C w w')∧Yl C P .any ops r Q fuel (lst N (k+1)) (a.put oi.dst v) w') ((execOp a.eval oi).run P w)):Yl C P .any ops r Q (fuel+1) (lst N k) a w:=by
 refine⟨fun h0=> ?_,fun j hj=> ?_⟩
 ·rw [hr]at h0;cases h0
 ·rw [hr]at hj;obtain rfl:j=k:=by simpa using hj
  unfold QdU;simp only [hi,hw,if_true];rw [JJ];exact H
theorem QtO{v:Value}{a:Act}(hr:Region.ready .any ops (lst N k)= [k])(hi:ops[k]?=some oi)(hw:Region.wanted oi (yielded ops a.tmps)=true)
  (he:(execOp a.eval oi).run P w= .ok (.value v) w1)(hE:k=r∨Mv C w w1)(H:Yl C P .any ops r Q fuel (lst N (k+1)) (a.put oi.dst v) w1):Yl C P .any ops r Q (fuel+1) (lst N k) a w:=by
 refine QtN hr hi hw ?_;rw [he];exact⟨hE,H⟩
theorem QxE{a:Act}(hr:Region.ready .any ops (lst N k)= [k])(hi:ops[k]?=some oi)(hw:Region.wanted oi (yielded ops a.tmps)=true)
  (he:(execOp a.eval oi).run P w= .ok .skip w1)(hE:k=r∨Mv C w w1)(H:Yl C P .any ops r Q fuel (lst N (k+1)) (a.put oi.dst undef) w1):Yl C P .any ops r Q (fuel+1) (lst N k) a w:=by
 refine QtN hr hi hw ?_;rw [he];exact⟨hE,H⟩
theorem QxF{a:Act}(hr:Region.ready md ops listed= [])(H:Q a w):Yl C P md ops r Q fuel listed a w:=by
 cases fuel with
 |zero=>exact⟨hr,H⟩
 |succ m=>exact⟨fun _=>H,fun i hi=>by rw [hr]at hi;cases hi⟩
theorem QhR(r:Nat){id:Nat}{Q:Exit→Act→World→Prop}{a:Act}(C:Nat→Prop)(hF: ∀f,F.fn f)(hd:(ops.all fun o=>match o.op with| .defer _=>false|_=>true)=true)(hm:P.follows .mixedOrders=true)
  (h:Yl C P .any ops r (fun a w=>Q .normal a w) ops.size (Array.replicate ops.size false) a w.drew):(Code.region id ops true).wpIn F n P Q a w:=
 wpIn_region_any hm (Qcl hF (fun i o ho c e=>by
  rw [Array.all_eq_true']at hd;have:=hd o (Array.mem_of_getElem? ho);rw [e]at this
  cases this) (fun _ _ h=>h) _ _ _ _ h)
theorem QxG{P:Program}{ops E:Array Oper}{a:Act}{R:Array Oper→Prop}(h:ops=E)(hR:R E)(hf:ops.size=N)
  (H:R ops→Yl C P .any ops r Q N (lst N 0) a w):Yl C P .any ops r Q ops.size (Array.replicate ops.size false) a w:=by
 rw [hf,Qec];exact H (h▸hR)
end
def byN(n:Int):Nat→List Int
 |0=> []
 |k+1=>(n/256^k % 256)::byN n k
theorem ZA(n:Int): ∀k,(byN n k).length=k
 |0=>rfl
 |k+1=>by simp [byN,ZA n k]
theorem Qlj(n:Int): ∀(m i:Nat) (h:i<m),(byN n m)[i]?=some (n/256^(m- 1- i) % 256)
 |m+1,0,_=>by simp [byN]
 |m+1,i+1,h=>by
  simp only [byN,List.getElem?_cons_succ];rw [Qlj n m i Om];rw [show m- 1- i=m+1- 1- (i+1)by omega]
theorem Qcm(n:Int)(m j:Nat)(h:j<m):(byN n m).take (m- (j+1))++ [n/256^j % 256]=(byN n m).take (m- j):=by
 have h1:=Qlj n m (m- (j+1)) Om;have h2:m- j=m- (j+1)+1:=by omega
 rw [h2,List.take_add_one,h1,show m- 1- (m- (j+1))=j by omega];rfl
theorem QmE{B O:Nat}{a:Option Addr}{m c:Nat}(h0:w.cell? ⟨B,O,none⟩=some (.slice a m c))(hl:Lt B w)(hC: ¬C B)
  (hx:ρ x= .pointer (some ⟨B,O,none⟩)): ∀w',Mv C w w'→(execOp ρ ⟨dst,.load 28 x,ty,pos,after,g⟩).run Tryz.prog w'= .ok (.value (.slice a m c)) w':=by
 intro w' hE;have h0:w'.cell? ⟨B,O,none⟩=some (.slice a m c):=by rw [Qa,Qf (hE.same B hl hC),←Qa];exact h0
 simp only [execOp,hx];go_simp
theorem Qoz{j:Nat}(hj:j<4){r:TypeId}(hx:ρ x= .int .i64 (j:Nat))(hk:ρ (.const (.int .i64 8))= .int .i64 8)(w:World):
  (execOp ρ ⟨dst,.binOp .mul 3 (.const (.int .i64 8)) x r,ty,pos,after,g⟩).run Tryz.prog w= .ok (.value (.int .i64 ((8*j:Nat):Int))) w:=by
 obtain rfl|rfl|rfl|rfl:j=0∨j=1∨j=2∨j=3:=by omega
 all_goals(simp only [execOp,hx,hk];go_simp;rfl)
theorem QoA{n:Int}{j:Nat}(hj:j<4)(ρ:Operand→Value)(dst:Option Tmp)(x y:Operand)(s r ty:TypeId)(pos:String)(after:Array Edge)(g:Option (Nat×Bool))(hx:ρ x= .int .u32 n)(hy:ρ y= .int .i64 ((8*j:Nat):Int))(w:World):
  (execOp ρ ⟨dst,.binOp .shr 61 x y 3,ty,pos,after,g⟩).run Tryz.prog w= .ok (.value (.int .u32 (n/256^j))) w:=by
 obtain rfl|rfl|rfl|rfl:j=0∨j=1∨j=2∨j=3:=by omega
 all_goals
  simp only [execOp,hx,hy];go_simp
theorem QmF{n:Int}(hx:ρ x= .int .u32 n)(w:World):
  (execOp ρ ⟨dst,.convert 61 5 x,ty,pos,after,g⟩).run Tryz.prog w= .ok (.value (.int .u8 (n % 256))) w:=by
 simp only [execOp,hx];go_simp;simp [IntKind.wrap,IntKind.bits,IntKind.signed]
theorem QfN{v:Int}(hx:ρ x= .int .u8 v)(w:World):
  (execOp ρ ⟨dst,.buildSlice 28 1 #[(0,x)],ty,pos,after,g⟩).run Tryz.prog w= .ok (.value (.slice (some ⟨w.heap.size,0,none⟩) 1 1)) (w.alloc (.cells #[.int .u8 v] 5)):=by
 simp only [execOp];go_simp
theorem YB:(Tryz.prog.info? 5).map (fun i=>(i.zero,i.size,i.bytes))=some (some (.int .u8 0),1,1):=Kr
theorem Qr3{B A L K:Nat}{v:Int}{u:Value}(hA:w.cell? ⟨A,0,none⟩=some (.int .u8 v))(hL:L+1≤K)(hc:w.cell? ⟨B,L,none⟩=some u)(hf:w.frozen? ⟨B,L,none⟩=false){y:Operand}
  (hx:ρ x= .slice (some ⟨B,0,none⟩) L K)(hy:ρ y= .slice (some ⟨A,0,none⟩) 1 1):
  (execOp ρ ⟨dst,.call {callee:= .builtin .append,args:=#[x,y],argTypes:=#[28,28]},ty,pos,after,g⟩).run Tryz.prog w= .ok (.value (.slice (some ⟨B,0,none⟩) (L+1) K)) (w.setCells B (0+L*1) [.int .u8 v]):=by
 obtain⟨i0,hi,hz0,hz,hz2⟩:=info_parts YB
 have h:=run_append_room_cells (P:=Tryz.prog) w 28 ty 5 i0 Tryz.underlying28 hi B 0 L K ⟨A,0,none⟩ 1 1 [.int .u8 v] (by rw [hz];rfl) (fun j u h=>by
  match j,h with
  |0,h=>cases h;exact hA) (by simp [Value.oneCell']) hL (fun j hj=>by
   obtain rfl:j=0:=by simpa using hj
   rw [hz,show 0+L*1+0=L by omega,hc];rfl) (fun j hj=>by
   obtain rfl:j=0:=by simpa using hj
   rw [hz,show 0+L*1+0=L by omega];exact hf)
 rw [hz]at h;simp [execOp,resolve,invoke,builtin,hx,hy,h,Result.andThen]
theorem Yt{B:Nat}{v u:Value}(hc:w.cell? ⟨B,0,none⟩=some u)(hf:w.frozen? ⟨B,0,none⟩=false)(hv: ∃a m c,v= .slice a m c){y:Operand}
  (hx:ρ x= .pointer (some ⟨B,0,none⟩))(hy:ρ y=v):
  (execOp ρ ⟨dst,.store 28 x y,ty,pos,after,g⟩).run Tryz.prog w= .ok .skip (w.setCell ⟨B,0,none⟩ v):=by
 obtain⟨a,m,c,rfl⟩:=hv;simp only [execOp,hx,hy];go_simp
def QoB:List (Nat×List Nat):= [(0,[7,8]),(1,[4,5,6,7,8]),(2,[3,4,5,6,7,8]),(3,[4,5,6,7,8]),(4,[5,6,7,8]),(5,[6,7,8])]
def QxH(ops:Array Oper):Prop:=Region.noSelect ops=true∧(∀k,k<6→okX ops 9 k=true)∧(∀k,k<6→closedB .any ops (lst 9 k)=true)∧(∀k l,(k,l)∈QoB→YR .any ops (k::l)=true)∧Region.ready .any ops (lst 9 6)= [6]∧Region.ready .any ops (lst 9 7)= [7]∧Region.ready .any ops (lst 9 8)= [8]∧Region.ready .any ops (lst 9 9)= []
theorem QAb:QxH ((Tryz.f179.body.bind (Qh 8)).getD #[]):=by
 have h1:((List.range 6).all fun k=>okX ((Tryz.f179.body.bind (Qh 8)).getD #[]) 9 k)=true:=Kr
 have h2:((List.range 6).all fun k=>closedB .any ((Tryz.f179.body.bind (Qh 8)).getD #[]) (lst 9 k))=true:=Kr
 have h3:(QoB.all fun kl=>YR .any ((Tryz.f179.body.bind (Qh 8)).getD #[]) (kl.1::kl.2))=true:=Kr
 exact⟨Kr,fun k hk=>List.all_eq_true.1 h1 k (List.mem_range.2 hk),fun k hk=>List.all_eq_true.1 h2 k (List.mem_range.2 hk),fun k l h=>List.all_eq_true.1 h3 (k,l) h,Kr,Kr,Kr,Kr⟩
section
def partN(x:Int×Int):List Int:=byN x.1 x.2.toNat
def tb(t:Tu):List Int:=(partsL t).flatMap partN
def BAt(W:World)(Bv Br:Nat)(bs:List Int):Prop:=W.cell? ⟨Bv,0,none⟩=some (.slice (some ⟨Br,0,none⟩) bs.length 12)∧Qs W Bv=(0,0)∧Lt Bv W∧ ∃cur:Array Value,W.heap[Br]?=some (.cells cur 5 (0,0))∧cur.size=12∧cur.toList.take bs.length=bs.map (Value.int .u8)
theorem BAt.same{Bv Br:Nat}(h:BAt A Bv Br bs)(hs:A.heap.size≤B.heap.size)(h1:B.heap[Bv]?=A.heap[Bv]?)(h2:B.heap[Br]?=A.heap[Br]?):BAt B Bv Br bs:=by
 obtain⟨a1,a2,a3,cur,a4,a5,a6⟩:=h;exact⟨by rw [Qa,Qf h1,←Qa];exact a1,by unfold Qs at a2⊢;rw [h1];exact a2,Xl a3 hs,cur,by rw [h2];exact a4,a5,a6⟩
theorem BAt.push{Bv Br L:Nat}{bs':List Int}{v:Int}(hne:Bv≠Br)(h:BAt W Bv Br bs)(hL:bs.length=L)(h12:L<12)(hb:bs++ [v]=bs'):BAt ((W.setCells Br (0+L*1) [.int .u8 v]).setCell ⟨Bv,0,none⟩ (.slice (some ⟨Br,0,none⟩) (L+1) 12)) Bv Br bs':=by
 obtain⟨a1,a2,a3,cur,a4,a5,a6⟩:=h;subst hL hb;have hl:bs.length+1=(bs++ [v]).length:=by simp
 rw [show 0+bs.length*1=bs.length by omega];have e1:(W.setCells Br bs.length [.int .u8 v])=W.setCell ⟨Br,bs.length,none⟩ (.int .u8 v):=rfl;rw [e1];refine⟨?_,by rw [QR,QR];exact a2,by rw [Zk,Zk];exact a3,cur.setIfInBounds bs.length (.int .u8 v),?_,by simpa using a5,?_⟩
 ·rw [←hl];have a7:(W.setCell ⟨Br,bs.length,none⟩ (.int .u8 v)).cell? ⟨Bv,0,none⟩=some (.slice (some ⟨Br,0,none⟩) bs.length 12):=by
   rw [World.cell?_setCell_other _ _ _ _ (fun e=>hne (by first|exact congrArg Addr.block e|exact(congrArg Addr.block e).symm))];exact a1
  exact World.cell?_setCell_same _ _ _ a7
 ·simp only [World.setCell];rw [Array.getElem?_modify,if_neg (by simpa using hne),Array.getElem?_modify,if_pos rfl,a4];rfl
 ·have hlt:bs.length<cur.toList.length:=by simpa [a5]using h12
  rw [Array.toList_setIfInBounds,←hl,List.take_add_one,List.take_set_of_le (Nat.le_refl _),a6,List.getElem?_set_self hlt];simp
def Qr4:Array Value:=Array.replicate 12 (Value.int .u8 0)
theorem QAc(w:World):(Instr.makeSlice 28 (.int .i64 0) (.int .i64 12)).run Tryz.prog w= .ok (.slice (some ⟨w.heap.size,0,none⟩) 0 12) (w.alloc (.cells Qr4 5)):=Kr
attribute [local go_sem] Oper.semAt_some
theorem QmG(t:Tu)(hc:t.c % 4294967296=t.c)(hd:t.d % 4294967296=t.d)(w:World):
  Calls Tryz.prog 179 #[tu t.a t.b t.c t.d] w fun e w'=> ∃b,e= .returned (.slice (some ⟨b,0,none⟩) 12 12)∧SlB w' (some ⟨b,0,none⟩) (tb t)∧Ext w w':=by
 refine(callsIn_wide (n:=5)).1 ?_;refine callsIn_of_wp_marks Tryz.func179 rfl trivial ?_ rfl;simp only [Tryz.ntmps179,List.size_toArray,List.length_cons,List.length_nil,Nat.reduceAdd,Nat.reduceSub,Array.replicate_succ,Array.replicate_zero,List.push_toArray,List.append_toArray,List.nil_append,List.cons_append];refine wpIn_wide.2 ?_;have mk:=QAc
 go_wp2_with (go_at_call 220;(refine(QmD t _).mono ?_);rintro e w2 ⟨rfl,rfl⟩)
 obtain⟨W2,hW2⟩: ∃W2,((((w.alloc (.cells #[.int .u32 t.a,.int .u32 t.b,.int .u16 t.c,.int .u16 t.d] 64)).alloc (.cells Qr4 5)).alloc (.cells #[.slice (some ⟨w.heap.size+1,0,none⟩) 0 12] 28)).alloc (.cells #[.int .u32 t.a,.int .u32 t.b,.int .u16 t.c,.int .u16 t.d] 64))=W2:=⟨_,rfl⟩;have g2:Ext w W2:=by rw [←hW2];exact Ext.al (Ext.al (Ext.al Ea _) _) _
 have hsz2:W2.heap.size=w.heap.size+4:=by rw [←hW2];simp
 have ht2:YM W2 (w.heap.size+3) t:=⟨by rw [←hW2];simp [go_sem],by unfold Lt;omega⟩;have hB2:BAt W2 (w.heap.size+2) (w.heap.size+1) []:=by
  refine⟨by rw [←hW2];simp [go_sem],by rw [←hW2];simp [go_sem],by unfold Lt;omega,Qr4,?_,rfl,rfl⟩;rw [←hW2];rw [Below.heap_alloc _ _ _ (by simp),Below.heap_alloc _ _ _ (by simp)];have:=World.alloc_heap_new (w.alloc (.cells #[.int .u32 t.a,.int .u32 t.b,.int .u16 t.c,.int .u16 t.d] 64)) (.cells Qr4 5)
  rwa [World.size_alloc]at this
 rw [hW2];clear hW2 mk;refine(wpIn_wide (n:=5)).1 ?_;refine ZI rfl Om (gf:=240) (lb:=#[.pointer (some ⟨w.heap.size+3,0,none⟩)]) rfl trivial QgA
  (Qjq _ t hc hd W2 (w.heap.size+3) (fun k=>k=w.heap.size+1∨k=w.heap.size+2) ht2 (fun k e=>by omega))
  (fun k e=>e.elim) (fun k e=>by omega) (fun _=>rfl)
  (fun i W=>BAt W (w.heap.size+2) (w.heap.size+1) (((partsL t).take i).flatMap partN)) (fun _ _=>False)
  (fun i A B h hm=>h.same hm.size (hm.same _ h.2.2.1 (by rintro(h|h|h)<;>first|exact h.elim|omega)) (hm.same _ (Xl (Nat.lt_succ_self _) (Nat.le_of_lt h.2.2.1)) (by rintro(h|h|h)<;>first|exact h.elim|omega)))
  (fun _ _ _ h _=>h) hB2
  (fun x a' W=>a'={tmps:=#[tu t.a t.b t.c t.d,.pointer (some ⟨w.heap.size,0,none⟩),.slice none 0 0,.pointer (some ⟨w.heap.size+2,0,none⟩),.int .u32 x.1,.int .i64 x.2,.slice (some ⟨w.heap.size+1,0,none⟩) 0 12,tu t.a t.b t.c t.d,.func (.func 240) #[] #[.pointer (some ⟨w.heap.size+3,0,none⟩)],.int .u32 x.1,.int .i64 x.2,undef,undef,undef,undef,undef,undef,undef,undef,undef,undef,undef,undef,undef,undef,undef],defers:= []})
  (fun x a' A B h hm=>h)
  ?assign ?body ?done ?stop
 case assign=>
  rintro y i x W K hsz' hv hI hx hK
  gi_wp2
  repeat(rw [Oper.semAt_some _ _ _ (by intro c h;cases h)];go_simp;gi_wp2)
  exact hK _ _ (Mv.refl _ _) hI rfl
 case body=>
  rintro y i x a' W hyl ⟨rr,hr⟩ hsz' hv hI hx rfl;obtain⟨n,q,rfl⟩: ∃n q,x=(n,q):=⟨x.1,x.2,rfl⟩;obtain⟨bs,hbs⟩: ∃bs,((partsL t).take i).flatMap partN=bs:=⟨_,rfl⟩;obtain⟨m,rfl,hm4,hm12,hnext⟩: ∃m:Nat,q=m∧m≤4∧bs.length+m≤12∧((partsL t).take (i+1)).flatMap partN=bs++byN n m:=by
   subst hbs
   match i,hx with
   |0,h=>cases h;exact⟨4,rfl,Om,by simp [partsL,partN,byN],rfl⟩
   |1,h=>cases h;exact⟨4,rfl,Om,by simp [partsL,partN,byN],rfl⟩
   |2,h=>cases h;exact⟨2,rfl,Om,by simp [partsL,partN,byN],rfl⟩
   |3,h=>cases h;exact⟨2,rfl,Om,by simp [partsL,partN,byN],rfl⟩
  rw [hbs]at hI;have HNX:=Xh hnext;clear hbs hnext hx hr hv
  gi_wp2
  repeat(rw [Oper.semAt_some _ _ _ (by intro c h;cases h)];go_simp;gi_wp2)
  gi_loopw [5] (fun a wr=> ∃q:Nat,q≤m∧a= .int .i64 ((q:Int)- 1)∧BAt wr (w.heap.size+2) (w.heap.size+1) (bs++(byN n m).take (m- q))∧Mv (fun k=>(k=w.heap.size+1∨k=w.heap.size+2)∨W2.heap.size+2≤k) W wr) (fun a _=>(intOf a+1).toNat)
  case atStart=>exact⟨m,Nat.le_refl _,rfl,by rw [Nat.sub_self];simpa using hI,Mv.refl _ _⟩
  case round=>
   obtain⟨q,hq,rfl,hB,hM⟩:=hrel;clear hI
   by_cases h0:q=0
   ·subst h0;have HB:=Xh hB;clear hB
    gi_wp2
    refine⟨hM,?_⟩;show BAt wr _ _ (List.flatMap partN (List.take (i+1) (partsL t)));rw [HNX.out];have:=HB.out
    rwa [Nat.sub_zero,List.take_of_length_le (by rw [ZA];omega)]at this
   ·obtain⟨j,rfl⟩: ∃j,q=j+1:=⟨q- 1,Om⟩;have hb0:decide ((0:Int)≤((j+1:Nat):Int)- 1)=true:=decide_eq_true Om;have HB:=Xh hB;have HM:=Xh hM;obtain⟨b1,b2,b3,-⟩:=hB;clear hM;obtain⟨L,hL⟩: ∃L,(bs++(byN n m).take (m- (j+1))).length=L:=⟨_,rfl⟩;rw [hL]at b1;have HL:=Xh hL;clear hL hB2 ht2;have hL12:L<12:=by rw [←HL.out,List.length_append,List.length_take];omega
    have hLc:L+1≤12:=by omega
    gi_wp2
    repeat(rw [Oper.semAt_some _ _ _ (by intro c h;cases h)];go_simp;gi_wp2)
    rw [show(((j+1:Nat):Int)- 1)=j by omega]
    go_wp2_with (fail)
    refine QhR (F:=_) 8 (fun k=>k=w.heap.size+1) (fun _=>trivial) Kr Kr ?_;obtain⟨W1,hW1⟩: ∃W1,wr.drew=W1:=⟨_,rfl⟩;have g1:Ext wr W1:=by rw [←hW1];exact Ext.dr (Ext.rf _)
    rw [hW1];clear hW1;have lt1:Lt (w.heap.size+2) W1:=Xl b3 g1.size;have hBL:BAt W1 (w.heap.size+2) (w.heap.size+1) (bs++(byN n m).take (m- (j+1))):=HB.out.same g1.size (g1.block _ b3) (g1.block _ (Xl (Nat.lt_succ_self _) (Nat.le_of_lt b3)));have d1:W1.cell? ⟨w.heap.size+2,0,none⟩=some (.slice (some ⟨w.heap.size+1,0,none⟩) L 12):=(g1.cell (p:=⟨w.heap.size+2,0,none⟩) b3).trans b1;have hj4:j<4:=by omega
    refine QxG (N:=9) (R:=QxH) (E:=((Tryz.f179.body.bind (Qh 8)).getD #[])) Kr QAb Kr fun hS=> ?_;refine QfM (N:=9) (k:=0) (l:= [7,8]) (v:= .slice (some ⟨w.heap.size+1,0,none⟩) L 12) hS.1 (hS.2.1 0 Dc) (hS.2.2.1 0 Dc) (hS.2.2.2.1 0 [7,8] Dc) rfl Dc rfl Kr (QmE d1 lt1 Om Kr) ?_;refine QfM (N:=9) (k:=1) (l:= [4,5,6,7,8]) (v:= .int .u32 n) hS.1 (hS.2.1 1 Dc) (hS.2.2.1 1 Dc) (hS.2.2.2.1 1 [4,5,6,7,8] Dc) rfl Dc rfl Kr (fun _ _=>by kernel_rfl) ?_;refine QfM (N:=9) (k:=2) (l:= [3,4,5,6,7,8]) (v:= .int .i64 (j:Nat)) hS.1 (hS.2.1 2 Dc) (hS.2.2.1 2 Dc) (hS.2.2.2.1 2 [3,4,5,6,7,8] Dc) rfl Dc rfl Kr (fun _ _=>by kernel_rfl) ?_;refine QfM (N:=9) (k:=3) (l:= [4,5,6,7,8]) (v:= .int .i64 ((8*j:Nat):Int)) hS.1 (hS.2.1 3 Dc) (hS.2.2.1 3 Dc) (hS.2.2.2.1 3 [4,5,6,7,8] Dc) rfl Dc rfl Kr (fun w' _=>Qoz hj4 Kr rfl w') ?_;refine QfM (N:=9) (k:=4) (l:= [5,6,7,8]) (v:= .int .u32 (n/256^j)) hS.1 (hS.2.1 4 Dc) (hS.2.2.1 4 Dc) (hS.2.2.2.1 4 [5,6,7,8] Dc) rfl Dc rfl Kr (fun w' _=>QoA hj4 _ _ _ _ 3 3 _ _ _ _ Kr Kr w') ?_;refine QfM (N:=9) (k:=5) (l:= [6,7,8]) (v:= .int .u8 (n/256^j % 256)) hS.1 (hS.2.1 5 Dc) (hS.2.2.1 5 Dc) (hS.2.2.2.1 5 [6,7,8] Dc) rfl Dc rfl Kr (fun w' _=>QmF Kr w') ?_;refine QtO (N:=9) (k:=6) hS.2.2.2.2.1 rfl Kr (QfN (v:=n/256^j % 256) Kr _) (.inr (Mv.of_ext Ea)) ?_;obtain⟨W3,hW3⟩: ∃W3,W1.alloc (.cells #[.int .u8 (n/256^j % 256)] 5)=W3:=⟨_,rfl⟩;have g3:Ext W1 W3:=by rw [←hW3];exact Ea
    have cA:W3.cell? ⟨W1.heap.size,0,none⟩=some (.int .u8 (n/256^j % 256)):=by rw [←hW3];simp [go_sem]
    rw [hW3];clear hW3;have hB3:BAt W3 (w.heap.size+2) (w.heap.size+1) (bs++(byN n m).take (m- (j+1))):=hBL.same g3.size (g3.block _ lt1) (g3.block _ (Xl (Nat.lt_succ_self _) (Nat.le_of_lt lt1)));have hM3:Mv (fun k=>(k=w.heap.size+1∨k=w.heap.size+2)∨W2.heap.size+2≤k) W W3:=(HM.out.tr g1).tr g3;obtain⟨f1,f2,f3,cur,f4,f5,f6⟩:=Xh hB3;have hc5:L<cur.size:=by rw [f5];exact hL12
    refine QtO (N:=9) (k:=7) hS.2.2.2.2.2.1 rfl Kr (Qr3 (u:=cur[L]'hc5) cA hLc (by rw [Qa];unfold Qc;rw [f4];exact Array.getElem?_eq_getElem hc5) (Ql (by unfold Qs;rw [f4]) L) Kr Kr) (.inr (Mv.sc (C:=fun k=>k=w.heap.size+1) rfl _ _ _ _ (Mv.refl _ _))) ?_;refine QxE (N:=9) (k:=8) hS.2.2.2.2.2.2.1 rfl Kr (Yt (B:=w.heap.size+2) (v:= .slice (some ⟨w.heap.size+1,0,none⟩) (L+1) 12) (u:= .slice (some ⟨w.heap.size+1,0,none⟩) L 12) ?_ ?_ ⟨_,_,_,rfl⟩ Kr Kr) (.inl rfl) ?_
    rotate_left 2
    refine QxF hS.2.2.2.2.2.2.2 ?_;have hB4:=BAt.push (v:=n/256^j % 256) Om hB3 HL.out hL12 (by rw [List.append_assoc,Qcm n m j Om]);have hM4:Mv (fun k=>(k=w.heap.size+1∨k=w.heap.size+2)∨W2.heap.size+2≤k) W ((W3.setCells (w.heap.size+1) (0+L*1) [.int .u8 (n/256^j % 256)]).setCell ⟨w.heap.size+2,0,none⟩ (.slice (some ⟨w.heap.size+1,0,none⟩) (L+1) 12)):=
     Mv.st _ (.inl (.inl (.inr rfl))) (Mv.sc (.inl (.inl rfl)) _ _ _ _ hM3)
    obtain⟨W4,hW4⟩: ∃W4,((W3.setCells (w.heap.size+1) (0+L*1) [.int .u8 (n/256^j % 256)]).setCell ⟨w.heap.size+2,0,none⟩ (.slice (some ⟨w.heap.size+1,0,none⟩) (L+1) 12))=W4:=⟨_,rfl⟩;rw [hW4]at hB4 hM4⊢;clear hW4 hS hB3 hM3 HM HB HNX hBL d1 f1 f2 f4 f5 f6 b1 b2;have hw1:IntKind.i64.wrap ((j:Int)- 1)=(j:Int)- 1:=by rw [IntKind.wrap_i64];omega
    go_simp
    gi_wp2
    repeat(rw [Oper.semAt_some _ _ _ (by intro c h;cases h)];go_simp;gi_wp2)
    exact⟨⟨j,Om,rfl,hB4,hM4⟩,by first|(simp [intOf];done)|(simp [intOf];omega)⟩
    ·show(W3.setCell ⟨w.heap.size+1,0+L*1,none⟩ _).cell? _=_;rw [World.cell?_setCell_other _ _ _ _ (fun e=>(show w.heap.size+2≠w.heap.size+1 by omega) (by first|exact congrArg Addr.block e|exact(congrArg Addr.block e).symm))];have:=hB3.1
     rwa [HL.out]at this
    ·refine Ql ?_ 0;rw [Qal];exact f2
 case done=>
  rintro W ⟨c1,c2,c3,cur,c4,c5,c6⟩ hv hK;rw [List.take_length]at c1 c6;change W.cell? _=some (.slice _ (tb t).length 12)at c1;change List.take (tb t).length _=(tb t).map _ at c6;rw [show(tb t).length=12 from rfl]at c1 c6;have c1':=c1;go_wp2;refine⟨by simp,.inl ⟨_,_,rfl,run_takeDeferred hK,?_⟩⟩;refine⟨_,results_tmp rfl _ _ _,⟨_,rfl,?_,?_⟩⟩
  ·intro k hk;have hB1:w.heap.size+1<W.heap.size:=Xl (Nat.lt_succ_self _) (Nat.le_of_lt c3);have hmp:Mv (fun k=>k=W2.heap.size) W (W.putObj W2.heap.size (.deferred none)):=Mv.put _ _ _ rfl;have hk':k<12:=hk;refine⟨w.heap.size+1,0,rfl,Xl hB1 hmp.size,?_⟩;rw [Qa,Qf (hmp.same _ hB1 Om)];unfold Qc;rw [c4];have e1:(List.take 12 cur.toList)[k]?=((tb t).map (Value.int .u8))[k]?:=by rw [c6]
   rw [List.getElem?_take,if_pos hk',Array.getElem?_toList,List.getElem?_map,List.getElem?_eq_getElem hk]at e1;rw [Nat.zero_add];exact e1
  ·have hE2:Ext w W:=Mv.ext_of g2 hv (fun k h=>by rcases h with(h|h)|h<;>omega);exact Mv.ext_of hE2 (Mv.put (C:=fun k=>k=W2.heap.size) _ _ _ rfl) (fun k h=>by omega)
 case stop=>intro _ _ h;exact h.elim
end
def TuR(t:Tu):Prop:=(0≤t.a∧t.a<4294967296)∧(0≤t.b∧t.b<4294967296)∧(0≤t.c∧t.c<65536)∧(0≤t.d∧t.d<65536)
def sumT(t:Tu):Int:=goL 0 (tb t)
def ofT(t:Tu):Int:=Qei (sumT t)
theorem Qbm(t:Tu):0≤sumT t∧sumT t<256:=QuT _ _ Om Om
theorem Qek(t:Tu):(tb t).length=12:=rfl
theorem QbY(t:Tu):0≤ofT t∧ofT t<16:=Qr1 _ (Qbm t).1 (Qbm t).2
def inB(k:Int)(x:Co):Bool:=ofT x.t==k
theorem go12(t:Tu)(p:Option Addr)(w:World)(hb:SlB w p (tb t)):Cr 178 #[.int .u8 0,.slice p 12 12] w (.int .u8 (sumT t)):=QuU 0 (tb t) p 12 w hb (by rw [Qek];omega)
theorem Qr5(t:Tu)(hr:TuR t)(w:World):
  Cr 105 #[tu t.a t.b t.c t.d] w (.int .u8 (sumT t)):=by
 have hc:t.c % 4294967296=t.c:=by obtain⟨-,-,h,-⟩:=hr;omega
 have hd:t.d % 4294967296=t.d:=by obtain⟨-,-,-,h⟩:=hr;omega
 have HC:=Xh hc;have HD:=Xh hd;clear hc hd hr
 go_enter Tryz.func105,Tryz.ntmps105
 go_wp2_with (first|(go_at_call 179;(with_reducible refine(QmG t HC.out HD.out _).mono ?_);rintro e w1 ⟨b,rfl,hb,hE1⟩;have HB:=Xh hb;clear hb)|(go_at_call 178;(with_reducible refine(go12 t _ _ HB.out).mono ?_);rintro e w2 ⟨rfl,hE2⟩))
 go_ret;refine⟨rfl,?_⟩;exact(Ext.tr Ea hE1).tr hE2
theorem QgC(t:Tu)(hr:TuR t)(w:World):
  Cr 43 #[tu t.a t.b t.c t.d] w (.int .i64 (ofT t)):=by
 have HR:=Xh hr;clear hr
 go_enter Tryz.func43,Tryz.ntmps43
 go_wp2_with (first|(go_at_call 105;(with_reducible refine(Qr5 t HR.out _).mono ?_);rintro e w1 ⟨rfl,hE1⟩)|(go_at_call 104;(with_reducible refine(Qjo (sumT t) _ (Qbm t).1 (Qbm t).2).mono ?_);rintro e w2 ⟨rfl,rfl⟩))
 go_ret;exact⟨rfl,Ext.tr Ea hE1⟩
theorem QoC(x:Co)(hr:TuR x.t)(k:Int)(bk:Nat)(w:World)(lk:Lt bk w)(hk:w.cell? ⟨bk,0,none⟩=some (.int .i64 k)):
  Cr 140 #[.agg #[.int .u32 x.t.a,.int .u32 x.t.b,.int .u16 x.t.c,.int .u16 x.t.d,.int .i64 x.s,.int .i64 x.l],.pointer (some ⟨bk,0,none⟩)] w (.bool (inB k x)):=by
 have HR:=Xh hr;clear hr
 go_enter Tryz.func140,Tryz.ntmps140
 go_upto_region 1 with(fail)
 obtain⟨W0,hW⟩: ∃W0,w.alloc (.cells #[.int .u32 x.t.a,.int .u32 x.t.b,.int .u16 x.t.c,.int .u16 x.t.d,.int .i64 x.s,.int .i64 x.l] 66)=W0:=⟨_,rfl⟩;have e0:Ext w W0:=by rw [←hW];exact Ea
 have c0:W0.cell? ⟨w.heap.size,0,none⟩=some (.int .u32 x.t.a):=by rw [←hW];simp [go_sem]
 have c1:W0.cell? ⟨w.heap.size,1,none⟩=some (.int .u32 x.t.b):=by rw [←hW];simp [go_sem]
 have c2:W0.cell? ⟨w.heap.size,2,none⟩=some (.int .u16 x.t.c):=by rw [←hW];simp [go_sem]
 have c3:W0.cell? ⟨w.heap.size,3,none⟩=some (.int .u16 x.t.d):=by rw [←hW];simp [go_sem]
 have l0:Lt w.heap.size W0:=by rw [←hW];simp [Lt]
 have lk0:Lt bk W0:=Xl lk e0.size;have hk0:W0.cell? ⟨bk,0,none⟩=some (.int .i64 k):=(e0.cell (p:=⟨bk,0,none⟩) lk).trans hk;rw [hW];clear hW hk;generalize w.heap.size=B at*;refine Qk Kr Kr ?_;(repeat(go_big_quiet_step ((go_at_call 43;exact Zo (QgC x.t HR.out _)))));refine wpQuiet_nil ?_;intro d
 have hd:=Qt d;go_wp2;go_ret;exact⟨rfl,e0.tr hd⟩
theorem Qr6(x:Co)(hr:TuR x.t)(k:Int)(bk:Nat)(w:World)(lk:Lt bk w)(hk:w.cell? ⟨bk,0,none⟩=some (.int .i64 k)):
  Cr 140 (#[.agg #[.int .u32 x.t.a,.int .u32 x.t.b,.int .u16 x.t.c,.int .u16 x.t.d,.int .i64 x.s,.int .i64 x.l]]++ #[.pointer (some ⟨bk,0,none⟩)]) w (.bool (inB k x)):=by
 rw [show(#[Value.agg #[.int .u32 x.t.a,.int .u32 x.t.b,.int .u16 x.t.c,.int .u16 x.t.d,.int .i64 x.s,.int .i64 x.l]]++ #[Value.pointer (some ⟨bk,0,none⟩)]:Array Value)=#[.agg #[.int .u32 x.t.a,.int .u32 x.t.b,.int .u16 x.t.c,.int .u16 x.t.d,.int .i64 x.s,.int .i64 x.l],.pointer (some ⟨bk,0,none⟩)]from rfl];exact QoC x hr k bk w lk hk
theorem Qjr: ∀args w,(callFunc 140 args).run Tryz.prog w= .ok (.enter 140 args) w:=enters_of Tryz.func140 Kr rfl
theorem QoD(x:Co)(hr:TuR x.t)(k:Int)(bk:Nat)(w:World)(lk:Lt bk w)(hk:w.cell? ⟨bk,0,none⟩=some (.int .i64 k)):
  Cr 141 #[.agg #[.int .u32 x.t.a,.int .u32 x.t.b,.int .u16 x.t.c,.int .u16 x.t.d,.int .i64 x.s,.int .i64 x.l],.pointer (some ⟨bk,0,none⟩)] w (.bool (inB k x)):=by
 have HR:=Xh hr;clear hr
 go_enter Tryz.func141,Tryz.ntmps141
 go_upto_region 1 with(fail)
 obtain⟨W0,hW⟩: ∃W0,w.alloc (.cells #[.int .u32 x.t.a,.int .u32 x.t.b,.int .u16 x.t.c,.int .u16 x.t.d,.int .i64 x.s,.int .i64 x.l] 66)=W0:=⟨_,rfl⟩;have e0:Ext w W0:=by rw [←hW];exact Ea
 have c0:W0.cell? ⟨w.heap.size,0,none⟩=some (.int .u32 x.t.a):=by rw [←hW];simp [go_sem]
 have c1:W0.cell? ⟨w.heap.size,1,none⟩=some (.int .u32 x.t.b):=by rw [←hW];simp [go_sem]
 have c2:W0.cell? ⟨w.heap.size,2,none⟩=some (.int .u16 x.t.c):=by rw [←hW];simp [go_sem]
 have c3:W0.cell? ⟨w.heap.size,3,none⟩=some (.int .u16 x.t.d):=by rw [←hW];simp [go_sem]
 have l0:Lt w.heap.size W0:=by rw [←hW];simp [Lt]
 have lk0:Lt bk W0:=Xl lk e0.size;have hk0:W0.cell? ⟨bk,0,none⟩=some (.int .i64 k):=(e0.cell (p:=⟨bk,0,none⟩) lk).trans hk;rw [hW];clear hW hk;generalize w.heap.size=B at*;refine Qk Kr Kr ?_;(repeat(go_big_quiet_step ((go_at_call 43;exact Zo (QgC x.t HR.out _)))));refine wpQuiet_nil ?_;intro d
 have hd:=Qt d;go_wp2;go_ret;exact⟨rfl,e0.tr hd⟩
theorem Qr7(x:Co)(hr:TuR x.t)(k:Int)(bk:Nat)(w:World)(lk:Lt bk w)(hk:w.cell? ⟨bk,0,none⟩=some (.int .i64 k)):
  Cr 141 (#[.agg #[.int .u32 x.t.a,.int .u32 x.t.b,.int .u16 x.t.c,.int .u16 x.t.d,.int .i64 x.s,.int .i64 x.l]]++ #[.pointer (some ⟨bk,0,none⟩)]) w (.bool (inB k x)):=by
 rw [show(#[Value.agg #[.int .u32 x.t.a,.int .u32 x.t.b,.int .u16 x.t.c,.int .u16 x.t.d,.int .i64 x.s,.int .i64 x.l]]++ #[Value.pointer (some ⟨bk,0,none⟩)]:Array Value)=#[.agg #[.int .u32 x.t.a,.int .u32 x.t.b,.int .u16 x.t.c,.int .u16 x.t.d,.int .i64 x.s,.int .i64 x.l],.pointer (some ⟨bk,0,none⟩)]from rfl];exact QoD x hr k bk w lk hk
theorem Qjs: ∀args w,(callFunc 141 args).run Tryz.prog w= .ok (.enter 141 args) w:=enters_of Tryz.func141 Kr rfl
theorem Qr8(p:Option Addr)(xs:List Co)(c:Nat)(k:Int)(w:World)(hs:SlC w p xs)(hl:xs.length≤1000)(hr: ∀x∈xs,TuR x.t):
  Calls Tryz.prog 61 #[.slice p xs.length c,.int .i64 k] w fun e w'=> ∃v,e= .returned v∧w'.ownsRow w.heap.size 66 6 v (xs.filter (inB k)).length (flC (xs.filter (inB k)))∧Ext w w':=by
 have HR:=Xh hr;clear hr
 go_enter Tryz.func61,Tryz.ntmps61
 go_upto_region 1 with(fail)
 obtain⟨W0,hW⟩: ∃W0,w.alloc (.cells #[.int .i64 k] 3)=W0:=⟨_,rfl⟩;have g0:Ext w W0:=by rw [←hW];exact Ea
 have ck:W0.cell? ⟨w.heap.size,0,none⟩=some (.int .i64 k):=by rw [←hW];simp [go_sem]
 have lk:Lt w.heap.size W0:=by rw [←hW];simp [Lt]
 have s0:=hs.ext g0;have hsz:w.heap.size≤W0.heap.size:=g0.size;rw [hW];clear hW hs;have HCL:=Xh (fun(x:Co) (W:World) (hm:x∈xs) (hE:Ext W0 W)=>Qr6 x (HR.out x hm) k _ W (Xl lk hE.size) ((hE.cell (p:=⟨w.heap.size,0,none⟩) lk).trans ck))
 go_wp2_with (go_at_call 139;go_must (with_reducible refine(ZJ 140 #[.pointer (some ⟨w.heap.size,0,none⟩)] Qjr (inB k) p xs c _ s0 hl HCL.out).mono ?_);rintro e w' ⟨v1,v2,rfl,⟨o1,o2,o3⟩,g1⟩;have O1:=Xh o1;have O2:=Xh o2;clear o1 o2 o3)
 exact bodyPost_ret (v:=v1) (by simp [results,Tryz.results61,go_sem]) rfl ⟨v1,rfl,QA O1.out hsz,g0.tr g1⟩
theorem Qr9(p:Option Addr)(xs:List Co)(c:Nat)(k:Int)(w:World)(hs:SlC w p xs)(hl:xs.length≤1000)(hr: ∀x∈xs,TuR x.t):
  Calls Tryz.prog 62 #[.slice p xs.length c,.int .i64 k] w fun e w'=> ∃v,e= .returned v∧w'.ownsRow w.heap.size 66 6 v (xs.filter (fun x=>!inB k x)).length (flC (xs.filter (fun x=>!inB k x)))∧Ext w w':=by
 have HR:=Xh hr;clear hr
 go_enter Tryz.func62,Tryz.ntmps62
 go_upto_region 1 with(fail)
 obtain⟨W0,hW⟩: ∃W0,w.alloc (.cells #[.int .i64 k] 3)=W0:=⟨_,rfl⟩;have g0:Ext w W0:=by rw [←hW];exact Ea
 have ck:W0.cell? ⟨w.heap.size,0,none⟩=some (.int .i64 k):=by rw [←hW];simp [go_sem]
 have lk:Lt w.heap.size W0:=by rw [←hW];simp [Lt]
 have s0:=hs.ext g0;have hsz:w.heap.size≤W0.heap.size:=g0.size;rw [hW];clear hW hs;have HCL:=Xh (fun(x:Co) (W:World) (hm:x∈xs) (hE:Ext W0 W)=>Qr7 x (HR.out x hm) k _ W (Xl lk hE.size) ((hE.cell (p:=⟨w.heap.size,0,none⟩) lk).trans ck))
 go_wp2_with (go_at_call 139;go_must (with_reducible refine(ZJ 141 #[.pointer (some ⟨w.heap.size,0,none⟩)] Qjs (inB k) p xs c _ s0 hl HCL.out).mono ?_);rintro e w' ⟨v1,v2,rfl,⟨o1,o2,o3⟩,g1⟩;have O1:=Xh o1;have O2:=Xh o2;clear o1 o2 o3)
 exact bodyPost_ret (v:=v2) (by simp [results,Tryz.results62,go_sem]) rfl ⟨v2,rfl,QA O2.out hsz,g0.tr g1⟩
theorem QcV(x:Int)(h0:0≤x)(h1:x<4294967296):bits .and .i64 x 255=x % 256:=by
 have h:=bits_mask .i64 32 Dc (fun n h0 h1=>by rw [IntKind.wrap_i64];omega) 8 Dc x h0 Om;have e:((2:Int)^8- 1)=255:=by decide
 have e2:((2:Int)^8)=256:=by decide
 rw [e,e2]at h;exact h
theorem QcW(x:Int)(h0:0≤x)(h1:x<4294967296)(k:Int)(hk:1≤k):0≤x/k∧x/k<4294967296:=by
 refine⟨Int.ediv_nonneg h0 Om,?_⟩;exact Int.lt_of_le_of_lt (Int.ediv_le_self _ h0) h1
theorem Q1(w:World)(a:Value)(t:TypeId): ∀j u,[a][j]?=some u→(w.alloc (.cells #[a] t)).cell? ((⟨w.heap.size,0,none⟩:Addr).add j)=some u:=by
 intro j u h
 match j,h with
 |0,h=>cases h;simp [go_sem,Addr.add]
theorem Qjt(n:Int)(m:Nat)(hm:m≤4)(h0:0≤n)(h1:n<4294967296)(w:World):
  Calls Tryz.prog 208 #[.int .i64 n,.int .i64 m] w fun e w'=> ∃v,e= .returned v∧w'.ownsRow w.heap.size 5 1 v m ((byN n m).map (Value.int .u8))∧Ext w w':=by
 obtain⟨i0,hi,hz0,hz1,hz2⟩:=info_parts YB;have hwm:IntKind.i64.wrap ((m:Int)- 1)=(m:Int)- 1:=by rw [IntKind.wrap_i64];omega
 go_enter Tryz.func208,Tryz.ntmps208
 go_wp2
 go_loopw [5,6] (fun v a wr=> ∃q:Nat,q≤m∧a= .int .i64 ((q:Int)- 1)∧wr.ownsRow w.heap.size 5 1 v (m- q) (((byN n m).take (m- q)).map (Value.int .u8))∧Ext w wr) (fun _ a _=>(intOf a+1).toNat)
 case atStart=>exact⟨m,Nat.le_refl _,rfl,by rw [Nat.sub_self];exact World.ownsRow_nil _ _ _ _,Ext.rf _⟩
 case round=>
  obtain⟨q,hq,rfl,ho,hE⟩:=hrel
  by_cases hz:q=0
  ·subst hz;have HO:=Xh ho;clear ho;go_wp2;refine bodyPost_ret (v:=u5) (by simp [results,Tryz.results208,go_sem]) rfl ⟨_,rfl,?_,hE⟩;have:=HO.out
   rwa [Nat.sub_zero,List.take_of_length_le (by rw [ZA];omega)]at this
  ·obtain⟨j,rfl⟩: ∃j,q=j+1:=⟨q- 1,Om⟩;have hb0:decide ((0:Int)≤((j+1:Nat):Int)- 1)=true:=decide_eq_true Om;have HT:=Xh (Qcm n m j Om);have HO:=Xh ho;clear ho;rw [show(((j+1:Nat):Int)- 1)=j by omega]at hb0⊢;have hj:j<4:=by omega
   obtain rfl|rfl|rfl|rfl:j=0∨j=1∨j=2∨j=3:=by omega
   ·have HV:=Xh (show bits .and .i64 n 255 % 256=n/256^0 % 256 by
     rw [QcV _ h0 h1,show(256:Int)^0=1 by decide];omega)
    go_wp2_with (at_builtin;go_must (refine wpList_append_own _ rfl _ _ 28 rfl w.heap.size 5 i0 (.int .u8 0) 1 1 Tryz.underlying28 hi hz0 hz1 hz2 rfl Dc _ _ _ rfl (HO.out.alloc _) ⟨wr.heap.size,0,none⟩ 1 1 [.int .u8 (bits .and .i64 n 255 % 256)] rfl rfl (Q1 _ _ _) (by intro u hu;simp at hu;subst hu;rfl) (by unfold maxLen;omega) Om (by have:=hE.size;simp;omega) ?_);intro v' w3 hown hgrow _;have HN:=Xh hown;have HG:=Xh hgrow;clear hown hgrow)
    go_roundw
    case rel=>
     refine⟨0,Om,by go_num,?_,Mv.ext_of (Ext.al hE _) (Mv.of_grown (C:=fun k=>w.heap.size≤k) HG.out fun r e=> .inl (Qi HO.out r e)) (fun k h=>h)⟩;have h:=HN.out;rw [HV.out,show m- (0+1)+1=m- 0 by omega]at h;rw [←HT.out,List.map_append];exact h
    case measure=>first|(simp [intOf];done)|(simp [intOf];omega)
   ·have HV:=Xh (show bits .and .i64 (n/256) 255 % 256=n/256^1 % 256 by
     rw [QcV _ (QcW n h0 h1 256 Om).1 (QcW n h0 h1 256 Om).2,show(256:Int)^1=256 by decide];omega)
    go_wp2_with (at_builtin;go_must (refine wpList_append_own _ rfl _ _ 28 rfl w.heap.size 5 i0 (.int .u8 0) 1 1 Tryz.underlying28 hi hz0 hz1 hz2 rfl Dc _ _ _ rfl (HO.out.alloc _) ⟨wr.heap.size,0,none⟩ 1 1 [.int .u8 (bits .and .i64 (n/256) 255 % 256)] rfl rfl (Q1 _ _ _) (by intro u hu;simp at hu;subst hu;rfl) (by unfold maxLen;omega) Om (by have:=hE.size;simp;omega) ?_);intro v' w3 hown hgrow _;have HN:=Xh hown;have HG:=Xh hgrow;clear hown hgrow)
    go_roundw
    case rel=>
     refine⟨1,Om,by go_num,?_,Mv.ext_of (Ext.al hE _) (Mv.of_grown (C:=fun k=>w.heap.size≤k) HG.out fun r e=> .inl (Qi HO.out r e)) (fun k h=>h)⟩;have h:=HN.out;rw [HV.out,show m- (1+1)+1=m- 1 by omega]at h;rw [←HT.out,List.map_append];exact h
    case measure=>first|(simp [intOf];done)|(simp [intOf];omega)
   ·have HV:=Xh (show bits .and .i64 (n/65536) 255 % 256=n/256^2 % 256 by
     rw [QcV _ (QcW n h0 h1 65536 Om).1 (QcW n h0 h1 65536 Om).2,show(256:Int)^2=65536 by decide];omega)
    go_wp2_with (at_builtin;go_must (refine wpList_append_own _ rfl _ _ 28 rfl w.heap.size 5 i0 (.int .u8 0) 1 1 Tryz.underlying28 hi hz0 hz1 hz2 rfl Dc _ _ _ rfl (HO.out.alloc _) ⟨wr.heap.size,0,none⟩ 1 1 [.int .u8 (bits .and .i64 (n/65536) 255 % 256)] rfl rfl (Q1 _ _ _) (by intro u hu;simp at hu;subst hu;rfl) (by unfold maxLen;omega) Om (by have:=hE.size;simp;omega) ?_);intro v' w3 hown hgrow _;have HN:=Xh hown;have HG:=Xh hgrow;clear hown hgrow)
    go_roundw
    case rel=>
     refine⟨2,Om,by go_num,?_,Mv.ext_of (Ext.al hE _) (Mv.of_grown (C:=fun k=>w.heap.size≤k) HG.out fun r e=> .inl (Qi HO.out r e)) (fun k h=>h)⟩;have h:=HN.out;rw [HV.out,show m- (2+1)+1=m- 2 by omega]at h;rw [←HT.out,List.map_append];exact h
    case measure=>first|(simp [intOf];done)|(simp [intOf];omega)
   ·have HV:=Xh (show bits .and .i64 (n/16777216) 255 % 256=n/256^3 % 256 by
     rw [QcV _ (QcW n h0 h1 16777216 Om).1 (QcW n h0 h1 16777216 Om).2,show(256:Int)^3=16777216 by decide];omega)
    go_wp2_with (at_builtin;go_must (refine wpList_append_own _ rfl _ _ 28 rfl w.heap.size 5 i0 (.int .u8 0) 1 1 Tryz.underlying28 hi hz0 hz1 hz2 rfl Dc _ _ _ rfl (HO.out.alloc _) ⟨wr.heap.size,0,none⟩ 1 1 [.int .u8 (bits .and .i64 (n/16777216) 255 % 256)] rfl rfl (Q1 _ _ _) (by intro u hu;simp at hu;subst hu;rfl) (by unfold maxLen;omega) Om (by have:=hE.size;simp;omega) ?_);intro v' w3 hown hgrow _;have HN:=Xh hown;have HG:=Xh hgrow;clear hown hgrow)
    go_roundw
    case rel=>
     refine⟨3,Om,by go_num,?_,Mv.ext_of (Ext.al hE _) (Mv.of_grown (C:=fun k=>w.heap.size≤k) HG.out fun r e=> .inl (Qi HO.out r e)) (fun k h=>h)⟩;have h:=HN.out;rw [HV.out,show m- (3+1)+1=m- 3 by omega]at h;rw [←HT.out,List.map_append];exact h
    case measure=>first|(simp [intOf];done)|(simp [intOf];omega)
theorem Qsa(s:Int)(bs:List Int)(p:Option Addr)(c:Nat)(w:World)(hb:SlB w p bs)(hl:bs.length≤1000):
  Calls Tryz.prog 157 #[.int .u8 s,.slice p bs.length c] w fun e w'=>e= .returned (.int .u8 (goL s bs))∧w=w':=by
 go_enter Tryz.func157,Tryz.ntmps157
 go_wp2
 go_loopw [0,5] (fun v a wr=> ∃k:Nat,k≤bs.length∧a= .int .i64 k∧v= .int .u8 (goL s (bs.take k))∧wr=w) (fun _ a _=>bs.length- (intOf a).toNat)
 case atStart=>exact⟨0,Nat.zero_le _,rfl,rfl,rfl⟩
 case round=>
  obtain⟨k,hk,rfl,rfl,rfl⟩:=hrel
  by_cases hlt:k<bs.length
  ·have hil:(k:Int)<bs.length:=by omega
   obtain⟨b,off,rfl,lb,cb⟩:=hb k hlt;obtain⟨x,hx⟩: ∃x,bs[k]=x:=⟨_,rfl⟩;have HS:=Xh (Qej bs s k hlt);rw [hx]at cb HS;obtain⟨z,hz⟩: ∃z,goL s (bs.take k)=z:=⟨_,rfl⟩;rw [hz]at HS⊢;have hB:0≤bits BinOp.xor IntKind.u8 z x∧bits BinOp.xor IntKind.u8 z x<256:=Qr0 z x;clear hx hz
   go_wp2_with (go_at_call 207;(refine(QmC (bits BinOp.xor IntKind.u8 z x) _ hB.1 hB.2).mono ?_);rintro e w1 ⟨rfl,rfl⟩)
   go_roundw
   case rel=>exact⟨k+1,Om,by go_num,by rw [HS.out];rfl,trivial⟩
   case measure=>simp [intOf];omega
  ·have hil: ¬((k:Int)<bs.length):=by omega
   have HK:=Xh (show bs.take k=bs by rw [List.take_of_length_le Om]);go_wp2;exact bodyPost_ret (v:= .int .u8 (goL s (bs.take k))) (by simp [results,Tryz.results157,go_sem]) rfl ⟨by rw [HK.out],rfl⟩
section
variable {P:Program} {ops:Array Oper} {md:Region.Mode} {C:Nat→Prop}
def xUponK(P:Program)(N:Value→World→Prop):Result Next→Prop
 | .ok (.value u) w'=>N u w'
 | .ok .skip w'=>N undef w'
 | .ok (.enter f args) w'=>Calls P f args w' (fun e w''=> ∃v,e= .returned v∧N v w'')
 |_=>False
theorem QdI{N N':Value→World→Prop}(h: ∀v w,N v w→N' v w): ∀r:Result Next,xUponK P N r→xUponK P N' r
 | .ok (.value u) w',hh=>h _ _ hh
 | .ok .skip w',hh=>h _ _ hh
 | .ok (.enter f args) w',hh=>Calls.mono hh fun e w'' ⟨v,h1,h2⟩=>⟨v,h1,h _ _ h2⟩
def Jj(P:Program)(ops:Array Oper)(i:Nat)(K:Act→World→Prop)(a:Act)(w:World):Prop:=
 match ops[i]? with
 |none=>K a w
 |some o=>if Region.wanted o (yielded ops a.tmps)=true then xUponK P (fun v w'=>K (a.put o.dst v) w') ((execOp a.eval o).run P w)else K (a.put o.dst undef) w
theorem Jv{a:Act}{K':Act→World→Prop}(h: ∀a w,K a w→K' a w)(hh:Jj P ops i K a w):Jj P ops i K' a w:=by
 unfold Jj at*
 split
 ·exact h _ _ (by simpa [*]using hh)
 ·rename_i o ho
  simp only [ho]at hh
  split
  ·rename_i hw;simp only [hw,if_true]at hh;exact QdI (fun v w' h1=>h _ _ h1) _ hh
  ·rename_i hw;simp only [hw]at hh;exact h _ _ hh
theorem Qcn{a:Act}{Q:Exit→Act→World→Prop}(hh:Jj P ops i K a w):wpOp P ops Q i K a w:=by
 unfold Jj at hh;unfold wpOp
 split
 ·rename_i ho;simp only [ho]at hh;exact hh
 ·rename_i o ho
  simp only [ho]at hh
  split
  ·rename_i hw
   simp only [hw,if_true]at hh
   left
   unfold Oper.wp;generalize (execOp a.eval o).run P w=r at*
   cases r with
   |ok n w'=>
    cases n<;>simp only [xUponK]at hh<;>simp only [Oper.upon]
    case value u=>exact hh
    case skip=>exact hh
    case enter f args=>exact hh.mono fun e w'' ⟨v,he,hw''⟩=>by subst he;exact hw''
   |halt x w'=>simp only [xUponK]at hh
  ·rename_i hw;simp only [hw]at hh;exact hh
def QN(C:Nat→Prop)(P:Program)(md:Region.Mode)(ops:Array Oper)(Q:Act→World→Prop):Nat→Array Bool→Act→World→Prop
 |0,listed,a,w=>Region.ready md ops listed= []∧Q a w
 |fuel+1,listed,a,w=>(Region.ready md ops listed= []→Q a w)∧
  ∀i∈Region.ready md ops listed,Jj P ops i (fun a' w'=>Mv C w w'∧QN C P md ops Q fuel (listed.setIfInBounds i true) a' w') a w
theorem QbZ{Q':Exit→Act→World→Prop}(hQ: ∀a w,Q a w→Q' .normal a w): ∀(fuel:Nat) (listed:Array Bool) (a:Act) (w:World),
  QN C P md ops Q fuel listed a w→wpAny P md ops Q' fuel listed a w
 |0,_,_,_,h=>⟨h.1,hQ _ _ h.2⟩
 |fuel+1,_,_,_,h=>⟨fun h0=>hQ _ _ (h.1 h0),fun i hi=>Qcn (Jv (fun a' w' h1=>QbZ hQ fuel _ a' w' h1.2) (h.2 i hi))⟩
def Yr(C:Nat→Prop)(P:Program)(ops:Array Oper)(w:World)(o:Oper)(v:Value)(a:Act):Prop:=
 (Region.wanted o (yielded ops a.tmps)=true∧ ∀w',Mv C w w'→(execOp a.eval o).run P w'= .ok (.value v) w')∨(Region.wanted o (yielded ops a.tmps)=false∧v=undef)∨
  (Region.wanted o (yielded ops a.tmps)=true∧ ∃f args,∀w',Mv C w w'→(execOp a.eval o).run P w'= .ok (.enter f args) w'∧Calls P f args w' fun e w''=>e= .returned v∧w''=w')
theorem Yr.later{v:Value}{a:Act}(h:Yr C P ops w o v a)(e:Mv C w w'):Yr C P ops w' o v a:=by
 rcases h with⟨h1,h2⟩|h|⟨h1,f,args,h2⟩
 ·exact .inl ⟨h1,fun w2 e2=>h2 w2 (e.trans e2)⟩
 ·exact .inr (.inl h)
 ·exact .inr (.inr ⟨h1,f,args,fun w2 e2=>h2 w2 (e.trans e2)⟩)
theorem Yr.xOpK{v:Value}{a:Act}(hi:ops[i]?=some o)(hy:Yr C P ops w o v a)(h:K (a.put o.dst v) w):Jj P ops i K a w:=by
 unfold Go.Proofs.YtpeonbaodnmlnaaGreat.Jj;simp only [hi];rcases hy with⟨hw,hv⟩|⟨hw,rfl⟩|⟨hw,f,args,hv⟩
 ·simp only [hw,if_true,hv w (Mv.refl _ _),xUponK];exact h
 ·simp only [hw,Bool.false_eq_true,if_false];exact h
 ·simp only [hw,if_true,(hv w (Mv.refl _ _)).1,xUponK];exact(hv w (Mv.refl _ _)).2.mono fun e w'' ⟨h1,h2⟩=>⟨v,h1,by rw [h2];exact h⟩
theorem Qel{j:Nat}{oj:Oper}{v:Value}(hj:ops[j]?=some oj)(hap:oi.apart ops oj=true)
  (hsi: ∀cs b,oi.op≠ .select cs b)(hsj: ∀cs b,oj.op≠ .select cs b){a:Act}
  (hy:Yr C P ops w oi v a)(h:Jj P ops j K (a.put oi.dst v) w):
  Jj P ops j (fun a' w'=>Yr C P ops w oi v a'∧K (a'.put oi.dst v) w') a w:=by
 obtain⟨h1,h2,h3⟩:=Oper.apart_spec hap;have keep: ∀u,Yr C P ops w oi v (a.put oj.dst u):=fun u=>by
  unfold Yr at*;rw [execOp_put oi hsi a oj.dst u h3,wanted_put oi a oj.dst u h3];exact hy
 unfold Jj at*;simp only [hj]at*;rw [wanted_put oj a oi.dst v h1]at h
 split
 ·rename_i hw
  simp only [hw,if_true]at h;rw [execOp_put oj hsj a oi.dst v h1]at h;exact QdI (fun u w' h4=>⟨keep u,by rw [←Act.put_comm a v u h2];exact h4⟩) _ h
 ·rename_i hw
  simp only [hw]at h;exact⟨keep _,by rw [←Act.put_comm a v undef h2];exact h⟩
theorem Qco{v:Value}(hi:ops[i]?=some oi)(hsel: ∀(j:Nat) (o:Oper) cs b,ops[j]?=some o→o.op≠ .select cs b):
  ∀(fuel:Nat) (listed:Array Bool) (a:Act) (w:World),
   (∀j oj,ops[j]?=some oj→j≠i→listed.getD j true=false→(∀e∈oj.after,Region.binds md e=true→e.on≠i)→oi.apart ops oj=true)→
   i∈Region.ready md ops listed→Yr C P ops w oi v a→
   QN C P md ops Q fuel (listed.setIfInBounds i true) (a.put oi.dst v) w→QN C P md ops Q (fuel+1) listed a w:=by
 intro fuel
 induction fuel with
 |zero=>
  intro listed a w _ hr hy H;refine⟨fun h=>(by rw [h]at hr;cases hr),fun j hj=> ?_⟩
  by_cases hji:j=i
  ·subst hji;exact hy.xOpK hi ⟨Mv.refl _ _,H⟩
  ·have:=ready_mono hj hji;rw [H.1]at this
   cases this
 |succ fuel ih=>
  intro listed a w hfree hr hy H;refine⟨fun h=>(by rw [h]at hr;cases hr),fun j hj=> ?_⟩
  by_cases hji:j=i
  ·subst hji;exact hy.xOpK hi ⟨Mv.refl _ _,H⟩
  ·have h1:=H.2 j (ready_mono hj hji);obtain⟨hjun,oj,hoj,hall⟩:=mem_ready.1 hj;have hnot: ∀e∈oj.after,Region.binds md e=true→e.on≠i:=fun e he hb heq=>by
    have h1:=hall e he hb;have h0:=(mem_ready.1 hr).1;rw [heq]at h1;rcases Nat.lt_or_ge i listed.size with h'|h'
    ·simp [h']at h0 h1;rw [h0]at h1;cases h1
    ·simp [Array.getElem?_eq_none h']at h1
   have h2:=Qel hoj (hfree j oj hoj hji hjun hnot) (fun cs b=>hsel i oi cs b hi) (fun cs b=>hsel j oj cs b hoj) hy h1;have hfree': ∀k ok,ops[k]?=some ok→k≠i→(listed.setIfInBounds j true).getD k true=false→
     (∀e∈ok.after,Region.binds md e=true→e.on≠i)→oi.apart ops ok=true:=fun k ok hk hki hun hno=>by
    refine hfree k ok hk hki ?_ hno
    by_cases hjk:j=k
    ·subst hjk;exact hjun
    ·rw [getD_set_ne true hjk]at hun;exact hun
   refine Jv (fun a' w' h3=>⟨h3.2.1,ih (listed.setIfInBounds j true) a' w' hfree' (ready_mono hr (Ne.symm hji)) (h3.1.later h3.2.1) ?_⟩) h2;have h4:=h3.2.2;rw [Array.setIfInBounds_comm _ _ hji];exact h4
theorem QtP{v:Value}{a:Act}(hi:ops[i]?=some oi)(hs:Region.noSelect ops=true)
  (hf:Region.free md ops listed i=true)(hr:(Region.ready md ops listed).contains i=true)(hw:Region.wanted oi (yielded ops a.tmps)=true)
  (hy: ∀w',Mv C w w'→(execOp a.eval oi).run P w'= .ok (.value v) w')
  (H:QN C P md ops Q fuel (listed.setIfInBounds i true) (a.put oi.dst v) w):QN C P md ops Q (fuel+1) listed a w:=
 Qco hi (Region.noSelect_spec hs) fuel listed a w (Region.free_spec hi hf) (by simpa using hr) (.inl ⟨hw,hy⟩) H
theorem doneK{a:Act}(hr:Region.ready md ops listed= [])(H:Q a w):QN C P md ops Q fuel listed a w:=by
 cases fuel with
 |zero=>exact⟨hr,H⟩
 |succ n=>exact⟨fun _=>H,fun i hi=>by rw [hr]at hi;cases hi⟩
theorem QO{id:Nat}{Q:Exit→Act→World→Prop}{a:Act}(C:Nat→Prop)(hm:P.follows .mixedOrders=true)
  (h:QN C P .any ops (fun a w=>Q .normal a w) ops.size (Array.replicate ops.size false) a w.drew):(Code.region id ops true).wp P Q a w:=
 wp_region_any hm (QbZ (fun _ _ h=>h) _ _ _ _ h)
def don(n:Nat)(l:List Nat):Array Bool:=((List.range n).map fun j=>l.contains j).toArray
theorem Qlk(n k:Nat)(l:List Nat):(don n l).setIfInBounds k true=don n (k::l):=by
 unfold don;refine Array.ext_getElem? fun i=> ?_;rw [Array.getElem?_setIfInBounds]
 by_cases hi:i<n
 ·by_cases h:k=i
  ·subst h;simp [hi]
  ·have h': ¬i=k:=fun e=>h e.symm;simp [h,h',hi]
 ·by_cases h:k=i
  ·subst h;simp [hi]
  ·simp [h,hi]
theorem QoE(n:Nat):Array.replicate n false=don n []:=by
 unfold don;refine Array.ext_getElem? fun i=> ?_
 by_cases hi:i<n<;>simp [hi,Array.getElem?_replicate]
def JW(ops:Array Oper)(n:Nat):List Nat→List Nat→Bool
 | [],_=>true
 |k::rest,d=>Region.free .any ops (don n d) k&&upX ops (don n d) k&&JW ops n rest (k::d)
theorem ZY{d rest:List Nat}{v:Value}{a:Act}(hs:Region.noSelect ops=true)(ht:JW ops N (k::rest) d=true)
  (hi:ops[k]?=some oi)(hw:Region.wanted oi (yielded ops a.tmps)=true)(hy: ∀w',Mv C w w'→(execOp a.eval oi).run P w'= .ok (.value v) w')
  (H:JW ops N rest (k::d)=true→QN C P .any ops Q fuel (don N (k::d)) (a.put oi.dst v) w):QN C P .any ops Q (fuel+1) (don N d) a w:=by
 unfold JW at ht;simp only [Bool.and_eq_true]at ht;obtain⟨⟨t1,t2⟩,t5⟩:=ht;refine QtP hi hs t1 (ZZ t2) hw hy ?_;rw [Qlk];exact H t5
def Qem(C:Nat→Prop)(P:Program)(ops:Array Oper)(Q:Act→World→Prop)(fuel N k:Nat)(d:List Nat)(a:Act)(w:World):Prop:=
 Jj P ops k (fun a' w'=>Mv C w w'∧QN C P .any ops Q fuel (don N (k::d)) a' w') a w
theorem JK{d:List Nat}{a:Act}(hr:Region.ready .any ops (don N d)= [k])(H:Qem C P ops Q fuel N k d a w):QN C P .any ops Q (fuel+1) (don N d) a w:=by
 refine⟨fun h0=> ?_,fun j hj=> ?_⟩
 ·rw [hr]at h0;cases h0
 ·rw [hr]at hj;obtain rfl:j=k:=by simpa using hj
  rw [Qlk];exact H
theorem QhS{d:List Nat}{v:Value}{a:Act}(hi:ops[k]?=some oi)(hw:Region.wanted oi (yielded ops a.tmps)=true)
  (he:(execOp a.eval oi).run P w= .ok (.value v) w1)(hE:Mv C w w1)(H:QN C P .any ops Q fuel (don N (k::d)) (a.put oi.dst v) w1):Qem C P ops Q fuel N k d a w:=by
 unfold Qem Jj;simp only [hi,hw,if_true,he];exact⟨hE,H⟩
theorem QfO{R:Value→World→Prop}{d:List Nat}{f:FuncId}{args:Array Value}{a:Act}(hi:ops[k]?=some oi)(hw:Region.wanted oi (yielded ops a.tmps)=true)
  (he:(execOp a.eval oi).run P w= .ok (.enter f args) w)(hc:Calls P f args w fun e w'=> ∃v,e= .returned v∧R v w'∧Ext w w')
  (H: ∀v w',Ext w w'→R v w'→QN C P .any ops Q fuel (don N (k::d)) (a.put oi.dst v) w'):Qem C P ops Q fuel N k d a w:=by
 unfold Qem Jj;simp only [hi,hw,if_true,he];exact hc.mono fun e w' ⟨v,h1,h2,h3⟩=>⟨v,h1,Mv.of_ext h3,H v w' h3 h2⟩
theorem Qll{P:Program}{ops E:Array Oper}{a:Act}{R:Array Oper→Prop}(h:ops=E)(hR:R E)(hf:ops.size=N)
  (H:R ops→QN C P .any ops Q N (don N []) a w):QN C P .any ops Q ops.size (Array.replicate ops.size false) a w:=by
 rw [hf,QoE];exact H (h▸hR)
end
def OB(w:World)(base:Nat)(v:Value)(bs:List Int):Prop:=w.ownsRow base 5 1 v bs.length (bs.map (Value.int .u8))
theorem OB.ext{v:Value}(h:OB w base v bs)(e:Ext w w'):OB w' base v bs:=Zl h e
theorem OB.le{b':Nat}{v:Value}(h:OB w base v bs)(e:b'≤base):OB w b' v bs:=QA h e
theorem OB.cells{v:Value}(h:OB w base v bs)(hn:0<bs.length): ∃g c,v= .slice (some ⟨g,0,none⟩) bs.length c∧base≤g∧g<w.heap.size∧ ∀j u,(bs.map (Value.int .u8))[j]?=some u→w.cell? ⟨g,j,none⟩=some u:=by
 rcases h.2 with⟨rfl,h0⟩|⟨g,cap,cur,rfl,hg,hgb,h1,h2,h3,h4⟩
 ·omega
 ·refine⟨g,cap,rfl,hg,(Array.getElem?_eq_some_iff.1 hgb).1,fun j u hu=> ?_⟩;rw [←h4]at hu;rw [Qa];unfold Qc;rw [hgb];obtain⟨hj,-⟩:=List.getElem?_eq_some_iff.1 hu;rw [List.length_take]at hj;rw [List.getElem?_take,if_pos Om,Array.getElem?_toList]at hu;exact hu
theorem OB.sl{v:Value}(h:OB w base v bs)(hn:0<bs.length): ∃p c,v= .slice p bs.length c∧SlB w p bs:=by
 obtain⟨g,c,rfl,h1,h2,h3⟩:=h.cells hn;refine⟨_,c,rfl,fun k hk=>⟨g,0,rfl,h2,?_⟩⟩;rw [Nat.zero_add];refine h3 k _ ?_;rw [List.getElem?_map,List.getElem?_eq_getElem hk];rfl
theorem QuV{v1 v2:Value}{b1 b2:List Int}{base2:Nat}(h1:OB w base v1 b1)(h2:OB w base2 v2 b2)(hp:0<b2.length)(hl:b1.length+b2.length≤1000)(hb:base≤w.heap.size)
  (ρ:Operand→Value)(dst:Option Tmp)(x y:Operand)(ty:TypeId)(pos:String)(after:Array Edge)(g:Option (Nat×Bool))(hx:ρ x=v1)(hy:ρ y=v2):
  ∃v' w',(execOp ρ ⟨dst,.call {callee:= .builtin .append,args:=#[x,y],argTypes:=#[28,28]},ty,pos,after,g⟩).run Tryz.prog w= .ok (.value v') w'∧OB w' base v' (b1++b2)∧w.grownBy w' v1.ownBlock:=by
 obtain⟨i0,hi,hz0,hz,hz2⟩:=info_parts YB;obtain⟨gg,c,rfl,h3,h4,h5⟩:=h2.cells hp
 obtain⟨v',w',hr,ho,hg,-,-⟩:=run_append_own_at (P:=Tryz.prog) w base 28 ty 5 i0 (.int .u8 0) 1 1 Tryz.underlying28 hi hz0 hz hz2 rfl Dc v1 b1.length _ h1 ⟨gg,0,none⟩ b2.length c (b2.map (Value.int .u8)) (by simp) (fun j u hu=>by
  have:=h5 j u hu
  by_cases hj:j=0<;>simp_all [Addr.add]) (by intro u hu;obtain⟨z,-,rfl⟩:=List.mem_map.1 hu;rfl) (by unfold maxLen;omega) Om hb
 refine⟨v',w',?_,?_,hg⟩
 ·simp [execOp,resolve,invoke,builtin,hx,hy,hr,Result.andThen]
 ·unfold OB;rw [List.length_append,List.map_append];exact ho
theorem Qcp{v:Value}(h:OB w base v bs)(hg:w.grownBy w' v.ownBlock):Mv (fun k=>base≤k) w w':=Mv.of_grown hg fun r e=> .inl (Qi h r e)
theorem OB.keep{b2:Nat}{v u:Value}{cs:List Int}(h:OB w base v bs)(hg:w.grownBy w' v.ownBlock)(h2:OB w b2 u cs)(hn: ∀g,v.ownBlock=some g→g<b2):OB w' b2 u cs:=
 Qeg h2 hg fun g hu hv=>by
  have a1:=Qi h2 g hu;have a2:=hn g hv;omega
theorem QuW{d:List Nat}{y:Operand}{a:Act}{base2:Nat}{v1 v2:Value}{b1 b2:List Int}
  (hi:ops[k]?=some ⟨dst,.call {callee:= .builtin .append,args:=#[x,y],argTypes:=#[28,28]},ty,pos,after,none⟩)(hx:a.eval x=v1)(hy:a.eval y=v2)(h1:OB w base v1 b1)(h2:OB w base2 v2 b2)(hp:0<b2.length)(hl:b1.length+b2.length≤1000)(hb:base≤w.heap.size)
  (H: ∀v' w',Mv (fun k=>base≤k) w w'→OB w' base v' (b1++b2)→QN (fun k=>base≤k) Tryz.prog .any ops Q fuel (don N (k::d)) (a.put dst v') w'):Qem (fun k=>base≤k) Tryz.prog ops Q fuel N k d a w:=by
 obtain⟨v',w',hr,ho,hg⟩:=QuV h1 h2 hp hl hb a.eval dst x y ty pos after none hx hy;exact QhS hi rfl hr (Qcp h1 hg) (H v' w' (Qcp h1 hg) ho)
def QtQ(ops:Array Oper):Prop:=Region.noSelect ops=true∧JW ops 10 [0,1,2,4,5,6] []=true∧Region.ready .any ops (don 10 [6,5,4,2,1,0])= [3]∧Region.ready .any ops (don 10 [3,6,5,4,2,1,0])= [7]∧Region.ready .any ops (don 10 [7,3,6,5,4,2,1,0])= [8]∧Region.ready .any ops (don 10 [8,7,3,6,5,4,2,1,0])= [9]∧Region.ready .any ops (don 10 [9,8,7,3,6,5,4,2,1,0])= []
theorem QoF:QtQ ((Tryz.f158.body.bind (Qh 1)).getD #[]):=⟨Kr,Kr,Kr,Kr,Kr,Kr,Kr⟩
def QtR(ops:Array Oper):Prop:=Region.noSelect ops=true∧JW ops 12 [0,1,2,3,6,7,8] []=true∧Region.ready .any ops (don 12 [8,7,6,3,2,1,0])= [4]∧Region.ready .any ops (don 12 [4,8,7,6,3,2,1,0])= [5]∧Region.ready .any ops (don 12 [5,4,8,7,6,3,2,1,0])= [9]∧Region.ready .any ops (don 12 [9,5,4,8,7,6,3,2,1,0])= [10]∧Region.ready .any ops (don 12 [10,9,5,4,8,7,6,3,2,1,0])= [11]∧Region.ready .any ops (don 12 [11,10,9,5,4,8,7,6,3,2,1,0])= []
theorem QoG:QtR ((Tryz.f158.body.bind (Qh 2)).getD #[]):=⟨Kr,Kr,Kr,Kr,Kr,Kr,Kr,Kr⟩
theorem Qlm{B:Nat}{n:Int}{kd:IntKind}(h0:w.cell? ⟨B,k,none⟩=some (.int kd n))(hl:Lt B w)(hC: ¬C B)(ρ:Operand→Value)(o:Oper)
  (hr: ∀w':World,w'.cell? ⟨B,k,none⟩=some (.int kd n)→(execOp ρ o).run Tryz.prog w'= .ok (.value (.int kd n)) w'): ∀w',Mv C w w'→(execOp ρ o).run Tryz.prog w'= .ok (.value (.int kd n)) w':=by
 intro w' hE;exact hr w' (by rw [Qa,Qf (hE.same B hl hC),←Qa];exact h0)
theorem QhT{B:Nat}{n:Int}(h0:w.cell? ⟨B,k,none⟩=some (.int .u32 n))(hx:ρ x= .pointer (some ⟨B,k,none⟩)):
  (execOp ρ ⟨dst,.load 61 x,ty,pos,after,g⟩).run Tryz.prog w= .ok (.value (.int .u32 n)) w:=by
 simp only [execOp,hx];go_simp
theorem QhU{B:Nat}{n:Int}(h0:w.cell? ⟨B,k,none⟩=some (.int .u16 n))(hx:ρ x= .pointer (some ⟨B,k,none⟩)):
  (execOp ρ ⟨dst,.load 62 x,ty,pos,after,g⟩).run Tryz.prog w= .ok (.value (.int .u16 n)) w:=by
 simp only [execOp,hx];go_simp
theorem QhV{n:Int}(hn:IntKind.i64.wrap n=n)(hx:ρ x= .int .u32 n)(w:World):
  (execOp ρ ⟨dst,.convert 61 3 x,ty,pos,after,g⟩).run Tryz.prog w= .ok (.value (.int .i64 n)) w:=by
 simp only [execOp,hx];go_simp
 try simp [hn]
theorem QhW{n:Int}(hn:IntKind.i64.wrap n=n)(hx:ρ x= .int .u16 n)(w:World):
  (execOp ρ ⟨dst,.convert 62 3 x,ty,pos,after,g⟩).run Tryz.prog w= .ok (.value (.int .i64 n)) w:=by
 simp only [execOp,hx];go_simp
 try simp [hn]
theorem QgD(n:Int)(m:Nat)(hm:m≤4)(h0:0≤n)(h1:n<4294967296)(w:World):
  Calls Tryz.prog 208 #[.int .i64 n,.int .i64 m] w fun e w'=> ∃v,e= .returned v∧OB w' w.heap.size v (byN n m)∧Ext w w':=
 (Qjt n m hm h0 h1 w).mono fun e w' ⟨v,h1,h2,h3⟩=>⟨v,h1,by unfold OB;rw [ZA];exact h2,h3⟩
theorem Qb0(t:Tu)(hr:TuR t)(w:World):
  Calls Tryz.prog 158 #[tu t.a t.b t.c t.d] w fun e w'=> ∃v,e= .returned v∧OB w' w.heap.size v (tb t)∧Ext w w':=by
 obtain⟨⟨a0,a1⟩,⟨b0,b1⟩,⟨c0,c1⟩,⟨d0,d1⟩⟩:=hr;have wa:IntKind.i64.wrap t.a=t.a:=by rw [IntKind.wrap_i64];omega
 have wb:IntKind.i64.wrap t.b=t.b:=by rw [IntKind.wrap_i64];omega
 have wc:IntKind.i64.wrap t.c=t.c:=by rw [IntKind.wrap_i64];omega
 have wd:IntKind.i64.wrap t.d=t.d:=by rw [IntKind.wrap_i64];omega
 go_enter Tryz.func158,Tryz.ntmps158
 go_upto_region 1 with(fail)
 obtain⟨W0,hW⟩: ∃W0,w.alloc (.cells #[.int .u32 t.a,.int .u32 t.b,.int .u16 t.c,.int .u16 t.d] 64)=W0:=⟨_,rfl⟩;have g0:Ext w W0:=by rw [←hW];exact Ea
 have x0:W0.cell? ⟨w.heap.size,0,none⟩=some (.int .u32 t.a):=by rw [←hW];simp [go_sem]
 have x1:W0.cell? ⟨w.heap.size,1,none⟩=some (.int .u32 t.b):=by rw [←hW];simp [go_sem]
 have x2:W0.cell? ⟨w.heap.size,2,none⟩=some (.int .u16 t.c):=by rw [←hW];simp [go_sem]
 have x3:W0.cell? ⟨w.heap.size,3,none⟩=some (.int .u16 t.d):=by rw [←hW];simp [go_sem]
 have hsz:W0.heap.size=w.heap.size+1:=by rw [←hW];simp
 have lB:Lt w.heap.size W0:=by unfold Lt;omega
 rw [hW];clear hW;refine QO (fun k=>W0.heap.size≤k) Kr ?_;obtain⟨W1,hW1⟩: ∃W1,W0.drew=W1:=⟨_,rfl⟩;have g1:Ext W0 W1:=by rw [←hW1];exact Ext.dr (Ext.rf _)
 rw [hW1];clear hW1;have hnC: ¬(W0.heap.size≤w.heap.size):=by omega
 have y0:=(g1.cell (p:=⟨w.heap.size,0,none⟩) lB).trans x0;have y1:=(g1.cell (p:=⟨w.heap.size,1,none⟩) lB).trans x1;have lB1:Lt w.heap.size W1:=Xl lB g1.size;refine Qll (N:=10) (R:=QtQ) (E:=((Tryz.f158.body.bind (Qh 1)).getD #[])) Kr QoF Kr fun hS=> ?_;have hT:=hS.2.1;refine ZY (N:=10) (k:=0) (v:= .pointer (some ⟨w.heap.size,0,none⟩)) hS.1 hT rfl Kr (fun _ _=>by kernel_rfl) fun hT=> ?_;refine ZY (N:=10) (k:=1) (v:= .int .u32 t.a) hS.1 hT rfl Kr (Qlm y0 lB1 hnC _ _ fun w' h=>QhT h Kr) fun hT=> ?_;refine ZY (N:=10) (k:=2) (v:= .int .i64 t.a) hS.1 hT rfl Kr (fun w' _=>QhV wa Kr w') fun hT=> ?_;refine ZY (N:=10) (k:=4) (v:= .pointer (some ⟨w.heap.size,1,none⟩)) hS.1 hT rfl Kr (fun _ _=>by kernel_rfl) fun hT=> ?_;refine ZY (N:=10) (k:=5) (v:= .int .u32 t.b) hS.1 hT rfl Kr (Qlm y1 lB1 hnC _ _ fun w' h=>QhT h Kr) fun hT=> ?_;refine ZY (N:=10) (k:=6) (v:= .int .i64 t.b) hS.1 hT rfl Kr (fun w' _=>QhV wb Kr w') fun hT=> ?_;refine JK hS.2.2.1 (QfO (R:=fun v w'=>OB w' W1.heap.size v (byN t.a 4)) rfl rfl Kr (QgD t.a 4 Om a0 a1 W1) fun v1 W2 g2 o1=> ?_);refine JK hS.2.2.2.1 (QfO (R:=fun v w'=>OB w' W2.heap.size v (byN t.b 4)) rfl rfl Kr (QgD t.b 4 Om b0 b1 W2) fun v2 W3 g3 o2=> ?_);have hb2:W0.heap.size≤W3.heap.size:=(g1.tr (g2.tr g3)).size;refine JK hS.2.2.2.2.1 (QuW rfl Kr Kr ((o1.ext g3).le g1.size) o2 (by rw [ZA];omega) (by rw [ZA,ZA];omega) hb2 fun v3 W4 m4 o3=> ?_);refine JK hS.2.2.2.2.2.1 (QhS (v:=v3) rfl rfl Kr (Mv.refl _ _) ?_);refine doneK hS.2.2.2.2.2.2 ?_;have M4:Mv (fun k=>W0.heap.size≤k) W0 W4:=(Mv.of_ext (g1.tr (g2.tr g3))).trans m4;have hO:=Xh o3;have z2:W4.cell? ⟨w.heap.size,2,none⟩=some (.int .u16 t.c):=by rw [Qa,Qf (M4.same _ lB hnC),←Qa];exact x2
 have z3:W4.cell? ⟨w.heap.size,3,none⟩=some (.int .u16 t.d):=by rw [Qa,Qf (M4.same _ lB hnC),←Qa];exact x3
 have lB4:Lt w.heap.size W4:=Xl lB M4.size;have hb4:=M4.size;clear hS hT m4 o1 o2 o3 y0 y1 x0 x1 x2 x3;go_simp
 go_upto_region 2 with(fail)
 refine QO (fun k=>W0.heap.size≤k) Kr ?_;obtain⟨W5,hW5⟩: ∃W5,W4.drew=W5:=⟨_,rfl⟩;have g5:Ext W4 W5:=by rw [←hW5];exact Ext.dr (Ext.rf _)
 rw [hW5];clear hW5;have y2:=(g5.cell (p:=⟨w.heap.size,2,none⟩) lB4).trans z2;have y3:=(g5.cell (p:=⟨w.heap.size,3,none⟩) lB4).trans z3;have lB5:Lt w.heap.size W5:=Xl lB4 g5.size;have hO5:=hO.out.ext g5;have hb5:=Xt hb4 g5.size;refine Qll (N:=12) (R:=QtR) (E:=((Tryz.f158.body.bind (Qh 2)).getD #[])) Kr QoG Kr fun hS=> ?_;have hT:=hS.2.1;refine ZY (N:=12) (k:=0) (v:=v3) hS.1 hT rfl Kr (fun _ _=>by kernel_rfl) fun hT=> ?_;refine ZY (N:=12) (k:=1) (v:= .pointer (some ⟨w.heap.size,2,none⟩)) hS.1 hT rfl Kr (fun _ _=>by kernel_rfl) fun hT=> ?_;refine ZY (N:=12) (k:=2) (v:= .int .u16 t.c) hS.1 hT rfl Kr (Qlm y2 lB5 hnC _ _ fun w' h=>QhU h Kr) fun hT=> ?_;refine ZY (N:=12) (k:=3) (v:= .int .i64 t.c) hS.1 hT rfl Kr (fun w' _=>QhW wc Kr w') fun hT=> ?_;refine ZY (N:=12) (k:=6) (v:= .pointer (some ⟨w.heap.size,3,none⟩)) hS.1 hT rfl Kr (fun _ _=>by kernel_rfl) fun hT=> ?_;refine ZY (N:=12) (k:=7) (v:= .int .u16 t.d) hS.1 hT rfl Kr (Qlm y3 lB5 hnC _ _ fun w' h=>QhU h Kr) fun hT=> ?_;refine ZY (N:=12) (k:=8) (v:= .int .i64 t.d) hS.1 hT rfl Kr (fun w' _=>QhW wd Kr w') fun hT=> ?_;refine JK hS.2.2.1 (QfO (R:=fun v w'=>OB w' W5.heap.size v (byN t.c 2)) rfl rfl Kr (QgD t.c 2 Om c0 Om W5) fun v4 W6 g6 o4=> ?_);refine JK hS.2.2.2.1 (QuW rfl Kr Kr (hO5.ext g6) o4 (by rw [ZA];omega) (by simp only [List.length_append,ZA];omega) (Xt hb5 g6.size) fun v5 W7 m7 o5=> ?_);refine JK hS.2.2.2.2.1 (QfO (R:=fun v w'=>OB w' W7.heap.size v (byN t.d 2)) rfl rfl Kr (QgD t.d 2 Om d0 Om W7) fun v6 W8 g8 o6=> ?_);refine JK hS.2.2.2.2.2.1 (QuW rfl Kr Kr (o5.ext g8) o6 (by rw [ZA];omega) (by simp only [List.length_append,ZA];omega) (Xt (Xt hb5 g6.size) (Xt m7.size g8.size)) fun v7 W9 m9 o7=> ?_);refine JK hS.2.2.2.2.2.2.1 (QhS (v:=v7) rfl rfl Kr (Mv.refl _ _) ?_);refine doneK hS.2.2.2.2.2.2.2 ?_;have M9:Mv (fun k=>W0.heap.size≤k) W4 W9:=(((Mv.of_ext (g5.tr g6)).trans m7).tr g8).trans m9;clear hS hT;go_simp;go_wp2;refine bodyPost_ret (v:=v7) (by simp [results,Tryz.results158,go_sem]) rfl ⟨v7,rfl,?_,?_⟩
 ·have h:=o7.le (b':=w.heap.size) Om;have e:byN t.a 4++byN t.b 4++byN t.c 2++byN t.d 2=tb t:=rfl;rw [e]at h;exact h
 ·exact Mv.ext_of g0 (M4.trans M9) (fun k h=>by omega)
end Go.Proofs.YtpeonbaodnmlnaaGreat
